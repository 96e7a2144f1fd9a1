/- Parts of the proof of ScriptsAnswered: SnJ, TreeB, TreeC, TreeD, TreeE, TreeF, TreeR, TreeS, TreeT, AskR, TxB, StM. No condition. -/
import Derived.Test.YtbgnlfgkgklkdaaGreatDoorZ10
set_option linter.unusedVariables false
set_option linter.unusedSimpArgs false
set_option maxHeartbeats 8000000
set_option maxRecDepth 100000
namespace Go.Proofs.YtbgnlfgkgklkdaaGreatDoor
open Go Go.RowKit Tryz
theorem qQl (t:ByteArray) (n a:Int) (ss xc yc:ByteArray) (xn yn:Int) (w:World):Calls prog 172 #[.agg #[.string t,.int .i64 n,.int .i64 a,.int .i64 4,.string ⟨#[]⟩,.int .i64 0,.string ⟨#[]⟩,.string ⟨#[]⟩,.string ⟨#[]⟩,.int .i64 0,.int .i64 0,.string ss,.string xc,.int .i64 xn,.string yc,.int .i64 yn,.int .i64 0]] w
  λx w'=>x=.returned (.agg #[.string t,.int .i64 n,.int .i64 a,.int .i64 4,.string ⟨#[]⟩,.int .i64 0,.string ⟨#[]⟩,.string ⟨#[]⟩,.string ⟨#[]⟩,.int .i64 0,.int .i64 0,.string ⟨#[]⟩,.string ⟨#[]⟩,.int .i64 0,.string ⟨#[]⟩,.int .i64 0,.int .i64 0])∧Below w.heap.size w w':=by
 (go_enter func172,ntmps172;go_wp2;(have hb:qC ((w.alloc (Obj.cells #[.string t,.int .i64 n,.int .i64 a,.int .i64 4,.string ⟨#[]⟩,.int .i64 0,.string ⟨#[]⟩,.string ⟨#[]⟩,.string ⟨#[]⟩,.int .i64 0,.int .i64 0,.string ⟨#[]⟩,.string ⟨#[]⟩,.int .i64 0,.string ⟨#[]⟩,.int .i64 0,.int .i64 0] 81)).alloc (.cells #[.string t,.int .i64 n,.int .i64 a,.int .i64 4,.string ⟨#[]⟩,.int .i64 0,.string ⟨#[]⟩,.string ⟨#[]⟩,.string ⟨#[]⟩,.int .i64 0,.int .i64 0,.string ⟨#[]⟩,.string ⟨#[]⟩,.int .i64 0,.string ⟨#[]⟩,.int .i64 0,.int .i64 0] 81)) (w.heap.size+1) #[.string t,.int .i64 n,.int .i64 a,.int .i64 4,.string ⟨#[]⟩,.int .i64 0,.string ⟨#[]⟩,.string ⟨#[]⟩,.string ⟨#[]⟩,.int .i64 0,.int .i64 0,.string ⟨#[]⟩,.string ⟨#[]⟩,.int .i64 0,.string ⟨#[]⟩,.int .i64 0,.int .i64 0] 81:=qC.newAt sI);(have hB:Below w.heap.size w ((w.alloc (Obj.cells #[.string t,.int .i64 n,.int .i64 a,.int .i64 4,.string ⟨#[]⟩,.int .i64 0,.string ⟨#[]⟩,.string ⟨#[]⟩,.string ⟨#[]⟩,.int .i64 0,.int .i64 0,.string ⟨#[]⟩,.string ⟨#[]⟩,.int .i64 0,.string ⟨#[]⟩,.int .i64 0,.int .i64 0] 81)).alloc (.cells #[.string t,.int .i64 n,.int .i64 a,.int .i64 4,.string ⟨#[]⟩,.int .i64 0,.string ⟨#[]⟩,.string ⟨#[]⟩,.string ⟨#[]⟩,.int .i64 0,.int .i64 0,.string ⟨#[]⟩,.string ⟨#[]⟩,.int .i64 0,.string ⟨#[]⟩,.int .i64 0,.int .i64 0] 81)):=qB (qB bR _ lR) _ sI);generalize ((w.alloc (Obj.cells #[.string t,.int .i64 n,.int .i64 a,.int .i64 4,.string ⟨#[]⟩,.int .i64 0,.string ⟨#[]⟩,.string ⟨#[]⟩,.string ⟨#[]⟩,.int .i64 0,.int .i64 0,.string ⟨#[]⟩,.string ⟨#[]⟩,.int .i64 0,.string ⟨#[]⟩,.int .i64 0,.int .i64 0] 81)).alloc (.cells #[.string t,.int .i64 n,.int .i64 a,.int .i64 4,.string ⟨#[]⟩,.int .i64 0,.string ⟨#[]⟩,.string ⟨#[]⟩,.string ⟨#[]⟩,.int .i64 0,.int .i64 0,.string ⟨#[]⟩,.string ⟨#[]⟩,.int .i64 0,.string ⟨#[]⟩,.int .i64 0,.int .i64 0] 81))=W at *;refine bodyPost_ret (v:=.agg #[.string t,.int .i64 n,.int .i64 a,.int .i64 4,.string ⟨#[]⟩,.int .i64 0,.string ⟨#[]⟩,.string ⟨#[]⟩,.string ⟨#[]⟩,.int .i64 0,.int .i64 0,.string ⟨#[]⟩,.string ⟨#[]⟩,.int .i64 0,.string ⟨#[]⟩,.int .i64 0,.int .i64 0]) ?_ rfl ⟨rfl,hB⟩;exact results_cell_row rfl _ _ (w.heap.size+1) _ _ (0,0) _ rfl hb underlying81 rfl kR)
theorem qQ5 (t:ByteArray) (n a:Int) (ck:ByteArray) (w:World):Calls prog 172 #[.agg #[.string t,.int .i64 n,.int .i64 a,.int .i64 5,.string ⟨#[]⟩,.int .i64 0,.string ck,.string ⟨#[]⟩,.string ⟨#[]⟩,.int .i64 0,.int .i64 0,.string ⟨#[]⟩,.string ⟨#[]⟩,.int .i64 0,.string ⟨#[]⟩,.int .i64 0,.int .i64 0]] w
  λx w'=>x=.returned (.agg #[.string t,.int .i64 n,.int .i64 a,.int .i64 5,.string ⟨#[]⟩,.int .i64 0,.string ⟨#[]⟩,.string ⟨#[]⟩,.string ⟨#[]⟩,.int .i64 0,.int .i64 0,.string ⟨#[]⟩,.string ⟨#[]⟩,.int .i64 0,.string ⟨#[]⟩,.int .i64 0,.int .i64 0])∧Below w.heap.size w w':=by
 (go_enter func172,ntmps172;go_wp2;(have hb:qC ((w.alloc (Obj.cells #[.string t,.int .i64 n,.int .i64 a,.int .i64 5,.string ⟨#[]⟩,.int .i64 0,.string ⟨#[]⟩,.string ⟨#[]⟩,.string ⟨#[]⟩,.int .i64 0,.int .i64 0,.string ⟨#[]⟩,.string ⟨#[]⟩,.int .i64 0,.string ⟨#[]⟩,.int .i64 0,.int .i64 0] 81)).alloc (.cells #[.string t,.int .i64 n,.int .i64 a,.int .i64 5,.string ⟨#[]⟩,.int .i64 0,.string ⟨#[]⟩,.string ⟨#[]⟩,.string ⟨#[]⟩,.int .i64 0,.int .i64 0,.string ⟨#[]⟩,.string ⟨#[]⟩,.int .i64 0,.string ⟨#[]⟩,.int .i64 0,.int .i64 0] 81)) (w.heap.size+1) #[.string t,.int .i64 n,.int .i64 a,.int .i64 5,.string ⟨#[]⟩,.int .i64 0,.string ⟨#[]⟩,.string ⟨#[]⟩,.string ⟨#[]⟩,.int .i64 0,.int .i64 0,.string ⟨#[]⟩,.string ⟨#[]⟩,.int .i64 0,.string ⟨#[]⟩,.int .i64 0,.int .i64 0] 81:=qC.newAt sI);(have hB:Below w.heap.size w ((w.alloc (Obj.cells #[.string t,.int .i64 n,.int .i64 a,.int .i64 5,.string ⟨#[]⟩,.int .i64 0,.string ⟨#[]⟩,.string ⟨#[]⟩,.string ⟨#[]⟩,.int .i64 0,.int .i64 0,.string ⟨#[]⟩,.string ⟨#[]⟩,.int .i64 0,.string ⟨#[]⟩,.int .i64 0,.int .i64 0] 81)).alloc (.cells #[.string t,.int .i64 n,.int .i64 a,.int .i64 5,.string ⟨#[]⟩,.int .i64 0,.string ⟨#[]⟩,.string ⟨#[]⟩,.string ⟨#[]⟩,.int .i64 0,.int .i64 0,.string ⟨#[]⟩,.string ⟨#[]⟩,.int .i64 0,.string ⟨#[]⟩,.int .i64 0,.int .i64 0] 81)):=qB (qB bR _ lR) _ sI);generalize ((w.alloc (Obj.cells #[.string t,.int .i64 n,.int .i64 a,.int .i64 5,.string ⟨#[]⟩,.int .i64 0,.string ⟨#[]⟩,.string ⟨#[]⟩,.string ⟨#[]⟩,.int .i64 0,.int .i64 0,.string ⟨#[]⟩,.string ⟨#[]⟩,.int .i64 0,.string ⟨#[]⟩,.int .i64 0,.int .i64 0] 81)).alloc (.cells #[.string t,.int .i64 n,.int .i64 a,.int .i64 5,.string ⟨#[]⟩,.int .i64 0,.string ⟨#[]⟩,.string ⟨#[]⟩,.string ⟨#[]⟩,.int .i64 0,.int .i64 0,.string ⟨#[]⟩,.string ⟨#[]⟩,.int .i64 0,.string ⟨#[]⟩,.int .i64 0,.int .i64 0] 81))=W at *;refine bodyPost_ret (v:=.agg #[.string t,.int .i64 n,.int .i64 a,.int .i64 5,.string ⟨#[]⟩,.int .i64 0,.string ⟨#[]⟩,.string ⟨#[]⟩,.string ⟨#[]⟩,.int .i64 0,.int .i64 0,.string ⟨#[]⟩,.string ⟨#[]⟩,.int .i64 0,.string ⟨#[]⟩,.int .i64 0,.int .i64 0]) ?_ rfl ⟨rfl,hB⟩;exact results_cell_row rfl _ _ (w.heap.size+1) _ _ (0,0) _ rfl hb underlying81 rfl kR)
theorem qMs (e:qD) (w:World) (h:qCq e=true) (hk:zC e.kind 1 5=false):Calls prog 172 #[.agg ↑e] w
  λx w'=>x=.returned (.agg #[.string e.team,.int .i64 e.no,.int .i64 e.at_,.int .i64 e.kind,.string ⟨#[]⟩,.int .i64 0,.string ⟨#[]⟩,.string ⟨#[]⟩,.string ⟨#[]⟩,.int .i64 0,.int .i64 0,.string ⟨#[]⟩,.string ⟨#[]⟩,.int .i64 0,.string ⟨#[]⟩,.int .i64 0,.int .i64 0])∧Below w.heap.size w w':=by
 obtain⟨t,n,a,k,⟨sk,sd⟩,⟨ck,ca,cb,cl,cf⟩,⟨ss,⟨xc,xn⟩,⟨yc,yn⟩,lo⟩⟩:=e
 rcases qHK h hk with⟨h1,h2,h3⟩|⟨h1,h2,h3⟩|⟨h1,h2,h3⟩|⟨h1,h2,h3,h4⟩|⟨h1,h2,h3,h4,-⟩
 ·simp only [qAH,qAi,qED,eS,qG.mk.injEq,qE.mk.injEq,qQ.mk.injEq,qJ.mk.injEq] at h1 h2 h3;obtain⟨rfl,rfl,rfl,rfl,rfl⟩:=h2;obtain⟨rfl,⟨rfl,rfl⟩,⟨rfl,rfl⟩,rfl⟩:=h3;subst h1;exact qRJ t n a sk sd w
 ·simp only [qAH,qAi,qED,eS,qG.mk.injEq,qE.mk.injEq,qQ.mk.injEq,qJ.mk.injEq] at h1 h2 h3;obtain⟨rfl,rfl⟩:=h2;obtain⟨rfl,⟨rfl,rfl⟩,⟨rfl,rfl⟩,rfl⟩:=h3;subst h1;exact qQq t n a ck ca cb cl cf w
 ·simp only [qAH,qAi,qED,eS,qG.mk.injEq,qE.mk.injEq,qQ.mk.injEq,qJ.mk.injEq] at h1 h2 h3;obtain⟨rfl,rfl⟩:=h2;obtain⟨rfl,rfl,rfl,rfl,rfl⟩:=h3;subst h1;exact qQM t n a ss xc yc xn yn lo w
 ·simp only [qAH,qAi,qED,eS,qG.mk.injEq,qE.mk.injEq,qQ.mk.injEq,qJ.mk.injEq] at h1 h2 h3 h4;obtain⟨rfl,rfl⟩:=h2;obtain⟨rfl,rfl,rfl,rfl,rfl⟩:=h3;subst h4;subst h1;exact qQl t n a ss xc yc xn yn w
 ·simp only [qAH,qAi,qED,eS,qG.mk.injEq,qE.mk.injEq,qQ.mk.injEq,qJ.mk.injEq,true_and] at h1 h2 h3 h4;obtain⟨rfl,rfl⟩:=h2;obtain⟨rfl,rfl,rfl,rfl⟩:=h4;obtain⟨rfl,⟨rfl,rfl⟩,⟨rfl,rfl⟩,rfl⟩:=h3;subst h1;exact qQ5 t n a ck w
section
open Go.Maps (Keyed)

end
section
open Go.Maps (Keyed)

end






theorem qJD (v:Value) (l:List ByteArray) (y:ByteArray) (w:World) (h:qI strCells 1 w l v):Calls prog 41 #[v,.string y] w
  λe w'=>e=.returned (.bool (l.any (λx=>qDO y x)))∧w=w':=by
 go_enter func41,ntmps41;go_wp2_with fail;refine(qLS v l y w h).mono ?_;rintro e w2 ⟨rfl,rfl⟩;have hn:=qDn (λx=>qDO y x) l
 cases hx:l.any (λx=>qDO y x)
 ·have h0:¬(0≤qAu (λx=>qDO y x) l):=by rw [hn,hx];simp
  have h1:decide (0≤qAu (λx=>qDO y x) l)=false:=by simpa using h0
  have HX:=mH hx;clear hn hx;go_wp2;go_ret;exact⟨qU HX.o.symm,rfl⟩
 ·have h0:0≤qAu (λx=>qDO y x) l:=by rw [hn,hx]
  have h1:decide (0≤qAu (λx=>qDO y x) l)=true:=by simpa using h0
  have HX:=mH hx;clear hn hx;go_wp2;go_ret;exact⟨qU HX.o.symm,rfl⟩
theorem sizeBuilder:(prog.info? 44).map (·.size)=some 2:=by kernel_rfl
theorem qRd (b:Nat) (w:World) (h0:w.cell? ⟨b,0,none⟩=some (.pointer (some ⟨b,0,none⟩))):Calls prog 35 #[.pointer (some ⟨b,0,none⟩)] w λe w'=>e=.returned (.tuple #[])∧w'=w:=by
 obtain⟨j,hj,_⟩:=Option.map_eq_some_iff.1 sizeBuilder;go_enter func35,ntmps35;go_wp2;rw [Lib.run_neq_ptr_same w _ underlying41 hj];go_wp2
 ((try simp only [Exit.inBlock,Exit.then]);refine bodyPost_end (results_none rfl _ _ _) rfl ?_)
 exact⟨rfl,rfl⟩
theorem qRP (b:Nat) (w:World) (h0:w.cell? ⟨b,0,none⟩=some (.pointer none)) (hsh:w.shape? b=some (44,2)) (hfz:w.frozen? ⟨b,0,none⟩=false):Calls prog 35 #[.pointer (some ⟨b,0,none⟩)] w λe w'=>e=.returned (.tuple #[])∧w'=w.setCell ⟨b,0,none⟩ (.pointer (some ⟨b,0,none⟩)):=by
 obtain⟨j,hj,hjs⟩:=Option.map_eq_some_iff.1 sizeBuilder;have hlies:liesAt prog prog.depth 44 (2 / prog.cellsOf 44) 0 44 1=true:=by kernel_rfl
 go_enter func35,ntmps35;go_wp2;rw [Lib.run_to_unsafe w ⟨b,0,none⟩ underlying41 underlying110 hj (by rw [hjs];decide) hsh (Nat.zero_lt_succ 1)];simp only [Result.andThen];rw [Oper.upon_value];go_wp2;rw [run_callFunc_extern func49 kR kR kR (e:=Extern.AbiNoEscape.same) kR];rw [Lib.run_noEscape];simp only [Result.andThen];rw [Oper.upon_value];go_wp2;rw [Lib.run_from_unsafe w ⟨b,0,none⟩ underlying110 underlying41 hj hsh hlies];simp only [Result.andThen];rw [Oper.upon_value];go_wp2
 ((try simp only [Exit.inBlock,Exit.then]);refine bodyPost_end (results_none rfl _ _ _) rfl ?_)
 exact⟨rfl,rfl⟩
def qSo (B b:Nat) (l:List UInt8) (w:World):Prop:=Lib.IsBuilder 44 5 B b (Lib.byteCells l) w
theorem infoByte:(prog.info? 5).map (λi=>(i.zero,i.size,i.bytes))=some (some (.int .u8 0),1,1):=by kernel_rfl
theorem qT5 (B b:Nat) (l:List UInt8) (w:World) (h:qSo B b l w) (hBw:B≤w.heap.size):Calls prog 20 #[.pointer (some ⟨b,0,none⟩)] w λe w'=>e=.returned (.string ⟨l.toArray⟩)∧Below B w w':=Tryz.Builder_String_any B b l w h hBw
section
variable {P : Program} (w : World)
theorem qOy (base:Nat) (t u ty e:TypeId) (i:TypeInfo) (ht:P.underlying t=some (.slice e)) (hu:P.underlying u=some .string) (hi:P.info? e=some i) (hz:i.zero=some (.int .u8 0)) (hsize:i.size=1) (hby:i.bytes=1)
  (v:Value) (n:Nat) (xs:List Value) (hown:w.ownsRow base e 1 v n xs) (s:ByteArray) (h63:n+s.size≤maxLen) (hbytes:n+s.size≤140737488355328) (hbase:base≤w.heap.size) :
  ∃v' w',(Builtin.append_ #[t,u] ty #[v,.string s]).run P w=.ok v' w'∧w'.ownsRow base e 1 v' (n+s.size) (xs++Lib.strCells s)∧w.grownBy w' v.ownBlock∧(v'.ownBlock=v.ownBlock∨∀r,v'.ownBlock=some r→w.heap.size≤r):=by
 obtain⟨v',w',h1,h2,h3,h4⟩:=Lib.run_append_own_string (P:=P) w base t u ty e i ht hu hi hz hsize hby v n xs hown s h63 hbytes hbase;refine⟨v',w',h1,h2,h3,?_⟩
 rcases hown.2 with⟨rfl,rfl⟩|⟨g,cap,cur,rfl,hbg,hg,hnc,hcm,hcs,htake⟩
 ·obtain⟨v2,w2,k1,k2,k3,k4⟩:=Lib.run_append_own_string (P:=P) w w.heap.size t u ty e i ht hu hi hz hsize hby (.slice none 0 0) 0 xs ⟨hown.1,.inl ⟨rfl,rfl⟩⟩ s h63 hbytes lR;have hq:=h1.symm.trans k1
  injection hq with q1 q2
  subst q1;exact .inr λr hr=>(k2.lt r hr).1
 ·have hsmall:n+s.size≤9223372036854775807:=by simp only [maxLen] at h63;omega
  have hxl:xs.length=n:=by simpa using hown.1
  by_cases hroom:n+s.size≤cap
  ·have hcs':cur.size=cap:=by simpa using hcs
   have hr:=Lib.run_append_room_string (P:=P) w t u ty e i ht hu hi hsize g n cap cur hg s hroom oM;have hq:=h1.symm.trans hr
   injection hq with q1 q2
   subst q1;exact .inl rfl
  ·have holds:∀j u,xs[j]? = some u→w.cell? ((⟨g,0,none⟩:Addr).add j)=some u:=hown.cells (g:=g) rfl;have hr:=Lib.run_append_grow_string (P:=P) w t u ty e i (.int .u8 0) ht hu hi hz ⟨g,0,none⟩ n cap xs (by rw [hsize];simpa using hxl) holds s oM oM (by rw [hby];exact growslice_fits oM oM);have hq:=h1.symm.trans hr
   injection hq with q1 q2
   subst q1;exact .inr λr hr=>by simp [Value.ownBlock] at hr;omega
theorem qLT {ops:Array Oper} {rest:List Oper} {o:Oper} {a:Act} {Q:Exit→Act→World→Prop} {w:World} (hgd:o.guard=none) (sl x:Operand) (t u:TypeId)
  (ho:o.op=.call { callee:=.builtin .append,args:=#[sl,x],argTypes:=#[t,u] }) (base:Nat) (e:TypeId) (i:TypeInfo) (ht:P.underlying t=some (.slice e)) (hu:P.underlying u=some .string) (hi:P.info? e=some i) (hz:i.zero=some (.int .u8 0)) (hsize:i.size=1) (hby:i.bytes=1)
  (v:Value) (n:Nat) (xs:List Value) (hs:a.eval sl=v) (hown:w.ownsRow base e 1 v n xs) (s:ByteArray) (hx:a.eval x=.string s) (h63:n+s.size≤maxLen) (hbytes:n+s.size≤140737488355328) (hbase:base≤w.heap.size)
  (h:∀v' w',w'.ownsRow base e 1 v' (n+s.size) (xs++Lib.strCells s)→w.grownBy w' v.ownBlock→(v'.ownBlock=v.ownBlock∨∀r,v'.ownBlock=some r→w.heap.size≤r)→wpList P ops Q rest (a.put o.dst v') w'):wpList P ops Q (o::rest) a w:=by
 refine wpList_plain hgd λK hK=>?_
 obtain⟨v',w',hr,h2,h3,h4⟩:=qOy (P:=P) w base t u o.type e i ht hu hi hz hsize hby v n xs hown s h63 hbytes hbase;unfold Oper.wp execOp;simp only [ho,resolve,invoke,builtin,Sem.run_bind,Sem.run_pure,Result.andThen_ok,List.map_toArray,List.map_cons,List.map_nil,hs,hx,hr];exact hK _ _ (h v' w' h2 h3 h4)
end
def qEC (b:Nat) (v:Value) (l:List UInt8) (w:World):Prop :=
 (qC w b #[.pointer none,v] 44∨qC w b #[.pointer (some ⟨b,0,none⟩),v] 44)∧w.ownsRow b 5 1 v l.length (Lib.byteCells l)∧v.ownBlock≠some b
theorem qEC.lt {b:Nat} {v:Value} {l:List UInt8} {w:World} (h:qEC b v l w):b<w.heap.size:=h.1.elim qC.lt qC.lt
theorem qEC.is {b:Nat} {v:Value} {l:List UInt8} {w:World} (h:qEC b v l w):qSo b b l w :=
 h.1.elim (λq=>.inl ⟨Nat.le_refl _,v,q,(by rw [Lib.byteCells_length];exact h.2.1),h.2.2⟩) (λq=>.inr ⟨Nat.le_refl _,v,q,(by rw [Lib.byteCells_length];exact h.2.1),h.2.2⟩)
theorem qEC.new (w:World):qEC w.heap.size (.slice none 0 0) [] (w.alloc (.cells #[.pointer none,.slice none 0 0] 44)) :=
 ⟨.inl (qC.new _ _ _),World.ownsRow_nil _ _ _ _,by simp [Value.ownBlock]⟩
theorem qEC.grown {b:Nat} {v:Value} {l:List UInt8} {w w':World} {row:Option Nat} (h:qEC b v l w) (hg:w.grownBy w' row) (h1:row≠some b) (h2:∀r,row=some r→v.ownBlock≠some r):qEC b v l w' :=
 ⟨h.1.imp (λq=>q.grown hg (λe=>h1 e.symm)) (λq=>q.grown hg (λe=>h1 e.symm)),by
  refine h.2.1.kept hg ?_
  cases hv:v.ownBlock with
  | none=>exact .inl rfl
  | some k=>exact .inr (λe=>h2 k e.symm hv),h.2.2⟩
theorem qKX (b:Nat) (v:Value) (l:List UInt8) (w:World) (h:qEC b v l w):Calls prog 35 #[.pointer (some ⟨b,0,none⟩)] w λe w'=>e=.returned (.tuple #[])∧qC w' b #[.pointer (some ⟨b,0,none⟩),v] 44∧w'.ownsRow b 5 1 v l.length (Lib.byteCells l)∧w.grownBy w' (some b):=by
 rcases h.1 with q|q
 ·have h0:Lib.BuilderAt 44 5 b b (.pointer none) (Lib.byteCells l) w:=⟨Nat.le_refl _,v,q,(by rw [Lib.byteCells_length];exact h.2.1),h.2.2⟩;refine(qRP b w h0.cell0 h0.shape h0.frozen0).mono ?_;rintro e w' ⟨rfl,rfl⟩;have hg:w.grownBy (w.setCell ⟨b,0,none⟩ (.pointer (some ⟨b,0,none⟩))) (some b):=qO b [_] 0 w;refine⟨rfl,q.set 0 _,?_,hg⟩;refine h.2.1.kept hg ?_
  cases hv:v.ownBlock with
  | none=>exact .inl rfl
  | some k=>exact .inr (λe=>h.2.2 (hv.trans e))
 ·have h0:Lib.BuilderAt 44 5 b b (.pointer (some ⟨b,0,none⟩)) (Lib.byteCells l) w:=⟨Nat.le_refl _,v,q,(by rw [Lib.byteCells_length];exact h.2.1),h.2.2⟩;refine(qRd b w h0.cell0).mono ?_;rintro e w' ⟨rfl,rfl⟩;exact⟨rfl,q,h.2.1,⟨rfl,rfl,rfl,Nat.le_refl _,λ_ _ _=>rfl⟩⟩
theorem qOX (b:Nat) (v:Value) (l:List UInt8) (s:ByteArray) (w:World) (h:qEC b v l w) (hlen:l.length+s.size≤140737488355328) :
  Calls prog 19 #[.pointer (some ⟨b,0,none⟩),.string s] w λe w'=>e=.returned (.tuple #[.int .i64 s.size,.nilIface])∧∃v',qEC b v' (l++s.data.toList) w'∧Below b w w'∧(∀k,k<w.heap.size→k≠b→v.ownBlock≠some k→w'.heap[k]? = w.heap[k]?)∧(v'.ownBlock=v.ownBlock∨∀r,v'.ownBlock=some r→w.heap.size≤r):=by
 obtain⟨i0,hi,hz0,hz1,hz2⟩:=info_parts infoByte;have hbl:=Lib.byteCells_length l;have HH:=mH h;go_enter func19,ntmps19;go_wp2_with (refine(qKX b v l _ h).mono ?_);rintro e w1 ⟨rfl,hbk,hown,hg1⟩;have c0:=hbk.cell 0 (.pointer (some ⟨b,0,none⟩)) rfl;have c1:=hbk.cell 1 v rfl;have hz:=hg1.size;have hb0:=h.lt;clear h;go_wp2_with (at_builtin;refine qLT rfl _ _ 42 9 rfl b 5 i0 underlying42 underlying9 hi hz0 hz1 hz2 _ _ _ rfl hown s rfl ?c3 ?c4 ?c5 ?_)
 case c3=>unfold maxLen;omega
 case c4=>omega
 case c5=>omega
 intro v' w2 hown' hgrow hob;have hb2:=hbk.grown hgrow (λe=>HH.o.2.2 e.symm);have d0:=hb2.cell 0 (.pointer (some ⟨b,0,none⟩)) rfl;have d1:=hb2.cell 1 v rfl;have f1:=hb2.free 1;have hlb:=hb2.lt;obtain⟨ao,n',cap,rfl⟩:∃ao n' cap,v'=.slice ao n' cap:=by
  rcases hown'.2 with⟨hv,_⟩|⟨g,cap,cur,hv,_⟩
  ·exact⟨_,_,_,hv⟩
  ·exact⟨_,_,_,hv⟩
 have hnb:(Value.slice ao n' cap).ownBlock≠some b:=by
  rcases hob with e|e
  ·rw [e];exact HH.o.2.2
  ·intro q;have:=e b q;omega
 have HF:=mH (aI hb2 (aI hown' (aI hgrow (aI hob (aI hg1 hnb)))));clear hb2 hown' hgrow hob hg1 hnb hbk hown c0 c1;go_wp2;go_ret2;have e5:l.length+s.size=(l++s.data.toList).length:=by rw [List.length_append,←Lib.size_eq]
 have e6:Lib.byteCells l++Lib.strCells s=Lib.byteCells (l++s.data.toList):=by rw [Lib.byteCells_append];rfl
 have ho:=HF.o.2.1;rw [e5,e6] at ho;have hs:=qO b [Value.slice ao n' cap] 1 w2;have hgr:=HF.o.2.2.1;have hob:=HF.o.2.2.2.1;have hg1:=HF.o.2.2.2.2.1;refine⟨rfl,.slice ao n' cap,⟨.inr (HF.o.1.set 1 _),?_,HF.o.2.2.2.2.2⟩,⟨?_,?_,?_,?_,?_⟩,?_,?_⟩
 ·refine ho.kept hs ?_
  cases hv:(Value.slice ao n' cap).ownBlock with
  | none=>exact .inl rfl
  | some k=>exact .inr (λe=>HF.o.2.2.2.2.2 (hv.trans e))
 ·exact hs.os.trans (hgr.os.trans hg1.os)
 ·exact hs.tape.trans (hgr.tape.trans hg1.tape)
 ·exact hs.output.trans (hgr.output.trans hg1.output)
 ·exact Nat.le_trans hg1.size (Nat.le_trans hgr.size hs.size)
 ·intro k hk;have hkv:v.ownBlock≠some k:=λe=>by have:=(HH.o.2.1.lt k e).1;omega
  exact(hs.block k (by have:=hgr.size;omega) (λe=>by have:=Option.some.inj e;omega)).trans ((hgr.block k oM (λe=>hkv e.symm)).trans (hg1.block k oM (λe=>by have:=Option.some.inj e;omega)))
 ·intro k hk hkb hkv;exact(hs.block k (by have:=hgr.size;omega) (λe=>hkb (Option.some.inj e))).trans ((hgr.block k oM (λe=>hkv e.symm)).trans (hg1.block k hk (λe=>hkb (Option.some.inj e))))
 ·rcases hob with e|e
  ·exact .inl e
  ·exact .inr λr hr=>Nat.le_trans hz (e r hr)
end Go.Proofs.YtbgnlfgkgklkdaaGreatDoor
