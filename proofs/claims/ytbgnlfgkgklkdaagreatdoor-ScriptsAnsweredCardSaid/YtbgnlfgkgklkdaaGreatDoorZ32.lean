/- Parts of the proof of ScriptsAnswered: SpG, SpH, SsI, SsJ. No condition. -/
import Derived.Test.YtbgnlfgkgklkdaaGreatDoorZ30
import Derived.Test.YtbgnlfgkgklkdaaGreatDoorZ31
set_option linter.unusedVariables false
set_option linter.unusedSimpArgs false
set_option maxHeartbeats 8000000
set_option maxRecDepth 100000
namespace Go.Proofs.YtbgnlfgkgklkdaaGreatDoor
open Go Go.RowKit Tryz
theorem qQB (v:Value) (l:List qD) (x:qD) (i:Nat) (w:World) (hA:qI qD.cells 17 w l v) (hi:i<l.length) (hx:l[i]=x) (h:∀j (hj:j<i),qP x (l[j]'oM)≠0):Calls prog 91 #[v,.agg ↑x] w λe w'=>e=.returned (.int .i64 i)∧Below w.heap.size w w':=by
 obtain⟨a,cap,rfl,hcap,hmax,hc⟩:=hA;unfold maxLen at hmax;have HP:=mH (aI h (aI hc hx));clear h hc hx;have hbx:qV (w.alloc (.cells ↑x 81)) w.heap.size 0 x:=qV.box (qC.new w _ _);have hB0:Below w.heap.size w (w.alloc (.cells ↑x 81)):=by exact qS
 have H0:=mH (aI hbx hB0);clear hbx hB0;go_enter func91,ntmps91;go_wp2;generalize w.alloc (.cells ↑x 81)=W0 at *;go_loopw [8] (λiv wr=>∃j:Nat,j≤i∧iv=.int .i64 j∧Below w.heap.size w wr∧qV wr w.heap.size 0 x∧w.heap.size≤wr.heap.size) (λiv _=>l.length - (intOf iv).toNat)
 case atStart=>exact⟨0,by omega,rfl,H0.o.2,H0.o.1,H0.o.2.size⟩
 case round =>
  obtain⟨j,hj,rfl,hB,hbx,hsz⟩:=hrel;have hlt:j<l.length:=by omega
  obtain⟨b,off,rfl,hb,hcj⟩:=HP.o.2.1 j hlt;have e1:=(qC0 hcj).below hB hb;have hj':(j:Int)<l.length:=by omega
  have HB:=mH (aI hB.drew (aI hbx hsz));have hS:qV wr.drew w.heap.size 0 x∧qV wr.drew b (off+j*17) l[j]:=⟨hbx,e1⟩
  rcases Nat.lt_or_ge j i with hji|hji
  ·have hap:qP x l[j]≠0:=HP.o.1 j hji;clear hB hbx hsz e1 hcj;generalize l[j]=y at *
   rcases qKx hap with ht|⟨ht,hn⟩
   ·have hte:(x.team.toList==y.team.toList)=false:=qAZ ht;clear ht hap;go_wp2_with fail;refine qA.start (λW=>qV W w.heap.size 0 x∧qV W b (off+j*17) y) [] kR ?_;generalize wr.drew=W1 at *;refine qA.take (i:=0) (v:=.agg ↑x) rfl kR kR kR kR (λ_ _ _ h=>h) hS (yieldsIf_load_mid (by first|rfl|(go_simp;done)) 81 _ rfl (w.heap.size) (0) rF ↑x _ (λ_ h=>h.1) underlying81 rfl kR) ?_;try simp only [Act.put,zL,zN,zH,zM,zK,zI]
    refine qA.q 1 ?_;refine qA.q 2 ?_;refine qA.q 3 ?_;refine qA.take (i:=4) (v:=.agg ↑y) rfl kR kR kR kR (λ_ _ _ h=>h) hS (yieldsIf_load_mid (by first|rfl|(go_simp;done)) 81 _ rfl (b) (off+j*17) rF ↑y _ (λ_ h=>h.2) underlying81 rfl kR) ?_;try simp only [Act.put,zL,zN,zH,zM,zK,zI]
    refine qA.q 5 ?_;refine qA.done kR ?_;go_wp2;exact⟨⟨j+1,by omega,by go_num,HB.o.1,hS.1,HB.o.1.size⟩,by simp [intOf];omega⟩
   ·have hte:(x.team.toList==y.team.toList)=true:=by rw [ht];simp
    have hne:(x.no==y.no)=false:=by simp [hn]
    clear ht hap;go_wp2_with fail;refine qA.start (λW=>qV W w.heap.size 0 x∧qV W b (off+j*17) y) [] kR ?_;generalize wr.drew=W1 at *;refine qA.take (i:=0) (v:=.agg ↑x) rfl kR kR kR kR (λ_ _ _ h=>h) hS (yieldsIf_load_mid (by first|rfl|(go_simp;done)) 81 _ rfl (w.heap.size) (0) rF ↑x _ (λ_ h=>h.1) underlying81 rfl kR) ?_;try simp only [Act.put,zL,zN,zH,zM,zK,zI]
    refine qA.q 1 ?_;refine qA.q 2 ?_;refine qA.q 3 ?_;refine qA.take (i:=4) (v:=.agg ↑y) rfl kR kR kR kR (λ_ _ _ h=>h) hS (yieldsIf_load_mid (by first|rfl|(go_simp;done)) 81 _ rfl (b) (off+j*17) rF ↑y _ (λ_ h=>h.2) underlying81 rfl kR) ?_;try simp only [Act.put,zL,zN,zH,zM,zK,zI]
    refine qA.q 5 ?_;refine qA.done kR ?_;go_wp2;exact⟨⟨j+1,by omega,by go_num,HB.o.1,hS.1,HB.o.1.size⟩,by simp [intOf];omega⟩
  ·obtain rfl:j=i:=by omega
   have hy:l[j]=x:=HP.o.2.2;clear hB hbx hsz e1 hcj;generalize hyy:l[j]=y at *;subst hy;clear hyy;go_wp2_with fail;refine qA.start (λW=>qV W w.heap.size 0 y∧qV W b (off+j*17) y) [] kR ?_;generalize wr.drew=W1 at *;refine qA.take (i:=0) (v:=.agg ↑y) rfl kR kR kR kR (λ_ _ _ h=>h) hS (yieldsIf_load_mid (by first|rfl|(go_simp;done)) 81 _ rfl (w.heap.size) (0) rF ↑y _ (λ_ h=>h.1) underlying81 rfl kR) ?_;try simp only [Act.put,zL,zN,zH,zM,zK,zI]
   refine qA.q 1 ?_;refine qA.q 2 ?_;refine qA.q 3 ?_;refine qA.take (i:=4) (v:=.agg ↑y) rfl kR kR kR kR (λ_ _ _ h=>h) hS (yieldsIf_load_mid (by first|rfl|(go_simp;done)) 81 _ rfl (b) (off+j*17) rF ↑y _ (λ_ h=>h.2) underlying81 rfl kR) ?_;try simp only [Act.put,zL,zN,zH,zM,zK,zI]
   refine qA.q 5 ?_;refine qA.done kR ?_;go_wp2;go_ret;exact⟨rfl,HB.o.1⟩
theorem qE8 {x y:qD} {E:List qD}:y∈jV qP x E↔y∈E∨y=x:=by
 rw [show(y∈jV qP x E)=(y∈qG4 (λy=>decide (qP y x<0)) x E) from rfl,(qBW _ _ _).mem_iff];simp
theorem qKq {E:List qD} {at_:Int} {team:ByteArray} {e:qD} (hD:qBR E at_) (hk:zC e.kind 1 5=false) (hf:qCq e=true) (hl:E.length≤1000):qEg (qA7 E at_ team e):=by
 have h1:=(qJc team E).1;have h2:=qMH team E.length oM E hD.no;exact⟨qAU.2 ⟨by show 1≤mxN E team+1;omega,by show mxN E team+1≤2000;omega⟩,hD.at1,hk,hf⟩
def enO (o:Option Int) (E L:List qD):Int × List qD:=match o with|some v=>(v,E)|none=>(0,L)
theorem qKl (E:List qD) (at_:Int) (team:ByteArray) (e:qD):qAC E at_ team e=if qBm (qA7 E at_ team e)≠0 then (qBm (qA7 E at_ team e),E) else enO (qBl (qBw (jV qP (qA7 E at_ team e) E)) ((jV qP (qA7 E at_ team e) E).idxOf (qA7 E at_ team e))) E (jV qP (qA7 E at_ team e) E):=by
 unfold qAC enO;rfl
theorem qIL (w:World):(zeroValue 56).run prog w=.ok (.int .i64 0) w:=by kernel_rfl
theorem qD2 (R:List (Nat × Int)) (i:Nat):qC9 R (i:Int)=(qBl R i).map (Value.int .i64):=by unfold qC9;simp
theorem qTE {E:List qD} {x:qD} (h:qBg (jV qP x E)):∃hi:(jV qP x E).idxOf x<(jV qP x E).length,(jV qP x E)[(jV qP x E).idxOf x]=x∧∀j (hj:j<(jV qP x E).idxOf x),qP x ((jV qP x E)[j]'oM)≠0:=by
 have hm:x∈jV qP x E:=qE8.2 (.inr rfl);have hi:=List.idxOf_lt_length_of_mem hm;have hg:(jV qP x E)[(jV qP x E).idxOf x]=x:=List.getElem_idxOf hi;refine⟨hi,hg,λj hj h0=>?_⟩;have h1:=List.pairwise_iff_getElem.1 h.asc j _ oM hi hj;rw [hg] at h1;have:=qB6.zero h0;omega
theorem qS4 (E:List qD) (at_:Int) (team:ByteArray) (e:qD) (cb:Nat) (vE:Value) (w:World) (hb:qC w cb #[vE,.int .i64 at_] 90) (hA:qI qD.cells 17 w E vE) (hD:qBR E at_) (hk:zC e.kind 1 5=false) (hf:qCq e=true) (hlen:E.length<18) (hW:∀y∈E,qB2 y) (hWe:qB2 e) :
  Calls prog 58 #[.pointer (some ⟨cb,0,none⟩),.string team,.agg ↑e] w
  λx w'=>∃v',x=.returned (.int .i64 (qAC E at_ team e).1)∧qC w' cb #[v',.int .i64 at_] 90∧qI qD.cells 17 w' (qAC E at_ team e).2 v'∧w.grownBy w' (some cb)∧(v'=vE∨∀b off n c,v'=.slice (some ⟨b,off,none⟩) n c→w.heap.size≤b):=by
 have HCB:Hx (cb<w.heap.size):=mH hb.lt;obtain⟨a,cap,rfl,hcap,hmax,hc⟩:=id hA;unfold maxLen at hmax;have HP:=mH (aI hA (aI hD (aI hc (aI hW (aI hWe (qKq hD hk hf oM:qEg (qA7 E at_ team e)))))));have hcb:=hb.lt;have hcbn:cb≠w.heap.size:=by omega
 have HB:=mH hb;have t1:=hb.cell 1 _ rfl;clear hA hD hc hW hWe hk hf hb;go_enter func58,ntmps58;go_wp2_with fail;have hS:(w.alloc (.cells ↑e 81)).drew.cell? ⟨cb,1,none⟩=some (.int .i64 at_):=(HB.o.alloc _).drew.cell 1 _ rfl;refine qA.start (λW=>W.cell? ⟨cb,1,none⟩=some (.int .i64 at_)) [] kR ?_;clear t1;refine qA.q 0 ?_;refine qA.q 1 ?_;refine qA.q 2 ?_;refine qA.q 3 ?_;refine qA.t 4 hS ?_;refine qA.q 5 ?_;refine qA.nx 6 λK hK=>?_;go_simp
 refine hK.out _ _ (λ_ _=>(HB.o.alloc _).drew.cell 1 _ rfl) ?_;clear hK K hS;try simp only [Act.put,zL,zN,zH,zM,zK,zI]
 refine qA.q 7 ?_;refine qA.nx 8 λK hK=>?_;go_simp
 refine hK.out _ _ (λ_ _=>(HB.o.alloc _).drew.cell 1 _ rfl) ?_;clear hK K;try simp only [Act.put,zL,zN,zH,zM,zK,zI]
 refine qA.q 9 ?_;refine qA.nx 10 λK hK=>?_;go_simp
 refine hK.out _ _ (λ_ _=>(HB.o.alloc _).drew.cell 1 _ rfl) ?_;clear hK K;try simp only [Act.put,zL,zN,zH,zM,zK,zI]
 refine qA.done kR ?_;have hx0:qC (w.alloc (.cells #[.string team,.int .i64 (1),.int .i64 at_,.int .i64 e.kind,.string e.site.key,.int .i64 e.site.kind,.string e.cab.key,.string e.cab.a,.string e.cab.b,.int .i64 e.cab.long,.int .i64 e.cab.fibs,.string e.spc.site,.string e.spc.x.cable,.int .i64 e.spc.x.no,.string e.spc.y.cable,.int .i64 e.spc.y.no,.int .i64 e.spc.loss] 81)).drew w.heap.size #[.string team,.int .i64 (1),.int .i64 at_,.int .i64 e.kind,.string e.site.key,.int .i64 e.site.kind,.string e.cab.key,.string e.cab.a,.string e.cab.b,.int .i64 e.cab.long,.int .i64 e.cab.fibs,.string e.spc.site,.string e.spc.x.cable,.int .i64 e.spc.x.no,.string e.spc.y.cable,.int .i64 e.spc.y.no,.int .i64 e.spc.loss] 81:=(qC.new w _ _).drew;have hb0:qC (w.alloc (.cells #[.string team,.int .i64 (1),.int .i64 at_,.int .i64 e.kind,.string e.site.key,.int .i64 e.site.kind,.string e.cab.key,.string e.cab.a,.string e.cab.b,.int .i64 e.cab.long,.int .i64 e.cab.fibs,.string e.spc.site,.string e.spc.x.cable,.int .i64 e.spc.x.no,.string e.spc.y.cable,.int .i64 e.spc.y.no,.int .i64 e.spc.loss] 81)).drew cb #[.slice a E.length cap,.int .i64 at_] 90:=(HB.o.alloc _).drew;have hB0:Below w.heap.size w (w.alloc (.cells #[.string team,.int .i64 (1),.int .i64 at_,.int .i64 e.kind,.string e.site.key,.int .i64 e.site.kind,.string e.cab.key,.string e.cab.a,.string e.cab.b,.int .i64 e.cab.long,.int .i64 e.cab.fibs,.string e.spc.site,.string e.spc.x.cable,.int .i64 e.spc.x.no,.string e.spc.y.cable,.int .i64 e.spc.y.no,.int .i64 e.spc.loss] 81)).drew:=by exact qS
 have hz0:w.heap.size<(w.alloc (.cells #[.string team,.int .i64 (1),.int .i64 at_,.int .i64 e.kind,.string e.site.key,.int .i64 e.site.kind,.string e.cab.key,.string e.cab.a,.string e.cab.b,.int .i64 e.cab.long,.int .i64 e.cab.fibs,.string e.spc.site,.string e.spc.x.cable,.int .i64 e.spc.x.no,.string e.spc.y.cable,.int .i64 e.spc.y.no,.int .i64 e.spc.loss] 81)).drew.heap.size:=by simp
 have H0:=mH (aI hx0 (aI hb0 (aI hB0 hz0)));have t0:=hb0.cell 0 _ rfl;clear hx0 hb0 hB0 hz0;generalize (w.alloc (.cells #[.string team,.int .i64 (1),.int .i64 at_,.int .i64 e.kind,.string e.site.key,.int .i64 e.site.kind,.string e.cab.key,.string e.cab.a,.string e.cab.b,.int .i64 e.cab.long,.int .i64 e.cab.fibs,.string e.spc.site,.string e.spc.x.cable,.int .i64 e.spc.x.no,.string e.spc.y.cable,.int .i64 e.spc.y.no,.int .i64 e.spc.loss] 81)).drew=W0 at *;go_wp2;go_loopw [27] (λiv wr=>∃(k:Nat) (n:Int),k≤E.length∧iv=.int .i64 k∧n=mxN (E.take k) team+1∧qC wr w.heap.size #[.string team,.int .i64 (n),.int .i64 at_,.int .i64 e.kind,.string e.site.key,.int .i64 e.site.kind,.string e.cab.key,.string e.cab.a,.string e.cab.b,.int .i64 e.cab.long,.int .i64 e.cab.fibs,.string e.spc.site,.string e.spc.x.cable,.int .i64 e.spc.x.no,.string e.spc.y.cable,.int .i64 e.spc.y.no,.int .i64 e.spc.loss] 81∧qC wr cb #[.slice a E.length cap,.int .i64 at_] 90∧Below w.heap.size w wr∧w.heap.size<wr.heap.size) (λiv _=>E.length - (intOf iv).toNat)
 case atStart=>exact⟨0,1,by omega,rfl,by simp [mxN],H0.o.1,H0.o.2.1,H0.o.2.2.1,H0.o.2.2.2⟩
 case round =>
  clear H0 t0;obtain⟨k,n,hk,rfl,hn,hx,hb,hB,hz⟩:=hrel
  by_cases hlt:k<E.length
  ·obtain⟨b,off,rfl,hbb,hcc⟩:=HP.o.2.2.1 k hlt;have e1:=mH ((qC0 hcc).below hB hbb);have hmt:=qL8 (team:=team) hlt;have hno:=HP.o.2.1.no E[k] (List.getElem_mem hlt);have hn1:0≤E[k].no:=by
    have:=qAU.1 (qDI (HP.o.2.1.ent.ok E[k] (List.getElem_mem hlt))).1.no;omega
   have x1:=hx.cell 1 _ rfl;have f1:=hx.free 1;have HX:=mH (aI hx (aI hb (aI hB hn)));have hk':(k:Int)<E.length:=by omega
   generalize E[k]=y at *;clear hcc hx hb hB hn
   by_cases ht:y.team=team
   ·have hte:(y.team.toList==team.toList)=true:=by rw [ht];simp
    obtain⟨q,hq⟩:=eX (y.no+1);have hqw:IntKind.i64.wrap (y.no+1)=q:=by rw [IntWalk.i64_in _ oM];exact hq
    obtain⟨m,hm⟩:=eX (max n q);have HM:Hx (m=mxN (E.take (k+1)) team+1):=by
     rw [hmt,if_pos ht];have:=HX.o.2.2.2;refine mH ?_;rw [←hm,←hq];omega
    clear hmt ht hq hno hn1;go_wp2_with (first|(refine wpList_load_mid rfl 81 _ rfl (b) (off+k*17) rF ↑y _ (e1.o) underlying81 rfl kR ?_)|(refine jR (w0:=wr) rfl 81 _ _ rfl _ ↑y rF rF kR rfl (zS y) ?_));refine⟨⟨k+1,m,by omega,by go_num,HM.o,(HX.o.1.set 1 (.int .i64 m)).alloc _,(HX.o.2.1.setOther hcbn 1 (.int .i64 m)).alloc _,?_,?_⟩,by simp [intOf];omega⟩
    ·have:=HX.o.2.2.1;exact qS
    ·simp;omega
   ·have hte:(y.team.toList==team.toList)=false:=qAZ ht;have HM:Hx (n=mxN (E.take (k+1)) team+1):=by rw [hmt,if_neg ht];exact mH HX.o.2.2.2
    clear hmt ht hno hn1;go_wp2_with (first|(refine wpList_load_mid rfl 81 _ rfl (b) (off+k*17) rF ↑y _ (e1.o) underlying81 rfl kR ?_)|(refine jR (w0:=wr) rfl 81 _ _ rfl _ ↑y rF rF kR rfl (zS y) ?_));refine⟨⟨k+1,n,by omega,by go_num,HM.o,HX.o.1.alloc _,HX.o.2.1.alloc _,?_,?_⟩,by simp [intOf];omega⟩
    ·have:=HX.o.2.2.1;exact qS
    ·simp;omega
  obtain rfl:k=E.length:=by omega
  rw [List.take_length] at hn;subst hn;have hS:wr.drew.cell? ⟨cb,0,none⟩=some (.slice a E.length cap)∧qV wr.drew w.heap.size 0 (qA7 E at_ team e)∧w.heap.size<wr.drew.heap.size:=⟨hb.cell 0 _ rfl,qV.box hx.drew,hz⟩;have H1:=mH (aI hx.drew (aI hb.drew hB.drew));clear hx hb hB hz;go_wp2_with fail;refine qA.start (λW=>W.cell? ⟨cb,0,none⟩=some (.slice a E.length cap)∧qV W w.heap.size 0 (qA7 E at_ team e)∧w.heap.size<W.heap.size) [6] kR ?_;generalize wr.drew=W1 at *;obtain⟨x,hx⟩:=eY (qA7 E at_ team e);have hF:Hx (x=qA7 E at_ team e):=mH hx;rw [←hx] at hS ⊢;have hG:qEg x:=hx ▸ HP.o.2.2.2.2.2;have hadd:qL x.team=true→qBg (jV qP x E):=λhk=>by
   rw [hx] at hk ⊢;refine qKV HP.o.2.1.ent HP.o.2.1.at2 ?_;rw [HP.o.2.2.2.2.2.fault,hk];rfl
  have hap:∀y∈E,qP y x≠0:=by rw [hx];exact qHB
  have hWx:qB2 x:=by rw [hx];exact HP.o.2.2.2.2.1
  have HQ:=mH (aI hG (aI hadd (aI hap hWx)));clear hG hadd hap hx hWx;have HHD:=mH H1.o.2.2.size;refine qA.q 0 ?_;refine qA.q 1 ?_;refine qA.q 2 ?_;refine qA.t 3 hS ?_;refine qA.take (i:=4) (v:=.agg ↑x) rfl kR kR kR kR (λ_ _ _ h=>h) hS (yieldsIf_load_mid (by first|rfl|(go_simp;done)) 81 _ rfl (w.heap.size) (0) rF ↑x _ (λ_ h=>h.2.1) underlying81 rfl kR) ?_;try simp only [Act.put,zL,zN,zH,zM,zK,zI]
  refine qA.nx 5 λK hK=>?_;go_simp
  have hx2:qI qD.cells 17 (W1.alloc (.cells ↑x 81)) [x] (.slice (some ⟨W1.heap.size,0,none⟩) 1 1):=qI.litAt qD.cells_len rfl (by simp [qD.cells]) rfl (by simp [maxLen]);have hBa:Below W1.heap.size W1 (W1.alloc (.cells ↑x 81)):=qB bR _ lR;have H2:=mH (aI hx2 hBa);refine hK.out _ _ (λ_ _=>⟨(H1.o.2.1.alloc _).cell 0 _ rfl,hS.2.1.below hBa hS.2.2,by simp;omega⟩) ?_;clear hK K hx2;try simp only [Act.put,zL,zN,zH,zM,zK,zI]
  have hS:=(show qV (W1.alloc (.cells ↑x 81)) w.heap.size 0 x from hS.2.1.below hBa hS.2.2);clear hBa;refine qA.nx 6 λK hK=>?_;go_simp
  refine(qPQ E x _ _ _ ((HP.o.1.below H1.o.2.2).below H2.o.2) H2.o.1 HP.o.2.1.ent HQ.o.1 hlen HQ.o.2.1 HQ.o.2.2.1).mono ?_;rintro e' W3 ⟨v3,rfl,hb3,hv3⟩;have hv3':qL x.team=true→qI qD.cells 17 W3 (jV qP x E) v3∧∀b off n c,v3=.slice (some ⟨b,off,none⟩) n c→w.heap.size≤b:=λhk=>⟨(hv3 hk).1,λb off n c h=>by have h1:=(hv3 hk).2 b off n c h;have h2:=H1.o.2.2.size;simp at h1;omega⟩
  clear hv3;have hv3:=hv3';clear hv3';have hzz:w.heap.size<(W1.alloc (.cells ↑x 81)).heap.size:=by have:=H1.o.2.2.size;simp;omega
  have H3:=mH (aI (H1.o.2.2.trans ((H2.o.2.mono H1.o.2.2.size).trans (hb3.mono (Nat.le_of_lt hzz)))) (aI (((H1.o.2.1.alloc _).below hb3 (by have:=H1.o.2.2.size;simp;omega)):qC W3 cb #[.slice a E.length cap,.int .i64 at_] 90) (aI (hS.below hb3 hzz) (aI hv3 (Nat.lt_of_lt_of_le hzz hb3.size)))));clear hb3 hv3 hzz hS H2 H1;refine qA.o hK ?_;clear hK K;refine qA.q 7 ?_;refine qA.q 8 ?_;refine qA.q 9 ?_;refine qA.q 10 ?_;refine qA.q 11 ?_;refine qA.done kR ?_
  cases hk:qL x.team
  ·have hf5:qBm x=5:=by rw [HQ.o.1.fault,hk];rfl
   have HE:Hx (qAC E at_ team e=(5,E)):=by
    unfold qAC;rw [←hF.o,hf5];exact mH sI
   rw [hf5];clear hf5 hk;go_wp2;go_ret;exact⟨_,by rw [HE.o];rfl,H3.o.2.1,by rw [HE.o];exact HP.o.1.below H3.o.1,qH _ H3.o.1,.inl rfl⟩
  have hf0:qBm x=0:=by rw [HQ.o.1.fault,hk];rfl
  have hRL:=HQ.o.2.1 hk;obtain⟨hAL,hlow⟩:=H3.o.2.2.2.1 hk;have HLOW:=mH hlow;clear hlow;obtain⟨L,i,hii,hig,hij,hE,hWL,hlL,hRL,hAL⟩:∃(L:List qD) (i:Nat) (hi:i<L.length),L[i]=x∧(∀j (hj:j<i),qP x (L[j]'oM)≠0)∧qAC E at_ team e=enO (qBl (qBw L) i) E L ∧
    (∀y∈L,qB2 y∧zC y.kind 1 5=false)∧(L.length<20∧0<L.length)∧qBg L∧qI qD.cells 17 W3 L v3:=by
   obtain⟨h1,h2,h3⟩:=qTE hRL;refine⟨jV qP x E,_,h1,h2,h3,?_,λy hy=>?_,by rw [qGA];omega,hRL,hAL⟩
   ·rw [qKl,←hF.o,hf0];exact if_neg sI
   ·rcases qE8.1 hy with h|h
    ·exact⟨HP.o.2.2.2.1 y h,(qDI (HP.o.2.1.ent.ok y h)).1.kind⟩
    ·rw [h];exact⟨HQ.o.2.2.2,HQ.o.1.kind⟩
  rw [hf0];clear hf0 hk;obtain⟨a3,cap3,rfl,-⟩:=id hAL;have HL:=mH (aI hRL (aI hij (aI hig (aI hE (aI hWL hAL)))));have he3:=mH H3.o.2.2.1;clear hRL hij hig hE hWL hAL;go_wp2_with (first|(refine wpList_load_mid rfl 81 _ rfl (w.heap.size) (0) rF ↑x _ (he3.o) underlying81 rfl kR ?_));refine(qQB _ L x i W3 HL.o.2.2.2.2.2 hii HL.o.2.2.1 HL.o.2.1).mono ?_;rintro e' W4 ⟨rfl,hb4⟩;have H4:=mH (aI (H3.o.1.trans (hb4.mono (Nat.le_of_lt H3.o.2.2.2.2))) (aI (H3.o.2.1.below hb4 H3.o.2.1.lt) (HL.o.2.2.2.2.2.below hb4)));clear hb4;go_wp2_with fail;refine(qNQ L _ W4 H4.o.2.2 hlL.2 oM HL.o.2.2.2.2.1 (λy hy=>(qDI (HL.o.1.ok y hy)).1.at1) HL.o.1.asc).mono ?_;rintro e' W5 ⟨mb,nn,rfl,hM,hnn,hb5⟩;have hz4:=H4.o.1.size;have H5:=mH (aI (H4.o.1.trans (hb5.mono hz4)) (aI (H4.o.2.1.below hb5 H4.o.2.1.lt) (H4.o.2.2.below hb5)));obtain⟨kl,hkl⟩:=qJQ (i:Int) (WalkArith.wf_i64 oM);have HM:=mH (aI hM hkl);clear hM hkl hb5 H4
  cases hr:qBl (qBw L) i with
  | some r =>
   have hq1:(qC9 (qBw L) (i:Int)).getD (.int .i64 0)=.int .i64 r:=by rw [qD2,hr];rfl
   have hq2:(qC9 (qBw L) (i:Int)).isSome=true:=by rw [qD2,hr];rfl
   have HV:Hx (qAC E at_ team e=(r,E)):=by rw [HL.o.2.2.2.1,hr];exact mH rfl
   clear hr;go_wp2_with (at_lookup;refine qDt rF _ _ _ rfl qEl underlying151 (qIL _) HM.o.1 rfl (i:Int) HM.o.2 rfl ?_;rw [hq1,hq2]);go_ret;exact⟨_,by rw [HV.o];rfl,H5.o.2.1,by rw [HV.o];exact HP.o.1.below H5.o.1,qH _ H5.o.1,.inl rfl⟩
  | none =>
   have hq1:(qC9 (qBw L) (i:Int)).getD (.int .i64 0)=.int .i64 0:=by rw [qD2,hr];rfl
   have hq2:(qC9 (qBw L) (i:Int)).isSome=false:=by rw [qD2,hr];rfl
   have HV:Hx (qAC E at_ team e=(0,L)):=by rw [HL.o.2.2.2.1,hr];exact mH rfl
   clear hr;have t0:=H5.o.2.1.cell 0 _ rfl;have f0:=H5.o.2.1.free 0;go_wp2_with (at_lookup;refine qDt rF _ _ _ rfl qEl underlying151 (qIL _) HM.o.1 rfl (i:Int) HM.o.2 rfl ?_;rw [hq1,hq2]);go_ret;refine⟨_,by rw [HV.o];rfl,H5.o.2.1.set 0 _,?_,?_,.inr HLOW.o⟩
   ·rw [HV.o];exact H5.o.2.2.grownBy (s:=cb) (qO cb [_] 0 W5) (λb off n c h=>Nat.lt_of_lt_of_le HCB.o (HLOW.o b off n c h))
   ·exact qK (qH _ H5.o.1) (qO cb [_] 0 W5)
theorem qKc (l:List qD) (v:Value) (w:World) (hA:qI qD.cells 17 w l v) (hl:l.length≤1000) (h:qJy l):Calls prog 102 #[v] w λe w'=>e=.returned (.int .i64 (qE5 l))∧Below w.heap.size w w':=by
 obtain⟨a,cap,rfl,hcap,hmax,hc⟩:=hA;unfold maxLen at hmax;have HP:=mH h;have hl2:decide ((2000:Int)<l.length)=false:=by simp;omega
 clear h;go_enter func102,ntmps102;go_wp2;go_loopw [3,11] (λlv iv wr=>∃k:Nat,k≤l.length∧lv=.bool false∧iv=.int .i64 k∧(∀j (hj:j<l.length),j<k→qL l[j].team=true)∧Below w.heap.size w wr) (λ_ iv _=>l.length - (intOf iv).toNat)
 case atStart=>exact⟨0,by omega,rfl,rfl,λj _ hj=>by omega,Below.refl _ _⟩
 case round =>
  obtain⟨k,hk,rfl,rfl,hz,hB⟩:=hrel;have hsz:=hB.size;have HZ:=mH hz;clear hz
  by_cases hlt:k<l.length
  rotate_left
  ·obtain rfl:k=l.length:=by omega
   have HV:Hx (qE5 l=0):=by
    unfold qE5;rw [if_pos];· exact mH rfl
    rw [List.all_eq_true];intro e he;obtain⟨j,hj,rfl⟩:=List.getElem_of_mem he;exact HZ.o j hj hj
   go_wp2;go_ret;exact⟨qN HV.o.symm,hB⟩
  obtain⟨b,off,rfl,hb,hci⟩:=hc k hlt;have e1:qV wr b (off+k*17) l[k]:=(qC0 hci).below hB hb;have hg:=HP.o.ok l[k] (List.getElem_mem hlt);have hgood:qL l[k].team=true→∀j (hj:j<l.length),j<k+1→qL l[j].team=true:=λh j hj hjk=>by
   rcases Nat.lt_or_ge j k with h1|h1
   ·exact HZ.o j hj h1
   ·obtain rfl:j=k:=by omega
    exact h
  have hbad:qL l[k].team=false→qE5 l=5:=λh=>by
   unfold qE5;rw [if_neg];rw [List.all_eq_true];intro q;rw [q _ (List.getElem_mem hlt)] at h;cases h
  have hprev:0<k→∃j y,j+1=k∧qV wr b (off+j*17) y∧0<qP l[k] y∧(l[k].team=y.team→y.at_≤l[k].at_):=λhp=>by
   obtain⟨j,hj⟩:∃j,j+1=k:=⟨k - 1,by omega⟩;have hjl:j<l.length:=by omega
   obtain⟨b',off',he,hb',hcj⟩:=hc j hjl;simp only [Option.some.injEq,Addr.mk.injEq,and_true] at he;obtain⟨rfl,rfl⟩:=he;exact⟨j,l[j],hj,(qC0 hcj).below hB hb',(HP.o.step hlt hj).1,(HP.o.step hlt hj).2⟩
  have hk':(k:Int)<l.length:=by omega
  have HG:=mH (aI hgood (aI hbad (aI hprev (aI hg e1))));clear hgood hbad hprev hci hc HP HZ hg;generalize l[k]=x at *;have hl2b:=mH (qV.box (qC.new wr ↑x 81));have he1:=mH e1;clear e1;go_wp2_with (first|(refine wpList_load_mid rfl 81 _ rfl (b) (off+k*17) rF ↑x _ (he1.o) underlying81 rfl kR ?_)|(refine jR (w0:=wr) rfl 81 _ _ rfl _ ↑x rF rF kR rfl (zS x) ?_));refine(qAj x.team _).mono ?_;rintro e w1 ⟨rfl,rfl⟩
  cases hkx:qL x.team
  ·have HV:=mH (HG.o.2.1 hkx);clear hkx;go_wp2;go_ret;exact⟨qN HV.o.symm,hB.trans (qB bR _ hsz)⟩
  have HK:=mH (HG.o.1 hkx);clear hkx;go_wp2_with (first|(refine wpList_load_mid rfl 81 _ rfl (wr.heap.size) (0) rF ↑x _ (hl2b.o) underlying81 rfl kR ?_)|(go_at_call 155;refine(qSc _ _ _ _).mono ?_;rintro e' w' ⟨rfl,rfl⟩;first|rw [HG.o.2.2.2.1.no]|rw [HG.o.2.2.2.1.kind])|(go_at_call 63;refine(qI8 _ _).mono ?_;rintro e' w' ⟨rfl,rfl⟩;rw [HG.o.2.2.2.1.at1])|fail);refine(qP5 x HG.o.2.2.2.1.kind HG.o.2.2.2.1.form _).mono ?_;rintro e w1 ⟨rfl,hb1⟩;have hbk:qC w1 wr.heap.size ↑x 81:=(qC.new wr ↑x 81).below hb1 sI;have hB1:Below w.heap.size w w1:=hB.trans ((qB bR _ hsz).trans (hb1.mono (by simp;omega)));have hBw:Below wr.heap.size wr w1:=(qB bR _ lR).trans (hb1.mono sI);have H1:=mH (aI hB1 (aI hbk hBw));clear hl2b he1 hB1 hbk hBw hb1
  by_cases hp:0<k
  ·obtain⟨j,y,hj,e2,hord,htm⟩:=HG.o.2.2.1 hp;have hw1:IntKind.i64.wrap ((k:Int) - 1)=(j:Nat):=by rw [IntWalk.i64_in _ oM];omega
   have hj':(j:Int)<l.length:=by omega
   have hyx:=(qB6.flip y x).2 hord;have hna:decide (0≤qP y x)=false:=by simp;omega
   have e3:=e2.below H1.o.2.2.drew (Nat.lt_of_lt_of_le hb hsz);have hS:qV w1.drew wr.heap.size 0 x∧qV w1.drew b (off+j*17) y:=⟨(qV.box H1.o.2.1.drew),e3⟩;have HJ:=mH (aI hj (aI hord e3));clear hj hord e2 hyx e3;go_wp2_with fail;refine qA.start (λW=>qV W wr.heap.size 0 x∧qV W b (off+j*17) y) [9] kR ?_;refine qA.q 0 ?_;refine qA.q 1 ?_;refine qA.q 2 ?_;refine qA.qg 3 ?_;refine qA.qg 4 ?_;refine qA.qg 5 ?_;refine qA.qg 6 ?_;refine qA.take (i:=7) (v:=.agg ↑y) rfl kR kR kR kR (λ_ _ _ h=>h) hS (yieldsIf_load_mid (by first|rfl|(go_simp;done)) 81 _ rfl (b) (off+j*17) rF ↑y _ (λ_ h=>h.2) underlying81 rfl kR) ?_;try simp only [Act.put,zL,zN,zH,zM,zK,zI]
   refine qA.take (i:=8) (v:=.agg ↑x) rfl kR kR kR kR (λ_ _ _ h=>h) hS (yieldsIf_load_mid (by first|rfl|(go_simp;done)) 81 _ rfl (wr.heap.size) (0) rF ↑x _ (λ_ h=>h.1) underlying81 rfl kR) ?_;try simp only [Act.put,zL,zN,zH,zM,zK,zI]
   refine qA.nx 9 λK hK=>?_;go_simp
   refine(qDl y x _).mono ?_;rintro e W3 ⟨rfl,hg3⟩;have hzz:w.heap.size≤w1.drew.heap.size:=H1.o.1.drew.size;have hwz:wr.heap.size≤w1.drew.heap.size:=H1.o.2.2.drew.size;have HB3:=mH (aI (H1.o.1.drew.trans (hg3.below.mono hzz)) (aI (H1.o.2.1.drew.below hg3.below H1.o.2.1.drew.lt) (HJ.o.2.2.below hg3.below (Nat.lt_of_lt_of_le (Nat.lt_of_lt_of_le hb hsz) hwz))));clear hg3 hzz hwz;refine qA.o hK ?_;clear hK K;refine qA.qg 10 ?_;refine qA.q 11 ?_;refine qA.q 12 ?_;refine qA.done kR ?_;have hS:(λW:World=>W.cell? ⟨wr.heap.size,0,none⟩=some (.string x.team)∧W.cell? ⟨wr.heap.size,2,none⟩=some (.int .i64 x.at_)∧W.cell? ⟨b,off+j*17,none⟩=some (.string y.team)∧W.cell? ⟨b,off+j*17+2,none⟩=some (.int .i64 y.at_)) W3.drew:=⟨HB3.o.2.1.cell 0 _ rfl,HB3.o.2.1.cell 2 _ rfl,HB3.o.2.2 0 _ rfl,HB3.o.2.2 2 _ rfl⟩
   by_cases ht:x.team=y.team
   ·have hte:(y.team.toList==x.team.toList)=true:=by rw [ht];simp
    have hnb:decide (x.at_<y.at_)=false:=by have:=htm ht;simp;omega
    clear htm ht;go_wp2_with fail;refine qA.start (λW=>W.cell? ⟨wr.heap.size,0,none⟩=some (.string x.team)∧W.cell? ⟨wr.heap.size,2,none⟩=some (.int .i64 x.at_)∧W.cell? ⟨b,off+j*17,none⟩=some (.string y.team)∧W.cell? ⟨b,off+j*17+2,none⟩=some (.int .i64 y.at_)) [] kR ?_;refine qA.q 0 ?_;refine qA.q 1 ?_;refine qA.qg 2 ?_;refine qA.qg 3 ?_;refine qA.qg 4 ?_;refine qA.qg 5 ?_;refine qA.qg 6 ?_;refine qA.qg 7 ?_;refine qA.qg 8 ?_;refine qA.qg 9 ?_;refine qA.tg 10 hS ?_;refine qA.qg 11 ?_;refine qA.tg 12 hS ?_;refine qA.qg 13 ?_;refine qA.qg 14 ?_;refine qA.qg 15 ?_;refine qA.qg 16 ?_;refine qA.tg 17 hS ?_;refine qA.qg 18 ?_;refine qA.qg 19 ?_;refine qA.qg 20 ?_;refine qA.qg 21 ?_;refine qA.qg 22 ?_;refine qA.tg 23 hS ?_;refine qA.qg 24 ?_;refine qA.qg 25 ?_;refine qA.q 26 ?_;refine qA.q 27 ?_;refine qA.done kR ?_;go_wp2;exact⟨⟨k+1,by omega,rfl,by go_num,HK.o,HB3.o.1.drew⟩,by simp [intOf];omega⟩
   ·have hte:(y.team.toList==x.team.toList)=false:=qAZ (λh=>ht h.symm);clear htm ht;go_wp2_with fail;refine qA.start (λW=>W.cell? ⟨wr.heap.size,0,none⟩=some (.string x.team)∧W.cell? ⟨wr.heap.size,2,none⟩=some (.int .i64 x.at_)∧W.cell? ⟨b,off+j*17,none⟩=some (.string y.team)∧W.cell? ⟨b,off+j*17+2,none⟩=some (.int .i64 y.at_)) [] kR ?_;refine qA.q 0 ?_;refine qA.q 1 ?_;refine qA.qg 2 ?_;refine qA.qg 3 ?_;refine qA.qg 4 ?_;refine qA.qg 5 ?_;refine qA.qg 6 ?_;refine qA.qg 7 ?_;refine qA.qg 8 ?_;refine qA.qg 9 ?_;refine qA.tg 10 hS ?_;refine qA.qg 11 ?_;refine qA.tg 12 hS ?_;refine qA.qg 13 ?_;refine qA.qg 14 ?_;refine qA.qg 15 ?_;refine qA.qf 16 ?_;refine qA.qf 17 ?_;refine qA.qf 18 ?_;refine qA.qf 19 ?_;refine qA.qf 20 ?_;refine qA.qf 21 ?_;refine qA.qf 22 ?_;refine qA.qf 23 ?_;refine qA.qf 24 ?_;refine qA.qg 25 ?_;refine qA.q 26 ?_;refine qA.q 27 ?_;refine qA.done kR ?_;go_wp2;exact⟨⟨k+1,by omega,rfl,by go_num,HK.o,HB3.o.1.drew⟩,by simp [intOf];omega⟩
  ·have hp0:k=0:=by omega
   have hp1:decide ((0:Int)<(k:Int))=false:=by simp;omega
   have hS:True:=trivial;go_wp2_with fail;refine qA.start (λW=>True) [] kR ?_;refine qA.q 0 ?_;refine qA.q 1 ?_;refine qA.q 2 ?_;refine qA.qf 3 ?_;refine qA.qf 4 ?_;refine qA.qf 5 ?_;refine qA.qf 6 ?_;refine qA.qf 7 ?_;refine qA.qf 8 ?_;refine qA.qf 9 ?_;refine qA.qf 10 ?_;refine qA.q 11 ?_;refine qA.q 12 ?_;refine qA.done kR ?_;go_wp2_with fail;refine qA.start (λW=>True) [] kR ?_;refine qA.q 0 ?_;refine qA.q 1 ?_;refine qA.qg 2 ?_;refine qA.qg 3 ?_;refine qA.qg 4 ?_;refine qA.qf 5 ?_;refine qA.qf 6 ?_;refine qA.qf 7 ?_;refine qA.qf 8 ?_;refine qA.qf 9 ?_;refine qA.qf 10 ?_;refine qA.qf 11 ?_;refine qA.qf 12 ?_;refine qA.qf 13 ?_;refine qA.qg 14 ?_;refine qA.qg 15 ?_;refine qA.qf 16 ?_;refine qA.qf 17 ?_;refine qA.qf 18 ?_;refine qA.qf 19 ?_;refine qA.qf 20 ?_;refine qA.qf 21 ?_;refine qA.qf 22 ?_;refine qA.qf 23 ?_;refine qA.qf 24 ?_;refine qA.qg 25 ?_;refine qA.q 26 ?_;refine qA.q 27 ?_;refine qA.done kR ?_;go_wp2;exact⟨⟨k+1,by omega,rfl,by go_num,HK.o,H1.o.1.drew.drew⟩,by simp [intOf];omega⟩
theorem qRF (y x:qD) (b:Nat) (w:World) (hb:qV w b 0 x) (hlt:b<w.heap.size) (hne:qP y x≠0):Calls prog 159 #[.agg ⟨qD.cells y⟩,.pointer (some ⟨b,0,none⟩)] w λe w'=>e=.returned (.bool false)∧Below w.heap.size w w':=by
 have hBa:Below w.heap.size w (w.alloc (.cells ↑y 81)):=qB bR _ lR;have he:=mH (hb.below hBa hlt);have hy:=mH (qV.box (qC.new w ↑y 81));have hq:(qP y x==0)=false:=by simpa using hne
 have HB:=mH hBa;clear hb hne hBa;rw [qT1];go_enter func159,ntmps159;go_wp2_with (first|(refine wpList_load_mid rfl 81 _ rfl (w.heap.size) (0) rF ↑y _ (hy.o) underlying81 rfl kR ?_)|(refine wpList_load_mid rfl 81 _ rfl (b) (0) rF ↑x _ (he.o) underlying81 rfl kR ?_));refine(qDl y x _).mono ?_;rintro e w2 ⟨rfl,hg⟩;have H2:=mH (HB.o.trans (hg.below.mono HB.o.size));clear hg;go_wp2;go_ret;exact⟨rfl,H2.o⟩
theorem qOT (E:List qD) (x:qD) (va vb:Value) (w:World) (hA:qI qD.cells 17 w E va) (hB:qI qD.cells 17 w [x] vb) (hE:qBg E) (hn:qBg (jV qP x E)) (hap:∀y∈E,qP y x≠0) (hlen:E.length<900) :
  Calls prog 103 #[va,vb] w λe w'=>∃v',e=.returned (.tuple #[v',.int .i64 0])∧qI qD.cells 17 w' (jV qP x E) v'∧Below w.heap.size w w'∧∀b off n c,v'=.slice (some ⟨b,off,none⟩) n c→w.heap.size≤b:=by
 obtain⟨i0,hi,hz0,hz1,hz2⟩:=info_parts qNv;obtain⟨aB,capB,rfl,hcB,hmB,hbB⟩:=hB;obtain⟨b,off,rfl,hb,hcc⟩:=hbB 0 sI;have e0:qV w b off x:=λj u hu=>by have:=hcc j u hu;simpa using this
 have HA:=mH (aI hA (aI hE (aI hn (aI hap e0))));unfold maxLen at hmB;clear hA hE hn hap hcc hbB e0;go_enter func103,ntmps103;go_wp2_with fail;refine(qQn va E w HA.o.1 oM).mono ?_;rintro e w1 ⟨v1,rfl,⟨ho1,-⟩,hb1⟩;have H1:=mH (aI ho1 hb1);obtain⟨a1,c1,hv1⟩:=jO ho1;subst hv1;clear ho1 hb1;go_wp2;go_loopw [6,15] (λov iv wr=>∃k:Nat,k≤1∧iv=.int .i64 k∧wr.ownsRow w.heap.size 81 17 ov (E.length+k) ((E++[x].take k).flatMap qD.cells)∧Below w.heap.size w wr) (λ_ iv _=>1 - (intOf iv).toNat)
 case atStart=>exact⟨0,by omega,rfl,by simpa using H1.o.1,H1.o.2⟩
 case round =>
  clear H1;obtain⟨k,hk,rfl,ho,hB⟩:=hrel;have hsz:=hB.size;obtain⟨ao,co,hvo⟩:=jO ho;subst hvo
  by_cases hlt:k=0
  ·subst hlt;have he:=mH (HA.o.2.2.2.2.below hB hb);have HB:=mH (aI ho hB);have hbk:qC (wr.alloc (.cells ↑x 81)) wr.heap.size ↑x 81:=qC.new _ _ _;have hBa:Below w.heap.size w (wr.alloc (.cells ↑x 81)):=qB hB _ hsz;have H2:=mH (aI hbk (aI hBa (ho.alloc (.cells ↑x 81))));clear ho hB hbk hBa;go_wp2_with (first|(refine wpList_load_mid rfl 81 _ rfl (b) (off) rF ↑x _ (he.o) underlying81 rfl kR ?_)|(refine jR (w0:=wr) rfl 81 _ _ rfl _ ↑x rF rF kR rfl (zS x) ?_));obtain⟨bx,hbx⟩:=eX (wr.heap.size);rw [hbx] at H2 hsz ⊢;generalize wr.alloc (.cells ↑x 81)=W2 at *;have hcall:=(qLO va E (λ_=>false) 159 #[.pointer (some ⟨bx,0,none⟩)] W2 (HA.o.1.below H2.o.2.1) (qAB func159 kR rfl) (λy w' hy hbw=>qRF y x bx w' ((qV.box H2.o.1).below hbw H2.o.1.lt) (Nat.lt_of_lt_of_le H2.o.1.lt hbw.size) (HA.o.2.2.2.1 y hy)));rw [qBY sI] at hcall;refine hcall.mono ?_;rintro e w3 ⟨rfl,hb3⟩;have hb3':=mH (qV.box (H2.o.1.below hb3 H2.o.1.lt));have H3:=mH (aI (qAv H2.o.2.2 hb3) (H2.o.2.1.trans (hb3.mono H2.o.2.1.size)));have hz3:w.heap.size≤w3.heap.size:=H3.o.2.size;clear hb3 H2 hbx he HB hcall;go_wp2_with (first|(refine wpList_load_mid rfl 81 _ rfl (bx) (0) rF ↑x _ (hb3'.o) underlying81 rfl kR ?_)|((at_builtin;go_must (refine wpList_append_own _ rfl _ _ 62 rfl _ 81 _ (.agg ↑zE) 17 200 underlying62 hi hz0 hz1 hz2 rfl dE _ _ _ rfl (H3.o.1.alloc _) ⟨w3.heap.size,0,none⟩ 1 1 ↑x rfl rfl (by exact qBC (by first|rfl|simp) rF) (by simp [Value.oneCell']) (by unfold maxLen;omega) oM szq ?_));intro v' w4 hown4 hg4 _))
   refine⟨⟨1,by omega,by go_num,?_,jG (H3.o.2.trans (qB bR _ hz3)) (H3.o.1.alloc _) hg4 lR (by simp;omega)⟩,by simp [intOf]⟩;rw [List.flatMap_append];simpa [qD.cells] using hown4
  obtain rfl:k=1:=by omega
  have hrow:zG qD.cells 17 w.heap.size wr (.slice ao (E.length+1) co) (E++[x]):=zG.of_own qD.cells_len (by rw [List.length_append];exact ho);clear ho;have HB:=mH hB;clear hB
  rcases hrow with⟨-,h⟩|⟨g,cap,hv,hg,hc,hm,hr⟩
  ·simp at h
  simp only [Value.slice.injEq] at hv;obtain⟨rfl,hn1,rfl⟩:=hv;have HR:=mH (aI hr (aI hg (aI hc hm)));have hl1:(E++[x]).length=E.length+1:=by rw [List.length_append];rfl
  clear hr hg hc hm hn1;go_wp2_with fail;have hcall:=(qMb g co w.heap.size (E++[x]) qP 105 #[] wr HR.o.1 HR.o.2.1 HR.o.2.2.1 HR.o.2.2.2 (by rw [hl1];omega) qB6 (qAB func105 kR rfl) (λy z w' _=>qDl y z w'));rw [hl1] at hcall;refine hcall.mono ?_;rintro e w5 ⟨rfl,L,hp,ha,hrv,hg5⟩;have hL:=qJi HA.o.2.1.asc hp ha HA.o.2.2.2.1;subst hL;have hB5:Below w.heap.size w w5:=HB.o.trans ⟨hg5.os,hg5.tape,hg5.output,hg5.size,λk hk=>hg5.block k oM (λe=>by have:=Option.some.inj e;have:=HR.o.2.1;omega)⟩;have hil:(jV qP x E).length=E.length+1:=qGA x E;have H5:=mH (aI hrv.arr hB5);clear hp ha hrv hg5 hB5 hcall;go_wp2_with fail;have hcall:=qKc (jV qP x E) _ w5 H5.o.1 oM HA.o.2.2.1.toP;rw [HA.o.2.2.1.chk] at hcall;refine hcall.mono ?_;rintro e w6 ⟨rfl,hb6⟩;have H6:=mH (aI (H5.o.1.below hb6) (H5.o.2.trans (hb6.mono H5.o.2.size)));clear hb6 hcall;go_wp2;refine bodyPost_ret (results_tmp2 rfl _ _ _) rfl ⟨_,rfl,H6.o.1,H6.o.2,λb' off' n' c' h=>?_⟩;simp only [Value.slice.injEq,Option.some.injEq,Addr.mk.injEq] at h;have:=HR.o.2.1;omega
end Go.Proofs.YtbgnlfgkgklkdaaGreatDoor
