/- Parts of the proof of ScriptsAnswered: SnM, SnH. No condition. -/
import Derived.WideKeyEntry
import Derived.Test.YtbgnlfgkgklkdaaGreatDoorZ14
set_option linter.unusedVariables false
set_option linter.unusedSimpArgs false
set_option maxHeartbeats 8000000
set_option maxRecDepth 100000
namespace Go.Proofs.YtbgnlfgkgklkdaaGreatDoor
open Go Go.RowKit Tryz
section
open Go.Maps (Keyed)
open Go.ChangeMaps (setBlock)
def qCL {α:Type} [DecidableEq α] (m:α→Option Value) (a:α):α→Option Value:=λx=>if x=a then none else m x
section
variable {α : Type} [DecidableEq α] {P : Program} {k : TypeId} {kv : α → Value} {w w' : World} {b n : Nat} {m : α → Option Value}
theorem zA.drop {t e:TypeId} (h:zA P k kv w b n m) (K:Keyed P k) (hinj:∀a a',kv a=kv a'→a=a') (ht:P.underlying t=some (.map k e)) (a:α) {kl:Lit} (hkey:keyOf P k (kv a)=some kl) (ty:TypeId) :
  ∃w',(Builtin.delete_ #[t,k] ty #[.map (some b),kv a]).run P w=.ok (.tuple #[]) w'∧zA P k kv w' b n (qCL m a)∧w.grownBy w' (some b):=by
 obtain⟨D,h1,h2,h3⟩:=h;obtain⟨w',hrun,hown,hg⟩:=h1.drop K ht hkey ty;refine⟨w',hrun,⟨_,hown,h2.del _,λx kx hkx=>?_⟩,hg.grown⟩
 by_cases hx:x=a
 ·subst hx;obtain rfl:kl=kx:=Option.some.inj (hkey.symm.trans hkx);have hs:qCL m x x=none:=by simp [qCL]
  rw [hs];exact⟨λz=>Maps.atKey_del_same _,Maps.has_del_same⟩
 ·have hs:qCL m a x=m x:=by simp [qCL,hx]
  have hne:kx≠kl:=λe=>hx (hinj _ _ (K.inj hkx (e ▸ hkey)))
  rw [hs];obtain⟨q1,q2⟩:=h3 x kx hkx;exact⟨λz=>by rw [Maps.atKey_del_other hne];exact q1 z,by rw [Maps.has_del_other hne];exact q2⟩
theorem qGg (w:World) (b:Nat) (o o':Obj):setBlock (setBlock w b o) b o'=setBlock w b o':=by
 unfold setBlock;simp
theorem zA.entry {t e:TypeId} (h:zA P k kv w b n m) (KL:WideMaps.KeyLaw P k) (hinj:∀a a',kv a=kv a'→a=a') (ht:P.underlying t=some (.map k e)) {z:Value} (hz:∀u:World,(zeroValue e).run P u=.ok z u) (hn:n<maxLen) (a:α) {kl:Lit} (hkey:keyOf P k (kv a)=some kl) :
  ∃(v0:Value) (st:Int) (w1:World),(Instr.mapEntry t (.map (some b)) (kv a)).run P w=.ok (.tuple #[v0,.int .i64 st]) w1∧w.grownBy w1 (some b) ∧
   ∀val,∃w',(Instr.entryStore t (.map (some b)) (.int .i64 st) val).run P w1=.ok () w'∧zA P k kv w' b (n+1) (qB0 m a val)∧w.grownBy w' (some b):=by
 have hS:=λval=>h.store (Keyed.of_law KL) hinj ht hn a hkey val
 obtain⟨D,⟨es,clock,hb,F,_,_⟩,_⟩:=h;obtain⟨v0,st,es1,clock1,h1,_,h2⟩:=WideElems.entry_then_store KL ht hz hb F hkey;have hbs:b<w.heap.size:=(Array.getElem?_eq_some_iff.1 hb).1;have hgr:∀o:Obj,w.grownBy (setBlock w b o) (some b):=λo=>⟨rfl,rfl,rfl,by simp [setBlock],λi hi hne=>by
  have:i≠b:=λe=>hne (by rw [e])
  simp [setBlock,Array.getElem?_setIfInBounds,Ne.symm this]⟩
 refine⟨v0,st,_,h1,hgr _,λval=>?_⟩;obtain⟨es',clock',h3,h4⟩:=h2 (setBlock w b (.map es1 clock1)) val (by simp [setBlock,Array.getElem?_setIfInBounds,hbs]);obtain⟨w',h5,h6,h7⟩:=hS val;rw [h4] at h5;obtain rfl:setBlock w b (.map es' clock')=w':=by simpa using h5
 exact⟨_,h3,by rw [qGg];exact h6,by rw [qGg];exact h7⟩
end
section
variable {α : Type} {P : Program} {ops : Array Oper} {o : Oper} {a : Act} {w : World} {K' : Act → World → Prop} {Q : Exit → Act → World → Prop} {E : Prop}
theorem qDj [DecidableEq α] (hgd:o.guard=none) (mo x:Operand) (t k:TypeId) (hop:o.op=Op.call { callee:=Callee.builtin Builtin.delete,args:=#[mo,x],argTypes:=#[t,k] }) {e:TypeId} (K:Keyed P k) (ht:P.underlying t=some (.map k e))
  {kv:α→Value} (hinj:∀a a',kv a=kv a'→a=a') {b n:Nat} {m:α→Option Value} (hown:zA P k kv w b n m) (hm:a.eval mo=.map (some b)) (q:α) {kl:Lit} (hkey:keyOf P k (kv q)=some kl) (hx:a.eval x=kv q)
  (h:∀w',zA P k kv w' b n (qCL m q)→w.grownBy w' (some b)→K' (a.put o.dst (.tuple #[])) w'):if Region.wanted o (yielded ops a.tmps)=true then Oper.wp P o a w K' Q else E:=by
 have hw:Region.wanted o (yielded ops a.tmps)=true:=by simp [Region.wanted,hgd]
 rw [if_pos hw];obtain⟨w',hrun,r1,r2⟩:=hown.drop K hinj ht q hkey o.type;unfold Oper.wp;simp [execOp,hop,resolve,invoke,builtin,hm,hx,hrun,Result.andThen];exact h _ r1 r2
theorem qJI (hgd:o.guard=none) (mo x:Operand) (t:TypeId) (hop:o.op=Op.mapEntry t mo x) {b:Nat} {key v:Value} {w1:World} (hm:a.eval mo=.map (some b)) (hx:a.eval x=key) (hrun:(Instr.mapEntry t (.map (some b)) key).run P w=.ok v w1)
  (h:K' (a.put o.dst v) w1):if Region.wanted o (yielded ops a.tmps)=true then Oper.wp P o a w K' Q else E:=by
 have hw:Region.wanted o (yielded ops a.tmps)=true:=by simp [Region.wanted,hgd]
 rw [if_pos hw];unfold Oper.wp;simp [execOp,hop,hm,hx,hrun,Result.andThen];exact h
theorem qIc (hgd:o.guard=none) (mo x v:Operand) (t:TypeId) (hop:o.op=Op.entryStore t mo x v) {b:Nat} {st val:Value} {w1:World} (hm:a.eval mo=.map (some b)) (hx:a.eval x=st) (hv:a.eval v=val) (hrun:(Instr.entryStore t (.map (some b)) st val).run P w=.ok () w1)
  (h:K' (a.put o.dst undef) w1):if Region.wanted o (yielded ops a.tmps)=true then Oper.wp P o a w K' Q else E:=by
 have hw:Region.wanted o (yielded ops a.tmps)=true:=by simp [Region.wanted,hgd]
 rw [if_pos hw];unfold Oper.wp;simp [execOp,hop,hm,hx,hv,hrun,Result.andThen];exact h
end
theorem qMv:laidOutB prog=true:=by kernel_rfl
def qEQ (q:qQ × ByteArray):Value:=.agg #[.string q.2,.string q.1.cable,.int .i64 q.1.no]
theorem qC7 (a a':qQ × ByteArray) (h:qEQ a=qEQ a'):a=a':=by
 obtain⟨⟨a1,a2⟩,a3⟩:=a;obtain⟨⟨b1,b2⟩,b3⟩:=a';simp [qEQ] at h;simp [h]
theorem qMn:WideMaps.KeyLaw prog 197:=deep_law_laid qMv (m:=4) oM (of_decide_eq_true kR) kR kR
theorem qBv:Keyed prog 197:=Keyed.of_law qMn
theorem qT9:WideMaps.KeyLaw prog 79:=deep_law_laid qMv (m:=4) oM (of_decide_eq_true kR) kR kR
theorem qRl:Keyed prog 79:=Keyed.of_law qT9
theorem qKe {α β:Type} {f:α→Option β}:∀{l:List α},(∀x∈l,(f x).isSome=true)→(l.mapM f).isSome=true
 | [],_=>rfl
 | x::l,h=>by
  obtain⟨y,hy⟩:=Option.isSome_iff_exists.1 (h x List.mem_cons_self);obtain⟨r,hr⟩:=Option.isSome_iff_exists.1 (qKe (l:=l) λz hz=>h z (List.mem_cons_of_mem _ hz));rw [List.mapM_cons,hy,hr];rfl
section
variable {P : Program} {d : Nat}
theorem qHd {t:TypeId} {fs:Array Go.Field} {cs:List Value} {L:List (TypeId × Nat)} (hk:P.underlying t=some (.struct fs)) (hn:fs.all (λf=>f.name != "_")=true) (hc:cs.length=P.cellsOf t) (hfs:fs.toList.map (λf=>(f.type,f.offset))=L)
  (h:∀p∈L,(P.keyLits d p.1 ((cs.drop p.2).take (P.cellsOf p.1))).isSome=true):(P.keyLits (d+1) t cs).isSome=true:=by
 unfold Program.keyLits;rw [hk];simp only [hc,hn];have:=qKe (f:=λf:Go.Field=>P.keyLits d f.type ((cs.drop f.offset).take (P.cellsOf f.type))) (l:=fs.toList) λf hf=>h (f.type,f.offset) (by rw [←hfs];exact List.mem_map_of_mem hf)
 obtain⟨r,hr⟩:=Option.isSome_iff_exists.1 this;simp only [and_self,if_true,hr]
 rfl
theorem qM1 {t:TypeId} {s:ByteArray} (hk:P.underlying t=some .string) (h:s.size≤maxLen):(P.keyLits (d+1) t [.string s]).isSome=true:=by
 unfold Program.keyLits;rw [hk];simp [h]
theorem qRI {t:TypeId} {n:Int} (hk:P.underlying t=some (.int .i64)) (h:(Lit.int .i64 n).wf=true):(P.keyLits (d+1) t [.int .i64 n]).isSome=true:=by
 unfold Program.keyLits;rw [hk];simp [h]
theorem qJn {k:TypeId} {fs:Array Go.Field} {cs:Array Value} (hk:P.underlying k=some (.struct fs)) (hkt:P.keyType k=true) (hc:cs.size=P.cellsOf k) (h:(P.keyLits (P.types.size+1) k cs.toList).isSome=true):∃kl,keyOf P k (.agg cs)=some kl:=by
 obtain⟨r,hr⟩:=Option.isSome_iff_exists.1 h;refine⟨.string (keyBytes r),?_⟩;unfold keyOf;rw [hk];simp only [hkt,Value.formed,hk,hc,Bool.true_and,beq_self_eq_true,if_true];have e:(Value.agg cs).cells=cs:=rfl;rw [e,hr];rfl
end
def qBb (f:qQ):Prop:=f.cable.size≤maxLen∧(Lit.int .i64 f.no).wf=true
theorem qPx:8≤prog.types.size:=of_decide_eq_true kR
theorem qMl:prog.cellsOf 9=1:=by kernel_rfl
theorem qRB:prog.cellsOf 3=1:=by kernel_rfl
theorem qNB:prog.cellsOf 77=2:=by kernel_rfl
theorem qMa {d:Nat} {f:qQ} (h:qBb f):(prog.keyLits (d+2) 77 [.string f.cable,.int .i64 f.no]).isSome=true:=by
 refine qHd (L:=[(9,0),(3,1)]) underlying77 (by decide +kernel) kR rF λp hp=>?_
 simp only [List.mem_cons,List.not_mem_nil,or_false] at hp
 rcases hp with rfl|rfl
 ·simp only [qMl,List.drop_zero,List.take_succ_cons,List.take_zero];exact qM1 underlying9 h.1
 ·simp only [qRB,List.drop_succ_cons,List.drop_zero,List.take_succ_cons,List.take_zero];exact qRI underlying3 h.2
theorem qLw (q:qQ × ByteArray) (h1:q.2.size≤maxLen) (h2:qBb q.1):∃kl,keyOf prog 197 (qEQ q)=some kl:=by
 refine qJn underlying197 kR kR ?_;obtain⟨d,hd⟩:∃d,prog.types.size+1=d+3:=⟨prog.types.size - 2,by have:=qPx;omega⟩;rw [hd];refine qHd (L:=[(9,0),(77,1)]) underlying197 (by decide +kernel) kR rF λp hp=>?_
 simp only [List.mem_cons,List.not_mem_nil,or_false] at hp
 rcases hp with rfl|rfl
 ·simp only [qMl,List.drop_zero,List.take_succ_cons,List.take_zero];exact qM1 underlying9 h1
 ·simp only [qNB,List.drop_succ_cons,List.drop_zero,List.take_succ_cons,List.take_zero];exact qMa h2
def qL1 (s:qE):Value:=.agg #[.string s.site,.string s.x.cable,.int .i64 s.x.no,.string s.y.cable,.int .i64 s.y.no,.int .i64 s.loss]
theorem qR5 (a a':qE) (h:qL1 a=qL1 a'):a=a':=by
 obtain⟨a1,⟨a2,a3⟩,⟨a4,a5⟩,a6⟩:=a;obtain⟨b1,⟨b2,b3⟩,⟨b4,b5⟩,b6⟩:=a';simp [qL1] at h;simp [h]
theorem qTg (s:qE) (h1:s.site.size≤maxLen) (h2:qBb s.x) (h3:qBb s.y) (h4:(Lit.int .i64 s.loss).wf=true):∃kl,keyOf prog 79 (qL1 s)=some kl:=by
 refine qJn underlying79 kR kR ?_;obtain⟨d,hd⟩:∃d,prog.types.size+1=d+3:=⟨prog.types.size - 2,by have:=qPx;omega⟩;rw [hd];refine qHd (L:=[(9,0),(77,1),(77,3),(3,5)]) underlying79 (by decide +kernel) kR rF λp hp=>?_
 simp only [List.mem_cons,List.not_mem_nil,or_false] at hp
 rcases hp with rfl|rfl|rfl|rfl
 ·simp only [qMl,List.drop_zero,List.take_succ_cons,List.take_zero];exact qM1 underlying9 h1
 ·simp only [qNB,List.drop_succ_cons,List.drop_zero,List.take_succ_cons,List.take_zero];exact qMa h2
 ·simp only [qNB,List.drop_succ_cons,List.drop_zero,List.take_succ_cons,List.take_zero];exact qMa h3
 ·simp only [qRB,List.drop_succ_cons,List.drop_zero,List.take_succ_cons,List.take_zero];exact qRI underlying3 h4
end
def jQ {α:Type} (c:α→α→Int) (x:α) (l:List α):Nat:=(l.takeWhile λy=>decide (c y x<0)).length
def qFs {α:Type} (c:α→Int) (l:List α) (pos:Nat):Bool:=match l[pos]? with|some x=>c x==0|none=>false
theorem qF7 {α:Type} {c:α→Int} {l:List α} {pos:Nat} (h:pos<l.length):qFs c l pos=(c l[pos]==0):=by unfold qFs;rw [List.getElem?_eq_getElem h]
theorem qFv {α:Type} {c:α→Int} {l:List α} {pos:Nat} (h:l.length≤pos):qFs c l pos=false:=by unfold qFs;rw [List.getElem?_eq_none h]
theorem qDG {α:Type} (c:α→α→Int) (x:α) (l:List α):jQ c x l≤l.length:=(List.takeWhile_sublist _).length_le
theorem qOB {α:Type} {p:α→Bool}:∀{l:List α},l.Pairwise (λa b=>p b=true→p a=true)→∀k (hk:k<l.length),(p l[k]=true↔k<(l.takeWhile p).length)
 | [],_,k,hk=>by simp at hk
 | x::l,hp,0,_=>by
  cases hx:p x <;> simp [List.takeWhile_cons,hx]
 | x::l,hp,k+1,hk=>by
  have h2:=List.pairwise_cons.1 hp;have ih:=qOB h2.2 k (by simpa using hk)
  cases hx:p x
  ·simp only [List.takeWhile_cons,hx,List.getElem_cons_succ]
   constructor
   ·intro h;have:=h2.1 _ (List.getElem_mem (by simpa using hk)) h;rw [hx] at this;cases this
   ·intro h;simp at h
  ·simp only [List.takeWhile_cons,hx,List.getElem_cons_succ,if_true,List.length_cons];rw [ih];omega
section
variable {α : Type} {c : α → α → Int}
theorem qFC (hc:zU c) {l:List α} (h:qAD c l) (x:α):∀k (hk:k<l.length),(c l[k] x<0↔k<jQ c x l):=by
 intro k hk;have:=qOB (p:=λy=>decide (c y x<0)) (l:=l) (h.imp fun {a b} hab hb=>by
  simp only [decide_eq_true_eq] at hb ⊢;exact hc.lt_trans hab hb) k hk
 unfold jQ
 simpa using this
theorem qIi (x:α) (l:List α):jV c x l=l.take (jQ c x l)++x::l.drop (jQ c x l):=by
 unfold jV qG4 jQ;have hs:=List.takeWhile_append_dropWhile (p:=λy=>decide (c y x<0)) (l:=l);generalize ht:l.takeWhile (λy=>decide (c y x<0))=A at *;generalize hd:l.dropWhile (λy=>decide (c y x<0))=B at *;rw [←hs,List.take_left,List.drop_left]
theorem qIh (hc:zU c) {l:List α} (h:qAD c l) (x:α):qFs (λy=>c y x) l (jQ c x l)=l.any λy=>decide (c y x=0):=by
 have hm:=qFC hc h x;rw [Bool.eq_iff_iff,List.any_eq_true]
 constructor
 ·intro hh
  rcases Nat.lt_or_ge (jQ c x l) l.length with hp|hp
  ·rw [qF7 hp] at hh;exact⟨l[jQ c x l],List.getElem_mem _,by simpa using hh⟩
  ·rw [qFv hp] at hh;cases hh
 ·rintro⟨y,hy,h0⟩;simp only [decide_eq_true_eq] at h0;obtain⟨i,hi,rfl⟩:=List.mem_iff_getElem.1 hy;have hle:jQ c x l≤i:=by
   have:=(hm i hi);omega
  have hp:jQ c x l<l.length:=by omega
  rw [qF7 hp];have h1:¬c l[jQ c x l] x<0:=λq=>by have:=(hm _ hp).1 q;omega
  rcases Nat.lt_or_ge (jQ c x l) i with q|q
  ·exfalso
   have h2:=List.pairwise_iff_getElem.1 h _ i hp hi q;have h3:=hc.lt_le h2 (show c l[i] x≤0 by omega);omega
  ·have:jQ c x l=i:=by omega
   simp only [this,h0];rfl
end
def qBE (S:List qJ) (k:ByteArray):Option Value:=(S.find? λs=>decide (s.key=k)).map λs=>.int .i64 s.kind
def qAT (C:List qG) (k:ByteArray):Option Value:=(qY C k).map λc=>.agg ⟨c.cells⟩
def qAV (X:List qE) (e:qQ × ByteArray):Option Value:=(zD X e.1 e.2).map λs=>.agg ⟨s.cells⟩
theorem qBX (S:List qJ) (k:ByteArray):(qBE S k).getD (.int .i64 0)=.int .i64 (qAG S k):=by
 unfold qBE qAG
 cases S.find? λs=>decide (s.key=k) <;> rfl
theorem qMd (C:List qG) (k:ByteArray):(qAT C k).getD (.agg ⟨qAH.cells⟩)=.agg ⟨((qY C k).getD qAH).cells⟩:=by
 unfold qAT
 cases qY C k <;> rfl
theorem qTD (C:List qG) (k:ByteArray):(qAT C k).isSome=(qY C k).isSome:=by unfold qAT;cases qY C k <;> rfl
theorem qTP (X:List qE) (e:qQ × ByteArray):(qAV X e).isSome=(zD X e.1 e.2).isSome:=by unfold qAV;cases zD X e.1 e.2 <;> rfl
theorem qLx {A B:List qJ} {s:qJ} (h:∀y∈A++B,y.key≠s.key) (k:ByteArray):qB0 (qBE (A++B)) s.key (.int .i64 s.kind) k=qBE (A++s::B) k:=by
 unfold qB0 qBE
 by_cases hk:k=s.key
 ·subst hk;rw [if_pos rfl,List.find?_append];have:A.find? (λy=>decide (y.key=s.key))=none:=by
   rw [List.find?_eq_none];intro y hy;simpa using h y (List.mem_append_left _ hy)
  rw [this];simp
 ·rw [if_neg hk]
  congr 1
  exact(qHA (key:=qJ.key) (λe=>hk e.symm)).symm
theorem qMF {A B:List qG} {s:qG} (h:∀y∈A++B,y.key≠s.key) (k:ByteArray):qB0 (qAT (A++B)) s.key (.agg ⟨s.cells⟩) k=qAT (A++s::B) k:=by
 unfold qB0 qAT qY
 by_cases hk:k=s.key
 ·subst hk;rw [if_pos rfl,List.find?_append];have:A.find? (λy=>decide (y.key=s.key))=none:=by
   rw [List.find?_eq_none];intro y hy;simpa using h y (List.mem_append_left _ hy)
  rw [this];simp
 ·rw [if_neg hk]
  congr 1
  exact(qHA (key:=qG.key) (λe=>hk e.symm)).symm
theorem qSZ (C:List qG) (key k:ByteArray):qCL (qAT C) key k=qAT (C.filter λy=>!decide (y.key=key)) k:=by
 unfold qCL qAT qY;rw [List.find?_filter]
 by_cases hk:k=key
 ·subst hk;rw [if_pos rfl];have:C.find? (λa=>decide ((!decide (a.key=k))=true∧decide (a.key=k)=true))=none:=by
   rw [List.find?_eq_none];intro y _;by_cases e:y.key=k <;> simp [e]
  rw [this];rfl
 ·rw [if_neg hk]
  congr 2
  funext y
  by_cases e:y.key=k
  ·simp [e,hk]
  ·simp [e]
def qAI (e:qQ × ByteArray) (s:qE):Bool:=decide (s.site=e.2∧(s.x=e.1∨s.y=e.1))
theorem qHR (s:qE) (e:qQ × ByteArray):qAI e s=(decide (e=(s.x,s.site)) || decide (e=(s.y,s.site))):=by
 obtain⟨f,k⟩:=e;unfold qAI;rw [Bool.eq_iff_iff,decide_eq_true_eq,Bool.or_eq_true,decide_eq_true_eq,decide_eq_true_eq,Prod.mk.injEq,Prod.mk.injEq]
 constructor
 ·rintro⟨h1,h2|h2⟩
  ·exact .inl ⟨h2.symm,h1.symm⟩
  ·exact .inr ⟨h2.symm,h1.symm⟩
 ·rintro (⟨h1,h2⟩|⟨h1,h2⟩)
  ·exact⟨h2.symm,.inl h1.symm⟩
  ·exact⟨h2.symm,.inr h1.symm⟩
theorem qKj {A B:List qE} {s:qE} {e:qQ × ByteArray}:zD (A++s::B) e.1 e.2=(A.find? (qAI e)).or (if qAI e s then some s else B.find? (qAI e)):=by
 unfold zD;rw [List.find?_append]
 congr 1
 rw [List.find?_cons]
 show(match qAI e s with|true=>some s|false=>B.find? (qAI e))=_
 cases qAI e s <;> rfl
theorem qLE {A B:List qE} {e:qQ × ByteArray}:zD (A++B) e.1 e.2=(A.find? (qAI e)).or (B.find? (qAI e)):=by
 unfold zD;rw [List.find?_append];rfl
theorem qOC {o s:qE} {e:qQ × ByteArray} (h:jC o s=false) (hs:qAI e s=true):qAI e o=false:=by
 cases ho:qAI e o
 ·rfl
 ·exfalso
  unfold qAI at hs ho;rw [decide_eq_true_eq] at hs ho;unfold jC at h;rw [decide_eq_false_iff_not] at h;refine h ⟨ho.1.trans hs.1.symm,?_⟩
  rcases ho.2 with q|q <;> rcases hs.2 with r|r
  ·exact .inl (q.trans r.symm)
  ·exact .inr (.inl (q.trans r.symm))
  ·exact .inr (.inr (.inl (q.trans r.symm)))
  ·exact .inr (.inr (.inr (q.trans r.symm)))
theorem qIR {A:List qE} {s:qE} {e:qQ × ByteArray} (h:∀o∈A,jC o s=false) (hs:qAI e s=true):A.find? (qAI e)=none:=by
 rw [List.find?_eq_none];intro o ho;rw [qOC (h o ho) hs];simp
theorem qM5 {A B:List qE} {s:qE} (h:∀o∈A++B,jC o s=false) (e:qQ × ByteArray):qB0 (qB0 (qAV (A++B)) (s.x,s.site) (.agg ⟨s.cells⟩)) (s.y,s.site) (.agg ⟨s.cells⟩) e=qAV (A++s::B) e:=by
 unfold qAV qB0;dsimp only;rw [qKj,qLE];have ha:=qHR s e
 by_cases h1:e=(s.x,s.site)
 ·have hs:qAI e s=true:=by rw [ha];simp [h1]
  rw [qIR (λo ho=>h o (List.mem_append_left _ ho)) hs,hs]
  by_cases h2:e=(s.y,s.site)
  ·rw [if_pos h2];rfl
  ·rw [if_neg h2,if_pos h1];rfl
 ·by_cases h2:e=(s.y,s.site)
  ·have hs:qAI e s=true:=by rw [ha];simp [h2]
   rw [qIR (λo ho=>h o (List.mem_append_left _ ho)) hs,hs,if_pos h2];rfl
  ·have hs:qAI e s=false:=by rw [ha];simp [h1,h2]
   rw [if_neg h2,if_neg h1,hs];rfl
theorem qMy {A B:List qE} {s:qE} (h:∀o∈A++B,jC o s=false) (e:qQ × ByteArray):qCL (qCL (qAV (A++s::B)) (s.x,s.site)) (s.y,s.site) e=qAV (A++B) e:=by
 unfold qAV qCL;dsimp only;rw [qKj,qLE];have ha:=qHR s e;have hn:qAI e s=true→(A.find? (qAI e)).or (B.find? (qAI e))=none:=λhs=>by
  rw [qIR (λo ho=>h o (List.mem_append_left _ ho)) hs,qIR (λo ho=>h o (List.mem_append_right _ ho)) hs];rfl
 by_cases h1:e=(s.x,s.site)
 ·have hs:qAI e s=true:=by rw [ha];simp [h1]
  rw [hn hs]
  by_cases h2:e=(s.y,s.site)
  ·rw [if_pos h2];rfl
  ·rw [if_neg h2,if_pos h1];rfl
 ·by_cases h2:e=(s.y,s.site)
  ·have hs:qAI e s=true:=by rw [ha];simp [h2]
   rw [hn hs,if_pos h2];rfl
  ·have hs:qAI e s=false:=by rw [ha];simp [h1,h2]
   rw [if_neg h2,if_neg h1,hs];rfl
theorem qL9 {X:List qE} {s:qE}:(X.any λo=>jC o s)=((zD X s.x s.site).isSome || (zD X s.y s.site).isSome):=by
 have key:∀o,jC o s=(qAI (s.x,s.site) o || qAI (s.y,s.site) o):=λo=>by
  unfold jC qAI;rw [Bool.eq_iff_iff,decide_eq_true_eq,Bool.or_eq_true,decide_eq_true_eq,decide_eq_true_eq]
  constructor
  ·rintro⟨h1,h2|h2|h2|h2⟩
   ·exact .inl ⟨h1,.inl h2⟩
   ·exact .inr ⟨h1,.inl h2⟩
   ·exact .inl ⟨h1,.inr h2⟩
   ·exact .inr ⟨h1,.inr h2⟩
  ·rintro (⟨h1,h2|h2⟩|⟨h1,h2|h2⟩)
   ·exact⟨h1,.inl h2⟩
   ·exact⟨h1,.inr (.inr (.inl h2))⟩
   ·exact⟨h1,.inr (.inl h2)⟩
   ·exact⟨h1,.inr (.inr (.inr h2))⟩
 have hf:∀e:qQ × ByteArray,(zD X e.1 e.2).isSome=X.any (qAI e):=λe=>by
  show(X.find? (qAI e)).isSome=_
  rw [Bool.eq_iff_iff,List.find?_isSome,List.any_eq_true]
 rw [show(zD X s.x s.site).isSome=X.any (qAI (s.x,s.site)) from hf (s.x,s.site),show(zD X s.y s.site).isSome=X.any (qAI (s.y,s.site)) from hf (s.y,s.site)];clear hf
 induction X with
 | nil=>rfl
 | cons o X ih=>rw [List.any_cons,List.any_cons,List.any_cons,ih,key o];cases qAI (s.x,s.site) o <;> cases qAI (s.y,s.site) o <;> simp
end Go.Proofs.YtbgnlfgkgklkdaaGreatDoor
