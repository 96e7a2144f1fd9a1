/- Parts of the proof of ScriptsAnswered: SsE, SsF, SsT, StV, StU, SuD. No condition. -/
import Derived.Test.YtbgnlfgkgklkdaaGreatDoorZ32
import Derived.Test.YtbgnlfgkgklkdaaGreatDoorZ35
import Derived.Test.YtbgnlfgkgklkdaaGreatDoorZ39
set_option linter.unusedVariables false
set_option linter.unusedSimpArgs false
set_option maxHeartbeats 8000000
set_option maxRecDepth 100000
namespace Go.Proofs.YtbgnlfgkgklkdaaGreatDoor
open Go Go.RowKit Tryz
theorem qCk {W:List ByteArray} {m:Nat} (hs:∀x∈W,x.size≤m) (i:Nat):(wd W i).size≤m:=by
 unfold wd
 cases h:W[i]? with
 | none=>exact Nat.zero_le _
 | some x=>exact hs x (List.mem_of_getElem? h)
theorem qEn {most:Nat} {W:List ByteArray} {i:Nat} {n:Int} (hm:most≤17) (h:qAW most W i=some n):(Lit.int .i64 n).wf=true:=by
 have h1:=(qGF h).2;have h2:10 ^ most≤10 ^ 17:=Nat.pow_le_pow_right oM hm;exact WalkArith.wf_i64 oM
theorem qIa {most:Nat} {W:List ByteArray} {e:qD} (hm:most≤17) (hs:∀x∈W,x.size≤1000000) (h:qX most W=some e):qB2 e:=by
 have hz:∀i,(wd W i).size≤maxLen:=λi=>Nat.le_trans (qCk hs i) (by unfold maxLen;omega)
 have h0:eS.size≤maxLen:=Nat.zero_le _;have hw0:(Lit.int .i64 0).wf=true:=WalkArith.wf_i64 oM;have hS0:qDz qAi:=⟨h0,⟨h0,hw0⟩,⟨h0,hw0⟩⟩;unfold qX at h
 split at h
 ·split at h
  ·obtain rfl:=Option.some.inj h;exact⟨h0,h0,h0,hS0⟩
  ·cases h
 ·split at h
  ·split at h
   ·obtain⟨n,hn,h⟩:=Option.bind_eq_some_iff.1 h;obtain⟨m,hm,rfl⟩:=Option.map_eq_some_iff.1 h;exact⟨hz 1,hz 2,hz 3,hS0⟩
   ·cases h
  ·split at h
   ·split at h
    ·obtain⟨n,hn,h⟩:=Option.bind_eq_some_iff.1 h;obtain⟨m,hm',h⟩:=Option.bind_eq_some_iff.1 h;obtain⟨o,ho,rfl⟩:=Option.map_eq_some_iff.1 h;exact⟨h0,h0,h0,hz 1,⟨hz 2,qEn hm hn⟩,⟨hz 4,qEn hm hm'⟩⟩
    ·cases h
   ·split at h
    ·split at h
     ·obtain⟨n,hn,h⟩:=Option.bind_eq_some_iff.1 h;obtain⟨m,hm',rfl⟩:=Option.map_eq_some_iff.1 h;exact⟨h0,h0,h0,hz 1,⟨hz 2,qEn hm hn⟩,⟨hz 4,qEn hm hm'⟩⟩
     ·cases h
    ·split at h
     ·split at h
      ·obtain rfl:=Option.some.inj h;exact⟨hz 1,h0,h0,hS0⟩
      ·cases h
     ·cases h
theorem qNF {E:List qD} {at_:Int} {team:ByteArray} {e:qD} (hE:∀y∈E,qB2 y) (he:qB2 e):∀y∈(qAC E at_ team e).2,qB2 y:=by
 unfold qAC
 split
 ·exact hE
 ·split
  ·exact hE
  ·intro y hy
   rcases qE8.1 hy with h|rfl
   ·exact hE y h
   ·exact he
theorem qQ8 {E:List qD} {at_:Int} {W:List ByteArray} (hE:∀y∈E,qB2 y) (hs:∀x∈W,x.size≤1000000):∀y∈(zR E at_ W).2.1,qB2 y:=by
 unfold zR
 split
 ·split
  ·exact hE
  ·split
   ·exact hE
   ·split
    ·exact hE
    ·exact hE
 ·split
  ·split
   ·exact hE
   ·rename_i hr
    exact qNF hE (qIa oM (λx hx=>hs x (List.mem_of_mem_drop hx)) hr)
  ·split
   ·split
    ·exact hE
    ·exact hE
   ·split
    ·exact hE
    ·split
     ·exact hE
     ·exact hE
theorem qLg (p:Pl) (f:qQ) (site:ByteArray):qBa p f site=if qDb p f site≠0 then (qDb p f site,[]) else (0,(qB9 p.C p.X (f,site)).flatMap qCQ++okT):=by
 unfold qBa qDb qDS
 cases qAQ p.S site <;> cases jX p.C f <;> cases qAA p.C f site <;> cases (zD p.X f site).isSome <;> simp
def qND (h:Hop):Prop:=h.fib.cable.size≤1000000∧(Lit.int .i64 h.fib.no).wf=true∧h.fr.size≤1000000∧h.tw.size≤1000000
theorem qGb {k:ByteArray} (h:qL k=true):k.size≤1000000:=by
 rcases Nat.lt_or_ge 40 k.size with h1|h1
 ·rw [qKw k h1] at h;cases h
 ·omega
theorem qQd {p:Pl} (h:jS p) (f:qQ) (k:ByteArray):(zW p.C f k).size≤1000000:=by
 unfold zW
 cases hg:qY p.C f.cable with
 | none=>exact Nat.zero_le _
 | some c =>
  obtain⟨h1,_⟩:=qDw hg;obtain⟨q1,q2,_⟩:=qEa (h.c2 c h1);simp only
  split
  ·exact qGb (qCh h q2)
  ·exact qGb (qCh h q1)
theorem qNw {p:Pl} (h:jS p) {f:qQ} (hf:jX p.C f=true):f.cable.size≤1000000:=by
 obtain⟨c,hc⟩:=qCG hf;exact qGb (qFc h hc).1
theorem qGV {p:Pl} (hp:jS p):∀(n:Nat) (e:qQ × ByteArray),e.1.cable.size≤1000000→(Lit.int .i64 e.1.no).wf=true→e.2.size≤1000000→∀h∈qEw p.C p.X n e,qND h
 | 0,e,_,_,_,h,hh=>by cases hh
 | n+1,e,hk,hw,hs,h,hh=>by
  unfold qEw at hh
  rcases List.mem_cons.1 hh with rfl|hh
  ·exact⟨hk,hw,hs,qQd hp _ _⟩
  ·split at hh
   ·cases hh
   ·rename_i e' he
    obtain⟨s,q1,q2,q3,q4,q5,_,_⟩:=qEM hp he;have hsk:=qEH hp q2;obtain⟨z1,z2,z3,_⟩:=qDY (hp.x2 s q2)
    rcases q5 with⟨_,r⟩|⟨_,r⟩
    ·exact qGV hp n e' (by rw [r];exact qNw hp z3) (by rw [r];exact hsk.2.2.2) (by rw [q4];exact qGb (qCh hp z1)) h hh
    ·exact qGV hp n e' (by rw [r];exact qNw hp z2) (by rw [r];exact hsk.2.1.2) (by rw [q4];exact qGb (qCh hp z1)) h hh
theorem qG2 {p:Pl} (hp:jS p) {f:qQ} {site:ByteArray} (hk:f.cable.size≤1000000) (hw:(Lit.int .i64 f.no).wf=true) (hs:site.size≤1000000):∀h∈qB9 p.C p.X (f,site),qND h:=qGV hp _ _ hk hw hs
theorem qKs {C:List qG} {X:List qE}:∀(n:Nat) (e:qQ × ByteArray),(qEw C X n e).length≤n
 | 0,e=>by simp [qEw]
 | n+1,e=>by
  unfold qEw;rw [List.length_cons]
  split
  ·simp
  ·have:=qKs (C:=C) (X:=X) n ‹_›;omega
theorem qHp {C:List qG} {X:List qE} (e:qQ × ByteArray):(qB9 C X e).length≤X.length+1:=qKs _ _
theorem qIH {n:Int} (h:(Lit.int .i64 n).wf=true) : -9223372036854775808≤n∧n≤9223372036854775807:=by
 simp [Lit.wf,IntKind.min,IntKind.max,IntKind.signed,IntKind.bits] at h;omega
theorem qCu {n:Int} (h:(Lit.int .i64 n).wf=true):(Lib.itoa n).length≤20:=by
 have h1:=qIH h;exact(qHM (qEz (most:=19) oM oM)).1
theorem qGm (c:UInt8):∀s:List UInt8,(qB4 c s).length=s.count c+1
 | []=>rfl
 | x::r=>by
  have ih:=qGm c r;unfold qB4
  split
  ·rename_i h;subst h;rw [List.length_cons,ih,List.count_cons_self]
  ·rename_i h
   rw [List.count_cons_of_ne h]
   cases hr:qB4 c r with
   | nil=>exact absurd hr (qKF c r)
   | cons g t=>rw [hr] at ih;simpa using ih
theorem qL3 (s:ByteArray):(qBI s).length≤s.data.toList.count 10+1:=by
 unfold qBI;refine Nat.le_trans (List.length_filter_le _ _) ?_;unfold qAb;rw [List.length_map,qGm];exact Nat.le_refl _
theorem qPG:∀xs:List (List UInt8),(∀x∈xs,(10:UInt8) ∉ x)→(Lib.join xs [10]).count 10≤xs.length
 | [],_=>by simp [Lib.join]
 | x::r,h=>by
  have h0:x.count 10=0:=List.count_eq_zero.2 (h x sI);have key:∀t:List (List UInt8),(∀x∈t,(10:UInt8) ∉ x)→(Lib.joinTail [10] t).count 10=t.length:=by
   intro t
   induction t with
   | nil=>intro _;rfl
   | cons y t ih =>
    intro ht;have hy:y.count 10=0:=List.count_eq_zero.2 (ht y sI);have:=ih (λx hx=>ht x (by simp [hx]));unfold Lib.joinTail at this ⊢;simp only [List.map_cons,List.flatten_cons,List.count_append,List.length_cons] at this ⊢;rw [this,hy];simp;omega
  rw [Lib.join_cons,List.count_append,h0,key r (λx hx=>h x (by simp [hx]))];simp
theorem qFH (c:UInt8):∀xs:List (List UInt8),qEv c xs=Lib.join xs [c]
 | []=>rfl
 | [x]=>(Lib.join_one x [c]).symm
 | x::y::t=>by rw [qEv,qFH c (y::t),Lib.join_cons,Lib.join_cons];simp [Lib.joinTail]
theorem qMW (m:Nat):∀xs:List (List UInt8),(∀x∈xs,x.length≤m)→(Lib.join xs [32]).length≤xs.length*(m+1)
 | [],_=>by simp [Lib.join]
 | x::r,h=>by
  have h0:=h x sI;have key:∀t:List (List UInt8),(∀x∈t,x.length≤m)→(Lib.joinTail [32] t).length≤t.length*(m+1):=by
   intro t
   induction t with
   | nil=>intro _;simp [Lib.joinTail]
   | cons y t ih =>
    intro ht;have hy:=ht y sI;have:=ih (λx hx=>ht x (by simp [hx]));unfold Lib.joinTail at this ⊢;simp only [List.map_cons,List.flatten_cons,List.length_append,List.length_cons,List.length_nil,Nat.succ_mul] at this ⊢;omega
  have:=key r (λx hx=>h x (by simp [hx]));rw [Lib.join_cons,List.length_append,List.length_cons,Nat.succ_mul];omega
theorem qNH {s x:ByteArray} (hx:x∈qBI s):x.size≤s.size:=qBp (List.mem_filter.1 hx).1
def qCT (L:List qD) (n:Nat):List (Nat × Int):=(List.range n).filterMap λi=>(qBl (qBw L) i).map λf=>(i,f)
theorem qPy (L:List qD) (n:Nat):qCT L (n+1)=qCT L n++(match qBl (qBw L) n with|some f=>[(n,f)]|none=>[]):=by
 unfold qCT;rw [List.range_succ,List.filterMap_append]
 congr 1
 cases h:qBl (qBw L) n <;> simp [h]
theorem qIg {L:List qD} {n:Nat} {q:Nat × Int}:q∈qCT L n↔q.1<n∧qBl (qBw L) q.1=some q.2:=by
 unfold qCT;rw [List.mem_filterMap]
 constructor
 ·rintro⟨i,hi,h⟩;obtain⟨f,hf,rfl⟩:=Option.map_eq_some_iff.1 h;exact⟨List.mem_range.1 hi,hf⟩
 ·rintro⟨h1,h2⟩;exact⟨q.1,List.mem_range.2 h1,by rw [h2];rfl⟩
theorem qRW {L:List qD} (h:qAD qP L) {i j:Nat} (hi:i<L.length) (hj:j<L.length) (h0:qP L[i] L[j]=0):i=j:=by
 rcases Nat.lt_trichotomy i j with hl|rfl|hl
 ·have:=List.pairwise_iff_getElem.1 h i j hi hj hl;omega
 ·rfl
 ·have:=List.pairwise_iff_getElem.1 h j i hj hi hl;have:=qB6.zero h0;omega
theorem qTG {L:List qD} {x:qD} (h:qAD qP L) (hx:x∈L) {q:Nat × Int} (hq:q∈qCT L L.length) (h0:qP (zZ L q.1) x=0):qBl (qBw L) (L.idxOf x)=some q.2:=by
 obtain⟨h1,h2⟩:=qIg.1 hq;have hi:=List.idxOf_lt_length_of_mem hx;rw [qBV h1,←List.getElem_idxOf hi] at h0;rw [←qRW h h1 hi h0];exact h2
theorem qSd {L:List qD} {x:qD} (hx:x∈L) (h:∀q∈qCT L L.length,qP (zZ L q.1) x≠0):qBl (qBw L) (L.idxOf x)=none:=by
 have hi:=List.idxOf_lt_length_of_mem hx
 cases hr:qBl (qBw L) (L.idxOf x) with
 | none=>rfl
 | some f =>
  refine absurd ?_ (h (L.idxOf x,f) (qIg.2 ⟨hi,hr⟩));rw [qBV hi,List.getElem_idxOf hi];exact qB6.refl x
theorem qP0 {L:List ByteArray} {k:Nat} (hk:k<L.length):(L.take (k+1)).filter (λx=>!decide (x.size=0))=(L.take k).filter (λx=>!decide (x.size=0))++(if L[k].size=0 then [] else [L[k]]):=by
 rw [List.take_succ_eq_append_getElem hk,List.filter_append]
 congr 1
 by_cases h:L[k].size=0
 ·rw [if_pos h,List.filter_cons_of_neg (by simp only [h];decide)];rfl
 ·rw [if_neg h,List.filter_cons_of_pos (by simp only [h];decide)];rfl
theorem qK3:∀(l:List ByteArray) (D:List qD × Int),(∀x∈l,x.size≤1000000)→(∀y∈D.1,qB2 y)→∀y∈(qBB l D).2.1,qB2 y
 | [],D,_,h=>h
 | x::l,D,hs,h=>by
  refine qK3 l (doV D x).2 (λz hz=>hs z (by simp [hz])) ?_;unfold doV
  split
  ·exact h
  ·exact qQ8 h (λz hz=>Nat.le_trans (qBp hz) (hs x sI))
theorem qOp (p:Pl) (e:qD):0≤(zV p e).1∧(zV p e).1≤12:=by
 unfold zV qA4 jP jA
 repeat' split
 all_goals (dsimp only;omega)
theorem qI6 (l:List qD):∀L:List Nat,∀q∈(jU l L).2,0≤q.2∧q.2≤12:=by
 refine qEK (λq h=>by cases h) λL x ih q hq=>?_
 rw [qEY] at hq
 by_cases h:(zV (jU l L).1 (zZ l x)).1≠0
 ·rw [if_pos h] at hq
  rcases List.mem_append.1 hq with r|r
  ·exact ih q r
  ·rw [List.mem_singleton.1 r];exact qOp _ _
 ·rw [if_neg h] at hq;exact ih q hq
theorem qJa {R:List (Nat × Int)} (h:∀q∈R,0≤q.2∧q.2≤12) {i:Nat} {v:Int} (hv:qBl R i=some v):0≤v∧v≤12:=by
 unfold qBl at hv;obtain⟨q,hq,rfl⟩:=Option.map_eq_some_iff.1 hv;exact h q (List.mem_of_find?_eq_some hq)
theorem qLi (E:List qD) (at_:Int) (team:ByteArray) (e:qD):0≤(qAC E at_ team e).1∧(qAC E at_ team e).1≤12:=by
 unfold qAC
 split
 ·unfold qBm
  repeat' split
  all_goals (dsimp only;omega)
 ·split
  ·rename_i v hv
   exact qJa (qI6 _ _) hv
  ·exact⟨by dsimp only;omega,by dsimp only;omega⟩
theorem qKk (E:List qD) (at_:Int) (W:List ByteArray):0≤(zR E at_ W).1.1∧(zR E at_ W).1.1≤12:=by
 unfold zR
 split
 ·split
  ·exact⟨by dsimp only;omega,by dsimp only;omega⟩
  ·split
   ·exact⟨by dsimp only;omega,by dsimp only;omega⟩
   ·split
    ·exact⟨by dsimp only;omega,by dsimp only;omega⟩
    ·exact⟨by dsimp only;omega,by dsimp only;omega⟩
 ·split
  ·split
   ·exact⟨by dsimp only;omega,by dsimp only;omega⟩
   ·exact qLi _ _ _ _
  ·split
   ·split
    ·exact⟨by dsimp only;omega,by dsimp only;omega⟩
    ·unfold qBa
     repeat' split
     all_goals (exact⟨by dsimp only;omega,by dsimp only;omega⟩)
   ·split
    ·unfold qCA
     split
     ·exact⟨by dsimp only;omega,by dsimp only;omega⟩
     ·exact⟨by dsimp only;omega,by dsimp only;omega⟩
    ·split
     ·exact⟨by dsimp only;omega,by dsimp only;omega⟩
     ·exact⟨by dsimp only;omega,by dsimp only;omega⟩
theorem qS7 {L:List ByteArray}:(L.any λx=>qDO ⟨#[]⟩ x)=L.any λx=>decide (x.size=0):=by
 congr 1
 funext x
 rw [Bool.eq_iff_iff,qR8,decide_eq_true_eq]
 constructor
 ·rintro rfl;rfl
 ·intro h;obtain⟨d⟩:=x;have:d=#[]:=by
   have h2:d.size=0:=h;exact Array.eq_empty_of_size_eq_zero h2
  rw [this]
theorem qEA {w:World} {b:Nat} {L:List ByteArray} {t:TypeId} (h:qC w b (L.map Value.string).toArray t) (hL:L.length≤maxLen):qI strCells 1 w L (.slice (some ⟨b,0,none⟩) L.length L.length) :=
 ⟨_,_,rfl,Nat.le_refl _,hL,λk hk=>⟨b,0,rfl,h.lt,λj u hu=>by
  match j,hu with
  | 0,hu =>
   obtain rfl:Value.string L[k]=u:=by simpa [strCells] using hu
   have:=qCF h k hk
   simpa using this
  | j+1,hu=>simp [strCells] at hu⟩⟩
theorem qBS (c:UInt8) (s:ByteArray):0<(qAb c s).length∧(qAb c s).length≤s.size+1:=by
 unfold qAb;rw [List.length_map];have h1:=qIk c s.data.toList;have h2:s.data.toList.length=s.size:=(Lib.size_eq s).symm;have h3:=qGm c s.data.toList;omega
theorem qF4 {W:List ByteArray} {i:Nat} {n:Int} (h:qAW 12 W i=some n) : -1000000000000≤n∧n≤1000000000000:=by
 have h1:=(qGF h).2;omega
theorem qKH:jF qAi:=⟨⟨by decide,by decide⟩,⟨by decide,by decide⟩⟩
theorem qMG {W:List ByteArray} {e:qD} (h:qX 12 W=some e):jF e.spc:=by
 unfold qX at h
 split at h
 ·split at h
  ·obtain rfl:=Option.some.inj h;exact qKH
  ·cases h
 ·split at h
  ·split at h
   ·obtain⟨n,hn,h⟩:=Option.bind_eq_some_iff.1 h;obtain⟨m,hm,rfl⟩:=Option.map_eq_some_iff.1 h;exact qKH
   ·cases h
  ·split at h
   ·split at h
    ·obtain⟨n,hn,h⟩:=Option.bind_eq_some_iff.1 h;obtain⟨m,hm',h⟩:=Option.bind_eq_some_iff.1 h;obtain⟨o,ho,rfl⟩:=Option.map_eq_some_iff.1 h;exact⟨qF4 hn,qF4 hm'⟩
    ·cases h
   ·split at h
    ·split at h
     ·obtain⟨n,hn,h⟩:=Option.bind_eq_some_iff.1 h;obtain⟨m,hm',rfl⟩:=Option.map_eq_some_iff.1 h;exact⟨qF4 hn,qF4 hm'⟩
     ·cases h
    ·split at h
     ·split at h
      ·obtain rfl:=Option.some.inj h;exact qKH
      ·cases h
     ·cases h
theorem qSh {E:List qD} {at_:Int} {team:ByteArray} {e:qD} (hE:∀y∈E,jF y.spc) (he:jF e.spc):∀y∈(qAC E at_ team e).2,jF y.spc:=by
 have hn:jF (qA7 E at_ team e).spc:=he;unfold qAC
 split
 ·exact hE
 ·split
  ·exact hE
  ·intro y hy
   rcases qE8.1 hy with h|rfl
   ·exact hE y h
   ·exact hn
theorem qTl {E:List qD} {at_:Int} {W:List ByteArray} (hE:∀y∈E,jF y.spc):∀y∈(zR E at_ W).2.1,jF y.spc:=by
 unfold zR
 split
 ·split
  ·exact hE
  ·split
   ·exact hE
   ·split
    ·exact hE
    ·exact hE
 ·split
  ·split
   ·exact hE
   ·rename_i x hx
    exact qSh hE (qMG hx)
  ·split
   ·split
    ·exact hE
    ·exact hE
   ·split
    ·exact hE
    ·split
     ·exact hE
     ·exact hE
theorem qPm:∀(l:List ByteArray) (D:List qD × Int),(∀y∈D.1,jF y.spc)→∀y∈(qBB l D).2.1,jF y.spc
 | [],D,h=>h
 | x::l,D,h=>by
  have h1:∀y∈(doV D x).2.1,jF y.spc:=by
   unfold doV
   split
   ·exact h
   ·exact qTl h
  exact qPm l (doV D x).2 h1
theorem qLR (x:ByteArray) (w:World):Calls prog 31 #[.string x] w λe w'=>e=.returned (.bool (decide (x.size=0)))∧w=w':=by
 by_cases h:x.size=0
 ·have q:(x.toList==([]:List UInt8))=true:=by rw [beq_iff_eq,ByteArray.toList_eq];exact List.length_eq_zero_iff.1 (by rw [←Lib.size_eq];exact h)
  have HV:Hx (decide (x.size=0)=true):=mH (by simpa using h);clear h;go_enter func31,ntmps31;go_wp2;go_ret;exact⟨qU HV.o.symm,rfl⟩
 ·have q:(x.toList==([]:List UInt8))=false:=by
   rw [beq_eq_false_iff_ne,ByteArray.toList_eq];intro e;exact h (by rw [Lib.size_eq,e];rfl)
  have HV:Hx (decide (x.size=0)=false):=mH (by simpa using h);clear h;go_enter func31,ntmps31;go_wp2;go_ret;exact⟨qU HV.o.symm,rfl⟩
def qHo:List ByteArray:=[⟨#[]⟩,⟨#[111,102,102,105,99,101]⟩,⟨#[99,108,111,115,117,114,101]⟩,⟨#[99,97,98,105,110,101,116]⟩,⟨#[99,117,115,116,111,109,101,114]⟩]
theorem qO1 (w:World):Calls prog 98 #[] w λe w'=>e=.returned (.slice (some ⟨w.heap.size,0,none⟩) 5 5)∧w'=w.alloc (.cells (qHo.map Value.string).toArray 9):=by
 go_enter func98,ntmps98;go_wp2;go_ret;exact⟨rfl,rfl⟩
def qBx (cb:Nat) (r:List UInt8 × List qD × Int) (w:World) (x:Ending) (w':World):Prop :=
 ∃v',x=.returned (.string (bA r.1))∧qC w' cb #[v',.int .i64 r.2.2] 98∧qI qD.cells 17 w' r.2.1 v'∧w.grownBy w' (some cb)∧(w.cell? ⟨cb,0,none⟩=some v'∨∀b off n c,v'=.slice (some ⟨b,off,none⟩) n c→w.heap.size≤b)
theorem qBx.stay {cb:Nat} {E:List qD} {at_:Int} {vE:Value} {w w':World} {t:List UInt8} {s:ByteArray} (hb:qC w cb #[vE,.int .i64 at_] 98) (hA:qI qD.cells 17 w E vE) (hB:Below w.heap.size w w') (hs:s=bA t):qBx cb (t,E,at_) w (.returned (.string s)) w' :=
 ⟨vE,by rw [hs],hb.below hB hb.lt,hA.below hB,qH _ hB,.inl (hb.cell 0 _ rfl)⟩
def WdF (Q:ByteArray) (a b c d e:Bool):Prop:=(Q.toList==[97,116])=a∧(Q.toList==[100,111])=b∧(Q.toList==[112,97,116,104])=c∧(Q.toList==[102,114,101,101])=d∧(Q.toList==[115,112,108,105,99,101,115])=e
theorem qPc {Q:ByteArray} (h:Q=wAt):WdF Q true false false false false :=
 ⟨qBZ (c:=wAt) h rfl,qR (c:=wDo) (by rw [h];decide) rfl,qR (c:=qAp) (by rw [h];decide) rfl,qR (c:=qAn) (by rw [h];decide) rfl,qR (c:=qAo) (by rw [h];decide) rfl⟩
theorem qRT {Q:ByteArray} (h:Q=wDo):WdF Q false true false false false :=
 ⟨qR (c:=wAt) (by rw [h];decide) rfl,qBZ (c:=wDo) h rfl,qR (c:=qAp) (by rw [h];decide) rfl,qR (c:=qAn) (by rw [h];decide) rfl,qR (c:=qAo) (by rw [h];decide) rfl⟩
theorem qMo {Q:ByteArray} (h:Q=qAp):WdF Q false false true false false :=
 ⟨qR (c:=wAt) (by rw [h];decide) rfl,qR (c:=wDo) (by rw [h];decide) rfl,qBZ (c:=qAp) h rfl,qR (c:=qAn) (by rw [h];decide) rfl,qR (c:=qAo) (by rw [h];decide) rfl⟩
theorem qM9 {Q:ByteArray} (h:Q=qAn):WdF Q false false false true false :=
 ⟨qR (c:=wAt) (by rw [h];decide) rfl,qR (c:=wDo) (by rw [h];decide) rfl,qR (c:=qAp) (by rw [h];decide) rfl,qBZ (c:=qAn) h rfl,qR (c:=qAo) (by rw [h];decide) rfl⟩
theorem qMf {Q:ByteArray} (h:Q=qAo):WdF Q false false false false true :=
 ⟨qR (c:=wAt) (by rw [h];decide) rfl,qR (c:=wDo) (by rw [h];decide) rfl,qR (c:=qAp) (by rw [h];decide) rfl,qR (c:=qAn) (by rw [h];decide) rfl,qBZ (c:=qAo) h rfl⟩
theorem qTC (Q:ByteArray):(Q=wAt∧WdF Q true false false false false)∨(Q=wDo∧WdF Q false true false false false)∨(Q=qAp∧WdF Q false false true false false)∨(Q=qAn∧WdF Q false false false true false)∨(Q=qAo∧WdF Q false false false false true)∨(True∧WdF Q false false false false false):=by
 by_cases h1:Q=wAt
 ·exact .inl ⟨h1,qPc h1⟩
 by_cases h2:Q=wDo
 ·exact .inr (.inl ⟨h2,qRT h2⟩)
 by_cases h3:Q=qAp
 ·exact .inr (.inr (.inl ⟨h3,qMo h3⟩))
 by_cases h4:Q=qAn
 ·exact .inr (.inr (.inr (.inl ⟨h4,qM9 h4⟩)))
 by_cases h5:Q=qAo
 ·exact .inr (.inr (.inr (.inr (.inl ⟨h5,qMf h5⟩))))
 exact .inr (.inr (.inr (.inr (.inr ⟨trivial,qR h1 rfl,qR h2 rfl,qR h3 rfl,qR h4 rfl,qR h5 rfl⟩))))
def qUQ (W:List ByteArray):Prop:=¬(wd W 0=wAt∧W.length=2)∧¬(wd W 0=wDo∧2<W.length)∧¬(wd W 0=qAp∧W.length=4)∧¬(wd W 0=qAn∧W.length=2)∧¬(wd W 0=qAo∧W.length=1)
theorem qRy (E:List qD) (at_:Int) (cb:Nat) (vE:Value) (line:ByteArray) (W:List ByteArray) (w:World) (hb:qC w cb #[vE,.int .i64 at_] 98) (hA:qI qD.cells 17 w E vE) (hD:qBR E at_) (hlen:E.length<18) (hSp:∀y∈E,jF y.spc) (hW:qAb 32 line=W) (hh:qDu W=false) (hx:line.size≤200000) (ht:Tab10 w) (hM:MaxL w) (hn:qUQ W):Calls prog 44 #[.pointer (some ⟨cb,0,none⟩),.string line] w (qBx cb (qBu (zR E at_ W).1,(zR E at_ W).2) w):=by
 have hV:zR E at_ W=((9,[]),E,at_):=by unfold zR;rw [if_neg hn.1,if_neg hn.2.1,if_neg hn.2.2.1,if_neg hn.2.2.2.1,if_neg hn.2.2.2.2]
 rw [hV];obtain⟨a,cap,rfl,-⟩:=id hA;have hs:∀x∈W,x.size≤1000000:=λx h=>by rw [←hW] at h;have:=qBp h;omega
 have h0:0<W.length:=by have:=qBS 32 line;rw [hW] at this;omega
 have hW1:W.length≤200001:=by have:=qBS 32 line;rw [hW] at this;omega
 have hcall:=qCv line w oM hM;obtain⟨b,hbe⟩:=eX (w.heap.size);rw [hW,hh,hbe] at hcall;simp only [Bool.not_false] at hcall;have HC0:=mH hcall;have hcb:cb<b:=by have:=hb.lt;omega
 have HBE:=mH hbe;clear hcall hbe;have h0i:(0:Int)<W.length:=by omega
 have HA:=mH (aI hb (aI hA (aI hn (aI h0 ht))));clear hV hb hA hD ht hM hSp hs hW hh hn;have hsix:=qTC (wd W 0);have HQ:=mH hsix;clear hsix;go_enter func44,ntmps44;go_wp2_with fail;refine HC0.o.mono ?_;rintro e w1 ⟨rfl,hw1⟩;have hB1:Below w.heap.size w w1:=by rw [hw1];exact qB bR _ lR
 have hAr:qI strCells 1 w1 W (.slice (some ⟨b,0,none⟩) W.length W.length):=by
  rw [hw1,←HBE.o];exact qEA (qC.new w _ 9) (by unfold maxLen;omega)
 have hbW:b<w1.heap.size:=by rw [hw1,←HBE.o];simp
 have hcell:∀k,k<W.length→w1.cell? ⟨b,k,none⟩=some (.string (wd W k)):=λk hk=>by
  rw [hw1,←HBE.o,qCZ hk];exact qCF (qC.new w _ 9) k hk
 have H1:=mH (aI (hB1:Below w.heap.size w w1) (aI hAr (aI (HA.o.1.below hB1 HA.o.1.lt) (aI (HA.o.2.1.below hB1) (HA.o.2.2.2.2.below hB1)))));clear hw1 hB1 hAr HC0;have d0:=hcell 0 h0;have hq:=HQ.o;clear hcell;obtain⟨l1,hl1⟩:=eX (((W.length:Int)==2));obtain⟨l2,hl2⟩:=eX (decide ((2:Int)<W.length));obtain⟨l3,hl3⟩:=eX (((W.length:Int)==4));obtain⟨l5,hl5⟩:=eX (((W.length:Int)==1));have hbad:(wd W 0=wAt→l1=false)∧(wd W 0=wDo→l2=false)∧(wd W 0=qAp→l3=false)∧(wd W 0=qAn→l1=false)∧(wd W 0=qAo→l5=false):=by
  obtain⟨n1,n2,n3,n4,n5⟩:=HA.o.2.2.1;refine⟨λh=>?_,λh=>?_,λh=>?_,λh=>?_,λh=>?_⟩
  ·rw [←hl1];simp;intro h2;exact n1 ⟨h,by omega⟩
  ·rw [←hl2];simp;have:=mt (λh2=>(⟨h,h2⟩:wd W 0=wDo∧2<W.length)) n2;omega
  ·rw [←hl3];simp;intro h2;exact n3 ⟨h,by omega⟩
  ·rw [←hl1];simp;intro h2;exact n4 ⟨h,by omega⟩
  ·rw [←hl5];simp;intro h2;exact n5 ⟨h,by omega⟩
 generalize wd W 0=Q at hq hbad d0
 rcases hq with⟨hw,q0,q1,q2,q3,q4⟩|⟨hw,q0,q1,q2,q3,q4⟩|⟨hw,q0,q1,q2,q3,q4⟩|⟨hw,q0,q1,q2,q3,q4⟩|⟨hw,q0,q1,q2,q3,q4⟩|⟨hw,q0,q1,q2,q3,q4⟩
 ·obtain rfl:=hbad.1 hw;clear hbad hw hl2 hl3 hl5
  (go_wp2_with fail;refine(jW 9 dE dE w1 H1.o.2.2.2.2).mono ?_;rintro e w3 ⟨rfl,hb3⟩;go_wp2;go_ret;exact qBx.stay HA.o.1 HA.o.2.1 (H1.o.1.trans (hb3.mono H1.o.1.size)) rfl)
 ·obtain rfl:=hbad.2.1 hw;clear hbad hw hl1 hl3 hl5
  (go_wp2_with fail;refine(jW 9 dE dE w1 H1.o.2.2.2.2).mono ?_;rintro e w3 ⟨rfl,hb3⟩;go_wp2;go_ret;exact qBx.stay HA.o.1 HA.o.2.1 (H1.o.1.trans (hb3.mono H1.o.1.size)) rfl)
 ·obtain rfl:=hbad.2.2.1 hw;clear hbad hw hl1 hl2 hl5
  (go_wp2_with fail;refine(jW 9 dE dE w1 H1.o.2.2.2.2).mono ?_;rintro e w3 ⟨rfl,hb3⟩;go_wp2;go_ret;exact qBx.stay HA.o.1 HA.o.2.1 (H1.o.1.trans (hb3.mono H1.o.1.size)) rfl)
 ·obtain rfl:=hbad.2.2.2.1 hw;clear hbad hw hl2 hl3 hl5
  (go_wp2_with fail;refine(jW 9 dE dE w1 H1.o.2.2.2.2).mono ?_;rintro e w3 ⟨rfl,hb3⟩;go_wp2;go_ret;exact qBx.stay HA.o.1 HA.o.2.1 (H1.o.1.trans (hb3.mono H1.o.1.size)) rfl)
 ·obtain rfl:=hbad.2.2.2.2 hw;clear hbad hw hl1 hl2 hl3
  (go_wp2_with fail;refine(jW 9 dE dE w1 H1.o.2.2.2.2).mono ?_;rintro e w3 ⟨rfl,hb3⟩;go_wp2;go_ret;exact qBx.stay HA.o.1 HA.o.2.1 (H1.o.1.trans (hb3.mono H1.o.1.size)) rfl)
 ·clear hbad hw hl1 hl2 hl3 hl5
  (go_wp2_with fail;refine(jW 9 dE dE w1 H1.o.2.2.2.2).mono ?_;rintro e w3 ⟨rfl,hb3⟩;go_wp2;go_ret;exact qBx.stay HA.o.1 HA.o.2.1 (H1.o.1.trans (hb3.mono H1.o.1.size)) rfl)
theorem qRX (E:List qD) (at_:Int) (cb:Nat) (vE:Value) (line:ByteArray) (W:List ByteArray) (w:World) (hb:qC w cb #[vE,.int .i64 at_] 98) (hA:qI qD.cells 17 w E vE) (hW:qAb 32 line=W) (hh:qDu W=true) (hx:line.size≤200000) (ht:Tab10 w) (hM:MaxL w) :
  Calls prog 44 #[.pointer (some ⟨cb,0,none⟩),.string line] w (qBx cb (qD6 9,(E,at_)) w):=by
 obtain⟨a,cap,rfl,-⟩:=id hA;have hcall:=qCv line w oM hM;rw [hW,hh] at hcall;simp only [Bool.not_true] at hcall;have HA:=mH (aI hb (aI hA ht));clear hb hA ht hM hW hh;go_enter func44,ntmps44;go_wp2_with fail;refine hcall.mono ?_;clear hcall;rintro e w1 ⟨rfl,hw1⟩;have hB1:Below w.heap.size w w1:=by rw [hw1];exact qB bR _ lR
 have H1:=mH hB1;clear hw1 hB1;go_wp2_with fail;refine(jW 9 dE dE w1 (HA.o.2.2.below H1.o)).mono ?_;rintro e w3 ⟨rfl,hb3⟩;go_wp2;go_ret;exact qBx.stay HA.o.1 HA.o.2.1 (H1.o.trans (hb3.mono H1.o.size)) rfl
end Go.Proofs.YtbgnlfgkgklkdaaGreatDoor
