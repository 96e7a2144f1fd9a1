/- Parts of the proof of ScriptsAnswered: OrdN, Rely. No condition. -/
import Derived.Test.YtbgnlfgkgklkdaaGreatDoorZ4
import Derived.Test.YtbgnlfgkgklkdaaGreatDoorZ0
set_option linter.unusedVariables false
set_option linter.unusedSimpArgs false
set_option maxHeartbeats 8000000
set_option maxRecDepth 100000
namespace Go.Proofs.YtbgnlfgkgklkdaaGreatDoor
open Go
section
variable {P : Program} {ops : Array Oper} {Q : Exit → Act → World → Prop} {md : Region.Mode} {S : World → Prop} {T : List Nat}
end
def qMT (u:Nat→Value) (i:Nat) (v:Value):Nat→Value:=λj=>if j=i then v else u j
theorem qK7 (u:Nat→Value) (i:Nat) (v:Value):qMT u i v i=v:=by simp [qMT]
theorem qKC (u:Nat→Value) {i j:Nat} (v:Value) (h:j≠i):qMT u i v j=u j:=by simp [qMT,h]
def zY:List Oper→Nat→(Nat→Value)→Act→Act
 | [],_,_,a=>a
 | o::r,k,u,a=>zY r (k+1) u (a.put o.dst (u k))
def qAk (l:List Oper):List Tmp:=l.filterMap (·.dst)
theorem qHc:∀(l:List Oper) (k:Nat) (u u':Nat→Value) (a:Act),(∀j,k≤j→u j=u' j)→zY l k u a=zY l k u' a
 | [],_,_,_,_,_=>rfl
 | o::r,k,u,u',a,h=>by
  unfold zY;rw [h k lR];exact qHc r (k+1) u u' _ (λj hj=>h j oM)
theorem qJX:∀(l:List Oper) (k:Nat) (u:Nat→Value) (a:Act) (x:Option Tmp) (v:Value),(∀d,x=some d→d ∉ qAk l)→(zY l k u a).put x v=zY l k u (a.put x v)
 | [],_,_,_,_,_,_=>rfl
 | o::r,k,u,a,x,v,h=>by
  unfold zY;rw [qJX r (k+1) u _ x v (λd hd hm=>h d hd (by unfold qAk at *;rw [List.filterMap_cons];split <;> simp_all))]
  congr 1
  refine Act.put_comm a _ _ (λd hd hx=>?_);refine h d hx ?_;unfold qAk;rw [List.filterMap_cons];simp [hd]
theorem qTJ (a:Act) (x:Option Tmp) (v v':Value):(a.put x v).put x v'=a.put x v':=by
 cases x with
 | none=>rfl
 | some d=>simp [Act.put]
theorem qJp:∀(l:List Oper) (k i:Nat) (o:Oper) (u:Nat→Value) (a:Act) (v:Value),(qAk l).Nodup→l[i]? = some o→(zY l k u a).put o.dst v=zY l k (qMT u (k+i) v) a
 | [],_,_,_,_,_,_,_,h=>by simp at h
 | o'::r,k,0,o,u,a,v,hn,h=>by
  simp only [List.getElem?_cons_zero,Option.some.injEq] at h;subst h;unfold zY;rw [qJX _ _ _ _ _ _ ?_,qTJ];simp only [Nat.add_zero,qK7]
  ·exact qHc _ _ _ _ _ (λj hj=>(qKC u v oM).symm)
  ·intro d hd hm;unfold qAk at hn hm;rw [List.filterMap_cons,hd] at hn;exact(List.nodup_cons.1 hn).1 hm
 | o'::r,k,i+1,o,u,a,v,hn,h=>by
  rw [List.getElem?_cons_succ] at h;unfold zY;rw [qKC u v oM,show k+(i+1)=k+1+i by omega];refine qJp r (k+1) i o u _ v ?_ h;unfold qAk at hn ⊢;rw [List.filterMap_cons] at hn
  split at hn
  ·exact hn
  ·exact(List.nodup_cons.1 hn).2
theorem qRp (a:Act) (x:Option Tmp):a.put x ((x.map λd=>a.tmps.getD d undef).getD undef)=a:=by
 cases x with
 | none=>rfl
 | some d =>
  obtain⟨t,ds⟩:=a;simp only [Act.put,Option.map_some,Option.getD_some,Act.mk.injEq,and_true]
  apply Array.ext
  ·simp
  ·intro i h1 h2
   by_cases hd:d=i
   ·subst hd;have:d<t.size:=h2;simp [Array.getD,this]
   ·rw [Array.getElem_setIfInBounds_ne h2 hd]
def qL6 (ops:List Oper) (a:Act):Nat→Value:=λi=>(((ops[i]?).bind (·.dst)).map λd=>a.tmps.getD d undef).getD undef
theorem qHk:∀(l:List Oper) (k:Nat) (u:Nat→Value) (a:Act),(∀i,i<l.length→u (k+i)=qL6 l a i)→zY l k u a=a
 | [],_,_,_,_=>rfl
 | o::r,k,u,a,h=>by
  unfold zY;have h0:=h 0 sI;have e:a.put o.dst (u k)=a:=by
   rw [Nat.add_zero] at h0;rw [h0];exact qRp a o.dst
  rw [e];refine qHk r (k+1) u a (λi hi=>?_);have h1:=h (i+1) (by simpa using hi);rw [show k+1+i=k+(i+1) by omega,h1];simp [qL6]
def qGd (md:Region.Mode) (ops:Array Oper):Bool:=(List.range ops.size).all λi=>((ops[i]?).map λo=>o.after.all λe=>!Region.binds md e || decide (e.on<i)).getD true
def qLW (md:Region.Mode) (ops:Array Oper) (T:List Nat):Bool:=(List.range ops.size).all λi=>T.contains i || T.all λj=>qIC md ops 12 j i
def qCP (ops:Array Oper) (T:List Nat):Array Bool:=((List.range ops.size).map λi=>!T.contains i).toArray
def qCj (n:Nat) (listed:Array Bool):Nat:=((List.range n).filter λi=>!listed.getD i true).length
theorem qLJ (p q:Nat→Bool):∀l:List Nat,(∀x∈l,q x=true→p x=true)→(l.filter q).length≤(l.filter p).length
 | [],_=>Nat.le_refl _
 | x::l,h=>by
  have ih:=qLJ p q l (λy hy=>h y (by simp [hy]));have hx:=h x sI;rw [List.filter_cons,List.filter_cons]
  cases hq:q x
  ·simp only [Bool.false_eq_true,if_false]
   split
   ·simp only [List.length_cons];omega
   ·exact ih
  ·rw [hx hq];simp only [if_true,List.length_cons];omega
theorem qKg (p q:Nat→Bool) (i:Nat) (hp:p i=true) (hq:q i=false):∀l:List Nat,(∀x∈l,q x=true→p x=true)→i∈l→(l.filter q).length<(l.filter p).length
 | [],_,h=>by cases h
 | x::l,h,hi=>by
  have h':∀y∈l,q y=true→p y=true:=λy hy=>h y (by simp [hy])
  rw [List.filter_cons,List.filter_cons]
  by_cases hx:x=i
  ·subst hx;have:=qLJ p q l h';simp only [hq,hp,Bool.false_eq_true,if_false,if_true,List.length_cons];omega
  ·have ih:=qKg p q i hp hq l h' ((List.mem_cons.1 hi).resolve_left λh=>hx h.symm);have hx2:=h x sI
   cases hqx:q x
   ·simp only [Bool.false_eq_true,if_false]
    split
    ·simp only [List.length_cons];omega
    ·exact ih
   ·rw [hx2 hqx];simp only [if_true,List.length_cons];omega
theorem qGz {n i:Nat} {listed:Array Bool} (hi:i<n) (hu:listed.getD i true=false):qCj n (listed.setIfInBounds i true)<qCj n listed:=by
 unfold qCj;refine qKg _ _ i (by simp [hu]) ?_ _ ?_ (by simpa using hi)
 ·have:i<listed.size:=by
   rcases Nat.lt_or_ge i listed.size with h|h
   ·exact h
   ·simp [Array.getD,Nat.not_lt.2 h] at hu
  simp [Array.getD,this]
 ·intro x _ hx
  by_cases hxi:i=x
  ·subst hxi;simp [hu]
  ·rw [getD_set_ne true hxi] at hx;exact hx
section
variable {P : Program} {ops : Array Oper} {Q : Exit → Act → World → Prop} {md : Region.Mode}
theorem qMV {n:Nat} {listed:Array Bool} (hr:qGd md ops=true) (hn:listed.size=ops.size):∀i,i<ops.size→listed.getD i true=false→Region.ready md ops listed≠[]:=by
 intro i
 induction i using Nat.strongRecOn with
 | _ i ih =>
  intro hi hu;have h1:=List.all_eq_true.1 hr i (by simpa using hi);have ho:ops[i]? = some ops[i]:=Array.getElem?_eq_getElem hi;rw [ho] at h1;simp only [Option.map_some,Option.getD_some] at h1
  by_cases hall:∀e∈ops[i].after,Region.binds md e=true→listed.getD e.on false=true
  ·intro h0;have hm:i∈Region.ready md ops listed:=mem_ready.2 ⟨hu,_,ho,hall⟩;rw [h0] at hm;cases hm
  ·have ⟨e,he⟩:=Classical.not_forall.1 hall;have ⟨hem,he2⟩:=Classical.not_imp.1 he;have ⟨heb,hel⟩:=Classical.not_imp.1 he2;have h2:=Array.all_eq_true'.1 h1 e hem;simp only [heb,Bool.not_true,Bool.false_or,decide_eq_true_eq] at h2;refine ih e.on h2 oM ?_;have hlt:e.on<listed.size:=by rw [hn];omega
   simp only [Array.getD,hlt,dif_pos] at hel ⊢
   simpa using hel
theorem qHU:∀(n f:Nat) (listed:Array Bool) (a:Act) (w:World),n≤f→wpAny P md ops Q n listed a w→wpAny P md ops Q f listed a w
 | 0,0,_,_,_,_,h=>h
 | 0,f+1,_,_,_,_,h=>⟨λ_=>h.2,λi hi=>by rw [h.1] at hi;cases hi⟩
 | n+1,f+1,_,_,_,hn,h=>⟨h.1,λi hi=>wpOp_mono (λa' w' h'=>qHU n f _ a' w' oM h') (h.2 i hi)⟩
 | n+1,0,_,_,_,hn,_=>by omega
theorem qKQ {listed:Array Bool} {n i:Nat} (hn:listed.size=n) (hi:i<n) (d d':Bool):listed.getD i d=listed.getD i d':=by
 have:i<listed.size:=by omega
 simp [Array.getD,this]
theorem qNo {listed:Array Bool} {T:List Nat} (hn:listed.size=ops.size) (hT:∀j∈T,listed.getD j false=false) (hall:∀i,i<ops.size→T.contains i=false→listed.getD i false=true):listed=qCP ops T:=by
 apply Array.ext
 ·simp [qCP,hn]
 ·intro i h1 h2;have hi:i<ops.size:=by omega
  simp only [qCP,List.getElem_toArray,List.getElem_map,List.getElem_range]
  cases hc:T.contains i
  ·have:=hall i hi hc;simp only [Array.getD,h1,dif_pos] at this
   simpa using this
  ·have:=hT i (by simpa using hc);simp only [Array.getD,h1,dif_pos] at this
   simpa using this
theorem qPO {a0:Act} (T:List Nat) (k:Nat) (I:Array Bool→World→Prop) (R:World→World→Prop) (F:Nat→Value→World→Prop)
  (hris:qGd md ops=true) (hlast:qLW md ops T=true) (hnd:(qAk ops.toList).Nodup) (hk:qCj ops.size (qCP ops T)=k)
  (hF:∀i v w w',R w w'→F i v w→F i v w')
  (hop:∀i o,ops[i]? = some o→T.contains i=false→∀u listed w,listed.getD i true=false→I listed w→(∀e∈o.after,Region.binds md e=true→F e.on (u e.on) w) →
   wpOp P ops Q i (λa' w'=>∃v,a'=(zY ops.toList 0 u a0).put o.dst v∧R w w'∧I (listed.setIfInBounds i true) w'∧F i v w') (zY ops.toList 0 u a0) w)
  (hend:∀u w,I (qCP ops T) w→(∀i,i<ops.size→T.contains i=false→F i (u i) w)→wpAny P md ops Q k (qCP ops T) (zY ops.toList 0 u a0) w) :
  ∀(f:Nat) (listed:Array Bool) (u:Nat→Value) (w:World),listed.size=ops.size→qFF md ops listed→(∀j∈T,listed.getD j false=false)→qCj ops.size listed≤f →
   I listed w→(∀i,listed.getD i false=true→F i (u i) w)→wpAny P md ops Q f listed (zY ops.toList 0 u a0) w:=by
 intro f
 induction f with
 | zero =>
  intro listed u w hn hc hT hf hI hFu;have hall:∀i,i<ops.size→listed.getD i true=true:=by
   intro i hi
   cases h:listed.getD i true with
   | true=>rfl
   | false=>have:=qGz hi h;omega
  have hm:=qNo (T:=T) hn hT (λi hi _=>by rw [qKQ hn hi false true];exact hall i hi);subst hm;exact qHU k 0 _ _ _ oM (hend u w hI (λi hi hTi=>hFu i (by rw [qKQ hn hi false true];exact hall i hi)))
 | succ f ih =>
  intro listed u w hn hc hT hf hI hFu
  by_cases hall:∀i,i<ops.size→T.contains i=false→listed.getD i false=true
  ·have hm:=qNo (T:=T) hn hT hall;subst hm;exact qHU k (f+1) _ _ _ oM (hend u w hI (λi hi hTi=>hFu i (hall i hi hTi)))
  ·have ⟨i0,h0⟩:=Classical.not_forall.1 hall;have ⟨hi0,h1⟩:=Classical.not_imp.1 h0;have ⟨hT0,hl0⟩:=Classical.not_imp.1 h1;have hu0:listed.getD i0 true=false:=by rw [qKQ hn hi0 true false];simpa using hl0
   refine⟨λhr=>absurd hr (qMV (n:=0) hris hn i0 hi0 hu0),λi hi=>?_⟩;obtain⟨hun,o,ho,hdeps⟩:=mem_ready.1 hi;have hTi:T.contains i=false:=by
    cases h:T.contains i with
    | false=>rfl
    | true =>
     have h2:=List.all_eq_true.1 hlast i0 (by simpa using hi0);rw [hT0,Bool.false_or] at h2;have h3:=List.all_eq_true.1 h2 i (by simpa using h);have h4:=qFm hc 12 i i0 h3 (λoj hoj=>by
      have:oj=o:=Option.some.inj (hoj.symm.trans ho);subst this;exact hdeps)
     exact absurd h4 hl0
   refine wpOp_mono ?_ (hop i o ho hTi u listed w hun hI (λe he hb=>hFu e.on (hdeps e he hb)));rintro a' w' ⟨v,rfl,hR,hI',hFi⟩;have hil:i<ops.size:=(Array.getElem?_eq_some_iff.1 ho).1;rw [qJp ops.toList 0 i o u a0 v hnd (by simpa using ho),Nat.zero_add];refine ih _ _ _ (by simpa using hn) (qEU hc hi) (λj hj=>?_) (by have:=qGz hil hun;omega) hI' (λj hj=>?_)
   ·have hne:i≠j:=by
     rintro rfl;have:T.contains i=true:=by simpa using hj
     rw [this] at hTi;cases hTi
    rw [getD_set_ne false hne];exact hT j hj
   ·by_cases hij:i=j
    ·subst hij;rw [qK7];exact hFi
    ·rw [qKC u v (Ne.symm hij)];rw [getD_set_ne false hij] at hj;exact hF j _ w w' hR (hFu j hj)
def qM (p:Nat→Oper→Prop):Nat→List Oper→Prop
 | _,[]=>True
 | k,o::r=>p k o∧qM p (k+1) r
theorem qM.at {p:Nat→Oper→Prop}:∀(l:List Oper) (k i:Nat) (o:Oper),qM p k l→l[i]? = some o→p (k+i) o
 | [],_,_,_,_,h=>by simp at h
 | o'::r,k,0,o,hp,h=>by
  simp only [List.getElem?_cons_zero,Option.some.injEq] at h;subst h;exact hp.1
 | o'::r,k,i+1,o,hp,h=>by
  rw [List.getElem?_cons_succ] at h;have:=qM.at r (k+1) i o hp.2 h
  rwa [show k+(i+1)=k+1+i by omega]
def On (K:Act→World→Prop) (R:World→World→Prop) (I:World→Prop) (F:Value→World→Prop) (a:Act) (dst:Option Tmp) (w:World):Prop:=∀v w',R w w'→I w'→F v w'→K (a.put dst v) w'
def qTi (P:Program) (ops:Array Oper) (Q:Exit→Act→World→Prop) (md:Region.Mode) (I:Array Bool→World→Prop) (R:World→World→Prop) (F:Nat→Value→World→Prop) (T:List Nat) (a0:Act) (i:Nat) (o:Oper):Prop :=
 T.contains i=false→∀u listed w,listed.getD i true=false→I listed w→(∀e∈o.after,Region.binds md e=true→F e.on (u e.on) w) →
  ∀K,On K R (I (listed.setIfInBounds i true)) (F i) (zY ops.toList 0 u a0) o.dst w →
   if Region.wanted o (yielded ops (zY ops.toList 0 u a0).tmps)=true then Oper.wp P o (zY ops.toList 0 u a0) w K Q else K ((zY ops.toList 0 u a0).put o.dst undef) w
theorem qKT {id:Nat} {a0:Act} {w:World} (hm:P.follows .mixedOrders=true) (T:List Nat) (k:Nat) (I:Array Bool→World→Prop) (R:World→World→Prop) (F:Nat→Value→World→Prop)
  (hris:qGd .any ops=true) (hlast:qLW .any ops T=true) (hnd:(qAk ops.toList).Nodup) (hk:qCj ops.size (qCP ops T)=k)
  (hF:∀i v w w',R w w'→F i v w→F i v w') (hI:I (Array.replicate ops.size false) w.drew)
  (hop:qM (qTi P ops Q .any I R F T a0) 0 ops.toList)
  (hend:∀u w,I (qCP ops T) w→(∀i,i<ops.size→T.contains i=false→F i (u i) w)→wpAny P .any ops Q k (qCP ops T) (zY ops.toList 0 u a0) w) :
  (Code.region id ops true).wp P Q a0 w:=by
 refine wp_region_any hm ?_;have h:=qPO (P:=P) (Q:=Q) (a0:=a0) T k I R F hris hlast hnd hk hF (λi o ho hT u listed w hu hI hf=>?_) hend ops.size (Array.replicate ops.size false) (qL6 ops.toList a0) w.drew
  sI (λj oj _ hl=>by rw [getD_replicate_false] at hl;cases hl) (λj _=>getD_replicate_false ..) ?_ hI (λi hi=>by rw [getD_replicate_false] at hi;cases hi)
 ·rw [qHk _ _ _ _ (λi _=>by rw [Nat.zero_add])] at h;exact h
 ·have h1:=qM.at ops.toList 0 i o hop (by simpa using ho);rw [Nat.zero_add] at h1;refine wpOp_step ho (λK' hK=>?_);exact h1 hT u listed w hu hI hf K' (λv w' hR hI' hF'=>hK _ _ ⟨v,rfl,hR,hI',hF'⟩)
 ·unfold qCj;have:=List.length_filter_le (λi=>!(Array.replicate ops.size false).getD i true) (List.range ops.size)
  simpa using this
end
end Go.Proofs.YtbgnlfgkgklkdaaGreatDoor
