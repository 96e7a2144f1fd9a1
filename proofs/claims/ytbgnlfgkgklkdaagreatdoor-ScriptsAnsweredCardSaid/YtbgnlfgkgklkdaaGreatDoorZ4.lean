/- Parts of the proof of ScriptsAnswered: Orders. No condition. -/
import Derived.Deep.RegionHeld3
import Derived.StillTail
set_option linter.unusedVariables false
set_option linter.unusedSimpArgs false
set_option maxHeartbeats 8000000
set_option maxRecDepth 100000
namespace Go.Proofs.YtbgnlfgkgklkdaaGreatDoor
open Go
def qIC (md:Region.Mode) (ops:Array Oper):Nat→Nat→Nat→Bool
 | 0,_,_=>false
 | f+1,j,i=>match ops[j]? with
  | some o=>o.after.any fun e=>Region.binds md e && (e.on==i || qIC md ops f e.on i)
  | none=>false
def qJf (md:Region.Mode) (ops:Array Oper) (T:List Nat) (i:Nat):Bool:=T.all fun j=>qIC md ops 8 j i
def qFF (md:Region.Mode) (ops:Array Oper) (listed:Array Bool):Prop :=
 ∀j oj,ops[j]? = some oj→listed.getD j false=true→∀e∈oj.after,Region.binds md e=true→listed.getD e.on false=true
section
variable {P : Program} {ops : Array Oper} {Q : Exit → Act → World → Prop} {md : Region.Mode} {S : World → Prop} {T : List Nat}
theorem qFm {listed:Array Bool} (hc:qFF md ops listed):∀(f j i:Nat),qIC md ops f j i=true →
  (∀oj,ops[j]? = some oj→∀e∈oj.after,Region.binds md e=true→listed.getD e.on false=true)→listed.getD i false=true
 | 0,_,_,h,_=>by cases h
 | f+1,j,i,h,hj=>by
  unfold qIC at h
  cases ho:ops[j]? with
  | none=>simp [ho] at h
  | some o =>
   simp only [ho] at h
   obtain⟨e,he,hb⟩:=Array.any_eq_true'.1 h
   simp only [Bool.and_eq_true,Bool.or_eq_true,beq_iff_eq] at hb
   have h1:=hj o ho e he hb.1
   rcases hb.2 with h2|h2
   ·rw [←h2];exact h1
   ·exact qFm hc f e.on i h2 (fun oj hoj=>hc e.on oj hoj h1)
theorem qEU {listed:Array Bool} {i:Nat} (hc:qFF md ops listed) (hi:i∈Region.ready md ops listed):qFF md ops (listed.setIfInBounds i true):=by
 obtain⟨_,oi,hoi,hall⟩:=mem_ready.1 hi
 intro j oj hj hl e he hb
 by_cases hij:i=j
 ·subst hij
  have:oj=oi:=Option.some.inj (hj.symm.trans hoi)
  subst this
  exact getD_set_true (hall e he hb)
 ·rw [getD_set_ne false hij] at hl
  exact getD_set_true (hc j oj hj hl e he hb)
theorem qSb {listed:Array Bool} {i j:Nat} (hc:qFF md ops listed) (hT:qJf md ops T i=true) (hi:listed.getD i true=false) (hj:j∈Region.ready md ops listed):T.contains j=false:=by
 cases h:T.contains j with
 | false=>rfl
 | true =>
  have hm:j∈T:=by simpa using h
  have h1:=List.all_eq_true.1 hT j hm
  obtain⟨_,oj,hoj,hall⟩:=mem_ready.1 hj
  have h2:=qFm hc 8 j i h1 (fun o ho=>by
   have:o=oj:=Option.some.inj (ho.symm.trans hoj)
   subst this;exact hall)
  rw [getD_both hi] at h2
  cases h2
def qHh (P:Program) (md:Region.Mode) (ops:Array Oper) (Q:Exit→Act→World→Prop) (S:World→Prop) (T:List Nat):Nat→Array Bool→Act→World→Prop
 | 0,listed,a,w=>Region.ready md ops listed=[]∧Q .normal a w
 | f+1,listed,a,w=>(Region.ready md ops listed=[]→Q .normal a w) ∧
  ∀i∈Region.ready md ops listed,wpOp P ops Q i (fun a' w'=>(T.contains i=false→S w→S w')∧qHh P md ops Q S T f (listed.setIfInBounds i true) a' w') a w
theorem qHN:∀(f:Nat) (listed:Array Bool) (a:Act) (w:World),qHh P md ops Q S T f listed a w→wpAny P md ops Q f listed a w
 | 0,_,_,_,h=>h
 | f+1,_,_,_,h=>⟨h.1,fun i hi=>wpOp_mono (fun a' w' h'=>qHN f _ a' w' h'.2) (h.2 i hi)⟩
theorem qFw {S':World→Prop} {i:Nat} {oi:Oper} {v:Value} (hi:ops[i]? = some oi) (hsel:Region.noSelect ops=true) (hT:(∀w,S' w)∨(qJf md ops T i=true∧∀w,S w→S' w)) (hQ:∀c a w,Q (.panic c) (a.put oi.dst v) w→Q (.panic c) a w) :
  ∀(f:Nat) (listed:Array Bool) (a:Act) (w:World),qFF md ops listed →
   (∀j oj,ops[j]? = some oj→j≠i→listed.getD j true=false→(∀e∈oj.after,Region.binds md e=true→e.on≠i)→oi.apart ops oj=true) →
   i∈Region.ready md ops listed→YieldsIf P ops S' oi v a→((∀w,S' w)∨S w) →
   qHh P md ops Q S T f (listed.setIfInBounds i true) (a.put oi.dst v) w→qHh P md ops Q S T (f+1) listed a w
 | f,listed,a,w,hc,hfree,hr,hy,hS,H=>by
  have hun:=(mem_ready.1 hr).1
  have hS':S' w:=by
   rcases hT with h|h
   ·exact h w
   ·rcases hS with h'|h'
    ·exact h' w
    ·exact h.2 w h'
  refine⟨fun h=>(by rw [h] at hr;cases hr),fun j hj=>?_⟩
  by_cases hji:j=i
  ·subst hji;exact hy.wpOp hi hS' ⟨fun _ h=>h,H⟩
  ·have hmo:=ready_mono hj hji
   cases f with
   | zero=>rw [H.1] at hmo;cases hmo
   | succ f =>
    have h1:=H.2 j hmo
    obtain⟨hjun,oj,hoj,hall⟩:=mem_ready.1 hj
    have hnot:∀e∈oj.after,Region.binds md e=true→e.on≠i:=fun e he hb heq=>by
     have h1:=hall e he hb
     rw [heq,getD_both hun] at h1
     cases h1
    have h2:=wpOp_putIf hoj (hfree j oj hoj hji hjun hnot) (fun cs b=>Region.noSelect_spec hsel i oi cs b hi) (fun cs b=>Region.noSelect_spec hsel j oj cs b hoj) hQ hy h1
    refine wpOp_mono (fun a' w' h3=>⟨h3.2.1,qFw hi hsel hT hQ f (listed.setIfInBounds j true) a' w' (qEU hc hj) (fun k ok hk hki hunk hno=>?_) (ready_mono hr (Ne.symm hji)) h3.1 ?_ ?_⟩) h2
    ·refine hfree k ok hk hki ?_ hno
     by_cases hjk:j=k
     ·subst hjk;exact hjun
     ·rw [getD_set_ne true hjk] at hunk;exact hunk
    ·rcases hT with h|h
     ·exact .inl h
     ·rcases hS with h'|h'
      ·exact .inl h'
      ·exact .inr (h3.2.1 (qSb hc h.1 hun hj) h')
    ·rw [Array.setIfInBounds_comm _ _ hji]
     exact h3.2.2
def qA (P:Program) (md:Region.Mode) (ops:Array Oper) (Q:Exit→Act→World→Prop) (S:World→Prop) (T:List Nat) (f:Nat) (listed:Array Bool) (a:Act) (w:World):Prop :=
 qFF md ops listed→qHh P md ops Q S T f listed a w
theorem qA.take {i:Nat} {oi:Oper} {v:Value} {f:Nat} {listed:Array Bool} {a:Act} {w:World} (hi:ops[i]? = some oi) (hs:Region.noSelect ops=true) (hT:qJf md ops T i=true)
  (hf:Region.free md ops listed i=true) (hr:(Region.ready md ops listed).contains i=true) (hQ:∀c a w,Q (.panic c) (a.put oi.dst v) w→Q (.panic c) a w) (hS:S w) (hy:YieldsIf P ops S oi v a)
  (h:qA P md ops Q S T f (listed.setIfInBounds i true) (a.put oi.dst v) w):qA P md ops Q S T (f+1) listed a w:=fun hc =>
 have hr':i∈Region.ready md ops listed:=by simpa using hr
 qFw hi hs (.inr ⟨hT,fun _ h=>h⟩) hQ f listed a w hc (Region.free_spec hi hf) hr' hy (.inr hS) (h (qEU hc hr'))
theorem qA.quiet {i:Nat} {oi:Oper} {v:Value} {f:Nat} {listed:Array Bool} {a:Act} {w:World} (hi:ops[i]? = some oi) (hs:Region.noSelect ops=true)
  (hf:Region.free md ops listed i=true) (hr:(Region.ready md ops listed).contains i=true) (hQ:∀c a w,Q (.panic c) (a.put oi.dst v) w→Q (.panic c) a w) (hy:YieldsIf P ops (fun _=>True) oi v a)
  (h:qA P md ops Q S T f (listed.setIfInBounds i true) (a.put oi.dst v) w):qA P md ops Q S T (f+1) listed a w:=fun hc =>
 have hr':i∈Region.ready md ops listed:=by simpa using hr
 qFw (S':=fun _=>True) hi hs (.inl fun _=>trivial) hQ f listed a w hc (Region.free_spec hi hf) hr' hy (.inl fun _=>trivial) (h (qEU hc hr'))
def qA3 (P:Program) (md:Region.Mode) (ops:Array Oper) (Q:Exit→Act→World→Prop) (S:World→Prop) (T:List Nat) (f:Nat) (listed:Array Bool) (a:Act) (w:World) (rs:List Nat):Prop :=
 ∀i∈rs,wpOp P ops Q i (fun a' w'=>(T.contains i=false→S w→S w')∧qA P md ops Q S T f (listed.setIfInBounds i true) a' w') a w
theorem qA3.nil {f:Nat} {listed:Array Bool} {a:Act} {w:World}:qA3 P md ops Q S T f listed a w []:=fun _ h=>by cases h
theorem qA3.cons {f:Nat} {listed:Array Bool} {a:Act} {w:World} {i:Nat} {o:Oper} {rs:List Nat} (ho:ops[i]? = some o)
  (h:∀K':Act→World→Prop,Shut (∀a' w',(T.contains i=false→S w→S w')→qA P md ops Q S T f (listed.setIfInBounds i true) a' w'→K' a' w')→if Region.wanted o (yielded ops a.tmps)=true then Oper.wp P o a w K' Q else K' (a.put o.dst undef) w)
  (hs:qA3 P md ops Q S T f listed a w rs):qA3 P md ops Q S T f listed a w (i::rs):=fun j hj=>by
 rcases List.mem_cons.1 hj with rfl|hj
 ·exact wpOp_step ho (fun K' hK=>h K' (fun a w hS hW=>hK a w ⟨hS,hW⟩))
 ·exact hs j hj
theorem qA.ready {rs:List Nat} {f:Nat} {listed:Array Bool} {a:Act} {w:World} (hr:Region.ready md ops listed=rs) (hne:rs≠[]) (h:qA3 P md ops Q S T f listed a w rs):qA P md ops Q S T (f+1) listed a w:=fun hc =>
 ⟨fun h0=>absurd (hr ▸ h0) hne,fun i hi=>wpOp_mono (fun _ _ h'=>⟨h'.1,h'.2 (qEU hc hi)⟩) (h i (hr ▸ hi))⟩
theorem qA.done {listed:Array Bool} {a:Act} {w:World} {f:Nat} (hr:Region.ready md ops listed=[]) (h:Q .normal a w):qA P md ops Q S T f listed a w:=fun _=>by
 cases f with
 | zero=>exact⟨hr,h⟩
 | succ f=>exact⟨fun _=>h,by rw [hr];simp⟩
theorem qA.start {id:Nat} {a:Act} {w:World} (S:World→Prop) (T:List Nat) (hm:P.follows .mixedOrders=true)
  (h:qA P .any ops Q S T ops.size (Array.replicate ops.size false) a w.drew):(Code.region id ops true).wp P Q a w :=
 wp_region_any hm (qHN _ _ _ _ (h (fun j oj _ hl=>by rw [getD_replicate_false] at hl;cases hl)))
theorem qA.nx (i:Nat) {o:Oper} {f:Nat} {listed:Array Bool} {a:Act} {w:World}
  (h:∀K':Act→World→Prop,Shut (∀a' w',(T.contains i=false→S w→S w')→qA P md ops Q S T f (listed.setIfInBounds i true) a' w'→K' a' w')→if Region.wanted o (yielded ops a.tmps)=true then Oper.wp P o a w K' Q else K' (a.put o.dst undef) w)
  (hr:Region.ready md ops listed=[i]:=by kernel_rfl) (ho:ops[i]? = some o:=by rfl):qA P md ops Q S T (f+1) listed a w :=
 qA.ready hr (by simp) (qA3.cons ho h qA3.nil)
theorem qA.q (i:Nat) {oi:Oper} {v:Value} {a':Act} {f:Nat} {listed:Array Bool} {a:Act} {w:World} (h:qA P md ops Q S T f (listed.setIfInBounds i true) a' w)
  (hi:ops[i]? = some oi:=by rfl) (hs:Region.noSelect ops=true:=by kernel_rfl) (hf:Region.free md ops listed i=true:=by kernel_rfl) (hr:(Region.ready md ops listed).contains i=true:=by kernel_rfl)
  (hg:Region.wanted oi (yielded ops a.tmps)=true:=by rfl) (hy:∀w,True→(execOp a.eval oi).run P w=.ok (.value v) w:=by intro wS hSw;go_simp;try with_reducible rfl)
  (ha:a.put oi.dst v=a':=by(try simp only [Act.put,List.setIfInBounds_toArray,List.set_cons_zero,List.set_cons_succ,List.getElem_toArray,List.getElem_cons_succ,List.getElem_cons_zero]);exact rfl) (hQ:∀c a w,Q (.panic c) (a.put oi.dst v) w→Q (.panic c) a w:=by exact fun _ _ _ h=>h):qA P md ops Q S T (f+1) listed a w :=
 qA.quiet hi hs hf hr hQ (.inl ⟨hg,hy⟩) (ha ▸ h)
theorem qA.qg (i:Nat) {oi:Oper} {v:Value} {a':Act} {f:Nat} {listed:Array Bool} {a:Act} {w:World} (h:qA P md ops Q S T f (listed.setIfInBounds i true) a' w)
  (hi:ops[i]? = some oi:=by rfl) (hs:Region.noSelect ops=true:=by kernel_rfl) (hf:Region.free md ops listed i=true:=by kernel_rfl) (hr:(Region.ready md ops listed).contains i=true:=by kernel_rfl)
  (hg:Region.wanted oi (yielded ops a.tmps)=true:=by go_simp) (hy:∀w,True→(execOp a.eval oi).run P w=.ok (.value v) w:=by intro wS hSw;go_simp;try with_reducible rfl)
  (ha:a.put oi.dst v=a':=by(try simp only [Act.put,List.setIfInBounds_toArray,List.set_cons_zero,List.set_cons_succ,List.getElem_toArray,List.getElem_cons_succ,List.getElem_cons_zero]);exact rfl) (hQ:∀c a w,Q (.panic c) (a.put oi.dst v) w→Q (.panic c) a w:=by exact fun _ _ _ h=>h):qA P md ops Q S T (f+1) listed a w :=
 qA.quiet hi hs hf hr hQ (.inl ⟨hg,hy⟩) (ha ▸ h)
theorem qA.qf (i:Nat) {oi:Oper} {a':Act} {f:Nat} {listed:Array Bool} {a:Act} {w:World} (h:qA P md ops Q S T f (listed.setIfInBounds i true) a' w)
  (hi:ops[i]? = some oi:=by rfl) (hs:Region.noSelect ops=true:=by kernel_rfl) (hf:Region.free md ops listed i=true:=by kernel_rfl) (hr:(Region.ready md ops listed).contains i=true:=by kernel_rfl)
  (hg:Region.wanted oi (yielded ops a.tmps)=false:=by first|(go_simp;done)|(simp [undef];done))
  (ha:a.put oi.dst undef=a':=by(try simp only [Act.put,List.setIfInBounds_toArray,List.set_cons_zero,List.set_cons_succ,List.getElem_toArray,List.getElem_cons_succ,List.getElem_cons_zero]);exact rfl) (hQ:∀c a w,Q (.panic c) (a.put oi.dst undef) w→Q (.panic c) a w:=by exact fun _ _ _ h=>h):qA P md ops Q S T (f+1) listed a w :=
 qA.quiet hi hs hf hr hQ (.inr ⟨hg,rfl⟩) (ha ▸ h)
theorem qA.t (i:Nat) {oi:Oper} {v:Value} {a':Act} {f:Nat} {listed:Array Bool} {a:Act} {w:World} (hS:S w) (h:qA P md ops Q S T f (listed.setIfInBounds i true) a' w)
  (hi:ops[i]? = some oi:=by rfl) (hs:Region.noSelect ops=true:=by kernel_rfl) (hT:qJf md ops T i=true:=by kernel_rfl) (hf:Region.free md ops listed i=true:=by kernel_rfl) (hr:(Region.ready md ops listed).contains i=true:=by kernel_rfl)
  (hg:Region.wanted oi (yielded ops a.tmps)=true:=by rfl) (hy:∀w,S w→(execOp a.eval oi).run P w=.ok (.value v) w:=by intro wS hSw;(try dsimp only at hSw);(repeat (have hq:=And.left hSw;replace hSw:=And.right hSw;(repeat (have hr:=And.left hq;replace hq:=And.right hq))));go_simp;try with_reducible rfl)
  (ha:a.put oi.dst v=a':=by(try simp only [Act.put,List.setIfInBounds_toArray,List.set_cons_zero,List.set_cons_succ,List.getElem_toArray,List.getElem_cons_succ,List.getElem_cons_zero]);exact rfl) (hQ:∀c a w,Q (.panic c) (a.put oi.dst v) w→Q (.panic c) a w:=by exact fun _ _ _ h=>h):qA P md ops Q S T (f+1) listed a w :=
 qA.take hi hs hT hf hr hQ hS (.inl ⟨hg,hy⟩) (ha ▸ h)
theorem qA.tg (i:Nat) {oi:Oper} {v:Value} {a':Act} {f:Nat} {listed:Array Bool} {a:Act} {w:World} (hS:S w) (h:qA P md ops Q S T f (listed.setIfInBounds i true) a' w)
  (hi:ops[i]? = some oi:=by rfl) (hs:Region.noSelect ops=true:=by kernel_rfl) (hT:qJf md ops T i=true:=by kernel_rfl) (hf:Region.free md ops listed i=true:=by kernel_rfl) (hr:(Region.ready md ops listed).contains i=true:=by kernel_rfl)
  (hg:Region.wanted oi (yielded ops a.tmps)=true:=by go_simp) (hy:∀w,S w→(execOp a.eval oi).run P w=.ok (.value v) w:=by intro wS hSw;(try dsimp only at hSw);(repeat (have hq:=And.left hSw;replace hSw:=And.right hSw;(repeat (have hr:=And.left hq;replace hq:=And.right hq))));go_simp;try with_reducible rfl)
  (ha:a.put oi.dst v=a':=by(try simp only [Act.put,List.setIfInBounds_toArray,List.set_cons_zero,List.set_cons_succ,List.getElem_toArray,List.getElem_cons_succ,List.getElem_cons_zero]);exact rfl) (hQ:∀c a w,Q (.panic c) (a.put oi.dst v) w→Q (.panic c) a w:=by exact fun _ _ _ h=>h):qA P md ops Q S T (f+1) listed a w :=
 qA.take hi hs hT hf hr hQ hS (.inl ⟨hg,hy⟩) (ha ▸ h)
theorem qA.on {b:Bool} {p:Prop} {R:World→Prop} {V K:Act→World→Prop} (hK:Shut (∀a' w',(b=false→p→R w')→V a' w'→K a' w')) {a' a'':Act} {w':World}
  (hS:b=false→p→R w') (h:V a'' w') (ha:a'=a'':=by(try simp only [Act.put,List.setIfInBounds_toArray,List.set_cons_zero,List.set_cons_succ,List.getElem_toArray,List.getElem_cons_succ,List.getElem_cons_zero]);exact rfl):K a' w':=hK.out _ _ hS (ha ▸ h)
theorem qA.o {b:Bool} {p:Prop} {R:World→Prop} {V K:Act→World→Prop} (hK:Shut (∀a' w',(b=false→p→R w')→V a' w'→K a' w')) {a' a'':Act} {w':World}
  (h:V a'' w') (hT:b=true:=by decide) (ha:a'=a'':=by(try simp only [Act.put,List.setIfInBounds_toArray,List.set_cons_zero,List.set_cons_succ,List.getElem_toArray,List.getElem_cons_succ,List.getElem_cons_zero]);exact rfl):K a' w':=hK.out _ _ (fun h=>absurd (hT.symm.trans h) (by decide)) (ha ▸ h)
end
end Go.Proofs.YtbgnlfgkgklkdaaGreatDoor
