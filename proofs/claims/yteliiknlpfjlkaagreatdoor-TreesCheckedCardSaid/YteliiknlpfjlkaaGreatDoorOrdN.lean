/- As XOrders' take, where the stores come long behind the load. -/
import Derived.Test.YteliiknlpfjlkaaGreatDoorOrders
set_option linter.unusedVariables false
set_option linter.unusedSimpArgs false
namespace Go.Proofs.YteliiknlpfjlkaaGreatDoor
open Go

def lateN (md : Region.Mode) (ops : Array Oper) (T : List Nat) (i : Nat) : Bool := T.all fun j => reachB md ops 24 j i
section
variable {P : Program} {ops : Array Oper} {Q : Exit → Act → World → Prop} {md : Region.Mode} {S : World → Prop} {T : List Nat}
theorem late_notN {listed : Array Bool} {i j : Nat} (hc : Closed md ops listed) (hT : lateN md ops T i = true) (hi : listed.getD i true = false) (hj : j ∈ Region.ready md ops listed) : T.contains j = false := by
  cases h : T.contains j with
  | false => rfl
  | true =>
    have hm : j ∈ T := by simpa using h
    have h1 := List.all_eq_true.1 hT j hm
    obtain ⟨_, oj, hoj, hall⟩ := mem_ready.1 hj
    have h2 := closed_reach hc 24 j i h1 (fun o ho => by
      have : o = oj := Option.some.inj (ho.symm.trans hoj)
      subst this; exact hall)
    rw [getD_both hi] at h2
    cases h2

theorem wpAnyT_firstN {S' : World → Prop} {i : Nat} {oi : Oper} {v : Value} (hi : ops[i]? = some oi) (hsel : Region.noSelect ops = true) (hT : (∀ w, S' w) ∨ (lateN md ops T i = true ∧ ∀ w, S w → S' w)) (hQ : ∀ c a w, Q (.panic c) (a.put oi.dst v) w → Q (.panic c) a w) :
    ∀ (f : Nat) (listed : Array Bool) (a : Act) (w : World), Closed md ops listed →
      (∀ j oj, ops[j]? = some oj → j ≠ i → listed.getD j true = false → (∀ e ∈ oj.after, Region.binds md e = true → e.on ≠ i) → oi.apart ops oj = true) →
      i ∈ Region.ready md ops listed → YieldsIf P ops S' oi v a → ((∀ w, S' w) ∨ S w) →
      wpAnyT P md ops Q S T f (listed.setIfInBounds i true) (a.put oi.dst v) w → wpAnyT P md ops Q S T (f + 1) listed a w
  | f, listed, a, w, hc, hfree, hr, hy, hS, H => by
    have hun := (mem_ready.1 hr).1
    have hS' : S' w := by
      rcases hT with h | h
      · exact h w
      · rcases hS with h' | h'
        · exact h' w
        · exact h.2 w h'
    refine ⟨fun h => (by rw [h] at hr; cases hr), fun j hj => ?_⟩
    by_cases hji : j = i
    · subst hji; exact hy.wpOp hi hS' ⟨fun _ h => h, H⟩
    · have hmo := ready_mono hj hji
      cases f with
      | zero => rw [H.1] at hmo; cases hmo
      | succ f =>
        have h1 := H.2 j hmo
        obtain ⟨hjun, oj, hoj, hall⟩ := mem_ready.1 hj
        have hnot : ∀ e ∈ oj.after, Region.binds md e = true → e.on ≠ i := fun e he hb heq => by
          have h1 := hall e he hb
          rw [heq, getD_both hun] at h1
          cases h1
        have h2 := wpOp_putIf hoj (hfree j oj hoj hji hjun hnot) (fun cs b => Region.noSelect_spec hsel i oi cs b hi) (fun cs b => Region.noSelect_spec hsel j oj cs b hoj) hQ hy h1
        refine wpOp_mono (fun a' w' h3 => ⟨h3.2.1, wpAnyT_firstN hi hsel hT hQ f (listed.setIfInBounds j true) a' w' (closed_set hc hj) (fun k ok hk hki hunk hno => ?_) (ready_mono hr (Ne.symm hji)) h3.1 ?_ ?_⟩) h2
        · refine hfree k ok hk hki ?_ hno
          by_cases hjk : j = k
          · subst hjk; exact hjun
          · rw [getD_set_ne true hjk] at hunk; exact hunk
        · rcases hT with h | h
          · exact .inl h
          · rcases hS with h' | h'
            · exact .inl h'
            · exact .inr (h3.2.1 (late_notN hc h.1 hun hj) h')
        · rw [Array.setIfInBounds_comm _ _ hji]
          exact h3.2.2

theorem WalkT.takeN {i : Nat} {oi : Oper} {v : Value} {f : Nat} {listed : Array Bool} {a : Act} {w : World} (hi : ops[i]? = some oi) (hs : Region.noSelect ops = true) (hT : lateN md ops T i = true)
    (hf : Region.free md ops listed i = true) (hr : (Region.ready md ops listed).contains i = true) (hQ : ∀ c a w, Q (.panic c) (a.put oi.dst v) w → Q (.panic c) a w) (hS : S w) (hy : YieldsIf P ops S oi v a)
    (h : WalkT P md ops Q S T f (listed.setIfInBounds i true) (a.put oi.dst v) w) : WalkT P md ops Q S T (f + 1) listed a w := fun hc =>
  have hr' : i ∈ Region.ready md ops listed := by simpa using hr
  wpAnyT_firstN hi hs (.inr ⟨hT, fun _ h => h⟩) hQ f listed a w hc (Region.free_spec hi hf) hr' hy (.inr hS) (h (closed_set hc hr'))
end
end Go.Proofs.YteliiknlpfjlkaaGreatDoor
