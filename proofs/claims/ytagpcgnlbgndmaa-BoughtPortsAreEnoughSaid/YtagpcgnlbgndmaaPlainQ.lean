/- Plain: what is bought covers, costs what is told, and none of it is too much. No program. -/
import Derived.Test.YtagpcgnlbgndmaaBuyAll
set_option linter.unusedVariables false
set_option linter.unusedSimpArgs false
namespace Go.Proofs.Ytagpcgnlbgndmaa

def sumBy (f : Offer → Int) : List Int → List Offer → Int
  | k :: ks, o :: os => k * f o + sumBy f ks os
  | _, _ => 0
def dI (o : Offer) : Int := o.d
theorem sumBy_nonneg {f : Offer → Int} {os : List Offer} (hf : ∀ o ∈ os, 0 ≤ f o) : ∀ ks : List Int, (∀ k ∈ ks, 0 ≤ k) → 0 ≤ sumBy f ks os := by
  induction os with
  | nil => intro ks _; cases ks <;> simp [sumBy]
  | cons o os ih =>
    intro ks hk
    cases ks with
    | nil => simp [sumBy]
    | cons k ks =>
      rw [sumBy]
      have h1 := ih (fun o h => hf o (by simp [h])) ks (fun k h => hk k (by simp [h]))
      have h2 := Int.mul_nonneg (hk k (by simp)) (hf o (by simp))
      omega
/-- nothing that covers costs less -/
theorem cost_least {os : List Offer} (h : BuyOk os) : ∀ (ks : List Int) (m : Nat), ks.length = os.length → (∀ k ∈ ks, 0 ≤ k) → (m : Int) ≤ sumBy dI ks os → cost os m ≤ sumBy (·.price) ks os := by
  induction os with
  | nil =>
    intro ks m hl hk hm
    have : sumBy dI ks [] = 0 := by cases ks <;> rfl
    obtain rfl : m = 0 := by omega
    rw [cost_zero]
    cases ks <;> simp [sumBy]
  | cons o os ih =>
    intro ks m hl hk hm
    obtain ⟨k, ks, rfl⟩ : ∃ k r, ks = k :: r := by cases ks with
      | nil => simp at hl
      | cons a b => exact ⟨a, b, rfl⟩
    obtain ⟨n, rfl⟩ := Int.eq_ofNat_of_zero_le (hk k (by simp))
    have ho := h o (by simp)
    rw [sumBy] at hm ⊢
    have hks : ∀ k ∈ ks, 0 ≤ k := fun k h => hk k (by simp [h])
    have hln : ks.length = os.length := by simpa using hl
    have hnn := sumBy_nonneg (f := (·.price)) (os := os) (fun o ho => by have := (h.tail o ho).2.1; show 0 ≤ o.price; omega) ks hks
    clear hl hk
    induction n generalizing m with
    | zero =>
      have h1 := ih h.tail ks m hln hks (by simpa using hm)
      by_cases hz : m = 0
      · subst hz; rw [cost_zero]; simpa using hnn
      · rw [cost_cons (by omega) ho.1]
        have := Int.min_le_left (cost os m) (cost (o :: os) (m - o.d) + o.price)
        have e0 : (Int.ofNat 0) * o.price = 0 := by simp
        omega
    | succ n ihn =>
      by_cases hz : m = 0
      · subst hz
        rw [cost_zero]
        have := Int.mul_nonneg (show (0 : Int) ≤ ((n + 1 : Nat) : Int) by omega) (show 0 ≤ o.price by omega)
        omega
      · have e1 : ((n + 1 : Nat) : Int) * dI o = n * dI o + dI o := by push_cast; rw [Int.add_mul, Int.one_mul]
        have e2 : ((n + 1 : Nat) : Int) * o.price = n * o.price + o.price := by push_cast; rw [Int.add_mul, Int.one_mul]
        rw [e1] at hm
        rw [e2]
        have hdd : dI o = (o.d : Int) := rfl
        have hn0 := Int.mul_nonneg (show (0 : Int) ≤ (n : Int) by omega) (show 0 ≤ dI o by omega)
        have hsd := sumBy_nonneg (f := dI) (os := os) (fun o _ => by show (0 : Int) ≤ (o.d : Int); omega) ks hks
        have h1 := ihn (m - o.d) (by omega)
        rw [cost_cons (by omega) ho.1]
        have := Int.min_le_right (cost os m) (cost (o :: os) (m - o.d) + o.price)
        omega
theorem counts_nonneg (os : List Offer) : ∀ m, ∀ k ∈ counts os m, 0 ≤ k := by
  induction os with
  | nil => intro m k h; simp [counts] at h
  | cons o os ih =>
    intro m k h
    rw [counts] at h
    rcases List.mem_cons.1 h with rfl | h
    · omega
    · exact ih _ k h
/-- it covers, for the price -/
theorem counts_sum {os : List Offer} (h : BuyOk os) : ∀ m : Nat, cost os m < inf → sumBy (·.price) (counts os m) os = cost os m ∧ (m : Int) ≤ sumBy dI (counts os m) os := by
  induction os with
  | nil =>
    intro m hm
    rcases Nat.eq_zero_or_pos m with rfl | h0
    · simp [counts, sumBy, cost_zero]
    · rw [cost_nil h0] at hm; omega
  | cons o os ih =>
    intro m hm
    have ho := h o (by simp)
    obtain ⟨h1, -⟩ := taken_spec o os ho.1 m
    rw [counts, sumBy, sumBy]
    generalize taken o os m = t at *
    have h2 := Int.mul_nonneg (show (0 : Int) ≤ (t : Int) by omega) (show 0 ≤ o.price by omega)
    obtain ⟨h3, h4⟩ := ih h.tail (m - t * o.d) (by omega)
    have hdd : (t : Int) * dI o = ((t * o.d : Nat) : Int) := by unfold dI; push_cast; rfl
    refine ⟨by omega, by rw [hdd]; omega⟩
/-- one of it less costs less -/
theorem sumBy_set (f : Offer → Int) (os : List Offer) : ∀ (ks : List Int) (i : Nat) (h : i < ks.length) (h2 : i < os.length), sumBy f (ks.set i (ks[i] - 1)) os = sumBy f ks os - f os[i] := by
  induction os with
  | nil => intro ks i h h2; simp at h2
  | cons o os ih =>
    intro ks i h h2
    cases ks with
    | nil => simp at h
    | cons k ks =>
      cases i with
      | zero => simp only [List.set_cons_zero, List.getElem_cons_zero, sumBy]; rw [Int.sub_mul, Int.one_mul]; omega
      | succ i =>
        simp only [List.set_cons_succ, List.getElem_cons_succ, sumBy]
        have := ih ks i (by simpa using h) (by simpa using h2)
        omega
theorem bought_tight {os : List Offer} (h : BuyOk os) {m : Nat} (hm : cost os m < inf) (i : Nat) (hi : i < (counts os m).length) (hi2 : i < os.length) (hk : 0 < (counts os m)[i]) : sumBy dI (counts os m) os - dI os[i] < m := by
  rcases Int.lt_or_le (sumBy dI (counts os m) os - dI os[i]) m with h0 | h0
  · exact h0
  · exfalso
    have h1 := cost_least h ((counts os m).set i ((counts os m)[i] - 1)) m (by rw [List.length_set, counts_len]) (fun k hk' => by
      rcases List.mem_or_eq_of_mem_set hk' with h2 | h2
      · exact counts_nonneg os m k h2
      · omega) (by rw [sumBy_set]; exact h0)
    rw [sumBy_set _ _ _ _ hi hi2] at h1
    have h2 := (counts_sum h m hm).1
    have h3 := (h os[i] (List.getElem_mem _)).2.1
    omega
end Go.Proofs.Ytagpcgnlbgndmaa
