/- Walks of the reference's small functions for chapter 2. -/
import Derived.Test.YtagpcgnlbgndmaaWalkB2
import Derived.Test.YtagpcgnlbgndmaaKeys
set_option linter.unusedVariables false
set_option linter.unusedSimpArgs false
namespace Go.Proofs.Ytagpcgnlbgndmaa
open Go Go.RowKit

theorem rin_any (n lo hi : Int) (w : World) : Calls Try.prog 80 #[.int .i64 n, .int .i64 lo, .int .i64 hi] w
    fun e w' => e = .returned (.bool (!outB n lo hi)) ∧ w = w' := by
  by_cases h1 : lo ≤ n
  · by_cases h2 : n ≤ hi
    · go_enter Try.func80, Try.ntmps80
      go_wp2
      go_ret
      exact ⟨ret_bool (by simp [outB]; omega), rfl⟩
    · go_enter Try.func80, Try.ntmps80
      go_wp2
      go_ret
      exact ⟨ret_bool (by simp [outB]; omega), rfl⟩
  · go_enter Try.func80, Try.ntmps80
    go_wp2
    go_ret
    exact ⟨ret_bool (by simp [outB]; omega), rfl⟩

def spanF (n lo hi : Int) : Int := if outB n lo hi then 1 else 0
set_option maxHeartbeats 1000000 in
theorem span_any (n lo hi : Int) (w : World) : Calls Try.prog 31 #[.int .i64 n, .int .i64 lo, .int .i64 hi] w
    fun e w' => e = .returned (.int .i64 (spanF n lo hi)) ∧ w = w' := by
  cases h : outB n lo hi
  all_goals
    go_enter Try.func31, Try.ntmps31
    go_wp2_with (go_at_call 80; refine (rin_any _ _ _ _).mono ?_; rintro e w' ⟨rfl, rfl⟩)
    go_ret
    exact ⟨ret_int (by simp [spanF, h]), rfl⟩

set_option maxHeartbeats 1000000 in
theorem index_int_any (v : Value) (l : List Int) (n : Int) (w : World) (h : Arr intCells 1 w l v) : Calls Try.prog 143 #[v, .int .i64 n] w
    fun e w' => e = .returned (.int .i64 (idxF (fun y => n == y) l)) ∧ w = w' := by
  obtain ⟨a, cap, rfl, hcap, hmax, hc⟩ := h
  have hlen : l.length ≤ maxLen := by omega
  unfold maxLen at hlen hmax
  go_enter Try.func143, Try.ntmps143
  go_wp2
  go_loop [8] (fun i => ∃ k : Nat, k ≤ l.length ∧ i = .int .i64 k ∧ (l.take k).any (fun y => n == y) = false) (fun i => l.length - (intOf i).toNat)
  case atStart => exact ⟨0, by omega, rfl, rfl⟩
  case round =>
    obtain ⟨k, hk, rfl, hz⟩ := hrel
    have HZ := Lib.hid hz
    clear hz
    by_cases hlt : k < l.length
    · obtain ⟨b, off, rfl, hb, hcc⟩ := hc k hlt
      have h0 := hcc 0 _ rfl
      simp only [Nat.mul_one, Nat.add_zero] at h0
      clear hc hcc
      cases hx : (n == l[k])
      · have HT := Lib.hid (any_take_succ _ l k hlt HZ.out)
        have HX := Lib.hid hx
        go_wp2
        exact ⟨⟨k + 1, by omega, by go_num, by rw [HT.out]; exact HX.out⟩, by simp [intOf]; omega⟩
      · have HX := Lib.hid (idxF_hit hlt HZ.out hx)
        go_wp2
        go_ret
        exact ⟨ret_int (by rw [HX.out]), rfl⟩
    · go_wp2
      go_ret
      exact ⟨ret_int (by rw [idxF_none (any_take_all (by omega) HZ.out)]), rfl⟩

theorem dbl_idx (n : Int) : dbl n = idxF (fun y => n == y) [1, 2, 4, 8, 16, 32, 64, 128] := by
  simp only [idxF, beq_iff_eq]
  unfold dbl
  repeat' split
  all_goals omega

set_option maxHeartbeats 1000000 in
theorem doublings_any (n : Int) (w : World) : Calls Try.prog 102 #[.int .i64 n] w
    fun e w' => e = .returned (.int .i64 (dbl n)) ∧ Below w.heap.size w w' := by
  go_enter Try.func102, Try.ntmps102
  go_wp2_with (go_at_call 143; refine (index_int_any _ [1, 2, 4, 8, 16, 32, 64, 128] n _ (by exact Arr.lit (cells := intCells) (sz := 1) (fun _ => rfl) _ [1, 2, 4, 8, 16, 32, 64, 128] _ _ 8 (by rfl) rfl (by simp [maxLen]))).mono ?_; rintro e w' ⟨rfl, rfl⟩)
  go_ret
  exact ⟨ret_int (dbl_idx n).symm, by (repeat (first | exact Below.refl _ _ | assumption | refine below_draws ?_ _ | refine Below.drew ?_ | refine below_alloc ?_ _ (by first | omega | (simp; done) | (simp; omega)) | refine Below.setCell ?_ (by first | omega | (simp; done) | (simp; omega)) _ | refine below_at ?_ (by assumption) (by first | omega | (simp; done) | (simp; omega))))⟩

set_option maxHeartbeats 1000000 in
theorem rpartFault_any (p : Part) (w : World) : Calls Try.prog 79 #[.agg #[.int .i64 p.kind, .int .i64 p.amt]] w
    fun e w' => e = .returned (.int .i64 (partFault p)) ∧ Below w.heap.size w w' := by
  obtain ⟨k, a⟩ := p
  by_cases h1 : k = 1
  · subst h1
    go_enter Try.func79, Try.ntmps79
    go_wp2_with (go_at_call 31; refine (span_any _ _ _ _).mono ?_; rintro e w' ⟨rfl, rfl⟩)
    go_ret
    exact ⟨ret_int (by simp [partFault, spanF]), by (repeat (first | exact Below.refl _ _ | assumption | refine below_draws ?_ _ | refine Below.drew ?_ | refine below_alloc ?_ _ (by first | omega | (simp; done) | (simp; omega)) | refine Below.setCell ?_ (by first | omega | (simp; done) | (simp; omega)) _ | refine below_at ?_ (by assumption) (by first | omega | (simp; done) | (simp; omega))))⟩
  by_cases h2 : k = 2
  · subst h2
    go_enter Try.func79, Try.ntmps79
    go_wp2_with (go_at_call 31; refine (span_any _ _ _ _).mono ?_; rintro e w' ⟨rfl, rfl⟩)
    go_ret
    exact ⟨ret_int (by simp [partFault, spanF]), by (repeat (first | exact Below.refl _ _ | assumption | refine below_draws ?_ _ | refine Below.drew ?_ | refine below_alloc ?_ _ (by first | omega | (simp; done) | (simp; omega)) | refine Below.setCell ?_ (by first | omega | (simp; done) | (simp; omega)) _ | refine below_at ?_ (by assumption) (by first | omega | (simp; done) | (simp; omega))))⟩
  by_cases h3 : k = 3
  · subst h3
    go_enter Try.func79, Try.ntmps79
    go_wp2_with (go_at_call 31; refine (span_any _ _ _ _).mono ?_; rintro e w' ⟨rfl, rfl⟩)
    go_ret
    exact ⟨ret_int (by simp [partFault, spanF]), by (repeat (first | exact Below.refl _ _ | assumption | refine below_draws ?_ _ | refine Below.drew ?_ | refine below_alloc ?_ _ (by first | omega | (simp; done) | (simp; omega)) | refine Below.setCell ?_ (by first | omega | (simp; done) | (simp; omega)) _ | refine below_at ?_ (by assumption) (by first | omega | (simp; done) | (simp; omega))))⟩
  by_cases h4 : k = 4
  · subst h4
    go_enter Try.func79, Try.ntmps79
    go_wp2_with (first | (go_at_call 31; refine (span_any _ _ _ _).mono ?_; rintro e w' ⟨rfl, rfl⟩) | (go_at_call 102; refine (doublings_any _ _).mono ?_; rintro e w1 ⟨rfl, hb1⟩))
    go_ret
    have := dbl_le a
    exact ⟨ret_int (by simp [partFault, spanF, waysB, outB]; split <;> split <;> omega), by (repeat (first | exact Below.refl _ _ | assumption | refine below_draws ?_ _ | refine Below.drew ?_ | refine below_alloc ?_ _ (by first | omega | (simp; done) | (simp; omega)) | refine Below.setCell ?_ (by first | omega | (simp; done) | (simp; omega)) _ | refine below_at ?_ (by assumption) (by first | omega | (simp; done) | (simp; omega))))⟩
  have e1 : (k == 1) = false := by simp [h1]
  have e2 : (k == 2) = false := by simp [h2]
  have e3 : (k == 3) = false := by simp [h3]
  have e4 : (k == 4) = false := by simp [h4]
  have H := Lib.hid (And.intro h1 (And.intro h2 (And.intro h3 h4)))
  clear h1 h2 h3 h4
  go_enter Try.func79, Try.ntmps79
  go_wp2
  go_ret
  obtain ⟨h1, h2, h3, h4⟩ := H.out
  exact ⟨ret_int (by simp [partFault, h1, h2, h3, h4]), by (repeat (first | exact Below.refl _ _ | assumption | refine below_draws ?_ _ | refine Below.drew ?_ | refine below_alloc ?_ _ (by first | omega | (simp; done) | (simp; omega)) | refine Below.setCell ?_ (by first | omega | (simp; done) | (simp; omega)) _ | refine below_at ?_ (by assumption) (by first | omega | (simp; done) | (simp; omega))))⟩
end Go.Proofs.Ytagpcgnlbgndmaa
