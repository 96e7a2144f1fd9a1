/- Walks of the reference's functions for chapter 2: losses, powers, the greatest number. -/
import Derived.Test.YtagpcgnlbgndmaaRefB2
import Derived.Test.YtagpcgnlbgndmaaRefB3
set_option linter.unusedVariables false
set_option linter.unusedSimpArgs false
namespace Go.Proofs.Ytagpcgnlbgndmaa
open Go Go.RowKit

theorem total_last (l : List Part) (x : Losses) (k : Nat) (hk : l.length = k + 1) (h : k < (running l x 0).length) : (running l x 0)[k] = total l x := by
  rw [running_at, List.take_of_length_le (by omega)]; simp

set_option maxHeartbeats 1000000 in
theorem rlossOf_any (v : Value) (l : List Part) (x : Losses) (w : World) (h : Arr Part.cells 2 w l v) (hp : ∀ p ∈ l, p.Ok) (hl : l.length ≤ 1000) (hx : x.Ok) : Calls Try.prog 90 #[v, .agg #[.int .i64 x.perKm, .int .i64 x.conn, .int .i64 x.dblg, .int .i64 x.exc]] w
    fun e w' => e = .returned (.int .i64 (total l x)) ∧ Below w.heap.size w w' := by
  have h' := h
  obtain ⟨a, cap, rfl, hcap, hmax, hc⟩ := h
  by_cases h0 : l = []
  · subst h0
    go_enter Try.func90, Try.ntmps90
    go_wp2
    go_ret
    exact ⟨rfl, by (repeat (first | exact Below.refl _ _ | assumption | refine below_draws ?_ _ | refine Below.drew ?_ | refine below_alloc ?_ _ (by first | omega | (simp; done) | (simp; omega)) | refine Below.setCell ?_ (by first | omega | (simp; done) | (simp; omega)) _ | refine below_at ?_ (by assumption) (by first | omega | (simp; done) | (simp; omega))))⟩
  · obtain ⟨k, hk⟩ : ∃ k, l.length = k + 1 := ⟨l.length - 1, by have := List.length_pos_iff.2 h0; omega⟩
    have hne : ((l.length : Int) == 0) = false := by simp [h0]
    have hpos : 0 < l.length := by omega
    have HP := Lib.hid (And.intro hp (And.intro hl hx))
    have HK := Lib.hid hk
    clear hc hp hx hk h0
    go_enter Try.func90, Try.ntmps90
    go_wp2_with (go_at_call 141; refine (runningOf_any _ l x _ ?_ HP.out.1 HP.out.2.1 HP.out.2.2).mono ?_; (exact h'.below (by (repeat (first | exact Below.refl _ _ | assumption | refine below_draws ?_ _ | refine Below.drew ?_ | refine below_alloc ?_ _ (by first | omega | (simp; done) | (simp; omega)) | refine Below.setCell ?_ (by first | omega | (simp; done) | (simp; omega)) _ | refine below_at ?_ (by assumption) (by first | omega | (simp; done) | (simp; omega)))))); rintro e w1 ⟨v1, rfl, hA, hb1⟩; obtain ⟨a1, cap1, rfl, q1, q2, q3⟩ := hA; obtain ⟨b1, off1, rfl, hb, hcc⟩ := q3 (l.length - 1) (by rw [running_len]; omega); have c0 := hcc 0 _ rfl; simp only [Nat.mul_one, Nat.add_zero] at c0; rw [running_len] at q1 ⊢; clear hcc q3)
    go_ret
    exact ⟨ret_int (total_last l x _ (by omega) _), by (repeat (first | exact Below.refl _ _ | assumption | refine below_draws ?_ _ | refine Below.drew ?_ | refine below_alloc ?_ _ (by first | omega | (simp; done) | (simp; omega)) | refine Below.setCell ?_ (by first | omega | (simp; done) | (simp; omega)) _ | refine below_at ?_ (by assumption) (by first | omega | (simp; done) | (simp; omega))))⟩
end Go.Proofs.Ytagpcgnlbgndmaa
