/- Walks of package budget that add up losses and use powers. -/
import Derived.Test.YtafjikoeolacgaaGreatDoorWalkB2
set_option linter.unusedVariables false
set_option linter.unusedSimpArgs false
namespace Go.Proofs.YtafjikoeolacgaaGreatDoor
open Go Go.RowKit

set_option maxHeartbeats 1000000 in
set_option maxRecDepth 100000 in
theorem len_ways (n : Int) (h : 1 ≤ dbl n) (w : World) : Calls Tryz.prog 126 #[.int .u64 n] w
    fun e w' => e = .returned (.int .i64 (dbl n + 1)) ∧ w = w' := by
  rcases dbl_cases n h with rfl | rfl | rfl | rfl | rfl | rfl | rfl
  all_goals
    clear h
    go_enter Tryz.func126, Tryz.ntmps126
    go_wp2
    go_ret
    exact ⟨ret_int (by decide +kernel), rfl⟩

theorem quo_pos (a : Int) (h : 0 ≤ a) : (a + 1000 - 1) / 1000 = (a + 999) / 1000 := by rw [show a + 1000 - 1 = a + 999 from by omega]

set_option maxHeartbeats 1000000 in
theorem lossOf_any (p : Part) (x : Losses) (w : World) (hp : p.Ok) (hx : x.Ok) : Calls Tryz.prog 73 #[.agg #[.int .i64 p.kind, .int .i64 p.amt], .agg #[.int .i64 x.perKm, .int .i64 x.conn, .int .i64 x.dblg, .int .i64 x.exc]] w
    fun e w' => e = .returned (.int .i64 (lossOf p x)) ∧ Below w.heap.size w w' := by
  obtain ⟨k, a⟩ := p
  obtain ⟨pk, cn, db, ex⟩ := x
  have hbd := lossOf_bound hp hx
  unfold Losses.Ok at hx
  obtain ⟨a1, a2, b1, b2, c1, c2, d1, d2⟩ := hx
  simp only at a1 a2 b1 b2 c1 c2 d1 d2
  rcases hp with ⟨hk, h1, h2⟩ | ⟨hk, h1, h2⟩ | ⟨hk, h1, h2⟩ | ⟨hk, h1⟩ <;> simp only at hk h1 <;> subst hk
  · simp only at h2
    have m1 : 0 ≤ pk * a := Int.mul_nonneg a1 (by omega)
    have m2 : pk * a ≤ 1000 * 200000 := Int.mul_le_mul a2 h2 (by omega) (by omega)
    clear hbd
    go_enter Tryz.func73, Tryz.ntmps73
    go_wp2
    go_ret
    exact ⟨ret_int (by simp [lossOf]; omega), by (repeat (first | exact Below.refl _ _ | assumption | refine below_draws ?_ _ | refine Below.drew ?_ | refine below_alloc ?_ _ (by first | omega | (simp; done) | (simp; omega)) | refine Below.setCell ?_ (by first | omega | (simp; done) | (simp; omega)) _ | refine below_at ?_ (by assumption) (by first | omega | (simp; done) | (simp; omega))))⟩
  · clear hbd
    go_enter Tryz.func73, Tryz.ntmps73
    go_wp2
    go_ret
    exact ⟨ret_int (by simp [lossOf]), by (repeat (first | exact Below.refl _ _ | assumption | refine below_draws ?_ _ | refine Below.drew ?_ | refine below_alloc ?_ _ (by first | omega | (simp; done) | (simp; omega)) | refine Below.setCell ?_ (by first | omega | (simp; done) | (simp; omega)) _ | refine below_at ?_ (by assumption) (by first | omega | (simp; done) | (simp; omega))))⟩
  · simp only at h2
    have m1 : 0 ≤ cn * a := Int.mul_nonneg b1 (by omega)
    have m2 : cn * a ≤ 1000 * 100 := Int.mul_le_mul b2 h2 (by omega) (by omega)
    clear hbd
    go_enter Tryz.func73, Tryz.ntmps73
    go_wp2
    go_ret
    exact ⟨ret_int (by simp [lossOf]), by (repeat (first | exact Below.refl _ _ | assumption | refine below_draws ?_ _ | refine Below.drew ?_ | refine below_alloc ?_ _ (by first | omega | (simp; done) | (simp; omega)) | refine Below.setCell ?_ (by first | omega | (simp; done) | (simp; omega)) _ | refine below_at ?_ (by assumption) (by first | omega | (simp; done) | (simp; omega))))⟩
  · have h3 := dbl_le a
    have h4 := dbl_cases a h1
    have h5 : 2 ≤ a ∧ a ≤ 128 := by omega
    obtain ⟨h5, h6⟩ := h5
    have m1 : 0 ≤ db * dbl a := Int.mul_nonneg c1 (by omega)
    have m2 : db * dbl a ≤ 1000 * 7 := Int.mul_le_mul c2 h3.2 (by omega) (by omega)
    clear h4 hbd
    have hl := fun w => len_ways a h1 w
    have HL := Lib.hid hl
    clear hl
    have h7 := h3.2
    clear h3
    generalize hd : dbl a = d at *
    have HD := Lib.hid hd
    clear hd
    go_enter Tryz.func73, Tryz.ntmps73
    go_wp2
    go_quiet ((go_at_call 126; exact Calls.quiet_of_same ((HL.out _).mono (by rintro e w' ⟨rfl, rfl⟩; exact ⟨rfl, rfl⟩))))
    go_wp2
    go_ret
    exact ⟨ret_int (by simp [lossOf, HD.out]), by (repeat (first | exact Below.refl _ _ | assumption | refine below_draws ?_ _ | refine Below.drew ?_ | refine below_alloc ?_ _ (by first | omega | (simp; done) | (simp; omega)) | refine Below.setCell ?_ (by first | omega | (simp; done) | (simp; omega)) _ | refine below_at ?_ (by assumption) (by first | omega | (simp; done) | (simp; omega))))⟩
end Go.Proofs.YtafjikoeolacgaaGreatDoor
