/- Walks of the small functions of packages base and budget: each returns what the plain law says. Conditions: none but that slices read as data. -/
import Derived.Test.YtafjikoeolacgaaGreatDoorPlainB
import Derived.Test.YtafjikoeolacgaaGreatDoorProg
set_option linter.unusedVariables false
set_option linter.unusedSimpArgs false
namespace Go.Proofs.YtafjikoeolacgaaGreatDoor
open Go Go.RowKit

theorem out_any (n lo hi : Int) (w : World) : Calls Tryz.prog 69 #[.int .i64 n, .int .i64 lo, .int .i64 hi] w
    fun e w' => e = .returned (.bool (outB n lo hi)) ∧ w = w' := by
  by_cases h1 : n < lo
  · go_enter Tryz.func69, Tryz.ntmps69
    go_wp2
    go_ret
    exact ⟨ret_bool (by simp [outB]; omega), rfl⟩
  · go_enter Tryz.func69, Tryz.ntmps69
    go_wp2
    go_ret
    exact ⟨ret_bool (by simp [outB]; omega), rfl⟩

theorem and_ways : ∀ k : Nat, k < 129 → 2 ≤ k → (bits BinOp.and IntKind.i64 (k : Int) ((k : Int) - 1) == 0) = waysB k := by decide +kernel

set_option maxHeartbeats 1000000 in
theorem ways_any (n : Int) (w : World) : Calls Tryz.prog 97 #[.int .i64 n] w
    fun e w' => e = .returned (.bool (waysB n)) ∧ w = w' := by
  by_cases h1 : 2 ≤ n
  · by_cases h2 : n ≤ 128
    · obtain ⟨k, rfl⟩ := Int.eq_ofNat_of_zero_le (show 0 ≤ n by omega)
      have h3 := and_ways k (by omega) (by omega)
      go_enter Tryz.func97, Tryz.ntmps97
      go_wp2
      go_ret
      exact ⟨ret_bool (by simp), rfl⟩
    · have h3 : waysB n = false := by
        unfold waysB
        simp
        have := dbl_cases n
        omega
      go_enter Tryz.func97, Tryz.ntmps97
      go_wp2
      go_ret
      exact ⟨ret_bool (by simp [h3]), rfl⟩
  · have h3 : waysB n = false := by
      unfold waysB
      simp
      have := dbl_cases n
      omega
    go_enter Tryz.func97, Tryz.ntmps97
    go_wp2
    go_ret
    exact ⟨ret_bool (by simp [h3]), rfl⟩

set_option maxHeartbeats 1000000 in
theorem first_any (v : Value) (l : List Int) (w : World) (h : Arr intCells 1 w l v) : Calls Tryz.prog 71 #[v] w
    fun e w' => e = .returned (.int .i64 (firstF l)) ∧ w = w' := by
  obtain ⟨a, cap, rfl, hcap, hmax, hc⟩ := h
  have hlen : l.length ≤ maxLen := by omega
  unfold maxLen at hlen hmax
  go_enter Tryz.func71, Tryz.ntmps71
  go_wp2
  go_loop [7] (fun i => ∃ k : Nat, k ≤ l.length ∧ i = .int .i64 k ∧ firstF (l.take k) = 0) (fun i => l.length - (intOf i).toNat)
  case atStart => exact ⟨0, by omega, rfl, rfl⟩
  case round =>
    obtain ⟨k, hk, rfl, hz⟩ := hrel
    have HZ := Lib.hid hz
    clear hz
    by_cases hlt : k < l.length
    · obtain ⟨b, off, rfl, hb, hcc⟩ := hc k hlt
      have h0 := hcc 0 _ rfl
      simp only [Nat.mul_one, Nat.add_zero] at h0
      clear hc hcc
      by_cases hx : l[k] = 0
      · have hx' : (l[k] != 0) = false := by simp [hx]
        have HX := Lib.hid hx
        clear hx
        go_wp2
        go_round
        case rel => exact ⟨k + 1, by omega, by go_num, by rw [firstF_take_succ l k hlt HZ.out]; exact HX.out⟩
        case measure => simp [intOf]; omega
      · have hx' : (l[k] != 0) = true := by simp [hx]
        have HX := Lib.hid hx
        clear hx
        go_wp2
        go_ret
        exact ⟨ret_int (by rw [firstF_hit l k hlt HZ.out HX.out]), rfl⟩
    · go_wp2
      go_ret
      exact ⟨ret_int (by have := HZ.out; rw [List.take_of_length_le (by omega)] at this; rw [this]), rfl⟩

set_option maxHeartbeats 1000000 in
theorem partFault_any (p : Part) (w : World) : Calls Tryz.prog 68 #[.agg #[.int .i64 p.kind, .int .i64 p.amt]] w
    fun e w' => e = .returned (.int .i64 (partFault p)) ∧ Below w.heap.size w w' := by
  obtain ⟨k, a⟩ := p
  by_cases h1 : k = 1
  · subst h1
    cases ho : outB a 1 200000
    all_goals
      go_enter Tryz.func68, Tryz.ntmps68
      go_wp2_with (first | (go_at_call 69; refine (out_any _ _ _ _).mono ?_; rintro e w' ⟨rfl, rfl⟩) | (go_at_call 97; refine (ways_any _ _).mono ?_; rintro e w' ⟨rfl, rfl⟩))
      go_ret
      exact ⟨ret_int (by simp [partFault, ho]), by (repeat (first | exact Below.refl _ _ | assumption | refine below_draws ?_ _ | refine Below.drew ?_ | refine below_alloc ?_ _ (by first | omega | (simp; done) | (simp; omega)) | refine Below.setCell ?_ (by first | omega | (simp; done) | (simp; omega)) _ | refine below_at ?_ (by assumption) (by first | omega | (simp; done) | (simp; omega))))⟩
  by_cases h2 : k = 2
  · subst h2
    cases ho : outB a 0 10000
    all_goals
      go_enter Tryz.func68, Tryz.ntmps68
      go_wp2_with (first | (go_at_call 69; refine (out_any _ _ _ _).mono ?_; rintro e w' ⟨rfl, rfl⟩) | (go_at_call 97; refine (ways_any _ _).mono ?_; rintro e w' ⟨rfl, rfl⟩))
      go_ret
      exact ⟨ret_int (by simp [partFault, ho]), by (repeat (first | exact Below.refl _ _ | assumption | refine below_draws ?_ _ | refine Below.drew ?_ | refine below_alloc ?_ _ (by first | omega | (simp; done) | (simp; omega)) | refine Below.setCell ?_ (by first | omega | (simp; done) | (simp; omega)) _ | refine below_at ?_ (by assumption) (by first | omega | (simp; done) | (simp; omega))))⟩
  by_cases h3 : k = 3
  · subst h3
    cases ho : outB a 1 100
    all_goals
      go_enter Tryz.func68, Tryz.ntmps68
      go_wp2_with (first | (go_at_call 69; refine (out_any _ _ _ _).mono ?_; rintro e w' ⟨rfl, rfl⟩) | (go_at_call 97; refine (ways_any _ _).mono ?_; rintro e w' ⟨rfl, rfl⟩))
      go_ret
      exact ⟨ret_int (by simp [partFault, ho]), by (repeat (first | exact Below.refl _ _ | assumption | refine below_draws ?_ _ | refine Below.drew ?_ | refine below_alloc ?_ _ (by first | omega | (simp; done) | (simp; omega)) | refine Below.setCell ?_ (by first | omega | (simp; done) | (simp; omega)) _ | refine below_at ?_ (by assumption) (by first | omega | (simp; done) | (simp; omega))))⟩
  by_cases h4 : k = 4
  · subst h4
    cases ho : waysB a
    all_goals
      go_enter Tryz.func68, Tryz.ntmps68
      go_wp2_with (first | (go_at_call 69; refine (out_any _ _ _ _).mono ?_; rintro e w' ⟨rfl, rfl⟩) | (go_at_call 97; refine (ways_any _ _).mono ?_; rintro e w' ⟨rfl, rfl⟩))
      go_ret
      exact ⟨ret_int (by simp [partFault, ho]), by (repeat (first | exact Below.refl _ _ | assumption | refine below_draws ?_ _ | refine Below.drew ?_ | refine below_alloc ?_ _ (by first | omega | (simp; done) | (simp; omega)) | refine Below.setCell ?_ (by first | omega | (simp; done) | (simp; omega)) _ | refine below_at ?_ (by assumption) (by first | omega | (simp; done) | (simp; omega))))⟩
  have e1 : (k == 1) = false := by simp [h1]
  have e2 : (k == 2) = false := by simp [h2]
  have e3 : (k == 3) = false := by simp [h3]
  have e4 : (k == 4) = false := by simp [h4]
  have H := Lib.hid (And.intro h1 (And.intro h2 (And.intro h3 h4)))
  clear h1 h2 h3 h4
  go_enter Tryz.func68, Tryz.ntmps68
  go_wp2
  go_ret
  obtain ⟨h1, h2, h3, h4⟩ := H.out
  exact ⟨ret_int (by simp [partFault, h1, h2, h3, h4]), by (repeat (first | exact Below.refl _ _ | assumption | refine below_draws ?_ _ | refine Below.drew ?_ | refine below_alloc ?_ _ (by first | omega | (simp; done) | (simp; omega)) | refine Below.setCell ?_ (by first | omega | (simp; done) | (simp; omega)) _ | refine below_at ?_ (by assumption) (by first | omega | (simp; done) | (simp; omega))))⟩

/-- a slice of parts, opened at one element -/
theorem part_at {w : World} {b off k : Nat} {p : Part} (h : ∀ j u, p.cells[j]? = some u → w.cell? ⟨b, off + k * 2 + j, none⟩ = some u) :
    w.cell? ⟨b, off + k * 2, none⟩ = some (.int .i64 p.kind) ∧ w.cell? ⟨b, off + k * 2 + 1, none⟩ = some (.int .i64 p.amt) :=
  ⟨h 0 _ rfl, h 1 _ rfl⟩

set_option maxHeartbeats 1000000 in
theorem checkParts_any (v : Value) (l : List Part) (w : World) (h : Arr Part.cells 2 w l v) : Calls Tryz.prog 20 #[v] w
    fun e w' => e = .returned (.int .i64 (partsFault l)) ∧ Below w.heap.size w w' := by
  obtain ⟨a, cap, rfl, hcap, hmax, hc⟩ := h
  have hlen : l.length ≤ maxLen := by omega
  unfold maxLen at hlen hmax
  by_cases hbig : 1000 < l.length
  · go_enter Tryz.func20, Tryz.ntmps20
    go_wp2
    go_ret
    exact ⟨ret_int (by simp [partsFault, hbig]), by (repeat (first | exact Below.refl _ _ | assumption | refine below_draws ?_ _ | refine Below.drew ?_ | refine below_alloc ?_ _ (by first | omega | (simp; done) | (simp; omega)) | refine Below.setCell ?_ (by first | omega | (simp; done) | (simp; omega)) _ | refine below_at ?_ (by assumption) (by first | omega | (simp; done) | (simp; omega))))⟩
  go_enter Tryz.func20, Tryz.ntmps20
  go_wp2
  go_loopw [11] (fun i wr => ∃ k : Nat, k ≤ l.length ∧ i = .int .i64 k ∧ firstF ((l.map partFault).take k) = 0 ∧ Below w.heap.size w wr) (fun i _ => l.length - (intOf i).toNat)
  case atStart => exact ⟨0, by omega, rfl, rfl, Below.refl _ _⟩
  case round =>
    obtain ⟨k, hk, rfl, hz, hB⟩ := hrel
    have HZ := Lib.hid hz
    clear hz
    have hsz := hB.size
    by_cases hlt : k < l.length
    · obtain ⟨b, off, rfl, hb, hcc⟩ := hc k hlt
      obtain ⟨c0, c1⟩ := part_at hcc
      replace c0 := (hB.cell (p := ⟨b, _, none⟩) hb).trans c0
      replace c1 := (hB.cell (p := ⟨b, _, none⟩) hb).trans c1
      clear hc hcc
      have hlt' : k < (l.map partFault).length := by simpa using hlt
      by_cases hx : partFault l[k] = 0
      · have hx' : (partFault l[k] != 0) = false := by simp [hx]
        have HX := Lib.hid hx
        clear hx
        go_wp2_with (go_at_call 68; refine (partFault_any _ _).mono ?_; rintro e w1 ⟨rfl, hb1⟩)
        go_roundw
        case rel => exact ⟨k + 1, by omega, by go_num, by rw [firstF_take_succ _ k hlt' HZ.out]; simpa using HX.out, by (repeat (first | exact Below.refl _ _ | assumption | refine below_draws ?_ _ | refine Below.drew ?_ | refine below_alloc ?_ _ (by first | omega | (simp; done) | (simp; omega)) | refine Below.setCell ?_ (by first | omega | (simp; done) | (simp; omega)) _ | refine below_at ?_ (by assumption) (by first | omega | (simp; done) | (simp; omega))))⟩
        case measure => simp [intOf]; omega
      · have hx' : (partFault l[k] != 0) = true := by simp [hx]
        have HX := Lib.hid hx
        clear hx
        go_wp2_with (go_at_call 68; refine (partFault_any _ _).mono ?_; rintro e w1 ⟨rfl, hb1⟩)
        go_ret
        exact ⟨ret_int (by unfold partsFault; rw [if_neg hbig, firstF_hit _ k hlt' HZ.out (by simpa using HX.out)]; simp), by (repeat (first | exact Below.refl _ _ | assumption | refine below_draws ?_ _ | refine Below.drew ?_ | refine below_alloc ?_ _ (by first | omega | (simp; done) | (simp; omega)) | refine Below.setCell ?_ (by first | omega | (simp; done) | (simp; omega)) _ | refine below_at ?_ (by assumption) (by first | omega | (simp; done) | (simp; omega))))⟩
    · go_wp2
      go_ret
      exact ⟨ret_int (by have := HZ.out; rw [List.take_of_length_le (by simp; omega)] at this; unfold partsFault; rw [if_neg hbig, this]), by (repeat (first | exact Below.refl _ _ | assumption | refine below_draws ?_ _ | refine Below.drew ?_ | refine below_alloc ?_ _ (by first | omega | (simp; done) | (simp; omega)) | refine Below.setCell ?_ (by first | omega | (simp; done) | (simp; omega)) _ | refine below_at ?_ (by assumption) (by first | omega | (simp; done) | (simp; omega))))⟩
end Go.Proofs.YtafjikoeolacgaaGreatDoor
