/- Walks of the small functions of packages base and budget: each returns what the plain law says. Conditions: none but that slices read as data. -/
import Derived.Test.YtafjikoeolacgaaDoorPlainB
import Derived.Test.YtafjikoeolacgaaDoorProg
set_option linter.unusedVariables false
set_option linter.unusedSimpArgs false
namespace Go.Proofs.YtafjikoeolacgaaDoor
open Go Go.RowKit

theorem out_any (n lo hi : Int) (w : World) : Calls Tryd.prog 77 #[.int .i64 n, .int .i64 lo, .int .i64 hi] w
    fun e w' => e = .returned (.bool (outB n lo hi)) ∧ w = w' := by
  by_cases h1 : n < lo
  · go_enter Tryd.func77, Tryd.ntmps77
    go_wp2
    go_ret
    exact ⟨ret_bool (by simp [outB]; omega), rfl⟩
  · go_enter Tryd.func77, Tryd.ntmps77
    go_wp2
    go_ret
    exact ⟨ret_bool (by simp [outB]; omega), rfl⟩

theorem and_ways : ∀ k : Nat, k < 129 → 2 ≤ k → (bits BinOp.and IntKind.i64 (k : Int) ((k : Int) - 1) == 0) = waysB k := by decide +kernel

set_option maxHeartbeats 1000000 in
theorem ways_any (n : Int) (w : World) : Calls Tryd.prog 66 #[.int .i64 n] w
    fun e w' => e = .returned (.bool (waysB n)) ∧ w = w' := by
  by_cases h1 : 2 ≤ n
  · by_cases h2 : n ≤ 128
    · obtain ⟨k, rfl⟩ := Int.eq_ofNat_of_zero_le (show 0 ≤ n by omega)
      have h3 := and_ways k (by omega) (by omega)
      go_enter Tryd.func66, Tryd.ntmps66
      go_wp2
      go_ret
      exact ⟨ret_bool (by simp), rfl⟩
    · have h3 : waysB n = false := by
        unfold waysB
        simp
        have := dbl_cases n
        omega
      go_enter Tryd.func66, Tryd.ntmps66
      go_wp2
      go_ret
      exact ⟨ret_bool (by simp [h3]), rfl⟩
  · have h3 : waysB n = false := by
      unfold waysB
      simp
      have := dbl_cases n
      omega
    go_enter Tryd.func66, Tryd.ntmps66
    go_wp2
    go_ret
    exact ⟨ret_bool (by simp [h3]), rfl⟩

/-- a slice of parts, opened at one element -/
theorem part_at {w : World} {b off k : Nat} {p : Part} (h : ∀ j u, p.cells[j]? = some u → w.cell? ⟨b, off + k * 2 + j, none⟩ = some u) :
    w.cell? ⟨b, off + k * 2, none⟩ = some (.int .i64 p.kind) ∧ w.cell? ⟨b, off + k * 2 + 1, none⟩ = some (.int .i64 p.amt) :=
  ⟨h 0 _ rfl, h 1 _ rfl⟩

end Go.Proofs.YtafjikoeolacgaaDoor
