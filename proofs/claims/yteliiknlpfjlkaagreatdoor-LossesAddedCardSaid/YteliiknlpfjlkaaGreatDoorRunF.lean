/- Walk: budget.Running, where parts or losses are not right; what it answers in any case. -/
import Derived.Test.YteliiknlpfjlkaaGreatDoorRun
set_option linter.unusedVariables false
set_option linter.unusedSimpArgs false
namespace Go.Proofs.YteliiknlpfjlkaaGreatDoor
open Go Go.RowKit

set_option maxHeartbeats 1000000 in
theorem running_bad (v : Value) (l : List Part) (x : Losses) (w : World) (h : Arr Part.cells 2 w l v) (hf : ¬ lossF l x = 0) : Calls Tryz.prog 17 #[v, .agg #[.int .i64 x.perKm, .int .i64 x.conn, .int .i64 x.dblg, .int .i64 x.exc]] w
    fun e w' => e = .returned (.tuple #[.slice none 0 0, .int .i64 (lossF l x)]) ∧ Below w.heap.size w w' := by
  have hf' : (firstF [partsFault l, lossesFault x] != 0) = true := by have : ¬ firstF [partsFault l, lossesFault x] = 0 := hf; simp [this]
  clear hf
  go_enter Tryz.func17, Tryz.ntmps17
  go_wp2
  go_region_held3 (fun w' => w'.cell? ⟨w.heap.size, 0, none⟩ = some (.int .i64 x.perKm) ∧ w'.cell? ⟨w.heap.size, 1, none⟩ = some (.int .i64 x.conn) ∧ w'.cell? ⟨w.heap.size, 2, none⟩ = some (.int .i64 x.dblg) ∧ w'.cell? ⟨w.heap.size, 3, none⟩ = some (.int .i64 x.exc)) (go_keep)
    (first
      | (go_at_call 12; refine (checkParts_any _ l _ ?_).mono ?_; (exact h.below (by (repeat (first | exact Below.refl _ _ | assumption | refine below_draws ?_ _ | refine Below.drew ?_ | refine below_alloc ?_ _ (by first | omega | (simp; done) | (simp; omega)) | refine Below.setCell ?_ (by first | omega | (simp; done) | (simp; omega)) _ | refine below_at ?_ (by assumption) (by first | omega | (simp; done) | (simp; omega)))))); rintro e w1 ⟨rfl, hb1⟩; have s1 : w.heap.size + 1 ≤ w1.heap.size := (by have := hb1.size; (try simp at this); omega); have hc1 := bcellAt hb1 w.heap.size (by first | omega | (simp; done) | (simp; omega)))
      | (go_at_call 13; refine (checkLosses_any x _).mono ?_; rintro e w2 ⟨rfl, hb2⟩; have s2 : w.heap.size + 1 ≤ w2.heap.size := (by have := hb2.size; (try simp at this); omega); have hc2 := bcellAt hb2 w.heap.size (by first | omega | (simp; done) | (simp; omega)))
      | (go_at_call 52; refine (first_any _ [partsFault l, lossesFault x] _ (by exact Arr.lit (cells := intCells) (sz := 1) (fun _ => rfl) _ [partsFault l, lossesFault x] _ _ 2 (by rfl) rfl (by simp [maxLen]))).mono ?_; rintro e w4 ⟨rfl, rfl⟩))
  go_wp2_with fail
  go_ret2
  exact ⟨rfl, by (repeat (first | exact Below.refl _ _ | assumption | refine below_draws ?_ _ | refine Below.drew ?_ | refine below_alloc ?_ _ (by first | omega | (simp; done) | (simp; omega)) | refine Below.setCell ?_ (by first | omega | (simp; done) | (simp; omega)) _ | refine below_at ?_ (by assumption) (by first | omega | (simp; done) | (simp; omega))))⟩
/-- what is lost up to each part, or nothing -/
def runV (l : List Part) (x : Losses) : List Int := if lossF l x = 0 then running l x 0 else []
theorem run_any (v : Value) (l : List Part) (x : Losses) (w : World) (h : Arr Part.cells 2 w l v) : Calls Tryz.prog 17 #[v, .agg #[.int .i64 x.perKm, .int .i64 x.conn, .int .i64 x.dblg, .int .i64 x.exc]] w
    fun e w' => ∃ v', e = .returned (.tuple #[v', .int .i64 (lossF l x)]) ∧ Arr intCells 1 w' (runV l x) v' ∧ Below w.heap.size w w' := by
  by_cases hf : lossF l x = 0
  · refine (running_any v l x w h hf).mono ?_
    rintro e w' ⟨v', rfl, ho, hb⟩
    refine ⟨v', by rw [hf], ?_, hb⟩
    unfold runV
    rw [if_pos hf]
    exact Arr.of_ints ho
  · refine (running_bad v l x w h hf).mono ?_
    rintro e w' ⟨rfl, hb⟩
    refine ⟨_, rfl, ?_, hb⟩
    unfold runV
    rw [if_neg hf]
    exact Arr.nil _ _ _
end Go.Proofs.YteliiknlpfjlkaaGreatDoor
