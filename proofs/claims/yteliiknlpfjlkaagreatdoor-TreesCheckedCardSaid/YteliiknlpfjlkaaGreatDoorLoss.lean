/- Walks: budget.Loss, and the laws' 'budgeted'. -/
import Derived.Test.YteliiknlpfjlkaaGreatDoorWalkAll
set_option linter.unusedVariables false
set_option linter.unusedSimpArgs false
namespace Go.Proofs.YteliiknlpfjlkaaGreatDoor
open Go Go.RowKit

def lossF (l : List Part) (x : Losses) : Int := firstF [partsFault l, lossesFault x]
def lossV (l : List Part) (x : Losses) : Int := if lossF l x = 0 then total l x else 0
theorem lossF_zero {l : List Part} {x : Losses} : lossF l x = 0 ↔ (partsFault l = 0 ∧ lossesFault x = 0) := by
  unfold lossF firstF
  by_cases h : partsFault l = 0 <;> by_cases h2 : lossesFault x = 0 <;> simp [firstF, h, h2]

set_option maxHeartbeats 1000000 in
theorem loss_any (v : Value) (l : List Part) (x : Losses) (w : World) (h : Arr Part.cells 2 w l v) : Calls Tryz.prog 16 #[v, .agg #[.int .i64 x.perKm, .int .i64 x.conn, .int .i64 x.dblg, .int .i64 x.exc]] w
    fun e w' => e = .returned (.tuple #[.int .i64 (lossV l x), .int .i64 (lossF l x)]) ∧ Below w.heap.size w w' := by
  by_cases hf : lossF l x = 0
  · obtain ⟨p1, p2⟩ := lossF_zero.1 hf
    have hf' : (firstF [partsFault l, lossesFault x] != 0) = false := by have : firstF [partsFault l, lossesFault x] = 0 := hf; simp [this]
    have HR : Hid (lossV l x = total l x) := by unfold lossV; rw [if_pos hf]; exact rfl
    have HF := Lib.hid hf
    have H2 := Lib.hid (And.intro (partsFault_zero.1 p1) (lossesFault_zero.1 p2))
    clear hf p1 p2
    go_enter Tryz.func16, Tryz.ntmps16
    go_wp2
    go_region_held3 (fun w' => w'.cell? ⟨w.heap.size, 0, none⟩ = some (.int .i64 x.perKm) ∧ w'.cell? ⟨w.heap.size, 1, none⟩ = some (.int .i64 x.conn) ∧ w'.cell? ⟨w.heap.size, 2, none⟩ = some (.int .i64 x.dblg) ∧ w'.cell? ⟨w.heap.size, 3, none⟩ = some (.int .i64 x.exc)) (go_keep)
    (first
      | (go_at_call 12; refine (checkParts_any _ l _ ?_).mono ?_; (exact h.below (by (repeat (first | exact Below.refl _ _ | assumption | refine below_draws ?_ _ | refine Below.drew ?_ | refine below_alloc ?_ _ (by first | omega | (simp; done) | (simp; omega)) | refine Below.setCell ?_ (by first | omega | (simp; done) | (simp; omega)) _ | refine below_at ?_ (by assumption) (by first | omega | (simp; done) | (simp; omega)))))); rintro e w1 ⟨rfl, hb1⟩; have s1 : w.heap.size + 1 ≤ w1.heap.size := (by have := hb1.size; (try simp at this); omega); have hc1 := bcellAt hb1 w.heap.size (by first | omega | (simp; done) | (simp; omega)))
      | (go_at_call 13; refine (checkLosses_any x _).mono ?_; rintro e w2 ⟨rfl, hb2⟩; have s2 : w.heap.size + 1 ≤ w2.heap.size := (by have := hb2.size; (try simp at this); omega); have hc2 := bcellAt hb2 w.heap.size (by first | omega | (simp; done) | (simp; omega)))
      | (go_at_call 52; refine (first_any _ [partsFault l, lossesFault x] _ (by exact Arr.lit (cells := intCells) (sz := 1) (fun _ => rfl) _ [partsFault l, lossesFault x] _ _ 2 (by rfl) rfl (by simp [maxLen]))).mono ?_; rintro e w4 ⟨rfl, rfl⟩))
    go_wp2_with (go_at_call 53; refine (total_any _ l x _ ?_ H2.out.1.2 H2.out.1.1 H2.out.2).mono ?_; (exact h.below (by (repeat (first | exact Below.refl _ _ | assumption | refine below_draws ?_ _ | refine Below.drew ?_ | refine below_alloc ?_ _ (by first | omega | (simp; done) | (simp; omega)) | refine Below.setCell ?_ (by first | omega | (simp; done) | (simp; omega)) _ | refine below_at ?_ (by assumption) (by first | omega | (simp; done) | (simp; omega)))))); rintro e w5 ⟨rfl, hb5⟩)
    go_ret2
    exact ⟨by rw [HR.out, HF.out]; rfl, by (repeat (first | exact Below.refl _ _ | assumption | refine below_draws ?_ _ | refine Below.drew ?_ | refine below_alloc ?_ _ (by first | omega | (simp; done) | (simp; omega)) | refine Below.setCell ?_ (by first | omega | (simp; done) | (simp; omega)) _ | refine below_at ?_ (by assumption) (by first | omega | (simp; done) | (simp; omega))))⟩
  · have hf' : (firstF [partsFault l, lossesFault x] != 0) = true := by have : ¬ firstF [partsFault l, lossesFault x] = 0 := hf; simp [this]
    have HR : Hid (lossV l x = 0) := by unfold lossV; rw [if_neg hf]; exact rfl
    clear hf
    go_enter Tryz.func16, Tryz.ntmps16
    go_wp2
    go_region_held3 (fun w' => w'.cell? ⟨w.heap.size, 0, none⟩ = some (.int .i64 x.perKm) ∧ w'.cell? ⟨w.heap.size, 1, none⟩ = some (.int .i64 x.conn) ∧ w'.cell? ⟨w.heap.size, 2, none⟩ = some (.int .i64 x.dblg) ∧ w'.cell? ⟨w.heap.size, 3, none⟩ = some (.int .i64 x.exc)) (go_keep)
    (first
      | (go_at_call 12; refine (checkParts_any _ l _ ?_).mono ?_; (exact h.below (by (repeat (first | exact Below.refl _ _ | assumption | refine below_draws ?_ _ | refine Below.drew ?_ | refine below_alloc ?_ _ (by first | omega | (simp; done) | (simp; omega)) | refine Below.setCell ?_ (by first | omega | (simp; done) | (simp; omega)) _ | refine below_at ?_ (by assumption) (by first | omega | (simp; done) | (simp; omega)))))); rintro e w1 ⟨rfl, hb1⟩; have s1 : w.heap.size + 1 ≤ w1.heap.size := (by have := hb1.size; (try simp at this); omega); have hc1 := bcellAt hb1 w.heap.size (by first | omega | (simp; done) | (simp; omega)))
      | (go_at_call 13; refine (checkLosses_any x _).mono ?_; rintro e w2 ⟨rfl, hb2⟩; have s2 : w.heap.size + 1 ≤ w2.heap.size := (by have := hb2.size; (try simp at this); omega); have hc2 := bcellAt hb2 w.heap.size (by first | omega | (simp; done) | (simp; omega)))
      | (go_at_call 52; refine (first_any _ [partsFault l, lossesFault x] _ (by exact Arr.lit (cells := intCells) (sz := 1) (fun _ => rfl) _ [partsFault l, lossesFault x] _ _ 2 (by rfl) rfl (by simp [maxLen]))).mono ?_; rintro e w4 ⟨rfl, rfl⟩))
    go_wp2_with fail
    go_ret2
    exact ⟨by rw [HR.out]; rfl, by (repeat (first | exact Below.refl _ _ | assumption | refine below_draws ?_ _ | refine Below.drew ?_ | refine below_alloc ?_ _ (by first | omega | (simp; done) | (simp; omega)) | refine Below.setCell ?_ (by first | omega | (simp; done) | (simp; omega)) _ | refine below_at ?_ (by assumption) (by first | omega | (simp; done) | (simp; omega))))⟩

theorem eightyEight : lossV [⟨1, 2500⟩] ⟨35, 0, 0, 0⟩ = 88 ∧ lossF [⟨1, 2500⟩] ⟨35, 0, 0, 0⟩ = 0 := by decide
set_option maxHeartbeats 1000000 in
theorem budgeted_any (w : World) : Calls Tryz.prog 28 #[] w
    fun e w' => e = .returned (.bool true) ∧ Below w.heap.size w w' := by
  have HE := Lib.hid eightyEight
  go_enter Tryz.func28, Tryz.ntmps28
  go_wp2_with fail
  refine (loss_any _ [⟨1, 2500⟩] ⟨35, 0, 0, 0⟩ _ ?_).mono ?_
  · exact Arr.litAt Part.cells_len (by rfl) (by rfl) (by rfl) (by simp [maxLen])
  rintro e w1 ⟨rfl, hb1⟩
  rw [HE.out.1, HE.out.2]
  go_wp2
  go_ret
  exact ⟨rfl, by (repeat (first | exact Below.refl _ _ | assumption | refine below_draws ?_ _ | refine Below.drew ?_ | refine below_alloc ?_ _ (by first | omega | (simp; done) | (simp; omega)) | refine Below.setCell ?_ (by first | omega | (simp; done) | (simp; omega)) _ | refine below_at ?_ (by assumption) (by first | omega | (simp; done) | (simp; omega))))⟩
end Go.Proofs.YteliiknlpfjlkaaGreatDoor
