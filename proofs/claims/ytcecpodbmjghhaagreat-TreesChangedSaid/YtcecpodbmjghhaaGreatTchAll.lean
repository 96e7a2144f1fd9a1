/- Texts of one subject in one: Grown; what each shows stands at its head. No condition. -/
import Derived.Test.YtcecpodbmjghhaaGreatHeadR
import Derived.Test.YtcecpodbmjghhaaGreatStrA
/- Walk: the laws' 'grown'. -/
set_option linter.unusedVariables false
set_option linter.unusedSimpArgs false
namespace Go.Proofs.YtcecpodbmjghhaaGreat
open Go Go.RowKit
set_option maxHeartbeats 1000000 in
set_option maxRecDepth 100000 in
theorem grown_any (w : World) : Calls Tryz.prog 15 #[] w
    fun e w' => e = .returned (.bool true) ∧ Below w.heap.size w w' := by
  have HS := Lib.hid (And.intro grownSplit grownPorts)
  go_enter Tryz.func15, Tryz.ntmps15
  go_wp2_with fail
  refine (ports_any _ _ [⟨keyS, 2, ⟨#[]⟩, 0⟩] [⟨⟨#[107]⟩, keyS, 2⟩] keyS _ ?_ ?_).mono ?_
  · refine Arr.below (w := w.alloc (.cells #[.string keyS, .int .i64 2, .string ⟨#[]⟩, .int .i64 0] 58)) (Arr.litAt Splt.cells_len (by rfl) (by rfl) (by rfl) (by simp [maxLen])) ?_
    exact below_alloc (Below.refl _ _) _ (Nat.le_refl _)
  · exact Arr.litAt Drp.cells_len (by simp) (by rfl) (by rfl) (by simp [maxLen])
  rintro e w1 ⟨v1, rfl, hA1, hb1⟩
  rw [HS.out.1]
  have hz1 := hb1.size
  simp only [World.size_alloc] at hz1
  have hB1 : Below w.heap.size w w1 := by (repeat (first | exact Below.refl _ _ | assumption | refine below_draws ?_ _ | refine Below.drew ?_ | refine below_alloc ?_ _ (by first | omega | (simp; done) | (simp; omega)) | refine Below.setCell ?_ (by first | omega | (simp; done) | (simp; omega)) _ | refine below_at ?_ (by assumption) (by first | omega | (simp; done) | (simp; omega))))
  rw [HS.out.2] at hA1
  have H1 := Lib.hid (And.intro hA1 hB1)
  clear hb1 hB1 hA1
  go_wp2_with fail
  refine (equal_strs v1 _ [⟨#[]⟩, ⟨#[107]⟩] [⟨#[]⟩, ⟨#[107]⟩] _ (H1.out.1.below (by (repeat (first | exact Below.refl _ _ | assumption | refine below_draws ?_ _ | refine Below.drew ?_ | refine below_alloc ?_ _ (by first | omega | (simp; done) | (simp; omega)) | refine Below.setCell ?_ (by first | omega | (simp; done) | (simp; omega)) _ | refine below_at ?_ (by assumption) (by first | omega | (simp; done) | (simp; omega)))))) ?_).mono ?_
  · exact Arr.litAt (cells := strCells) (sz := 1) (fun _ => rfl) (by first | rfl | simp) (by rfl) (by rfl) (by simp [maxLen])
  rintro e w2 ⟨rfl, hb2⟩
  have hz2 := hb2.size
  simp only [World.size_alloc] at hz2
  have hB2 : Below w.heap.size w w2 := by have h1 := H1.out.2; (repeat (first | exact Below.refl _ _ | assumption | refine below_draws ?_ _ | refine Below.drew ?_ | refine below_alloc ?_ _ (by first | omega | (simp; done) | (simp; omega)) | refine Below.setCell ?_ (by first | omega | (simp; done) | (simp; omega)) _ | refine below_at ?_ (by assumption) (by first | omega | (simp; done) | (simp; omega))))
  have H2 := Lib.hid hB2
  clear hb2 hB2
  go_wp2
  go_ret
  exact ⟨rfl, H2.out⟩
end Go.Proofs.YtcecpodbmjghhaaGreat
