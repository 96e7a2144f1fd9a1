/- Walks: the properties' 'ready' and the laws' 'grown'. -/
import Derived.Test.YteliiknlpfjlkaaGreatDoorSchedAll
import Derived.Test.YteliiknlpfjlkaaGreatDoorTreeAll
import Derived.Test.YteliiknlpfjlkaaGreatDoorLoss
set_option linter.unusedVariables false
set_option linter.unusedSimpArgs false
namespace Go.Proofs.YteliiknlpfjlkaaGreatDoor
open Go Go.RowKit

def keyS : ByteArray := ⟨#[115]⟩
theorem readySplit : splitterF [⟨keyS, 2, ⟨#[]⟩, 0⟩] [] keyS = 0 := by decide +kernel
theorem readyPorts : (portsL [⟨keyS, 2, ⟨#[]⟩, 0⟩] [] keyS).length = 2 := by decide +kernel
theorem readySchedF : schedF [⟨0, ⟨#[]⟩, ⟨⟨#[]⟩, 0⟩, ⟨⟨#[]⟩, 0⟩, 0, 5⟩] [⟨3, 9⟩] 1 = 0 := by decide +kernel
theorem readySchedV : schedV [⟨0, ⟨#[]⟩, ⟨⟨#[]⟩, 0⟩, ⟨⟨#[]⟩, 0⟩, 0, 5⟩] [⟨3, 9⟩] 1 = some [3] := by
  simp [schedV, schedGo, fitsW]
  decide
theorem grownSplit : splitterF [⟨keyS, 2, ⟨#[]⟩, 0⟩] [⟨⟨#[107]⟩, keyS, 2⟩] keyS = 0 := by decide +kernel
theorem grownPorts : portsL [⟨keyS, 2, ⟨#[]⟩, 0⟩] [⟨⟨#[107]⟩, keyS, 2⟩] keyS = [⟨#[]⟩, ⟨#[107]⟩] := by decide +kernel
set_option maxHeartbeats 1000000 in
set_option maxRecDepth 100000 in
theorem ready_any (w : World) : Calls Tryz.prog 40 #[] w
    fun e w' => e = .returned (.bool true) ∧ Below w.heap.size w w' := by
  have HE := Lib.hid eightyEight
  have HS := Lib.hid (And.intro readySplit (And.intro readyPorts (And.intro readySchedF readySchedV)))
  go_enter Tryz.func40, Tryz.ntmps40
  go_wp2_with fail
  refine (loss_any _ [⟨1, 2500⟩] ⟨35, 0, 0, 0⟩ _ ?_).mono ?_
  · exact Arr.litAt Part.cells_len (by rfl) (by rfl) (by rfl) (by simp [maxLen])
  rintro e w1 ⟨rfl, hb1⟩
  rw [HE.out.1, HE.out.2]
  have hz1 := hb1.size
  simp only [World.size_alloc] at hz1
  have hB1 : Below w.heap.size w w1 := by (repeat (first | exact Below.refl _ _ | assumption | refine below_draws ?_ _ | refine Below.drew ?_ | refine below_alloc ?_ _ (by first | omega | (simp; done) | (simp; omega)) | refine Below.setCell ?_ (by first | omega | (simp; done) | (simp; omega)) _ | refine below_at ?_ (by assumption) (by first | omega | (simp; done) | (simp; omega))))
  have H1 := Lib.hid hB1
  clear hb1 hB1
  go_wp2_with fail
  refine (ports_any _ _ [⟨keyS, 2, ⟨#[]⟩, 0⟩] [] keyS _ ?_ ?_).mono ?_
  · exact Arr.litAt Splt.cells_len (by rfl) (by rfl) (by rfl) (by simp [maxLen])
  · exact Arr.nil _ _ _
  rintro e w2 ⟨v2, rfl, hA2, hb2⟩
  rw [HS.out.1]
  have hz2 := hb2.size
  simp only [World.size_alloc] at hz2
  have hB2 : Below w.heap.size w w2 := by have h1 := H1.out; (repeat (first | exact Below.refl _ _ | assumption | refine below_draws ?_ _ | refine Below.drew ?_ | refine below_alloc ?_ _ (by first | omega | (simp; done) | (simp; omega)) | refine Below.setCell ?_ (by first | omega | (simp; done) | (simp; omega)) _ | refine below_at ?_ (by assumption) (by first | omega | (simp; done) | (simp; omega))))
  obtain ⟨a2, cap2, rfl, hcap2, hmax2, hc2⟩ := hA2
  rw [HS.out.2.1]
  have H2 := Lib.hid hB2
  clear hb2 hB2 hc2
  go_wp2_with fail
  refine (schedule_any _ _ [⟨0, ⟨#[]⟩, ⟨⟨#[]⟩, 0⟩, ⟨⟨#[]⟩, 0⟩, 0, 5⟩] [⟨3, 9⟩] 1 _ ?_ ?_).mono ?_
  · refine Arr.below (w := w2.alloc (.cells #[.int .i64 0, .string ⟨#[]⟩, .string ⟨#[]⟩, .int .i64 0, .string ⟨#[]⟩, .int .i64 0, .int .i64 0, .int .i64 5] 128)) (Arr.litAt Job.cells_len (by rfl) (by rfl) (by rfl) (by simp [maxLen])) ?_
    exact below_alloc (Below.refl _ _) _ (Nat.le_refl _)
  · exact Arr.litAt Win.cells_len (by simp) (by rfl) (by rfl) (by simp [maxLen])
  rintro e w3 ⟨v3, rfl, hA3, hb3⟩
  have hz3 := hb3.size
  simp only [World.size_alloc] at hz3
  have hB3 : Below w.heap.size w w3 := by have h2 := H2.out; (repeat (first | exact Below.refl _ _ | assumption | refine below_draws ?_ _ | refine Below.drew ?_ | refine below_alloc ?_ _ (by first | omega | (simp; done) | (simp; omega)) | refine Below.setCell ?_ (by first | omega | (simp; done) | (simp; omega)) _ | refine below_at ?_ (by assumption) (by first | omega | (simp; done) | (simp; omega))))
  rw [HS.out.2.2.1, HS.out.2.2.2] at hA3 ⊢
  obtain ⟨a3, cap3, rfl, hcap3, hmax3, hc3⟩ := hA3
  have H3 := Lib.hid hB3
  clear hb3 hB3 hc3
  go_wp2
  go_ret
  exact ⟨rfl, H3.out⟩
end Go.Proofs.YteliiknlpfjlkaaGreatDoor
