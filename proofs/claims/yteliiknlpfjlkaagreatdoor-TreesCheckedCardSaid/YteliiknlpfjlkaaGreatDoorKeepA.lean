/- Walks: right parts drawn from the stream; a copy of parts. -/
import Derived.Test.YteliiknlpfjlkaaGreatDoorStream3
import Derived.Test.YteliiknlpfjlkaaGreatDoorRefBAll
import Derived.Test.YteliiknlpfjlkaaGreatDoorLibB
set_option linter.unusedVariables false
set_option linter.unusedSimpArgs false
namespace Go.Proofs.YteliiknlpfjlkaaGreatDoor
open Go Go.RowKit

theorem part_one (l : List Part) : ∀ u ∈ l.flatMap Part.cells, u.oneCell' = true := by
  intro u hu
  obtain ⟨c, _, hc⟩ := List.mem_flatMap.1 hu
  simp [Part.cells] at hc
  rcases hc with rfl | rfl <;> rfl
/-- parts that are right, at most so many -/
def RightP (s most : Nat) (v : Value) (w : World) : Prop := ∃ l : List Part, l.length ≤ most ∧ partsFault l = 0 ∧ Arr Part.cells 2 w l v ∧ ∀ b off n cap, v = .slice (some ⟨b, off, none⟩) n cap → s < b
set_option maxHeartbeats 1000000 in
set_option maxRecDepth 100000 in
theorem rightParts_any (s m : Nat) (most : Nat) (w : World) (h : Strm w s m) (hm : m ≤ 50000) (hmost : most ≤ 100) : Calls Tryz.prog 39 #[.pointer (some ⟨s, 0, none⟩), .int .i64 most] w
    (Draw (RightP s most) s m 6000 w) := by
  have hl := h.lt
  go_enter Tryz.func39, Tryz.ntmps39
  go_wp2
  go_loopw [6] (fun i wr => ∃ k : Nat, k ≤ 6 ∧ i = .int .i64 k ∧ Strm wr s (m + 1000 * k) ∧ w.grownBy wr (some s)) (fun i _ => 6 - (intOf i).toNat)
  case atStart => exact ⟨0, by omega, rfl, h, grown_self _ _⟩
  case round =>
    obtain ⟨k, hk, rfl, hs, hg⟩ := hrel
    have HS := Lib.hid (And.intro hs hg)
    clear hs hg
    by_cases hlt : k < 6
    · have hlt' : (k : Int) < 6 := by omega
      go_wp2_with fail
      refine (partListL_any s (m + 1000 * k) most _ HS.out.1 (by omega) hmost).mono ?_
      rintro e w1 ⟨v, rfl, ⟨l, hll, hA, hne⟩, hs1, hg1⟩
      have H1 := Lib.hid (And.intro hA (And.intro hne (And.intro hs1 hg1)))
      clear hA hne hs1 hg1
      go_wp2_with fail
      refine (rpartsFault_any _ l _ H1.out.1).mono ?_
      rintro e w2 ⟨rfl, hb2⟩
      have H2 := Lib.hid hb2
      clear hb2
      by_cases hf : partsFault l = 0
      · have hf1 : (partsFault l == 0) = true := by simp [hf]
        have HF := Lib.hid hf
        clear hf
        go_wp2
        go_ret
        exact ⟨_, rfl, ⟨l, hll, HF.out, H1.out.1.below H2.out, H1.out.2.1⟩, (H1.out.2.2.1.below H2.out (Nat.le_refl _)).mono (by omega), grown_trans HS.out.2 (grown_trans H1.out.2.2.2 (grown_below _ H2.out))⟩
      · have hf1 : (partsFault l == 0) = false := by simp [hf]
        clear hf
        go_wp2
        exact ⟨⟨k + 1, by omega, by go_num, (H1.out.2.2.1.below H2.out (Nat.le_refl _)).mono (by omega), grown_trans HS.out.2 (grown_trans H1.out.2.2.2 (grown_below _ H2.out))⟩, by simp [intOf]; omega⟩
    · have hge : ¬ (k : Int) < 6 := by omega
      go_wp2
      go_ret
      exact ⟨_, rfl, ⟨[], by simp, rfl, Arr.nil _ _ _, fun b off n cap e => by cases e⟩, HS.out.1.mono (by omega), HS.out.2⟩
end Go.Proofs.YteliiknlpfjlkaaGreatDoor
