/- Whether two lists of strings, of numbers are equal, by the shelf's contracts. -/
import Derived.Test.YteliiknlpfjlkaaGreatDoorShelfB
import Derived.Test.YteliiknlpfjlkaaGreatDoorStream
set_option linter.unusedVariables false
set_option linter.unusedSimpArgs false
namespace Go.Proofs.YteliiknlpfjlkaaGreatDoor
open Go Go.RowKit

theorem arr_none {α : Type} {cells : α → List Value} {sz : Nat} {w : World} {l : List α} {n cap : Nat} (h : Arr cells sz w l (.slice none n cap)) : l = [] := by
  obtain ⟨a, c, he, _, _, hc⟩ := h
  simp only [Value.slice.injEq] at he
  obtain ⟨rfl, rfl, rfl⟩ := he
  rcases Nat.eq_zero_or_pos l.length with h | h
  · exact List.length_eq_zero_iff.1 h
  · obtain ⟨_, _, e, _⟩ := hc 0 h; cases e
theorem strs_read {w : World} {l : List ByteArray} {b off n cap : Nat} (h : Arr strCells 1 w l (.slice (some ⟨b, off, none⟩) n cap)) : ∀ j, j < l.length → w.cell? ⟨b, off + j, none⟩ = some (.string (l.getD j ByteArray.empty)) := by
  intro j hj
  obtain ⟨a, c, he, _, _, hc⟩ := h
  obtain ⟨b2, off2, ha, _, hcc⟩ := hc j hj
  simp only [Value.slice.injEq] at he
  rw [ha] at he
  simp only [Option.some.injEq, Addr.mk.injEq] at he
  obtain ⟨⟨rfl, rfl, -⟩, -, -⟩ := he
  have := hcc 0 _ rfl
  simp only [Nat.mul_one, Nat.add_zero] at this
  rw [this, List.getD_eq_getElem?_getD, List.getElem?_eq_getElem hj]; rfl
theorem ints_read {w : World} {l : List Int} {b off n cap : Nat} (h : Arr intCells 1 w l (.slice (some ⟨b, off, none⟩) n cap)) : ∀ j, j < l.length → w.cell? ⟨b, off + j, none⟩ = some (.int .i64 (l.getD j 0)) := by
  intro j hj
  obtain ⟨a, c, he, _, _, hc⟩ := h
  obtain ⟨b2, off2, ha, _, hcc⟩ := hc j hj
  simp only [Value.slice.injEq] at he
  rw [ha] at he
  simp only [Option.some.injEq, Addr.mk.injEq] at he
  obtain ⟨⟨rfl, rfl, -⟩, -, -⟩ := he
  have := hcc 0 _ rfl
  simp only [Nat.mul_one, Nat.add_zero] at this
  rw [this, List.getD_eq_getElem?_getD, List.getElem?_eq_getElem hj]; rfl

theorem addr_nil {a : Option Addr} {α : Type} {cells : α → List Value} {sz : Nat} {w : World} {l : List α} {n cap : Nat} (h : Arr cells sz w l (.slice a n cap)) (h0 : 0 < l.length) : ∃ b off, a = some ⟨b, off, none⟩ := by
  obtain ⟨a', c, he, _, _, hc⟩ := h
  obtain ⟨b, off, ha, _⟩ := hc 0 h0
  simp only [Value.slice.injEq] at he
  exact ⟨b, off, he.1.trans ha⟩

theorem equal_strs (v1 v2 : Value) (l m : List ByteArray) (w : World) (h1 : Arr strCells 1 w l v1) (h2 : Arr strCells 1 w m v2) : Calls Tryz.prog 93 #[v1, v2] w
    fun e w' => e = .returned (.bool (decide (l = m))) ∧ Below w.heap.size w w' := by
  have k1 := h1
  have k2 := h2
  obtain ⟨a, cap, rfl, hcap, hmax, -⟩ := k1
  obtain ⟨a2, cap2, rfl, hcap2, hmax2, -⟩ := k2
  unfold maxLen at hmax hmax2
  by_cases hl : l.length = m.length
  · rcases Nat.eq_zero_or_pos l.length with h0 | h0
    · obtain rfl : l = [] := List.length_eq_zero_iff.1 h0
      obtain rfl : m = [] := List.length_eq_zero_iff.1 (by omega)
      refine (Tryz.slices_Equal_string_empty a a2 cap 0 cap2 w (by omega)).mono ?_
      rintro e w' ⟨rfl, rfl⟩
      exact ⟨by simp, Below.refl _ _⟩
    · obtain ⟨b, off, rfl⟩ := addr_nil h1 h0
      obtain ⟨b2, off2, rfl⟩ := addr_nil h2 (by omega)
      refine (Tryz.slices_Equal_string b off l.length cap b2 off2 m.length cap2 l m w (Nat.le_refl _) (Nat.le_refl _) (by omega) (by omega) (strs_read h1) (strs_read h2)).mono ?_
      rintro e w' ⟨rfl, q, rfl⟩
      exact ⟨by first | (simp; done) | (simp; by_cases hlm : l = m <;> simp [hlm]), by (repeat (first | exact Below.refl _ _ | assumption | refine below_draws ?_ _ | refine Below.drew ?_ | refine below_alloc ?_ _ (by first | omega | (simp; done) | (simp; omega)) | refine Below.setCell ?_ (by first | omega | (simp; done) | (simp; omega)) _ | refine below_at ?_ (by assumption) (by first | omega | (simp; done) | (simp; omega))))⟩
  · refine (Tryz.slices_Equal_string_lens a a2 l.length cap m.length cap2 w hl).mono ?_
    rintro e w' ⟨rfl, rfl⟩
    exact ⟨ret_bool (Eq.symm (decide_eq_false (fun h => hl (by rw [h])))), Below.refl _ _⟩
theorem equal_ints (v1 v2 : Value) (l m : List Int) (w : World) (h1 : Arr intCells 1 w l v1) (h2 : Arr intCells 1 w m v2) : Calls Tryz.prog 21 #[v1, v2] w
    fun e w' => e = .returned (.bool (decide (l = m))) ∧ Below w.heap.size w w' := by
  have k1 := h1
  have k2 := h2
  obtain ⟨a, cap, rfl, hcap, hmax, -⟩ := k1
  obtain ⟨a2, cap2, rfl, hcap2, hmax2, -⟩ := k2
  unfold maxLen at hmax hmax2
  by_cases hl : l.length = m.length
  · rcases Nat.eq_zero_or_pos l.length with h0 | h0
    · obtain rfl : l = [] := List.length_eq_zero_iff.1 h0
      obtain rfl : m = [] := List.length_eq_zero_iff.1 (by omega)
      refine (Tryz.slices_Equal_int_empty a a2 cap 0 cap2 w (by omega)).mono ?_
      rintro e w' ⟨rfl, rfl⟩
      exact ⟨by simp, Below.refl _ _⟩
    · obtain ⟨b, off, rfl⟩ := addr_nil h1 h0
      obtain ⟨b2, off2, rfl⟩ := addr_nil h2 (by omega)
      refine (Tryz.slices_Equal_int b off l.length cap b2 off2 m.length cap2 l m w (Nat.le_refl _) (Nat.le_refl _) (by omega) (by omega) (ints_read h1) (ints_read h2)).mono ?_
      rintro e w' ⟨rfl, q, rfl⟩
      exact ⟨by first | (simp; done) | (simp; by_cases hlm : l = m <;> simp [hlm]), by (repeat (first | exact Below.refl _ _ | assumption | refine below_draws ?_ _ | refine Below.drew ?_ | refine below_alloc ?_ _ (by first | omega | (simp; done) | (simp; omega)) | refine Below.setCell ?_ (by first | omega | (simp; done) | (simp; omega)) _ | refine below_at ?_ (by assumption) (by first | omega | (simp; done) | (simp; omega))))⟩
  · refine (Tryz.slices_Equal_int_lens a a2 l.length cap m.length cap2 w hl).mono ?_
    rintro e w' ⟨rfl, rfl⟩
    exact ⟨ret_bool (Eq.symm (decide_eq_false (fun h => hl (by rw [h])))), Below.refl _ _⟩
end Go.Proofs.YteliiknlpfjlkaaGreatDoor
