/- Walks of the library's generic functions that take a function value, at the program's own element types. -/
import Derived.Test.YtcecpodbmjghhaaGreatRefBAll
set_option linter.unusedVariables false
set_option linter.unusedSimpArgs false
namespace Go.Proofs.YtcecpodbmjghhaaGreat
open Go Go.RowKit
theorem Arr.take {α : Type} {cells : α → List Value} {sz : Nat} {w : World} {l : List α} {a : Option Addr} {n cap : Nat} (h : Arr cells sz w l (.slice a n cap)) (k : Nat) (hk : k ≤ n) : Arr cells sz w (l.take k) (.slice a k cap) := by
  obtain ⟨a', cap', he, h2, h3, h4⟩ := h
  simp only [Value.slice.injEq] at he
  obtain ⟨rfl, rfl, rfl⟩ := he
  have hl : (l.take k).length = k := by rw [List.length_take]; omega
  refine ⟨a, cap, by rw [hl], by omega, h3, fun j hj => ?_⟩
  obtain ⟨b, off, ha, hb, hc⟩ := h4 j (by omega)
  refine ⟨b, off, ha, hb, fun i u hu => hc i u ?_⟩
  rw [List.getElem_take] at hu; exact hu
end Go.Proofs.YtcecpodbmjghhaaGreat
