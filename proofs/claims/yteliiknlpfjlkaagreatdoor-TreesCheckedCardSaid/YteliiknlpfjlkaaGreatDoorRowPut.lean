/- One cell of one element of a row is stored anew. No program. No condition. -/
import Derived.Test.YteliiknlpfjlkaaGreatDoorMemAll
import Derived.Test.YteliiknlpfjlkaaGreatDoorStreamL
set_option linter.unusedVariables false
set_option linter.unusedSimpArgs false
namespace Go.Proofs.YteliiknlpfjlkaaGreatDoor
open Go Go.RowKit

theorem Row.put {α : Type} {cells : α → List Value} {sz : Nat} (hlen : ∀ x, (cells x).length = sz) {w : World} {g : Nat} {l : List α} (h : Row cells sz w g l) (i j0 : Nat) (hi : i < l.length) (hj0 : j0 < sz) (x : α) (v : Value)
    (hv : (cells x)[j0]? = some v) (hx : ∀ j, j ≠ j0 → (cells x)[j]? = (cells l[i])[j]?) : Row cells sz (w.setCell ⟨g, i * sz + j0, none⟩ v) g (l.set i x) := by
  obtain ⟨h1, h2, h3⟩ := h
  refine ⟨fun k hk j u hu => ?_, fun o => by rw [World.frozen?_setCell]; exact h2 o, by simp [World.setCell]; exact h3⟩
  have hk' : k < l.length := by simpa using hk
  by_cases hki : k = i
  · subst hki
    simp only [List.getElem_set_self] at hu
    by_cases hj : j = j0
    · subst hj
      rw [hv] at hu; cases hu
      have := h1 k hk' j _ (List.getElem?_eq_getElem (by rw [hlen]; exact hj0))
      rw [Nat.zero_add] at this ⊢
      exact World.cell?_setCell_same _ _ _ this
    · rw [hx j hj] at hu
      rw [World.cell?_setCell_other _ _ _ _ (by simp only [ne_eq, Addr.mk.injEq, and_true, true_and]; omega)]
      exact h1 k hk' j u hu
  · rw [List.getElem_set_ne (Ne.symm hki)] at hu
    have hjs : j < sz := by rw [← hlen l[k]]; exact (List.getElem?_eq_some_iff.1 hu).1
    rw [World.cell?_setCell_other _ _ _ _ (by
      simp only [ne_eq, Addr.mk.injEq, and_true, true_and]
      rcases Nat.lt_or_ge k i with hlt | hge
      · have : (k + 1) * sz ≤ i * sz := Nat.mul_le_mul_right _ hlt
        rw [Nat.succ_mul] at this; omega
      · have : (i + 1) * sz ≤ k * sz := Nat.mul_le_mul_right _ (by omega)
        rw [Nat.succ_mul] at this; omega)]
    exact h1 k hk' j u hu

/-- a stream and a row of the call's own beside it -/
structure RowSt {α : Type} (cells : α → List Value) (sz s m : Nat) (w : World) (g : Nat) (W : World) (l : List α) : Prop where
  st : Strm W s m
  gr : w.grownBy W (some s)
  row : Row cells sz W g l
  l1 : s < w.heap.size
  l2 : w.heap.size ≤ g
theorem RowSt.step {α : Type} {cells : α → List Value} {sz s m m' : Nat} {w W W' : World} {g : Nat} {l : List α} (h : RowSt cells sz s m w g W l) (hs : Strm W' s m') (hg : W.grownBy W' (some s)) : RowSt cells sz s m' w g W' l :=
  ⟨hs, grown_trans h.gr hg, h.row.kept (hg.block g h.row.2.2 (by have := h.l1; have := h.l2; simp; omega)) hg.size, h.l1, h.l2⟩
theorem RowSt.put {α : Type} {cells : α → List Value} {sz : Nat} (hlen : ∀ x, (cells x).length = sz) {s m : Nat} {w W : World} {g : Nat} {l : List α} (h : RowSt cells sz s m w g W l) (i j0 : Nat) (hi : i < l.length) (hj0 : j0 < sz) (x : α) (v : Value)
    (hv : (cells x)[j0]? = some v) (hx : ∀ j, j ≠ j0 → (cells x)[j]? = (cells l[i])[j]?) : RowSt cells sz s m w g (W.setCell ⟨g, i * sz + j0, none⟩ v) (l.set i x) :=
  ⟨h.st.setOther (by have := h.l1; have := h.l2; omega) _ _, grown_setOwn h.gr h.l2 _ _, h.row.put hlen i j0 hi hj0 x v hv hx, h.l1, h.l2⟩
end Go.Proofs.YteliiknlpfjlkaaGreatDoor
