/- Walks of the library's generic functions of slices at the types of chapter 2: Clone, DeleteFunc. -/
import Derived.Test.YtcecpodbmjghhaaGreatFuncs
import Derived.Test.YtcecpodbmjghhaaGreatPlainC
import Derived.Test.YtcecpodbmjghhaaGreatMemAll
import Derived.Lib.SliceRun
set_option linter.unusedVariables false
set_option linter.unusedSimpArgs false
namespace Go.Proofs.YtcecpodbmjghhaaGreat
open Go Go.RowKit
theorem Class.cells_len (c : Class) : c.cells.length = 3 := rfl
/-- what Clone gives: a row of the call's own -/
def Cloned {α : Type} (cells : α → List Value) (sz : Nat) (e : TypeId) (B : Nat) (l : List α) (v : Value) (w' : World) : Prop :=
  w'.ownsRow B e sz v l.length (l.flatMap cells) ∧ ((v = .slice none 0 0 ∧ l = []) ∨ ∃ g cap, v = .slice (some ⟨g, 0, none⟩) l.length cap)
theorem own_form {w : World} {base : Nat} {e : TypeId} {size : Nat} {v : Value} {n : Nat} {xs : List Value} (h : w.ownsRow base e size v (0 + n) xs) (hne : v ≠ .slice none 0 0) : ∃ g cap, v = .slice (some ⟨g, 0, none⟩) n cap := by
  obtain ⟨_, h2⟩ := h
  rcases h2 with ⟨rfl, _⟩ | ⟨g, cap, cur, rfl, _⟩
  · exact absurd rfl hne
  · exact ⟨g, cap, by rw [Nat.zero_add]⟩
/-- the state of DeleteFunc: the first i are what is kept of the first j, the others from j on are as they were -/
structure Del {α : Type} (cells : α → List Value) (sz : Nat) (p : α → Bool) (l : List α) (w0 wr : World) (g i j : Nat) (cur : List α) : Prop where
  len : cur.length = l.length
  ij : i < j
  jn : j ≤ l.length
  kept : cur.take i = (l.take j).filter fun x => !p x
  rest : cur.drop j = l.drop j
  row : Row cells sz wr g cur
  grown : w0.grownBy wr (some g)
theorem Del.at {α : Type} {cells : α → List Value} {sz : Nat} {p : α → Bool} {l : List α} {w0 wr : World} {g i j : Nat} {cur : List α} (h : Del cells sz p l w0 wr g i j cur) (hj : j < l.length) (hj' : j < cur.length) : cur[j] = l[j] := by
  have := congrArg (fun z => z[0]?) h.rest
  simp only [List.getElem?_drop, Nat.add_zero] at this
  rw [List.getElem?_eq_getElem hj', List.getElem?_eq_getElem hj] at this
  exact Option.some.inj this
theorem Del.skip {α : Type} {cells : α → List Value} {sz : Nat} {p : α → Bool} {l : List α} {w0 wr w1 : World} {g i j : Nat} {cur : List α} (h : Del cells sz p l w0 wr g i j cur) (hj : j < l.length) (hp : p l[j] = true)
    (hb : Below wr.heap.size wr w1) : Del cells sz p l w0 w1 g i (j + 1) cur where
  len := h.len
  ij := by have := h.ij; omega
  jn := by omega
  kept := by rw [h.kept, List.take_succ_eq_append_getElem hj, List.filter_append]; simp [hp]
  rest := by rw [← List.drop_drop, ← List.drop_drop, h.rest]
  row := h.row.below hb h.row.2.2
  grown := grown_trans h.grown (grown_below _ hb)
theorem Del.keep {α : Type} {cells : α → List Value} {sz : Nat} (hlen : ∀ x, (cells x).length = sz) {p : α → Bool} {l : List α} {w0 wr w1 : World} {g i j : Nat} {cur : List α} (h : Del cells sz p l w0 wr g i j cur) (hj : j < l.length) (hp : p l[j] = false)
    (hb : Below wr.heap.size wr w1) : Del cells sz p l w0 (w1.setCells g (i * sz) (cells l[j])) g (i + 1) (j + 1) (cur.set i l[j]) where
  len := by rw [List.length_set]; exact h.len
  ij := by have := h.ij; omega
  jn := by omega
  kept := by
    have h1 := h.ij
    have h2 := h.len
    rw [List.take_succ_eq_append_getElem (by rw [List.length_set]; omega), List.getElem_set_self, List.take_set_of_le (by omega), h.kept, List.take_succ_eq_append_getElem hj, List.filter_append]; simp [hp]
  rest := by
    have h1 := h.ij
    rw [List.drop_set_of_lt (by omega), ← List.drop_drop, ← List.drop_drop, h.rest]
  row := (h.row.below hb h.row.2.2).set hlen i (by rw [h.len]; have := h.ij; omega) l[j]
  grown := grown_trans (grown_trans h.grown (grown_below _ hb)) (grown_setCells g _ _ _)
theorem idxF_spec {α : Type} {p : α → Bool} : ∀ {l : List α}, l.any p = true → ∃ (k : Nat) (hk : k < l.length), idxF p l = k ∧ (l.take k).any p = false ∧ p l[k] = true
  | x :: l, h => by
    cases hx : p x
    · simp only [List.any_cons, hx, Bool.false_or] at h
      obtain ⟨k, hk, h1, h2, h3⟩ := idxF_spec h
      refine ⟨k + 1, by simpa using hk, ?_, ?_, by simpa using h3⟩
      · simp only [idxF, hx, h1]; simp; omega
      · simp only [List.take_succ_cons, List.any_cons, hx, h2, Bool.or_false]
    · exact ⟨0, by simp, by simp [idxF, hx], by simp, by simpa using hx⟩
theorem Del.first {α : Type} {cells : α → List Value} {sz : Nat} {p : α → Bool} {l : List α} {w0 wr : World} {g k : Nat} (hk : k < l.length) (h1 : (l.take k).any p = false) (h2 : p l[k] = true) (hr : Row cells sz wr g l) (hg : w0.grownBy wr (some g)) : Del cells sz p l w0 wr g k (k + 1) l where
  len := rfl
  ij := by omega
  jn := by omega
  kept := by
    rw [List.take_succ_eq_append_getElem hk, List.filter_append]
    have : (l.take k).filter (fun x => !p x) = l.take k := by
      rw [List.filter_eq_self]
      intro x hx
      have := List.any_eq_false.1 h1 x hx
      simpa using this
    simp [this, h2]
  rest := rfl
  row := hr
  grown := hg
theorem Del.done {α : Type} {cells : α → List Value} {sz : Nat} {p : α → Bool} {l : List α} {w0 wr : World} {g i : Nat} {cur : List α} (h : Del cells sz p l w0 wr g i l.length cur) : cur.take i = l.filter (fun x => !p x) ∧ i = (l.filter fun x => !p x).length := by
  have h1 := h.kept
  rw [List.take_length] at h1
  refine ⟨h1, ?_⟩
  rw [← h1, List.length_take, h.len]
  have := h.ij
  omega
end Go.Proofs.YtcecpodbmjghhaaGreat
