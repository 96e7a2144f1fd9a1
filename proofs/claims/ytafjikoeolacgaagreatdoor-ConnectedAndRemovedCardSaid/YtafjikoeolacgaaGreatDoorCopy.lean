/- Elements copied over a row; what a block's cells are behind stores. No program. -/
import Derived.Test.YtafjikoeolacgaaGreatDoorMem
set_option linter.unusedVariables false
set_option linter.unusedSimpArgs false
namespace Go.Proofs.YtafjikoeolacgaaGreatDoor
open Go Go.RowKit

theorem setCells_append (g : Nat) : ∀ (xs : List Value) (o : Nat) (ys : List Value) (w : World), w.setCells g o (xs ++ ys) = (w.setCells g o xs).setCells g (o + xs.length) ys
  | [], o, ys, w => by simp [World.setCells]
  | x :: xs, o, ys, w => by
    rw [List.cons_append, World.setCells, World.setCells, setCells_append g xs (o + 1) ys, List.length_cons]
    rw [show o + 1 + xs.length = o + (xs.length + 1) by omega]
/-- elements are written over -/
theorem Row.splice {α : Type} {cells : α → List Value} {sz : Nat} (hlen : ∀ x, (cells x).length = sz) {g : Nat} : ∀ (M : List α) (w : World) (L : List α) (o : Nat), Row cells sz w g L → o + M.length ≤ L.length →
    Row cells sz (w.setCells g (o * sz) (M.flatMap cells)) g (L.take o ++ M ++ L.drop (o + M.length)) := by
  intro M
  induction M with
  | nil => intro w L o h ho; simpa [World.setCells] using h
  | cons x M ih =>
    intro w L o h ho
    rw [List.length_cons] at ho
    have h1 := Row.set hlen h o (by omega) x
    have h2 := ih _ (L.set o x) (o + 1) h1 (by rw [List.length_set]; omega)
    rw [List.flatMap_cons, setCells_append, hlen, show o * sz + sz = (o + 1) * sz by rw [Nat.succ_mul]]
    have e : L.take o ++ x :: M ++ L.drop (o + (x :: M).length) = (L.set o x).take (o + 1) ++ M ++ (L.set o x).drop (o + 1 + M.length) := by
      rw [List.take_succ_eq_append_getElem (by rw [List.length_set]; omega), List.getElem_set_self, List.take_set_of_le (Nat.le_refl _), List.drop_set_of_lt (by omega), List.length_cons, show o + 1 + M.length = o + (M.length + 1) by omega]
      simp
    rw [e]; exact h2
section
variable {P : Program}
theorem run_copy_sz (w : World) (dT sT ty elem : TypeId) (b o dLen dCap : Nat) (a : Addr) (sLen sCap n sz : Nat) (cs : List Value)
    (hu : P.underlying dT = some (.slice elem)) (hs : (P.info? elem).map (·.size) = some sz) (hn : Nat.min sLen dLen = n) (hcs : cs.length = n * sz)
    (hsrc : ∀ j v, cs[j]? = some v → w.cell? (a.add j) = some v) (hc : ∀ j, j < cs.length → (w.cell? ⟨b, o + j, none⟩).isSome = true) (hf : ∀ j, j < cs.length → w.frozen? ⟨b, o + j, none⟩ = false) (h1 : ∀ v ∈ cs, v.oneCell' = true) :
    (Builtin.copy_ #[dT, sT] ty #[.slice (some ⟨b, o, none⟩) dLen dCap, .slice (some a) sLen sCap]).run P w = .ok (goInt n) (w.setCells b o cs) := by
  have hl := run_loadCells_list (P := P) w a cs hsrc
  have hst := run_storeCells_cells (P := P) b o cs 0 w (by simpa using hc) (by simpa using hf) h1
  cases hq : P.info? elem with
  | none => simp [hq] at hs
  | some i =>
    have hi : i.size = sz := by simpa [hq] using hs
    simp [Builtin.copy_, run_underlying hu, Builtin.lenOf, Builtin.firstCells, sizeOf, typeInfo, hq, hi, hn, ← hcs, hl, hst]
end
theorem row_some {α : Type} {cells : α → List Value} {sz : Nat} (hlen : ∀ x, (cells x).length = sz) {w : World} {g : Nat} {L : List α} (h : Row cells sz w g L) (hs : 0 < sz) (j : Nat) (hj : j < L.length * sz) : (w.cell? ⟨g, j, none⟩).isSome = true := by
  have hk : j / sz < L.length := (Nat.div_lt_iff_lt_mul hs).2 hj
  have hm : j % sz < sz := Nat.mod_lt _ hs
  have e : 0 + j / sz * sz + j % sz = j := by rw [Nat.zero_add, Nat.mul_comm]; exact Nat.div_add_mod j sz
  have := h.1 (j / sz) hk (j % sz) _ (List.getElem?_eq_getElem (by rw [hlen]; exact hm))
  rw [e] at this
  rw [this]; rfl
theorem addr_at (b off i : Nat) : ((⟨b, off, none⟩ : Addr).add i) = ⟨b, off + i, none⟩ := by
  unfold Addr.add
  split
  · rename_i h; simp [h]
  · rfl
theorem cell_setCells_hit (g : Nat) : ∀ (vs : List Value) (o : Nat) (w : World) (cs : Array Value) (t : TypeId), Blk w g cs t → o + vs.length ≤ cs.size → ∃ cs', Blk (w.setCells g o vs) g cs' t ∧ cs'.size = cs.size ∧ ∀ j, cs'[j]? = if o ≤ j ∧ j < o + vs.length then vs[j - o]? else cs[j]? := by
  intro vs
  induction vs with
  | nil =>
    intro o w cs t h _
    exact ⟨cs, h, rfl, fun j => by rw [if_neg (by simp)]⟩
  | cons v vs ih =>
    intro o w cs t h hs
    simp only [List.length_cons] at hs
    have h1 := h.set o v
    obtain ⟨cs', h2, h3, h4⟩ := ih (o + 1) (w.setCell ⟨g, o, none⟩ v) _ t h1 (by simp; omega)
    refine ⟨cs', h2, by simpa using h3, fun j => ?_⟩
    rw [h4 j]
    by_cases hj : j = o
    · subst hj
      rw [if_neg (by omega), if_pos (by simp)]
      simp [Array.getElem?_setIfInBounds]
      omega
    · by_cases hr : o + 1 ≤ j ∧ j < o + 1 + vs.length
      · rw [if_pos hr, if_pos (by simp; omega)]
        obtain ⟨i, rfl⟩ : ∃ i, j = o + (i + 1) := ⟨j - o - 1, by omega⟩
        rw [show o + (i + 1) - (o + 1) = i by omega, show o + (i + 1) - o = i + 1 by omega]; simp
      · rw [if_neg hr, if_neg (by simp; omega)]
        simp [Array.getElem?_setIfInBounds]
        intro e; omega
/-- cells stored over a block: the block behind it -/
def overB (cur : Array Value) (o : Nat) (vs : List Value) : Array Value := (cur.toList.take o ++ vs ++ cur.toList.drop (o + vs.length)).toArray
theorem blk_setCells {w : World} {g : Nat} {cur : Array Value} {t : TypeId} (h : Blk w g cur t) (o : Nat) (vs : List Value) (hs : o + vs.length ≤ cur.size) : Blk (w.setCells g o vs) g (overB cur o vs) t := by
  obtain ⟨cs', h1, h2, h3⟩ := cell_setCells_hit g vs o w cur t h hs
  have e : cs' = overB cur o vs := by
    apply Array.ext_getElem?
    intro j
    rw [h3 j]
    unfold overB
    have hta : ∀ L : List Value, L.toArray[j]? = L[j]? := fun L => by simp
    rw [hta (cur.toList.take o ++ vs ++ cur.toList.drop (o + vs.length))]
    by_cases hj : o ≤ j ∧ j < o + vs.length
    · rw [if_pos hj, List.append_assoc, List.getElem?_append_right (by simp; omega), List.getElem?_append_left (by simp; omega)]
      rw [List.length_take, Array.length_toList, Nat.min_eq_left (by omega)]
    · rw [if_neg hj]
      rcases Nat.lt_or_ge j o with hlt | hge
      · rw [List.append_assoc, List.getElem?_append_left (by simp; omega), List.getElem?_take_of_lt hlt]; simp
      · have e5 : (cur.toList.take o ++ vs).length = o + vs.length := by
          rw [List.length_append, List.length_take, Array.length_toList]; omega
        rw [List.getElem?_append_right (by rw [e5]; omega), List.getElem?_drop, e5, show o + vs.length + (j - (o + vs.length)) = j by omega]; simp
  rw [← e]; exact h1
theorem overB_size {cur : Array Value} {o : Nat} {vs : List Value} (hs : o + vs.length ≤ cur.size) : (overB cur o vs).size = cur.size := by
  unfold overB
  simp
  omega
end Go.Proofs.YtafjikoeolacgaaGreatDoor
