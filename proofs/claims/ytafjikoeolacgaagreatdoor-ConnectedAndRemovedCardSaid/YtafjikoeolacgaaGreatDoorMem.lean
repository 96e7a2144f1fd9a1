/- Rows of memory that the call owns: read, stored into element by element, cleared. No program. No condition. -/
import Derived.Test.YtafjikoeolacgaaGreatDoorBase
import Derived.Laws.IdiomCopy
set_option linter.unusedVariables false
set_option linter.unusedSimpArgs false
namespace Go.Proofs.YtafjikoeolacgaaGreatDoor
open Go Go.RowKit

/-- from its start on block g holds the cells of the data l; it may be written -/
def Row {α : Type} (cells : α → List Value) (sz : Nat) (w : World) (g : Nat) (l : List α) : Prop :=
  (∀ k (hk : k < l.length), ∀ j u, (cells l[k])[j]? = some u → w.cell? ⟨g, 0 + k * sz + j, none⟩ = some u) ∧ (∀ o, w.frozen? ⟨g, o, none⟩ = false) ∧ g < w.heap.size

theorem Row.kept {α : Type} {cells : α → List Value} {sz : Nat} {w w' : World} {g : Nat} {l : List α} (h : Row cells sz w g l) (hb : w'.heap[g]? = w.heap[g]?) (hs : w.heap.size ≤ w'.heap.size) : Row cells sz w' g l :=
  ⟨fun k hk j u hu => (World.cell?_of_block (w := w) (a := ⟨g, _, none⟩) hb).trans (h.1 k hk j u hu), fun o => (World.frozen?_of_block (w := w) (a := ⟨g, o, none⟩) hb).trans (h.2.1 o), Nat.lt_of_lt_of_le h.2.2 hs⟩
theorem Row.below {α : Type} {cells : α → List Value} {sz : Nat} {w w' : World} {g B : Nat} {l : List α} (h : Row cells sz w g l) (hB : Below B w w') (hg : g < B) : Row cells sz w' g l := h.kept (hB.block g hg) hB.size

theorem size_setCells (b : Nat) : ∀ (vs : List Value) (o : Nat) (w : World), (w.setCells b o vs).heap.size = w.heap.size
  | [], _, _ => rfl
  | v :: r, o, w => by rw [World.setCells, size_setCells b r]; simp [World.setCell]

theorem Row.set {α : Type} {cells : α → List Value} {sz : Nat} (hlen : ∀ x, (cells x).length = sz) {w : World} {g : Nat} {l : List α} (h : Row cells sz w g l) (i : Nat) (hi : i < l.length) (x : α) : Row cells sz (w.setCells g (i * sz) (cells x)) g (l.set i x) := by
  obtain ⟨h1, h2, h3⟩ := h
  refine ⟨fun k hk j u hu => ?_, fun o => by rw [World.frozen?_setCells]; exact h2 o, by rw [size_setCells]; exact h3⟩
  have hk' : k < l.length := by simpa using hk
  by_cases hki : k = i
  · subst hki
    simp only [List.getElem_set_self] at hu
    have hj : j < (cells x).length := (List.getElem?_eq_some_iff.1 hu).1
    have := World.cell?_setCells_in g (cells x) (k * sz) w (fun j' hj' => by
      have hj2 : j' < (cells l[k]).length := by rw [hlen] at hj' ⊢; exact hj'
      have := h1 k hk' j' _ (List.getElem?_eq_getElem hj2)
      rw [Nat.zero_add] at this
      rw [this]; rfl) j hj
    rw [Nat.zero_add, this]
    rw [← hu, List.getElem?_eq_getElem hj]
  · rw [List.getElem_set_ne (Ne.symm hki)] at hu
    have hj : j < sz := by rw [← hlen l[k]]; exact (List.getElem?_eq_some_iff.1 hu).1
    rw [World.cell?_setCells_out g (cells x) (i * sz) w _ (fun _ _ => ?_)]
    · exact h1 k hk' j u hu
    · rw [hlen]
      simp only [Nat.zero_add]
      rcases Nat.lt_or_ge k i with hlt | hge
      · left
        have : (k + 1) * sz ≤ i * sz := Nat.mul_le_mul_right _ hlt
        rw [Nat.succ_mul] at this; omega
      · right
        have : (i + 1) * sz ≤ k * sz := Nat.mul_le_mul_right _ (by omega)
        rw [Nat.succ_mul] at this; omega

theorem Row.take {α : Type} {cells : α → List Value} {sz : Nat} {w : World} {g : Nat} {l : List α} (h : Row cells sz w g l) (n : Nat) : Row cells sz w g (l.take n) :=
  ⟨fun k hk j u hu => by rw [List.getElem_take] at hu; rw [List.length_take] at hk; exact h.1 k (by omega) j u hu, h.2⟩

/-- what lies behind element i is written over -/
theorem Row.cut {α : Type} {cells : α → List Value} {sz : Nat} (hlen : ∀ x, (cells x).length = sz) {w : World} {g : Nat} {l : List α} (h : Row cells sz w g l) (i : Nat) (vs : List Value) : Row cells sz (w.setCells g (i * sz) vs) g (l.take i) := by
  obtain ⟨h1, h2, h3⟩ := h
  refine ⟨fun k hk j u hu => ?_, fun o => by rw [World.frozen?_setCells]; exact h2 o, by rw [size_setCells]; exact h3⟩
  rw [List.length_take] at hk
  rw [List.getElem_take] at hu
  have hj : j < sz := by rw [← hlen l[k]]; exact (List.getElem?_eq_some_iff.1 hu).1
  rw [World.cell?_setCells_out g vs (i * sz) w _ (fun _ _ => ?_)]
  · exact h1 k (by omega) j u hu
  · left
    simp only [Nat.zero_add]
    have : (k + 1) * sz ≤ i * sz := Nat.mul_le_mul_right _ (by omega)
    rw [Nat.succ_mul] at this; omega

theorem Row.arr {α : Type} {cells : α → List Value} {sz : Nat} {w : World} {g : Nat} {l : List α} (h : Row cells sz w g l) {n cap : Nat} (hn : l.length = n) (hc : n ≤ cap) (hm : cap ≤ maxLen) : Arr cells sz w l (.slice (some ⟨g, 0, none⟩) n cap) :=
  ⟨_, cap, by rw [hn], by omega, hm, fun k hk => ⟨g, 0, rfl, h.2.2, h.1 k hk⟩⟩

theorem Row.of_own {α : Type} {cells : α → List Value} {sz : Nat} (hlen : ∀ x, (cells x).length = sz) {w : World} {base : Nat} {e : TypeId} {l : List α} {g n cap : Nat} (ho : w.ownsRow base e sz (.slice (some ⟨g, 0, none⟩) n cap) n (l.flatMap cells)) (hn : n = l.length) : Row cells sz w g l := by
  subst hn
  have hlt := (ho.lt g rfl).2
  refine ⟨fun k hk j u hu => ?_, fun o => ho.frozenAt o, hlt⟩
  have hj : j < sz := by rw [← hlen l[k]]; exact (List.getElem?_eq_some_iff.1 hu).1
  have h1 := flat_at hlen l k hk j hj
  have hb : k * sz + j < l.length * sz := by
    have : (k + 1) * sz ≤ l.length * sz := Nat.mul_le_mul_right _ hk
    rw [Nat.succ_mul] at this; omega
  rw [Nat.zero_add, ho.cellAt _ hb, h1, hu]

theorem grown_setCells (g : Nat) : ∀ (vs : List Value) (o : Nat) (w : World), w.grownBy (w.setCells g o vs) (some g)
  | [], _, w => ⟨rfl, rfl, rfl, Nat.le_refl _, fun _ _ _ => rfl⟩
  | v :: r, o, w => by
    have h := grown_setCells g r (o + 1) (w.setCell ⟨g, o, none⟩ v)
    refine ⟨h.os, h.tape, h.output, by rw [size_setCells]; exact Nat.le_refl _, fun k hk hne => ?_⟩
    rw [World.setCells, h.block k (by simpa [World.setCell] using hk) hne]
    exact Below.heap_setCell _ _ _ _ (fun e => hne (by rw [e]))
theorem grown_trans {a b c : World} {row : Option Nat} (h : a.grownBy b row) (k : b.grownBy c row) : a.grownBy c row :=
  ⟨k.os.trans h.os, k.tape.trans h.tape, k.output.trans h.output, Nat.le_trans h.size k.size, fun i hi hne => (k.block i (Nat.lt_of_lt_of_le hi h.size) hne).trans (h.block i hi hne)⟩
theorem grown_below {a b : World} (row : Option Nat) (h : Below a.heap.size a b) : a.grownBy b row := ⟨h.os, h.tape, h.output, h.size, fun k hk _ => h.block k hk⟩
theorem grown_row {a b : World} {g : Nat} (h : a.grownBy b (some g)) {B : Nat} (hB : B ≤ g) (hs : B ≤ a.heap.size) : Below B a b := ⟨h.os, h.tape, h.output, h.size, fun k hk => h.block k (by omega) (by simp; omega)⟩

theorem Arr.news {α : Type} {cells : α → List Value} {sz : Nat} (hlen : ∀ x, (cells x).length = sz) {w : World} {l : List α} {ad : Addr} {n cap : Nat} (h : Arr cells sz w l (.slice (some ad) n cap)) : ∀ j u, (l.flatMap cells)[j]? = some u → w.cell? (ad.add j) = some u := by
  intro j u hu
  obtain ⟨a, c, he, _, _, h4⟩ := h
  simp only [Value.slice.injEq] at he
  obtain ⟨rfl, rfl, rfl⟩ := he
  have hj : j < (l.flatMap cells).length := (List.getElem?_eq_some_iff.1 hu).1
  rw [flat_len hlen] at hj
  have hs : 0 < sz := by rcases Nat.eq_zero_or_pos sz with h0 | h0
                         · subst h0; simp at hj
                         · exact h0
  have hk : j / sz < l.length := (Nat.div_lt_iff_lt_mul hs).2 hj
  have hm : j % sz < sz := Nat.mod_lt _ hs
  have e : j = j / sz * sz + j % sz := by rw [Nat.mul_comm]; exact (Nat.div_add_mod j sz).symm
  obtain ⟨b, off, ha, hb, hcc⟩ := h4 (j / sz) hk
  obtain rfl : ad = ⟨b, off, none⟩ := by simpa using ha
  have h1 := flat_at hlen l (j / sz) hk (j % sz) hm
  rw [← e] at h1
  have := hcc (j % sz) u (by rw [← h1]; exact hu)
  rw [Nat.add_assoc, ← e] at this
  unfold Addr.add
  split
  · rename_i h0; subst h0; simpa using this
  · exact this

section
variable {P : Program}
/-- 'clear(s)' of elements of whatever size -/
theorem run_clear_rows (w : World) (t e ty : TypeId) (z : Value) (ht : P.underlying t = some (.slice e)) (hv : ∀ w, (zeroValue e).run P w = .ok z w) (h1 : ∀ v ∈ z.cells.toList, v.oneCell' = true) (b o n c : Nat) (hn : 0 < n)
    (hc : ∀ j, j < n * z.cells.size → (w.cell? ⟨b, o + j, none⟩).isSome = true) (hf : ∀ j, w.frozen? ⟨b, j, none⟩ = false) :
    (Builtin.clear_ #[t] ty #[.slice (some ⟨b, o, none⟩) n c]).run P w = .ok (.tuple #[]) (w.setCells b o (Builtin.zeroCells z.cells n).toList) := by
  have hsz := size_zeroCells z.cells n
  have h2 : ∀ v ∈ (Builtin.zeroCells z.cells n).toList, v.oneCell' = true := by
    intro v hv'
    simp only [Builtin.zeroCells, Array.toList_map, List.mem_map] at hv'
    obtain ⟨i, hi, rfl⟩ := hv'
    rcases Nat.eq_zero_or_pos z.cells.size with h0 | h0
    · simp [h0] at hi
    · have hlt : i % z.cells.size < z.cells.size := Nat.mod_lt _ h0
      have : z.cells.getD (i % z.cells.size) undef = z.cells[i % z.cells.size] := by simp [Array.getD, hlt]
      first
        | (rw [this]; exact h1 _ (Array.getElem_mem_toList hlt))
        | (simp [hlt]; exact h1 _ (Array.getElem_mem_toList hlt))
  have hst := run_storeCells_cells (P := P) b o (Builtin.zeroCells z.cells n).toList 0 w (by simpa [hsz] using hc) (fun j _ => by simpa using hf (o + 0 + j)) h2
  simp only [Nat.add_zero] at hst
  obtain ⟨m, rfl⟩ : ∃ m, n = m + 1 := ⟨n - 1, by omega⟩
  simp [Builtin.clear_, run_underlying ht, hv, hst]
end
end Go.Proofs.YtafjikoeolacgaaGreatDoor
