/- Texts of one subject in one: Mem, Copy, RowV; what each shows stands at its head. No condition. -/
import Derived.Test.YtcecpodbmjghhaaGreatBase
import Derived.Laws.IdiomCopy
/- Rows of memory that the call owns: read, stored into element by element, cleared. No program. No condition. -/
set_option linter.unusedVariables false
set_option linter.unusedSimpArgs false
namespace Go.Proofs.YtcecpodbmjghhaaGreat
open Go Go.RowKit
/-- from its start on block g holds the cells of the data l; it may be written -/
def Row {α : Type} (cells : α → List Value) (sz : Nat) (w : World) (g : Nat) (l : List α) : Prop :=
  (∀ k (hk : k < l.length), ∀ j u, (cells l[k])[j]? = some u → w.cell? ⟨g, 0 + k * sz + j, none⟩ = some u) ∧ (∀ o, w.frozen? ⟨g, o, none⟩ = false) ∧ g < w.heap.size
theorem Row.kept {α : Type} {cells : α → List Value} {sz : Nat} {w w' : World} {g : Nat} {l : List α} (h : Row cells sz w g l) (hb : w'.heap[g]? = w.heap[g]?) (hs : w.heap.size ≤ w'.heap.size) : Row cells sz w' g l :=
  ⟨fun k hk j u hu => (World.cell?_of_block (w := w) (a := ⟨g, _, none⟩) hb).trans (h.1 k hk j u hu), fun o => (World.frozen?_of_block (w := w) (a := ⟨g, o, none⟩) hb).trans (h.2.1 o), Nat.lt_of_lt_of_le h.2.2 hs⟩
theorem Row.below {α : Type} {cells : α → List Value} {sz : Nat} {w w' : World} {g B : Nat} {l : List α} (h : Row cells sz w g l) (hB : Below B w w') (hg : g < B) : Row cells sz w' g l := h.kept (hB.block g hg) hB.size
theorem size_setCells (b : Nat) : ∀ (vs : List Value) (o : Nat) (w : World), (w.setCells b o vs).heap.size = w.heap.size
  | [], _, _ => rfl
  | v :: r, o, w => by rw [World.setCells, size_setCells b r]; simp [World.setCell]
theorem Row.set {α : Type} {cells : α → List Value} {sz : Nat} (hlen : ∀ x, (cells x).length = sz) {w : World} {g : Nat} {l : List α} (h : Row cells sz w g l) (i : Nat) (hi : i < l.length) (x : α) : Row cells sz (w.setCells g (i * sz) (cells x)) g (l.set i x) := by
  obtain ⟨h1, h2, h3⟩ := h
  refine ⟨fun k hk j u hu => ?_, fun o => by rw [World.frozen?_setCells]; exact h2 o, by rw [size_setCells]; exact h3⟩
  have hk' : k < l.length := by simpa using hk
  by_cases hki : k = i
  · subst hki
    simp only [List.getElem_set_self] at hu
    have hj : j < (cells x).length := (List.getElem?_eq_some_iff.1 hu).1
    have := World.cell?_setCells_in g (cells x) (k * sz) w (fun j' hj' => by
      have hj2 : j' < (cells l[k]).length := by rw [hlen] at hj' ⊢; exact hj'
      have := h1 k hk' j' _ (List.getElem?_eq_getElem hj2)
      rw [Nat.zero_add] at this
      rw [this]; rfl) j hj
    rw [Nat.zero_add, this]
    rw [← hu, List.getElem?_eq_getElem hj]
  · rw [List.getElem_set_ne (Ne.symm hki)] at hu
    have hj : j < sz := by rw [← hlen l[k]]; exact (List.getElem?_eq_some_iff.1 hu).1
    rw [World.cell?_setCells_out g (cells x) (i * sz) w _ (fun _ _ => ?_)]
    · exact h1 k hk' j u hu
    · rw [hlen]
      simp only [Nat.zero_add]
      rcases Nat.lt_or_ge k i with hlt | hge
      · left
        have : (k + 1) * sz ≤ i * sz := Nat.mul_le_mul_right _ hlt
        rw [Nat.succ_mul] at this; omega
      · right
        have : (i + 1) * sz ≤ k * sz := Nat.mul_le_mul_right _ (by omega)
        rw [Nat.succ_mul] at this; omega
theorem Row.take {α : Type} {cells : α → List Value} {sz : Nat} {w : World} {g : Nat} {l : List α} (h : Row cells sz w g l) (n : Nat) : Row cells sz w g (l.take n) :=
  ⟨fun k hk j u hu => by rw [List.getElem_take] at hu; rw [List.length_take] at hk; exact h.1 k (by omega) j u hu, h.2⟩
/-- what lies behind element i is written over -/
theorem Row.cut {α : Type} {cells : α → List Value} {sz : Nat} (hlen : ∀ x, (cells x).length = sz) {w : World} {g : Nat} {l : List α} (h : Row cells sz w g l) (i : Nat) (vs : List Value) : Row cells sz (w.setCells g (i * sz) vs) g (l.take i) := by
  obtain ⟨h1, h2, h3⟩ := h
  refine ⟨fun k hk j u hu => ?_, fun o => by rw [World.frozen?_setCells]; exact h2 o, by rw [size_setCells]; exact h3⟩
  rw [List.length_take] at hk
  rw [List.getElem_take] at hu
  have hj : j < sz := by rw [← hlen l[k]]; exact (List.getElem?_eq_some_iff.1 hu).1
  rw [World.cell?_setCells_out g vs (i * sz) w _ (fun _ _ => ?_)]
  · exact h1 k (by omega) j u hu
  · left
    simp only [Nat.zero_add]
    have : (k + 1) * sz ≤ i * sz := Nat.mul_le_mul_right _ (by omega)
    rw [Nat.succ_mul] at this; omega
theorem Row.arr {α : Type} {cells : α → List Value} {sz : Nat} {w : World} {g : Nat} {l : List α} (h : Row cells sz w g l) {n cap : Nat} (hn : l.length = n) (hc : n ≤ cap) (hm : cap ≤ maxLen) : Arr cells sz w l (.slice (some ⟨g, 0, none⟩) n cap) :=
  ⟨_, cap, by rw [hn], by omega, hm, fun k hk => ⟨g, 0, rfl, h.2.2, h.1 k hk⟩⟩
theorem Row.of_own {α : Type} {cells : α → List Value} {sz : Nat} (hlen : ∀ x, (cells x).length = sz) {w : World} {base : Nat} {e : TypeId} {l : List α} {g n cap : Nat} (ho : w.ownsRow base e sz (.slice (some ⟨g, 0, none⟩) n cap) n (l.flatMap cells)) (hn : n = l.length) : Row cells sz w g l := by
  subst hn
  have hlt := (ho.lt g rfl).2
  refine ⟨fun k hk j u hu => ?_, fun o => ho.frozenAt o, hlt⟩
  have hj : j < sz := by rw [← hlen l[k]]; exact (List.getElem?_eq_some_iff.1 hu).1
  have h1 := flat_at hlen l k hk j hj
  have hb : k * sz + j < l.length * sz := by
    have : (k + 1) * sz ≤ l.length * sz := Nat.mul_le_mul_right _ hk
    rw [Nat.succ_mul] at this; omega
  rw [Nat.zero_add, ho.cellAt _ hb, h1, hu]
theorem grown_setCells (g : Nat) : ∀ (vs : List Value) (o : Nat) (w : World), w.grownBy (w.setCells g o vs) (some g)
  | [], _, w => ⟨rfl, rfl, rfl, Nat.le_refl _, fun _ _ _ => rfl⟩
  | v :: r, o, w => by
    have h := grown_setCells g r (o + 1) (w.setCell ⟨g, o, none⟩ v)
    refine ⟨h.os, h.tape, h.output, by rw [size_setCells]; exact Nat.le_refl _, fun k hk hne => ?_⟩
    rw [World.setCells, h.block k (by simpa [World.setCell] using hk) hne]
    exact Below.heap_setCell _ _ _ _ (fun e => hne (by rw [e]))
theorem grown_trans {a b c : World} {row : Option Nat} (h : a.grownBy b row) (k : b.grownBy c row) : a.grownBy c row :=
  ⟨k.os.trans h.os, k.tape.trans h.tape, k.output.trans h.output, Nat.le_trans h.size k.size, fun i hi hne => (k.block i (Nat.lt_of_lt_of_le hi h.size) hne).trans (h.block i hi hne)⟩
theorem grown_below {a b : World} (row : Option Nat) (h : Below a.heap.size a b) : a.grownBy b row := ⟨h.os, h.tape, h.output, h.size, fun k hk _ => h.block k hk⟩
theorem grown_row {a b : World} {g : Nat} (h : a.grownBy b (some g)) {B : Nat} (hB : B ≤ g) (hs : B ≤ a.heap.size) : Below B a b := ⟨h.os, h.tape, h.output, h.size, fun k hk => h.block k (by omega) (by simp; omega)⟩
theorem Arr.news {α : Type} {cells : α → List Value} {sz : Nat} (hlen : ∀ x, (cells x).length = sz) {w : World} {l : List α} {ad : Addr} {n cap : Nat} (h : Arr cells sz w l (.slice (some ad) n cap)) : ∀ j u, (l.flatMap cells)[j]? = some u → w.cell? (ad.add j) = some u := by
  intro j u hu
  obtain ⟨a, c, he, _, _, h4⟩ := h
  simp only [Value.slice.injEq] at he
  obtain ⟨rfl, rfl, rfl⟩ := he
  have hj : j < (l.flatMap cells).length := (List.getElem?_eq_some_iff.1 hu).1
  rw [flat_len hlen] at hj
  have hs : 0 < sz := by rcases Nat.eq_zero_or_pos sz with h0 | h0
                         · subst h0; simp at hj
                         · exact h0
  have hk : j / sz < l.length := (Nat.div_lt_iff_lt_mul hs).2 hj
  have hm : j % sz < sz := Nat.mod_lt _ hs
  have e : j = j / sz * sz + j % sz := by rw [Nat.mul_comm]; exact (Nat.div_add_mod j sz).symm
  obtain ⟨b, off, ha, hb, hcc⟩ := h4 (j / sz) hk
  obtain rfl : ad = ⟨b, off, none⟩ := by simpa using ha
  have h1 := flat_at hlen l (j / sz) hk (j % sz) hm
  rw [← e] at h1
  have := hcc (j % sz) u (by rw [← h1]; exact hu)
  rw [Nat.add_assoc, ← e] at this
  unfold Addr.add
  split
  · rename_i h0; subst h0; simpa using this
  · exact this
section
variable {P : Program}
/-- 'clear(s)' of elements of whatever size -/
theorem run_clear_rows (w : World) (t e ty : TypeId) (z : Value) (ht : P.underlying t = some (.slice e)) (hv : ∀ w, (zeroValue e).run P w = .ok z w) (h1 : ∀ v ∈ z.cells.toList, v.oneCell' = true) (b o n c : Nat) (hn : 0 < n)
    (hc : ∀ j, j < n * z.cells.size → (w.cell? ⟨b, o + j, none⟩).isSome = true) (hf : ∀ j, w.frozen? ⟨b, j, none⟩ = false) :
    (Builtin.clear_ #[t] ty #[.slice (some ⟨b, o, none⟩) n c]).run P w = .ok (.tuple #[]) (w.setCells b o (Builtin.zeroCells z.cells n).toList) := by
  have hsz := size_zeroCells z.cells n
  have h2 : ∀ v ∈ (Builtin.zeroCells z.cells n).toList, v.oneCell' = true := by
    intro v hv'
    simp only [Builtin.zeroCells, Array.toList_map, List.mem_map] at hv'
    obtain ⟨i, hi, rfl⟩ := hv'
    rcases Nat.eq_zero_or_pos z.cells.size with h0 | h0
    · simp [h0] at hi
    · have hlt : i % z.cells.size < z.cells.size := Nat.mod_lt _ h0
      have : z.cells.getD (i % z.cells.size) undef = z.cells[i % z.cells.size] := by simp [Array.getD, hlt]
      first
        | (rw [this]; exact h1 _ (Array.getElem_mem_toList hlt))
        | (simp [hlt]; exact h1 _ (Array.getElem_mem_toList hlt))
  have hst := run_storeCells_cells (P := P) b o (Builtin.zeroCells z.cells n).toList 0 w (by simpa [hsz] using hc) (fun j _ => by simpa using hf (o + 0 + j)) h2
  simp only [Nat.add_zero] at hst
  obtain ⟨m, rfl⟩ : ∃ m, n = m + 1 := ⟨n - 1, by omega⟩
  simp [Builtin.clear_, run_underlying ht, hv, hst]
end
end Go.Proofs.YtcecpodbmjghhaaGreat
/- Elements copied over a row; what a block's cells are behind stores. No program. -/
namespace Go.Proofs.YtcecpodbmjghhaaGreat
open Go Go.RowKit
section
variable {P : Program}
theorem run_copy_sz (w : World) (dT sT ty elem : TypeId) (b o dLen dCap : Nat) (a : Addr) (sLen sCap n sz : Nat) (cs : List Value)
    (hu : P.underlying dT = some (.slice elem)) (hs : (P.info? elem).map (·.size) = some sz) (hn : Nat.min sLen dLen = n) (hcs : cs.length = n * sz)
    (hsrc : ∀ j v, cs[j]? = some v → w.cell? (a.add j) = some v) (hc : ∀ j, j < cs.length → (w.cell? ⟨b, o + j, none⟩).isSome = true) (hf : ∀ j, j < cs.length → w.frozen? ⟨b, o + j, none⟩ = false) (h1 : ∀ v ∈ cs, v.oneCell' = true) :
    (Builtin.copy_ #[dT, sT] ty #[.slice (some ⟨b, o, none⟩) dLen dCap, .slice (some a) sLen sCap]).run P w = .ok (goInt n) (w.setCells b o cs) := by
  have hl := run_loadCells_list (P := P) w a cs hsrc
  have hst := run_storeCells_cells (P := P) b o cs 0 w (by simpa using hc) (by simpa using hf) h1
  cases hq : P.info? elem with
  | none => simp [hq] at hs
  | some i =>
    have hi : i.size = sz := by simpa [hq] using hs
    simp [Builtin.copy_, run_underlying hu, Builtin.lenOf, Builtin.firstCells, sizeOf, typeInfo, hq, hi, hn, ← hcs, hl, hst]
end
theorem row_some {α : Type} {cells : α → List Value} {sz : Nat} (hlen : ∀ x, (cells x).length = sz) {w : World} {g : Nat} {L : List α} (h : Row cells sz w g L) (hs : 0 < sz) (j : Nat) (hj : j < L.length * sz) : (w.cell? ⟨g, j, none⟩).isSome = true := by
  have hk : j / sz < L.length := (Nat.div_lt_iff_lt_mul hs).2 hj
  have hm : j % sz < sz := Nat.mod_lt _ hs
  have e : 0 + j / sz * sz + j % sz = j := by rw [Nat.zero_add, Nat.mul_comm]; exact Nat.div_add_mod j sz
  have := h.1 (j / sz) hk (j % sz) _ (List.getElem?_eq_getElem (by rw [hlen]; exact hm))
  rw [e] at this
  rw [this]; rfl
theorem addr_at (b off i : Nat) : ((⟨b, off, none⟩ : Addr).add i) = ⟨b, off + i, none⟩ := by
  unfold Addr.add
  split
  · rename_i h; simp [h]
  · rfl
theorem cell_setCells_hit (g : Nat) : ∀ (vs : List Value) (o : Nat) (w : World) (cs : Array Value) (t : TypeId), Blk w g cs t → o + vs.length ≤ cs.size → ∃ cs', Blk (w.setCells g o vs) g cs' t ∧ cs'.size = cs.size ∧ ∀ j, cs'[j]? = if o ≤ j ∧ j < o + vs.length then vs[j - o]? else cs[j]? := by
  intro vs
  induction vs with
  | nil =>
    intro o w cs t h _
    exact ⟨cs, h, rfl, fun j => by rw [if_neg (by simp)]⟩
  | cons v vs ih =>
    intro o w cs t h hs
    simp only [List.length_cons] at hs
    have h1 := h.set o v
    obtain ⟨cs', h2, h3, h4⟩ := ih (o + 1) (w.setCell ⟨g, o, none⟩ v) _ t h1 (by simp; omega)
    refine ⟨cs', h2, by simpa using h3, fun j => ?_⟩
    rw [h4 j]
    by_cases hj : j = o
    · subst hj
      rw [if_neg (by omega), if_pos (by simp)]
      simp [Array.getElem?_setIfInBounds]
      omega
    · by_cases hr : o + 1 ≤ j ∧ j < o + 1 + vs.length
      · rw [if_pos hr, if_pos (by simp; omega)]
        obtain ⟨i, rfl⟩ : ∃ i, j = o + (i + 1) := ⟨j - o - 1, by omega⟩
        rw [show o + (i + 1) - (o + 1) = i by omega, show o + (i + 1) - o = i + 1 by omega]; simp
      · rw [if_neg hr, if_neg (by simp; omega)]
        simp [Array.getElem?_setIfInBounds]
        intro e; omega
/-- cells stored over a block: the block behind it -/
def overB (cur : Array Value) (o : Nat) (vs : List Value) : Array Value := (cur.toList.take o ++ vs ++ cur.toList.drop (o + vs.length)).toArray
theorem blk_setCells {w : World} {g : Nat} {cur : Array Value} {t : TypeId} (h : Blk w g cur t) (o : Nat) (vs : List Value) (hs : o + vs.length ≤ cur.size) : Blk (w.setCells g o vs) g (overB cur o vs) t := by
  obtain ⟨cs', h1, h2, h3⟩ := cell_setCells_hit g vs o w cur t h hs
  have e : cs' = overB cur o vs := by
    apply Array.ext_getElem?
    intro j
    rw [h3 j]
    unfold overB
    have hta : ∀ L : List Value, L.toArray[j]? = L[j]? := fun L => by simp
    rw [hta (cur.toList.take o ++ vs ++ cur.toList.drop (o + vs.length))]
    by_cases hj : o ≤ j ∧ j < o + vs.length
    · rw [if_pos hj, List.append_assoc, List.getElem?_append_right (by simp; omega), List.getElem?_append_left (by simp; omega)]
      rw [List.length_take, Array.length_toList, Nat.min_eq_left (by omega)]
    · rw [if_neg hj]
      rcases Nat.lt_or_ge j o with hlt | hge
      · rw [List.append_assoc, List.getElem?_append_left (by simp; omega), List.getElem?_take_of_lt hlt]; simp
      · have e5 : (cur.toList.take o ++ vs).length = o + vs.length := by
          rw [List.length_append, List.length_take, Array.length_toList]; omega
        rw [List.getElem?_append_right (by rw [e5]; omega), List.getElem?_drop, e5, show o + vs.length + (j - (o + vs.length)) = j by omega]; simp
  rw [← e]; exact h1
theorem overB_size {cur : Array Value} {o : Nat} {vs : List Value} (hs : o + vs.length ≤ cur.size) : (overB cur o vs).size = cur.size := by
  unfold overB
  simp
  omega
end Go.Proofs.YtcecpodbmjghhaaGreat
/- A slice that stands at the head of a row of its own, or is none. No program. -/
namespace Go.Proofs.YtcecpodbmjghhaaGreat
open Go Go.RowKit
def RowV {α : Type} (cells : α → List Value) (sz base : Nat) (w : World) (v : Value) (l : List α) : Prop :=
  (v = .slice none 0 0 ∧ l = []) ∨ ∃ g cap, v = .slice (some ⟨g, 0, none⟩) l.length cap ∧ base ≤ g ∧ l.length ≤ cap ∧ cap ≤ maxLen ∧ Row cells sz w g l
section
variable {α : Type} {cells : α → List Value} {sz base : Nat} {w w' : World} {v : Value} {l : List α}
theorem RowV.of_own (hlen : ∀ x, (cells x).length = sz) {e : TypeId} (ho : w.ownsRow base e sz v l.length (l.flatMap cells)) : RowV cells sz base w v l := by
  have h := ho
  obtain ⟨hl, ⟨hv, hn⟩ | ⟨g, cap, cur, rfl, hg, hh, hc, hm, hs, ht⟩⟩ := ho
  · exact .inl ⟨hv, List.length_eq_zero_iff.1 hn⟩
  · exact .inr ⟨g, cap, rfl, hg, hc, hm, Row.of_own hlen h rfl⟩
theorem RowV.arr (h : RowV cells sz base w v l) : Arr cells sz w l v := by
  rcases h with ⟨rfl, rfl⟩ | ⟨g, cap, rfl, hg, hc, hm, hr⟩
  · exact ⟨none, 0, rfl, Nat.le_refl _, by simp [maxLen], fun k hk => absurd hk (by simp)⟩
  · exact hr.arr rfl hc hm
theorem RowV.lt (h : RowV cells sz base w v l) : ∀ k, v.ownBlock = some k → base ≤ k ∧ k < w.heap.size := by
  intro k hk
  rcases h with ⟨rfl, rfl⟩ | ⟨g, cap, rfl, hg, hc, hm, hr⟩
  · cases hk
  · simp only [Value.ownBlock, Option.some.injEq] at hk
    subst hk; exact ⟨hg, hr.2.2⟩
theorem RowV.grown (h : RowV cells sz base w v l) {row : Option Nat} (hg : w.grownBy w' row) (hne : ∀ k, v.ownBlock = some k → row ≠ some k) : RowV cells sz base w' v l := by
  rcases h with ⟨rfl, rfl⟩ | ⟨g, cap, rfl, hg2, hc, hm, hr⟩
  · exact .inl ⟨rfl, rfl⟩
  · exact .inr ⟨g, cap, rfl, hg2, hc, hm, hr.kept (hg.block g hr.2.2 (fun e => hne g rfl e.symm)) hg.size⟩
theorem RowV.below (h : RowV cells sz base w v l) (hb : Below w.heap.size w w') : RowV cells sz base w' v l := h.grown (grown_below none hb) (fun _ _ e => by cases e)
theorem RowV.low (h : RowV cells sz base w v l) {base' : Nat} (hb : base' ≤ base) : RowV cells sz base' w v l := by
  rcases h with h | ⟨g, cap, rfl, hg2, hc, hm, hr⟩
  · exact .inl h
  · exact .inr ⟨g, cap, rfl, Nat.le_trans hb hg2, hc, hm, hr⟩
theorem RowV.slice (h : RowV cells sz base w v l) : ∃ a cap, v = .slice a l.length cap := by
  rcases h with ⟨rfl, rfl⟩ | ⟨g, cap, rfl, _⟩
  · exact ⟨none, 0, rfl⟩
  · exact ⟨_, cap, rfl⟩
/-- what grows by a row of its own stays below its base -/
theorem RowV.bel (h : RowV cells sz base w v l) (hg : w.grownBy w' v.ownBlock) (hB : base ≤ w.heap.size) : Below base w w' :=
  ⟨hg.os, hg.tape, hg.output, hg.size, fun k hk => hg.block k (by omega) (fun e => by have := (h.lt k e.symm).1; omega)⟩
theorem RowV.drew (h : RowV cells sz base w v l) : RowV cells sz base w.drew v l := h
theorem RowV.setNe (h : RowV cells sz base w v l) {c : Nat} (hc : v.ownBlock ≠ some c) (o : Nat) (u : Value) : RowV cells sz base (w.setCell ⟨c, o, none⟩ u) v l :=
  h.grown (row := some c) (grown_setCells c [u] o w) (fun k hk e => hc (hk.trans e.symm))
end
end Go.Proofs.YtcecpodbmjghhaaGreat
