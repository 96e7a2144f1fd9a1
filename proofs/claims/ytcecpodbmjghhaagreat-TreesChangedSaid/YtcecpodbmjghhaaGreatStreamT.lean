/- Walk of the stream: trees: the memory while one is drawn. -/
import Derived.Test.YtcecpodbmjghhaaGreatStream6
import Derived.Test.YtcecpodbmjghhaaGreatTreeGH
import Derived.Test.YtcecpodbmjghhaaGreatTreeRef
import Derived.Deep.CutRange
import Derived.Deep.AppendLies
set_option linter.unusedVariables false
set_option linter.unusedSimpArgs false
namespace Go.Proofs.YtcecpodbmjghhaaGreat
open Go Go.RowKit
/-- the memory of a tree that is being drawn: its two boxes, its splitters -/
structure TreeSt (s M : Nat) (w W : World) (v1 v2 : Value) (l : List Splt) : Prop where
  st : Strm W s M
  gr : w.grownBy W (some s)
  bx : Blk W (w.heap.size + 1) #[v1, v2] 29
  rs : Blk W w.heap.size #[.slice none 0 0, .slice none 0 0] 29
  o1 : W.ownsRow (w.heap.size + 3) 58 4 v1 l.length (l.flatMap Splt.cells)
  ok : ∀ x ∈ l, 1 ≤ x.ways ∧ x.ways ≤ 8
  lt : s < w.heap.size
theorem TreeSt.step {s M M' : Nat} {w W W' : World} {v1 v2 : Value} {l : List Splt} (h : TreeSt s M w W v1 v2 l) (hs : Strm W' s M') (hg : W.grownBy W' (some s)) : TreeSt s M' w W' v1 v2 l := by
  have hl := h.lt
  exact ⟨hs, grown_trans h.gr hg, h.bx.grown hg (by simp; omega), h.rs.grown hg (by simp; omega), own_grown h.o1 hg (by omega), h.ok, hl⟩
theorem TreeSt.alloc {s M : Nat} {w W : World} {v1 v2 : Value} {l : List Splt} (h : TreeSt s M w W v1 v2 l) (o : Obj) : TreeSt s M w (W.alloc o) v1 v2 l :=
  h.step (h.st.alloc o) (World.grownBy_alloc W o _)
theorem TreeSt.drew {s M : Nat} {w W : World} {v1 v2 : Value} {l : List Splt} (h : TreeSt s M w W v1 v2 l) : TreeSt s M w W.drew v1 v2 l := ⟨h.st.drew, grown_drew h.gr, h.bx, h.rs, h.o1, h.ok, h.lt⟩
theorem TreeSt.mono {s M M' : Nat} {w W : World} {v1 v2 : Value} {l : List Splt} (h : TreeSt s M w W v1 v2 l) (hm : M ≤ M') : TreeSt s M' w W v1 v2 l := { h with st := h.st.mono hm }
theorem own_setOther {W : World} {B sz n : Nat} {e : TypeId} {v : Value} {xs : List Value} (h : W.ownsRow B e sz v n xs) {c : Nat} (hc : c < B) (o : Nat) (u : Value) : (W.setCell ⟨c, o, none⟩ u).ownsRow B e sz v n xs := by
  refine h.kept (grown_setCell W c o u) ?_
  cases hv : v.ownBlock with
  | none => exact .inl rfl
  | some k => right; have := (h.lt k hv).1; simp; omega
/-- a splitter is put behind the others -/
theorem TreeSt.app {s M : Nat} {w W W2 : World} {v1 v2 v' : Value} {l : List Splt} {x : Splt} (h : TreeSt s M w W v1 v2 l) (hx : 1 ≤ x.ways ∧ x.ways ≤ 8) (hg : W.grownBy W2 v1.ownBlock)
    (ho : W2.ownsRow (w.heap.size + 3) 58 4 v' (l.length + 1) (l.flatMap Splt.cells ++ [.string x.key, .int .i64 x.ways, .string x.par, .int .i64 x.port])) : TreeSt s M w (W2.setCell ⟨w.heap.size + 1, 0, none⟩ v') v' v2 (l ++ [x]) := by
  have hl := h.lt
  have hlow := fun k e => (h.o1.lt k e).1
  have hb1 : some (w.heap.size + 1) ≠ v1.ownBlock := fun e => by have := hlow _ e.symm; omega
  have hb0 : some w.heap.size ≠ v1.ownBlock := fun e => by have := hlow _ e.symm; omega
  refine ⟨?_, ?_, ?_, ?_, ?_, ?_, hl⟩
  · exact (strm_app h.st h.o1 hg (by omega)).setOther (by omega) _ _
  · exact grown_setOwn (grown_app h.gr h.o1 hg (by omega)) (by omega) _ _
  · exact (h.bx.grown hg hb1).set 0 v'
  · exact (h.rs.grown hg hb0).setOther (by omega) _ _
  · have := own_setOther ho (c := w.heap.size + 1) (by omega) 0 v'
    rw [List.length_append, List.length_singleton, List.flatMap_append, List.flatMap_cons, List.flatMap_nil, List.append_nil]
    exact this
  · intro y hy
    rcases List.mem_append.1 hy with hy | hy
    · exact h.ok y hy
    · rw [List.mem_singleton] at hy; subst hy; exact hx
theorem TreeSt.setOther {s M : Nat} {w W : World} {v1 v2 : Value} {l : List Splt} (h : TreeSt s M w W v1 v2 l) {c : Nat} (hc : w.heap.size + 2 ≤ c) (hob : ∀ k, v1.ownBlock = some k → k < c) (o : Nat) (u : Value) : TreeSt s M w (W.setCell ⟨c, o, none⟩ u) v1 v2 l := by
  have hl := h.lt
  refine ⟨h.st.setOther (by omega) _ _, grown_setOwn h.gr (by omega) _ _, h.bx.setOther (by omega) _ _, h.rs.setOther (by omega) _ _, ?_, h.ok, hl⟩
  refine h.o1.kept (grown_setCell W c o u) ?_
  cases hv : v1.ownBlock with
  | none => exact .inl rfl
  | some k => right; have := hob k hv; simp; omega
theorem four_keys {W : World} {b : Nat} (h : Blk W b #[.string ⟨#[115, 49]⟩, .string ⟨#[115, 50]⟩, .string ⟨#[115, 51]⟩, .string ⟨#[115, 52]⟩] 9) (k : Nat) (hk : k < 4) : ∃ ks : ByteArray, W.cell? ⟨b, k, none⟩ = some (.string ks) := by
  rcases k with _ | _ | _ | _ | k
  · exact ⟨_, h.cell 0 _ rfl⟩
  · exact ⟨_, h.cell 1 _ rfl⟩
  · exact ⟨_, h.cell 2 _ rfl⟩
  · exact ⟨_, h.cell 3 _ rfl⟩
  · omega
/-- the cells that a pick of a splitter reads -/
def UpCells (l : List Splt) (g b : Nat) (v : Value) (W : World) : Prop := W.cell? ⟨b, 0, none⟩ = some v ∧ ∀ k (hk : k < l.length),
  W.cell? ⟨g, k * 4, none⟩ = some (.string l[k].key) ∧ W.cell? ⟨g, k * 4 + 1, none⟩ = some (.int .i64 l[k].ways) ∧ W.cell? ⟨g, k * 4 + 2, none⟩ = some (.string l[k].par) ∧ W.cell? ⟨g, k * 4 + 3, none⟩ = some (.int .i64 l[k].port)
theorem TreeSt.up {s M : Nat} {w W : World} {g cap : Nat} {v2 : Value} {l : List Splt} (h : TreeSt s M w W (.slice (some ⟨g, 0, none⟩) l.length cap) v2 l) : UpCells l g (w.heap.size + 1) (.slice (some ⟨g, 0, none⟩) l.length cap) W := by
  refine ⟨h.bx.cell 0 _ rfl, fun k hk => ?_⟩
  have hr := (Row.of_own Splt.cells_len h.o1 rfl).1 k hk
  have e0 := hr 0 _ rfl
  have e1 := hr 1 _ rfl
  have e2 := hr 2 _ rfl
  have e3 := hr 3 _ rfl
  simp only [Nat.zero_add, Nat.add_zero] at e0 e1 e2 e3
  exact ⟨e0, e1, e2, e3⟩
theorem TreeSt.up_alloc {s M : Nat} {w W : World} {g cap : Nat} {v2 : Value} {l : List Splt} (h : TreeSt s M w W (.slice (some ⟨g, 0, none⟩) l.length cap) v2 l) (o : Obj) : UpCells l g (w.heap.size + 1) (.slice (some ⟨g, 0, none⟩) l.length cap) (W.alloc o) := (h.alloc o).up
theorem own_form2 {W : World} {B sz n : Nat} {e : TypeId} {v : Value} {xs : List Value} (h : W.ownsRow B e sz v n xs) (hn : 0 < n) : ∃ g cap, v = .slice (some ⟨g, 0, none⟩) n cap ∧ B ≤ g ∧ g < W.heap.size ∧ n ≤ cap ∧ cap ≤ maxLen := by
  have hlt := h.lt
  rcases h.2 with ⟨_, h0⟩ | ⟨g, cap, cur, rfl, hg, _, hc, hm, _⟩
  · omega
  · exact ⟨g, cap, rfl, hg, (hlt g rfl).2, hc, hm⟩
/-- not k9 -/
def CuOk (c : ByteArray) : Prop := c ≠ ⟨#[107, 57]⟩
theorem cu_some {a r : ByteArray} (h : CuOk a) (hm : r ∈ [a, ⟨#[]⟩, ⟨#[107, 49]⟩]) : CuOk r := by
  simp only [List.mem_cons, List.not_mem_nil, or_false] at hm
  rcases hm with rfl | rfl | rfl
  · exact h
  · unfold CuOk; decide
  · unfold CuOk; decide
theorem five_keys {W : World} {b : Nat} (h : Blk W b #[.string ⟨#[107, 49]⟩, .string ⟨#[107, 50]⟩, .string ⟨#[107, 51]⟩, .string ⟨#[107, 52]⟩, .string ⟨#[107, 53]⟩] 9) (k : Nat) (hk : k < 5) : ∃ ks : ByteArray, CuOk ks ∧ W.cell? ⟨b, k, none⟩ = some (.string ks) := by
  rcases k with _ | _ | _ | _ | _ | k
  · exact ⟨_, by unfold CuOk; decide, h.cell 0 _ rfl⟩
  · exact ⟨_, by unfold CuOk; decide, h.cell 1 _ rfl⟩
  · exact ⟨_, by unfold CuOk; decide, h.cell 2 _ rfl⟩
  · exact ⟨_, by unfold CuOk; decide, h.cell 3 _ rfl⟩
  · exact ⟨_, by unfold CuOk; decide, h.cell 4 _ rfl⟩
  · omega
theorem infoDrp : (Tryz.prog.info? 36).map (fun i => (i.zero, i.size, i.bytes)) = some (some (.agg #[.string ⟨#[]⟩, .string ⟨#[]⟩, .int .i64 0]), 3, 40) := by kernel_rfl
/-- a drop is put behind the others -/
theorem TreeSt.app2 {s M B n : Nat} {w W W2 : World} {v1 v2 v' : Value} {l : List Splt} {xs : List Value} (h : TreeSt s M w W v1 v2 l) (hB : w.heap.size + 3 ≤ B) (ho : W.ownsRow B 36 3 v2 n xs) (hlo : ∀ k, v1.ownBlock = some k → k < B) (hg : W.grownBy W2 v2.ownBlock) : TreeSt s M w (W2.setCell ⟨w.heap.size + 1, 1, none⟩ v') v1 v' l := by
  have hl := h.lt
  have hlow := fun k e => (ho.lt k e).1
  have hb1 : some (w.heap.size + 1) ≠ v2.ownBlock := fun e => by have := hlow _ e.symm; omega
  have hb0 : some w.heap.size ≠ v2.ownBlock := fun e => by have := hlow _ e.symm; omega
  refine ⟨?_, ?_, ?_, ?_, ?_, h.ok, hl⟩
  · exact (strm_app h.st ho hg (by omega)).setOther (by omega) _ _
  · exact grown_setOwn (grown_app h.gr ho hg (by omega)) (by omega) _ _
  · exact (h.bx.grown hg hb1).set 1 v'
  · exact (h.rs.grown hg hb0).setOther (by omega) _ _
  · refine own_setOther (h.o1.kept hg ?_) (c := w.heap.size + 1) (by omega) 1 v'
    cases hv : v1.ownBlock with
    | none => exact .inl rfl
    | some k =>
      right
      intro e
      have h1 := hlo k hv
      have h2 := hlow k e.symm
      omega
/-- the memory while drops are drawn -/
structure TreeS2 (s M B : Nat) (w W : World) (v1 v2 : Value) (l : List Splt) (d : List Drp) : Prop where
  t : TreeSt s M w W v1 v2 l
  k : Blk W B #[.string ⟨#[107, 49]⟩, .string ⟨#[107, 50]⟩, .string ⟨#[107, 51]⟩, .string ⟨#[107, 52]⟩, .string ⟨#[107, 53]⟩] 9
  o2 : W.ownsRow (B + 1) 36 3 v2 d.length (d.flatMap Drp.cells)
  lo : ∀ k, v1.ownBlock = some k → k < B
  hb : w.heap.size + 3 ≤ B
  cu : ∀ x ∈ d, CuOk x.cust
theorem TreeS2.step {s M M' B : Nat} {w W W' : World} {v1 v2 : Value} {l : List Splt} {d : List Drp} (h : TreeS2 s M B w W v1 v2 l d) (hs : Strm W' s M') (hg : W.grownBy W' (some s)) : TreeS2 s M' B w W' v1 v2 l d := by
  have := h.hb; have := h.t.lt
  exact ⟨h.t.step hs hg, h.k.grown hg (by simp; omega), own_grown h.o2 hg (by omega), h.lo, h.hb, h.cu⟩
theorem TreeS2.alloc {s M B : Nat} {w W : World} {v1 v2 : Value} {l : List Splt} {d : List Drp} (h : TreeS2 s M B w W v1 v2 l d) (o : Obj) : TreeS2 s M B w (W.alloc o) v1 v2 l d := h.step (h.t.st.alloc o) (World.grownBy_alloc W o _)
theorem TreeS2.drew {s M B : Nat} {w W : World} {v1 v2 : Value} {l : List Splt} {d : List Drp} (h : TreeS2 s M B w W v1 v2 l d) : TreeS2 s M B w W.drew v1 v2 l d := ⟨h.t.drew, h.k, h.o2, h.lo, h.hb, h.cu⟩
theorem TreeS2.mono {s M M' B : Nat} {w W : World} {v1 v2 : Value} {l : List Splt} {d : List Drp} (h : TreeS2 s M B w W v1 v2 l d) (hm : M ≤ M') : TreeS2 s M' B w W v1 v2 l d := { h with t := h.t.mono hm }
theorem own_slice {W : World} {B sz n : Nat} {e : TypeId} {v : Value} {xs : List Value} (h : W.ownsRow B e sz v n xs) : ∃ a cap, v = .slice a n cap := by
  rcases h.2 with ⟨hv, h0⟩ | ⟨g, cap, cur, rfl, _⟩
  · exact ⟨none, 0, by rw [hv, h0]⟩
  · exact ⟨_, cap, rfl⟩
theorem TreeS2.setOther {s M B : Nat} {w W : World} {v1 v2 : Value} {l : List Splt} {d : List Drp} (h : TreeS2 s M B w W v1 v2 l d) {c : Nat} (hc : B < c) (hob : ∀ k, v2.ownBlock = some k → k < c) (o : Nat) (u : Value) : TreeS2 s M B w (W.setCell ⟨c, o, none⟩ u) v1 v2 l d := by
  have hb := h.hb
  refine ⟨h.t.setOther (by omega) (fun k e => by have := h.lo k e; omega) _ _, h.k.setOther (by omega) _ _, ?_, h.lo, hb, h.cu⟩
  refine h.o2.kept (grown_setCell W c o u) ?_
  cases hv : v2.ownBlock with
  | none => exact .inl rfl
  | some k => right; have := hob k hv; simp; omega
theorem mem_app1 {d : List Drp} {x : Drp} (h : ∀ y ∈ d, CuOk y.cust) (hx : CuOk x.cust) : ∀ y ∈ d ++ [x], CuOk y.cust := by
  intro y hy
  rcases List.mem_append.1 hy with hy | hy
  · exact h y hy
  · rw [List.mem_singleton] at hy; subst hy; exact hx
theorem TreeS2.app {s M B : Nat} {w W W2 : World} {v1 v2 v' : Value} {l : List Splt} {d : List Drp} {x : Drp} (h : TreeS2 s M B w W v1 v2 l d) (hcu : CuOk x.cust) (hg : W.grownBy W2 v2.ownBlock)
    (ho : W2.ownsRow (B + 1) 36 3 v' (d.length + 1) (d.flatMap Drp.cells ++ [.string x.cust, .string x.spl, .int .i64 x.port])) : TreeS2 s M B w (W2.setCell ⟨w.heap.size + 1, 1, none⟩ v') v1 v' l (d ++ [x]) := by
  have hb := h.hb
  have hlow := fun k e => (h.o2.lt k e).1
  refine ⟨h.t.app2 (B := B + 1) (by omega) h.o2 (fun k e => by have := h.lo k e; omega) hg, ?_, ?_, h.lo, hb, mem_app1 h.cu hcu⟩
  · exact (h.k.grown hg (fun e => by have := hlow _ e.symm; omega)).setOther (by omega) _ _
  · have := own_setOther ho (c := w.heap.size + 1) (by omega) 1 v'
    rw [List.length_append, List.length_singleton, List.flatMap_append, List.flatMap_cons, List.flatMap_nil, List.append_nil]
    exact this
end Go.Proofs.YtcecpodbmjghhaaGreat
