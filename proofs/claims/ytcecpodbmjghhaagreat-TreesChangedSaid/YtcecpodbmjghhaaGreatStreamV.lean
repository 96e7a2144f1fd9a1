/- Walk of the stream: a tree that is spoilt at one place. (Written by ordgen.py from XStreamV.gen.) -/
import Derived.Test.YtcecpodbmjghhaaGreatStreamT
set_option linter.unusedVariables false
set_option linter.unusedSimpArgs false
namespace Go.Proofs.YtcecpodbmjghhaaGreat
open Go Go.RowKit
theorem flat_set {α : Type} {cells : α → List Value} {sz : Nat} (hlen : ∀ x, (cells x).length = sz) {u : Value} {x : α} {j : Nat} (hj : j < sz) : ∀ (l : List α) (k : Nat) (hk : k < l.length), cells x = (cells l[k]).set j u → (l.flatMap cells).set (k * sz + j) u = (l.set k x).flatMap cells
  | y :: l, 0, _, hx => by
    rw [List.flatMap_cons, Nat.zero_mul, Nat.zero_add, List.set_append_left _ _ (by rw [hlen]; exact hj), List.set_cons_zero, List.flatMap_cons, hx]; rfl
  | y :: l, k + 1, hk, hx => by
    rw [List.flatMap_cons, List.set_cons_succ, List.flatMap_cons, List.set_append_right _ _ (by rw [hlen, Nat.succ_mul]; omega), hlen]
    rw [show (k + 1) * sz + j - sz = k * sz + j by rw [Nat.succ_mul]; omega, flat_set hlen hj l k (by simpa using hk) (by simpa using hx)]
/-- the memory of a tree that is being spoilt -/
structure TreeW (s M B : Nat) (w W : World) (v1 v2 : Value) (l : List Splt) (d : List Drp) : Prop where
  st : Strm W s M
  gr : w.grownBy W (some s)
  bx : Blk W (w.heap.size + 1) #[v1, v2] 29
  rs : Blk W w.heap.size #[.slice none 0 0, .slice none 0 0] 29
  o1 : W.ownsRow (w.heap.size + 3) 58 4 v1 l.length (l.flatMap Splt.cells)
  o2 : W.ownsRow (B + 1) 36 3 v2 d.length (d.flatMap Drp.cells)
  lo : ∀ k, v1.ownBlock = some k → k < B
  hb : w.heap.size + 3 ≤ B
  lt : s < w.heap.size
  hB : B < W.heap.size
  cu : ∀ x ∈ d, CuOk x.cust
theorem TreeS2.weak {s M B : Nat} {w W : World} {v1 v2 : Value} {l : List Splt} {d : List Drp} (h : TreeS2 s M B w W v1 v2 l d) : TreeW s M B w W v1 v2 l d :=
  ⟨h.t.st, h.t.gr, h.t.bx, h.t.rs, h.t.o1, h.o2, h.lo, h.hb, h.t.lt, h.k.lt, h.cu⟩
theorem TreeW.step {s M M' B : Nat} {w W W' : World} {v1 v2 : Value} {l : List Splt} {d : List Drp} (h : TreeW s M B w W v1 v2 l d) (hs : Strm W' s M') (hg : W.grownBy W' (some s)) : TreeW s M' B w W' v1 v2 l d := by
  have := h.hb; have hl := h.lt
  exact ⟨hs, grown_trans h.gr hg, h.bx.grown hg (by simp; omega), h.rs.grown hg (by simp; omega), own_grown h.o1 hg (by omega), own_grown h.o2 hg (by omega), h.lo, h.hb, hl, Nat.lt_of_lt_of_le h.hB hg.size, h.cu⟩
theorem TreeW.alloc {s M B : Nat} {w W : World} {v1 v2 : Value} {l : List Splt} {d : List Drp} (h : TreeW s M B w W v1 v2 l d) (o : Obj) : TreeW s M B w (W.alloc o) v1 v2 l d := h.step (h.st.alloc o) (World.grownBy_alloc W o _)
theorem TreeW.drew {s M B : Nat} {w W : World} {v1 v2 : Value} {l : List Splt} {d : List Drp} (h : TreeW s M B w W v1 v2 l d) : TreeW s M B w W.drew v1 v2 l d := ⟨h.st.drew, grown_drew h.gr, h.bx, h.rs, h.o1, h.o2, h.lo, h.hb, h.lt, h.hB, h.cu⟩
theorem TreeW.mono {s M M' B : Nat} {w W : World} {v1 v2 : Value} {l : List Splt} {d : List Drp} (h : TreeW s M B w W v1 v2 l d) (hm : M ≤ M') : TreeW s M' B w W v1 v2 l d := { h with st := h.st.mono hm }
theorem TreeW.put1 {s M B g n cap : Nat} {w W : World} {v2 : Value} {l : List Splt} {d : List Drp} (h : TreeW s M B w W (.slice (some ⟨g, 0, none⟩) n cap) v2 l d) (hn : n = l.length) (k j : Nat) (hk : k < l.length) (hj : j < 4) (u : Value) (x : Splt) (hx : x.cells = l[k].cells.set j u) :
    TreeW s M B w (W.setCell ⟨g, k * 4 + j, none⟩ u) (.slice (some ⟨g, 0, none⟩) n cap) v2 (l.set k x) d := by
  subst hn
  have hb := h.hb; have hl := h.lt
  have hg1 := (h.o1.lt g rfl).1
  have hg2 := h.lo g rfl
  refine ⟨h.st.setOther (by omega) _ _, grown_setOwn h.gr (by omega) _ _, h.bx.setOther (by omega) _ _, h.rs.setOther (by omega) _ _, ?_, ?_, h.lo, hb, hl, by have := h.hB; simp only [World.setCell, Array.size_modify]; exact this, h.cu⟩
  · have := (h.o1.stored (k * 4 + j) u).1
    rw [flat_set Splt.cells_len hj l k hk hx] at this
    rw [List.length_set]; exact this
  · refine h.o2.kept (grown_setCell W g _ u) ?_
    cases hv : v2.ownBlock with
    | none => exact .inl rfl
    | some c => right; have := (h.o2.lt c hv).1; simp; omega
theorem TreeW.put2 {s M B g n cap : Nat} {w W : World} {v1 : Value} {l : List Splt} {d : List Drp} (h : TreeW s M B w W v1 (.slice (some ⟨g, 0, none⟩) n cap) l d) (hn : n = d.length) (k j : Nat) (hk : k < d.length) (hj : j < 3) (u : Value) (x : Drp) (hcu : CuOk x.cust) (hx : x.cells = d[k].cells.set j u) :
    TreeW s M B w (W.setCell ⟨g, k * 3 + j, none⟩ u) v1 (.slice (some ⟨g, 0, none⟩) n cap) l (d.set k x) := by
  subst hn
  have hb := h.hb; have hl := h.lt
  have hg1 := (h.o2.lt g rfl).1
  refine ⟨h.st.setOther (by omega) _ _, grown_setOwn h.gr (by omega) _ _, h.bx.setOther (by omega) _ _, h.rs.setOther (by omega) _ _, ?_, ?_, h.lo, hb, hl, by have := h.hB; simp only [World.setCell, Array.size_modify]; exact this, fun y hy => (List.mem_or_eq_of_mem_set hy).elim (h.cu y) (fun e => e ▸ hcu)⟩
  · refine h.o1.kept (grown_setCell W g _ u) ?_
    cases hv : v1.ownBlock with
    | none => exact .inl rfl
    | some c => right; have := h.lo c hv; simp; omega
  · have := (h.o2.stored (k * 3 + j) u).1
    rw [flat_set Drp.cells_len hj d k hk hx] at this
    rw [List.length_set]; exact this
/-- a drop is put behind the others -/
theorem TreeW.app {s M B : Nat} {w W W2 : World} {v1 v2 v' : Value} {l : List Splt} {d : List Drp} {x : Drp} (h : TreeW s M B w W v1 v2 l d) (hcu : CuOk x.cust) (hg : W.grownBy W2 v2.ownBlock)
    (ho : W2.ownsRow (B + 1) 36 3 v' (d.length + 1) (d.flatMap Drp.cells ++ [.string x.cust, .string x.spl, .int .i64 x.port])) : TreeW s M B w (W2.setCell ⟨w.heap.size + 1, 1, none⟩ v') v1 v' l (d ++ [x]) := by
  have hb := h.hb; have hl := h.lt
  have hlow := fun k e => (h.o2.lt k e).1
  have hb1 : some (w.heap.size + 1) ≠ v2.ownBlock := fun e => by have := hlow _ e.symm; omega
  have hb0 : some w.heap.size ≠ v2.ownBlock := fun e => by have := hlow _ e.symm; omega
  refine ⟨?_, ?_, ?_, ?_, ?_, ?_, h.lo, hb, hl, ?_, mem_app1 h.cu hcu⟩
  · exact (strm_app h.st h.o2 hg (by omega)).setOther (by omega) _ _
  · exact grown_setOwn (grown_app h.gr h.o2 hg (by omega)) (by omega) _ _
  · exact (h.bx.grown hg hb1).set 1 v'
  · exact (h.rs.grown hg hb0).setOther (by omega) _ _
  · refine own_setOther (h.o1.kept hg ?_) (c := w.heap.size + 1) (by omega) 1 v'
    cases hv : v1.ownBlock with
    | none => exact .inl rfl
    | some k =>
      right
      intro e
      have h1 := h.lo k hv
      have h2 := hlow k e.symm
      omega
  · have := own_setOther ho (c := w.heap.size + 1) (by omega) 1 v'
    rw [List.length_append, List.length_singleton, List.flatMap_append, List.flatMap_cons, List.flatMap_nil, List.append_nil]
    exact this
  · have := hg.size; have := h.hB; simp only [World.setCell, Array.size_modify]; omega
/-- the cells of the splitter that is spoilt -/
def SpC (l : List Splt) (g kk : Nat) (hkk : kk < l.length) (W : World) : Prop := (W.cell? ⟨g, kk * 4, none⟩ = some (.string l[kk].key) ∧ W.cell? ⟨g, kk * 4 + 1, none⟩ = some (.int .i64 l[kk].ways)) ∧ (W.cell? ⟨g, kk * 4 + 2, none⟩ = some (.string l[kk].par) ∧ W.cell? ⟨g, kk * 4 + 3, none⟩ = some (.int .i64 l[kk].port))
theorem TreeW.spc {s M B g n cap kk : Nat} {w W : World} {v2 : Value} {l : List Splt} {d : List Drp} (h : TreeW s M B w W (.slice (some ⟨g, 0, none⟩) n cap) v2 l d) (hkk : kk < l.length) : SpC l g kk hkk W := by
  have hn : n = l.length := by rcases h.o1.2 with ⟨e, _⟩ | ⟨_, _, _, e, _⟩ <;> cases e; rfl
  subst hn
  have hr := (Row.of_own Splt.cells_len h.o1 rfl).1 kk hkk
  have e0 := hr 0 _ rfl
  have e1 := hr 1 _ rfl
  have e2 := hr 2 _ rfl
  have e3 := hr 3 _ rfl
  simp only [Nat.zero_add, Nat.add_zero] at e0 e1 e2 e3
  exact ⟨⟨e0, e1⟩, e2, e3⟩
theorem TreeW.sfree {s M B g n cap : Nat} {w W : World} {v2 : Value} {l : List Splt} {d : List Drp} (h : TreeW s M B w W (.slice (some ⟨g, 0, none⟩) n cap) v2 l d) : ∀ o, W.frozen? ⟨g, o, none⟩ = false := by
  have hn : n = l.length := by rcases h.o1.2 with ⟨e, _⟩ | ⟨_, _, _, e, _⟩ <;> cases e; rfl
  subst hn
  exact (Row.of_own Splt.cells_len h.o1 rfl).2.1
/-- the cells of the drop that is spoilt -/
def SdC (d : List Drp) (g kk : Nat) (hkk : kk < d.length) (W : World) : Prop := W.cell? ⟨g, kk * 3, none⟩ = some (.string d[kk].cust) ∧ W.cell? ⟨g, kk * 3 + 1, none⟩ = some (.string d[kk].spl) ∧ W.cell? ⟨g, kk * 3 + 2, none⟩ = some (.int .i64 d[kk].port)
theorem TreeW.sdc {s M B g n cap kk : Nat} {w W : World} {v1 : Value} {l : List Splt} {d : List Drp} (h : TreeW s M B w W v1 (.slice (some ⟨g, 0, none⟩) n cap) l d) (hkk : kk < d.length) : SdC d g kk hkk W := by
  have hn : n = d.length := by rcases h.o2.2 with ⟨e, _⟩ | ⟨_, _, _, e, _⟩ <;> cases e; rfl
  subst hn
  have hr := (Row.of_own Drp.cells_len h.o2 rfl).1 kk hkk
  have e0 := hr 0 _ rfl
  have e1 := hr 1 _ rfl
  have e2 := hr 2 _ rfl
  simp only [Nat.zero_add, Nat.add_zero] at e0 e1 e2
  exact ⟨e0, e1, e2⟩
theorem TreeW.dfree {s M B g n cap : Nat} {w W : World} {v1 : Value} {l : List Splt} {d : List Drp} (h : TreeW s M B w W v1 (.slice (some ⟨g, 0, none⟩) n cap) l d) : ∀ o, W.frozen? ⟨g, o, none⟩ = false := by
  have hn : n = d.length := by rcases h.o2.2 with ⟨e, _⟩ | ⟨_, _, _, e, _⟩ <;> cases e; rfl
  subst hn
  exact (Row.of_own Drp.cells_len h.o2 rfl).2.1
/-- what is spoilt is a tree still -/
def Spoilt (s M B : Nat) (w : World) (n m : Nat) (e : Ending) (W' : World) : Prop := e = .returned (.tuple #[]) ∧ ∃ v1 v2 l d, l.length = n ∧ d.length ≤ m + 1 ∧ TreeW s M B w W' v1 v2 l d
set_option maxHeartbeats 8000000 in
set_option maxRecDepth 100000 in
theorem spoil_any (s M B : Nat) (w W : World) (v1 v2 : Value) (l : List Splt) (d : List Drp) (h : TreeW s M B w W v1 v2 l d) (hM : M ≤ 1100000) (hd : d.length ≤ 100) (hl1 : l.length ≤ 100) : Calls Tryz.prog 34 #[.pointer (some ⟨s, 0, none⟩), .pointer (some ⟨w.heap.size + 1, 0, none⟩)] W
    (Spoilt s (M + 10) B w l.length d.length) := by
  have hl := h.lt
  have HT := Lib.hid h
  obtain ⟨i0, hi, hz0, hz1, hz2⟩ := info_parts infoDrp
  have b0 := h.bx.cell 0 _ rfl
  have b1 := h.bx.cell 1 _ rfl
  have bf := h.bx.free 1
  have hbl := h.bx.lt
  have hBW := h.hB
  have hwB := h.hb
  obtain ⟨a1, cap1, rfl⟩ := own_slice h.o1
  obtain ⟨a2, cap2, rfl⟩ := own_slice h.o2
  clear h
  by_cases hl0 : l.length = 0
  · have hz : ((l.length : Int) == 0) = true := by rw [beq_iff_eq]; omega
    have HL0 := Lib.hid hl0
    clear hl0
    go_enter Tryz.func34, Tryz.ntmps34
    go_wp2_with ((at_builtin; go_must (refine wpList_append_own _ rfl _ _ 27 rfl _ 36 _ (.agg #[.string ⟨#[]⟩, .string ⟨#[]⟩, .int .i64 0]) 3 40 Tryz.underlying27 hi hz0 hz1 hz2 rfl (by decide) _ _ _ rfl (HT.out.o2.alloc _) ⟨W.heap.size, 0, none⟩ 1 1 [.string ⟨#[107, 49]⟩, .string ⟨#[115, 49]⟩, .int .i64 1] rfl rfl (by exact news_at (by first | rfl | simp) (by rfl)) (by simp [Value.oneCell']) (by unfold maxLen; omega) (by omega) (by first | omega | (simp; done) | (simp; omega)) ?_)); intro v' w9 hown9 hgrow _; obtain ⟨g9, cap9, rfl, -, -, -, -⟩ := own_form2 hown9 (by omega); have bb := (HT.out.bx.alloc (.cells #[.string ⟨#[107, 49]⟩, .string ⟨#[115, 49]⟩, .int .i64 1] 36)).grown hgrow (fun e => by have := (HT.out.o2.lt _ e.symm).1; have := HT.out.hb; omega); have bb1 := bb.cell 1 (.slice a2 d.length cap2) rfl; have bbf := bb.free 1)
    refine bodyPost_ret (v := .tuple #[]) (by simp [results, go_sem]) rfl ?_
    exact ⟨rfl, _, _, l, _, rfl, by simp, ((HT.out.alloc _).app (x := ⟨⟨#[107, 49]⟩, ⟨#[115, 49]⟩, 1⟩) (by unfold CuOk; decide) hgrow hown9).mono (by omega)⟩
  · have hz : ((l.length : Int) == 0) = false := by rw [beq_eq_false_iff_ne]; omega
    have hlp : 0 < l.length := by omega
    clear hl0
    obtain ⟨g, cap, hg1, hgB, hgs, hcn, hcm⟩ := own_form2 HT.out.o1 hlp
    simp only [Value.slice.injEq, true_and] at hg1
    obtain ⟨rfl, rfl⟩ := hg1
    unfold maxLen at hcm
    go_enter Tryz.func34, Tryz.ntmps34
    go_wp2_with fail
    refine WalkT.start (fun w' => w'.cell? ⟨w.heap.size + 1, 0, none⟩ = some (.slice (some ⟨g, 0, none⟩) l.length cap1)) [] (by kernel_rfl) ?_
    have HD := Lib.hid HT.out.drew
    clear HT b0 b1
    generalize W.drew = W0 at *
    have hS1 : W0.cell? ⟨w.heap.size + 1, 0, none⟩ = some (.slice (some ⟨g, 0, none⟩) l.length cap1) := HD.out.bx.cell 0 _ rfl
    have HS1 := Lib.hid hS1
    clear hS1
    (refine WalkT.quiet (i := 0) (v := ?_) rfl (by kernel_rfl) (by kernel_rfl) (by kernel_rfl) (fun _ _ _ h => h) (Or.inl ⟨by rfl, ?_⟩) ?_; rotate_left; (· (intro wS hSw; (try dsimp only at hSw); go_simp; try with_reducible rfl)); try simp only [Act.put, pu1, pu2, pu3, pu4, pu5, pu6])
    (refine WalkT.quiet (i := 1) (v := ?_) rfl (by kernel_rfl) (by kernel_rfl) (by kernel_rfl) (fun _ _ _ h => h) (Or.inl ⟨by rfl, ?_⟩) ?_; rotate_left; (· (intro wS hSw; (try dsimp only at hSw); go_simp; try with_reducible rfl)); try simp only [Act.put, pu1, pu2, pu3, pu4, pu5, pu6])
    (refine WalkT.quiet (i := 2) (v := ?_) rfl (by kernel_rfl) (by kernel_rfl) (by kernel_rfl) (fun _ _ _ h => h) (Or.inl ⟨by rfl, ?_⟩) ?_; rotate_left; (· (intro wS hSw; (try dsimp only at hSw); go_simp; try with_reducible rfl)); try simp only [Act.put, pu1, pu2, pu3, pu4, pu5, pu6])
    (refine WalkT.take (i := 3) (v := ?_) rfl (by kernel_rfl) (by kernel_rfl) (by kernel_rfl) (by kernel_rfl) (fun _ _ _ h => h) (HS1.out) (Or.inl ⟨by rfl, ?_⟩) ?_; rotate_left; (· (intro wS hSw; (try dsimp only at hSw); go_simp; try with_reducible rfl)); try simp only [Act.put, pu1, pu2, pu3, pu4, pu5, pu6])
    (refine WalkT.quiet (i := 4) (v := ?_) rfl (by kernel_rfl) (by kernel_rfl) (by kernel_rfl) (fun _ _ _ h => h) (Or.inl ⟨by rfl, ?_⟩) ?_; rotate_left; (· (intro wS hSw; (try dsimp only at hSw); go_simp; try with_reducible rfl)); try simp only [Act.put, pu1, pu2, pu3, pu4, pu5, pu6])
    (refine WalkT.quiet (i := 5) (v := ?_) rfl (by kernel_rfl) (by kernel_rfl) (by kernel_rfl) (fun _ _ _ h => h) (Or.inl ⟨by rfl, ?_⟩) ?_; rotate_left; (· (intro wS hSw; (try dsimp only at hSw); go_simp; try with_reducible rfl)); try simp only [Act.put, pu1, pu2, pu3, pu4, pu5, pu6])
    (refine WalkT.quiet (i := 6) (v := ?_) rfl (by kernel_rfl) (by kernel_rfl) (by kernel_rfl) (fun _ _ _ h => h) (Or.inl ⟨by rfl, ?_⟩) ?_; rotate_left; (· (intro wS hSw; (try dsimp only at hSw); go_simp; try with_reducible rfl)); try simp only [Act.put, pu1, pu2, pu3, pu4, pu5, pu6])
    (refine WalkT.quiet (i := 7) (v := ?_) rfl (by kernel_rfl) (by kernel_rfl) (by kernel_rfl) (fun _ _ _ h => h) (Or.inl ⟨by rfl, ?_⟩) ?_; rotate_left; (· (intro wS hSw; (try dsimp only at hSw); go_simp; try with_reducible rfl)); try simp only [Act.put, pu1, pu2, pu3, pu4, pu5, pu6])
    (refine WalkT.take (i := 8) (v := ?_) rfl (by kernel_rfl) (by kernel_rfl) (by kernel_rfl) (by kernel_rfl) (fun _ _ _ h => h) (HS1.out) (Or.inl ⟨by rfl, ?_⟩) ?_; rotate_left; (· (intro wS hSw; (try dsimp only at hSw); go_simp; try with_reducible rfl)); try simp only [Act.put, pu1, pu2, pu3, pu4, pu5, pu6])
    (refine WalkT.quiet (i := 9) (v := ?_) rfl (by kernel_rfl) (by kernel_rfl) (by kernel_rfl) (fun _ _ _ h => h) (Or.inl ⟨by rfl, ?_⟩) ?_; rotate_left; (· (intro wS hSw; (try dsimp only at hSw); go_simp; try with_reducible rfl)); try simp only [Act.put, pu1, pu2, pu3, pu4, pu5, pu6])
    (refine WalkT.ready (rs := [10]) (by kernel_rfl) (by simp) (AllT.cons rfl (fun K hK => ?_) AllT.nil); go_simp)
    refine (next_any s _ _ _ HD.out.st (by omega) (by omega) (by omega)).mono ?_
    rintro e W1 ⟨v, rfl, ⟨r, rfl, z0, z1⟩, tW1, gW1⟩
    obtain ⟨kk, rfl⟩ := Int.eq_ofNat_of_zero_le z0
    have hkk : kk < l.length := by omega
    have hkl : (kk : Int) < (l.length : Int) := by omega
    have HD1 := Lib.hid (HD.out.step tW1 gW1)
    (refine hK.out _ _ (fun _ _ => HD1.out.bx.cell 0 _ rfl) ?_; clear hK K; try simp only [Act.put, pu1, pu2, pu3, pu4, pu5, pu6])
    clear HD HS1 tW1 gW1
    (refine WalkT.quiet (i := 11) (v := ?_) rfl (by kernel_rfl) (by kernel_rfl) (by kernel_rfl) (fun _ _ _ h => h) (Or.inl ⟨by rfl, ?_⟩) ?_; rotate_left; (· (intro wS hSw; (try dsimp only at hSw); go_simp; try with_reducible rfl)); try simp only [Act.put, pu1, pu2, pu3, pu4, pu5, pu6])
    (refine WalkT.quiet (i := 12) (v := ?_) rfl (by kernel_rfl) (by kernel_rfl) (by kernel_rfl) (fun _ _ _ h => h) (Or.inl ⟨by rfl, ?_⟩) ?_; rotate_left; (· (intro wS hSw; (try dsimp only at hSw); go_simp; try with_reducible rfl)); try simp only [Act.put, pu1, pu2, pu3, pu4, pu5, pu6])
    refine WalkT.done (by kernel_rfl) ?_
    go_wp2_with fail
    refine (next_any s _ _ _ HD1.out.st (by omega) (by omega) (by omega)).mono ?_
    rintro e W2 ⟨v, rfl, ⟨r, rfl, y0, y1⟩, tW2, gW2⟩
    have HD2 := Lib.hid (HD1.out.step tW2 gW2)
    clear HD1 tW2 gW2
    obtain ⟨⟨c0, c1⟩, c2, c3⟩ := HD2.out.spc hkk
    rcases (show r = 0 ∨ r = 1 ∨ r = 2 ∨ r = 3 by omega) with rfl | rfl | rfl | rfl
    · clear c0 c1 c2 c3
      go_wp2_with fail
      refine WalkT.start (SpC l g kk hkk) [18, 21] (by kernel_rfl) ?_
      have HD3 := Lib.hid HD2.out.drew
      clear HD2
      generalize W2.drew = W0 at *
      have S0 := HD3.out
      (refine WalkT.quiet (i := 0) (v := ?_) rfl (by kernel_rfl) (by kernel_rfl) (by kernel_rfl) (fun _ _ _ h => h) (Or.inl ⟨by rfl, ?_⟩) ?_; rotate_left; (· (intro wS hSw; (try dsimp only at hSw); go_simp; try with_reducible rfl)); try simp only [Act.put, pu1, pu2, pu3, pu4, pu5, pu6])
      (refine WalkT.quiet (i := 1) (v := ?_) rfl (by kernel_rfl) (by kernel_rfl) (by kernel_rfl) (fun _ _ _ h => h) (Or.inl ⟨by rfl, ?_⟩) ?_; rotate_left; (· (intro wS hSw; (try dsimp only at hSw); go_simp; try with_reducible rfl)); try simp only [Act.put, pu1, pu2, pu3, pu4, pu5, pu6])
      (refine WalkT.quiet (i := 2) (v := ?_) rfl (by kernel_rfl) (by kernel_rfl) (by kernel_rfl) (fun _ _ _ h => h) (Or.inl ⟨by rfl, ?_⟩) ?_; rotate_left; (· (intro wS hSw; (try dsimp only at hSw); go_simp; try with_reducible rfl)); try simp only [Act.put, pu1, pu2, pu3, pu4, pu5, pu6])
      (refine WalkT.quiet (i := 3) (v := ?_) rfl (by kernel_rfl) (by kernel_rfl) (by kernel_rfl) (fun _ _ _ h => h) (Or.inl ⟨by rfl, ?_⟩) ?_; rotate_left; (· (intro wS hSw; (try dsimp only at hSw); go_simp; try with_reducible rfl)); try simp only [Act.put, pu1, pu2, pu3, pu4, pu5, pu6])
      (refine WalkT.quiet (i := 4) (v := ?_) rfl (by kernel_rfl) (by kernel_rfl) (by kernel_rfl) (fun _ _ _ h => h) (Or.inl ⟨by rfl, ?_⟩) ?_; rotate_left; (· (intro wS hSw; (try dsimp only at hSw); go_simp; try with_reducible rfl)); try simp only [Act.put, pu1, pu2, pu3, pu4, pu5, pu6])
      (refine WalkT.quiet (i := 5) (v := ?_) rfl (by kernel_rfl) (by kernel_rfl) (by kernel_rfl) (fun _ _ _ h => h) (Or.inl ⟨by rfl, ?_⟩) ?_; rotate_left; (· (intro wS hSw; (try dsimp only at hSw); go_simp; try with_reducible rfl)); try simp only [Act.put, pu1, pu2, pu3, pu4, pu5, pu6])
      (refine WalkT.take (i := 6) (v := ?_) rfl (by kernel_rfl) (by kernel_rfl) (by kernel_rfl) (by kernel_rfl) (fun _ _ _ h => h) (HD3.out.spc hkk) (Or.inl ⟨by rfl, ?_⟩) ?_; rotate_left; (· (intro wS hSw; (try unfold SpC at hSw); obtain ⟨⟨t0, t1⟩, t2, t3⟩ := hSw; go_simp; try with_reducible rfl)); try simp only [Act.put, pu1, pu2, pu3, pu4, pu5, pu6])
      (refine WalkT.quiet (i := 9) (v := ?_) rfl (by kernel_rfl) (by kernel_rfl) (by kernel_rfl) (fun _ _ _ h => h) (Or.inl ⟨by rfl, ?_⟩) ?_; rotate_left; (· (intro wS hSw; (try dsimp only at hSw); go_simp; try with_reducible rfl)); try simp only [Act.put, pu1, pu2, pu3, pu4, pu5, pu6])
      (refine WalkT.quiet (i := 10) (v := ?_) rfl (by kernel_rfl) (by kernel_rfl) (by kernel_rfl) (fun _ _ _ h => h) (Or.inl ⟨by rfl, ?_⟩) ?_; rotate_left; (· (intro wS hSw; (try dsimp only at hSw); go_simp; try with_reducible rfl)); try simp only [Act.put, pu1, pu2, pu3, pu4, pu5, pu6])
      (refine WalkT.quiet (i := 11) (v := ?_) rfl (by kernel_rfl) (by kernel_rfl) (by kernel_rfl) (fun _ _ _ h => h) (Or.inl ⟨by rfl, ?_⟩) ?_; rotate_left; (· (intro wS hSw; (try dsimp only at hSw); go_simp; try with_reducible rfl)); try simp only [Act.put, pu1, pu2, pu3, pu4, pu5, pu6])
      (refine WalkT.quiet (i := 12) (v := ?_) rfl (by kernel_rfl) (by kernel_rfl) (by kernel_rfl) (fun _ _ _ h => h) (Or.inl ⟨by rfl, ?_⟩) ?_; rotate_left; (· (intro wS hSw; (try dsimp only at hSw); go_simp; try with_reducible rfl)); try simp only [Act.put, pu1, pu2, pu3, pu4, pu5, pu6])
      (refine WalkT.take (i := 13) (v := ?_) rfl (by kernel_rfl) (by kernel_rfl) (by kernel_rfl) (by kernel_rfl) (fun _ _ _ h => h) (HD3.out.spc hkk) (Or.inl ⟨by rfl, ?_⟩) ?_; rotate_left; (· (intro wS hSw; (try unfold SpC at hSw); obtain ⟨⟨t0, t1⟩, t2, t3⟩ := hSw; go_simp; try with_reducible rfl)); try simp only [Act.put, pu1, pu2, pu3, pu4, pu5, pu6])
      clear HD3
      refine WalkT.ready (rs := [7, 14]) (by kernel_rfl) (by simp) ?_
      refine AllT.cons rfl (fun K hK => ?_) ?_
      · go_simp
        refine genStr (C := fun W' => K _ W') s 3 [l[kk].key, ⟨#[]⟩, ⟨#[115, 49]⟩] (by rfl) (by rfl) (by simp) ?_
        intro W1 gW1 tW1 AW1
        have SW1 := S0.step (tW1 _ S0.st) gW1
        have qW1 : s < W0.heap.size := S0.st.lt
        refine hK.out _ _ (fun _ _ => SW1.spc hkk) ?_
        clear hK K S0 gW1 tW1
        try simp only [Act.put, pu1, pu2, pu3, pu4, pu5, pu6]
        refine WalkT.ready (rs := [8, 14]) (by kernel_rfl) (by simp) ?_
        refine AllT.cons rfl (fun K hK => ?_) ?_
        · go_simp
          refine (some_any s _ _ [l[kk].key, ⟨#[]⟩, ⟨#[115, 49]⟩] _ SW1.st (by omega) AW1 (by simp) (by simp) (slice_ne qW1)).mono ?_
          rintro e W2 ⟨v, rfl, ⟨rA, rfl, -⟩, tW2, gW2⟩
          have SW2 := SW1.step tW2 gW2
          refine hK.out _ _ (fun _ _ => SW2.spc hkk) ?_
          clear hK K SW1 gW2 tW2 AW1
          try simp only [Act.put, pu1, pu2, pu3, pu4, pu5, pu6]
          refine WalkT.ready (rs := [14]) (by kernel_rfl) (by simp) ?_
          refine AllT.cons rfl (fun K hK => ?_) ?_
          · go_simp
            refine genLit (C := fun W' => K _ W') s 4 [l[kk].ways, 3, 0, 256] (by rfl) (by rfl) (by simp) ?_
            intro W3 gW3 tW3 AW3
            have SW3 := SW2.step (tW3 _ SW2.st) gW3
            have qW3 : s < W2.heap.size := SW2.st.lt
            refine hK.out _ _ (fun _ _ => SW3.spc hkk) ?_
            clear hK K SW2 gW3 tW3
            try simp only [Act.put, pu1, pu2, pu3, pu4, pu5, pu6]
            refine WalkT.ready (rs := [15]) (by kernel_rfl) (by simp) ?_
            refine AllT.cons rfl (fun K hK => ?_) ?_
            · go_simp
              refine (pick_any s _ _ [l[kk].ways, 3, 0, 256] _ SW3.st (by omega) AW3 (by simp) (by simp) (slice_ne qW3)).mono ?_
              rintro e W4 ⟨v, rfl, ⟨rB, rfl, -⟩, tW4, gW4⟩
              have SW4 := SW3.step tW4 gW4
              refine hK.out _ _ (fun _ _ => SW4.spc hkk) ?_
              clear hK K SW3 gW4 tW4 AW3
              try simp only [Act.put, pu1, pu2, pu3, pu4, pu5, pu6]
              have HE := Lib.hid SW4
              clear SW4
              obtain ⟨WE, hWE⟩ : ∃ WE : World, WE = W4 := ⟨_, rfl⟩
              rw [← hWE] at HE ⊢
              clear hWE
              (obtain ⟨⟨t0, t1⟩, t2, t3⟩ := HE.out.spc hkk; have u0 := HE.out.sfree (kk * 4); have u1 := HE.out.sfree (kk * 4 + 1); (refine WalkT.quiet (i := 16) (v := ?_) rfl (by kernel_rfl) (by kernel_rfl) (by kernel_rfl) (fun _ _ _ h => h) (Or.inl ⟨by rfl, ?_⟩) ?_; rotate_left; (· (intro wS hSw; (try dsimp only at hSw); go_simp; try with_reducible rfl)); try simp only [Act.put, pu1, pu2, pu3, pu4, pu5, pu6]); (refine WalkT.quiet (i := 17) (v := ?_) rfl (by kernel_rfl) (by kernel_rfl) (by kernel_rfl) (fun _ _ _ h => h) (Or.inl ⟨by rfl, ?_⟩) ?_; rotate_left; (· (intro wS hSw; (try dsimp only at hSw); go_simp; try with_reducible rfl)); try simp only [Act.put, pu1, pu2, pu3, pu4, pu5, pu6]); (refine WalkT.ready (rs := [18]) (by kernel_rfl) (by simp) (AllT.cons rfl (fun K hK => ?_) AllT.nil); go_simp); (refine hK.out _ _ (fun h => absurd h (by decide)) ?_; clear hK K; try simp only [Act.put, pu1, pu2, pu3, pu4, pu5, pu6]); (refine WalkT.quiet (i := 19) (v := ?_) rfl (by kernel_rfl) (by kernel_rfl) (by kernel_rfl) (fun _ _ _ h => h) (Or.inl ⟨by rfl, ?_⟩) ?_; rotate_left; (· (intro wS hSw; (try dsimp only at hSw); go_simp; try with_reducible rfl)); try simp only [Act.put, pu1, pu2, pu3, pu4, pu5, pu6]); (refine WalkT.quiet (i := 20) (v := ?_) rfl (by kernel_rfl) (by kernel_rfl) (by kernel_rfl) (fun _ _ _ h => h) (Or.inl ⟨by rfl, ?_⟩) ?_; rotate_left; (· (intro wS hSw; (try dsimp only at hSw); go_simp; try with_reducible rfl)); try simp only [Act.put, pu1, pu2, pu3, pu4, pu5, pu6]); (refine WalkT.ready (rs := [21]) (by kernel_rfl) (by simp) (AllT.cons rfl (fun K hK => ?_) AllT.nil); go_simp); (refine hK.out _ _ (fun h => absurd h (by decide)) ?_; clear hK K; try simp only [Act.put, pu1, pu2, pu3, pu4, pu5, pu6]); refine WalkT.done (by kernel_rfl) ?_; clear t0 t1 t2 t3 u0 u1; go_wp2; refine bodyPost_ret (v := .tuple #[]) (by simp [results, go_sem]) rfl ?_; exact ⟨rfl, _, _, _, _, by simp, by omega, ((HE.out.put1 rfl kk 0 hkk (by omega) (.string rA) ⟨rA, l[kk].ways, l[kk].par, l[kk].port⟩ rfl).put1 (by simp) kk 1 (by simpa using hkk) (by omega) (.int .i64 rB) ⟨rA, rB, l[kk].par, l[kk].port⟩ (by rw [List.getElem_set_self]; rfl)).mono (by omega)⟩)
            exact AllT.nil
          exact AllT.nil
        refine AllT.cons rfl (fun K hK => ?_) ?_
        · go_simp
          refine genLit (C := fun W' => K _ W') s 4 [l[kk].ways, 3, 0, 256] (by rfl) (by rfl) (by simp) ?_
          intro W5 gW5 tW5 AW5
          have SW5 := SW1.step (tW5 _ SW1.st) gW5
          have qW5 : s < W1.heap.size := SW1.st.lt
          have BW5_7 := Arr.grown AW1 gW5 (Nat.ne_of_gt qW1)
          refine hK.out _ _ (fun _ _ => SW5.spc hkk) ?_
          clear hK K SW1 gW5 tW5 AW1
          try simp only [Act.put, pu1, pu2, pu3, pu4, pu5, pu6]
          refine WalkT.ready (rs := [8]) (by kernel_rfl) (by simp) ?_
          refine AllT.cons rfl (fun K hK => ?_) ?_
          · go_simp
            refine (some_any s _ _ [l[kk].key, ⟨#[]⟩, ⟨#[115, 49]⟩] _ SW5.st (by omega) BW5_7 (by simp) (by simp) (slice_ne qW1)).mono ?_
            rintro e W6 ⟨v, rfl, ⟨rA, rfl, -⟩, tW6, gW6⟩
            have SW6 := SW5.step tW6 gW6
            have BW6_14 := Arr.grown AW5 gW6 (Nat.ne_of_gt qW5)
            refine hK.out _ _ (fun _ _ => SW6.spc hkk) ?_
            clear hK K SW5 gW6 tW6 BW5_7 AW5
            try simp only [Act.put, pu1, pu2, pu3, pu4, pu5, pu6]
            refine WalkT.ready (rs := [15]) (by kernel_rfl) (by simp) ?_
            refine AllT.cons rfl (fun K hK => ?_) ?_
            · go_simp
              refine (pick_any s _ _ [l[kk].ways, 3, 0, 256] _ SW6.st (by omega) BW6_14 (by simp) (by simp) (slice_ne qW5)).mono ?_
              rintro e W7 ⟨v, rfl, ⟨rB, rfl, -⟩, tW7, gW7⟩
              have SW7 := SW6.step tW7 gW7
              refine hK.out _ _ (fun _ _ => SW7.spc hkk) ?_
              clear hK K SW6 gW7 tW7 BW6_14
              try simp only [Act.put, pu1, pu2, pu3, pu4, pu5, pu6]
              have HE := Lib.hid SW7
              clear SW7
              obtain ⟨WE, hWE⟩ : ∃ WE : World, WE = W7 := ⟨_, rfl⟩
              rw [← hWE] at HE ⊢
              clear hWE
              (obtain ⟨⟨t0, t1⟩, t2, t3⟩ := HE.out.spc hkk; have u0 := HE.out.sfree (kk * 4); have u1 := HE.out.sfree (kk * 4 + 1); (refine WalkT.quiet (i := 16) (v := ?_) rfl (by kernel_rfl) (by kernel_rfl) (by kernel_rfl) (fun _ _ _ h => h) (Or.inl ⟨by rfl, ?_⟩) ?_; rotate_left; (· (intro wS hSw; (try dsimp only at hSw); go_simp; try with_reducible rfl)); try simp only [Act.put, pu1, pu2, pu3, pu4, pu5, pu6]); (refine WalkT.quiet (i := 17) (v := ?_) rfl (by kernel_rfl) (by kernel_rfl) (by kernel_rfl) (fun _ _ _ h => h) (Or.inl ⟨by rfl, ?_⟩) ?_; rotate_left; (· (intro wS hSw; (try dsimp only at hSw); go_simp; try with_reducible rfl)); try simp only [Act.put, pu1, pu2, pu3, pu4, pu5, pu6]); (refine WalkT.ready (rs := [18]) (by kernel_rfl) (by simp) (AllT.cons rfl (fun K hK => ?_) AllT.nil); go_simp); (refine hK.out _ _ (fun h => absurd h (by decide)) ?_; clear hK K; try simp only [Act.put, pu1, pu2, pu3, pu4, pu5, pu6]); (refine WalkT.quiet (i := 19) (v := ?_) rfl (by kernel_rfl) (by kernel_rfl) (by kernel_rfl) (fun _ _ _ h => h) (Or.inl ⟨by rfl, ?_⟩) ?_; rotate_left; (· (intro wS hSw; (try dsimp only at hSw); go_simp; try with_reducible rfl)); try simp only [Act.put, pu1, pu2, pu3, pu4, pu5, pu6]); (refine WalkT.quiet (i := 20) (v := ?_) rfl (by kernel_rfl) (by kernel_rfl) (by kernel_rfl) (fun _ _ _ h => h) (Or.inl ⟨by rfl, ?_⟩) ?_; rotate_left; (· (intro wS hSw; (try dsimp only at hSw); go_simp; try with_reducible rfl)); try simp only [Act.put, pu1, pu2, pu3, pu4, pu5, pu6]); (refine WalkT.ready (rs := [21]) (by kernel_rfl) (by simp) (AllT.cons rfl (fun K hK => ?_) AllT.nil); go_simp); (refine hK.out _ _ (fun h => absurd h (by decide)) ?_; clear hK K; try simp only [Act.put, pu1, pu2, pu3, pu4, pu5, pu6]); refine WalkT.done (by kernel_rfl) ?_; clear t0 t1 t2 t3 u0 u1; go_wp2; refine bodyPost_ret (v := .tuple #[]) (by simp [results, go_sem]) rfl ?_; exact ⟨rfl, _, _, _, _, by simp, by omega, ((HE.out.put1 rfl kk 0 hkk (by omega) (.string rA) ⟨rA, l[kk].ways, l[kk].par, l[kk].port⟩ rfl).put1 (by simp) kk 1 (by simpa using hkk) (by omega) (.int .i64 rB) ⟨rA, rB, l[kk].par, l[kk].port⟩ (by rw [List.getElem_set_self]; rfl)).mono (by omega)⟩)
            exact AllT.nil
          exact AllT.nil
        exact AllT.nil
      refine AllT.cons rfl (fun K hK => ?_) ?_
      · go_simp
        refine genLit (C := fun W' => K _ W') s 4 [l[kk].ways, 3, 0, 256] (by rfl) (by rfl) (by simp) ?_
        intro W8 gW8 tW8 AW8
        have SW8 := S0.step (tW8 _ S0.st) gW8
        have qW8 : s < W0.heap.size := S0.st.lt
        refine hK.out _ _ (fun _ _ => SW8.spc hkk) ?_
        clear hK K S0 gW8 tW8
        try simp only [Act.put, pu1, pu2, pu3, pu4, pu5, pu6]
        refine WalkT.ready (rs := [7]) (by kernel_rfl) (by simp) ?_
        refine AllT.cons rfl (fun K hK => ?_) ?_
        · go_simp
          refine genStr (C := fun W' => K _ W') s 3 [l[kk].key, ⟨#[]⟩, ⟨#[115, 49]⟩] (by rfl) (by rfl) (by simp) ?_
          intro W9 gW9 tW9 AW9
          have SW9 := SW8.step (tW9 _ SW8.st) gW9
          have qW9 : s < W8.heap.size := SW8.st.lt
          have BW9_14 := Arr.grown AW8 gW9 (Nat.ne_of_gt qW8)
          refine hK.out _ _ (fun _ _ => SW9.spc hkk) ?_
          clear hK K SW8 gW9 tW9 AW8
          try simp only [Act.put, pu1, pu2, pu3, pu4, pu5, pu6]
          refine WalkT.ready (rs := [8]) (by kernel_rfl) (by simp) ?_
          refine AllT.cons rfl (fun K hK => ?_) ?_
          · go_simp
            refine (some_any s _ _ [l[kk].key, ⟨#[]⟩, ⟨#[115, 49]⟩] _ SW9.st (by omega) AW9 (by simp) (by simp) (slice_ne qW9)).mono ?_
            rintro e W10 ⟨v, rfl, ⟨rA, rfl, -⟩, tW10, gW10⟩
            have SW10 := SW9.step tW10 gW10
            have BW10_14 := Arr.grown BW9_14 gW10 (Nat.ne_of_gt qW8)
            refine hK.out _ _ (fun _ _ => SW10.spc hkk) ?_
            clear hK K SW9 gW10 tW10 BW9_14 AW9
            try simp only [Act.put, pu1, pu2, pu3, pu4, pu5, pu6]
            refine WalkT.ready (rs := [15]) (by kernel_rfl) (by simp) ?_
            refine AllT.cons rfl (fun K hK => ?_) ?_
            · go_simp
              refine (pick_any s _ _ [l[kk].ways, 3, 0, 256] _ SW10.st (by omega) BW10_14 (by simp) (by simp) (slice_ne qW8)).mono ?_
              rintro e W11 ⟨v, rfl, ⟨rB, rfl, -⟩, tW11, gW11⟩
              have SW11 := SW10.step tW11 gW11
              refine hK.out _ _ (fun _ _ => SW11.spc hkk) ?_
              clear hK K SW10 gW11 tW11 BW10_14
              try simp only [Act.put, pu1, pu2, pu3, pu4, pu5, pu6]
              have HE := Lib.hid SW11
              clear SW11
              obtain ⟨WE, hWE⟩ : ∃ WE : World, WE = W11 := ⟨_, rfl⟩
              rw [← hWE] at HE ⊢
              clear hWE
              (obtain ⟨⟨t0, t1⟩, t2, t3⟩ := HE.out.spc hkk; have u0 := HE.out.sfree (kk * 4); have u1 := HE.out.sfree (kk * 4 + 1); (refine WalkT.quiet (i := 16) (v := ?_) rfl (by kernel_rfl) (by kernel_rfl) (by kernel_rfl) (fun _ _ _ h => h) (Or.inl ⟨by rfl, ?_⟩) ?_; rotate_left; (· (intro wS hSw; (try dsimp only at hSw); go_simp; try with_reducible rfl)); try simp only [Act.put, pu1, pu2, pu3, pu4, pu5, pu6]); (refine WalkT.quiet (i := 17) (v := ?_) rfl (by kernel_rfl) (by kernel_rfl) (by kernel_rfl) (fun _ _ _ h => h) (Or.inl ⟨by rfl, ?_⟩) ?_; rotate_left; (· (intro wS hSw; (try dsimp only at hSw); go_simp; try with_reducible rfl)); try simp only [Act.put, pu1, pu2, pu3, pu4, pu5, pu6]); (refine WalkT.ready (rs := [18]) (by kernel_rfl) (by simp) (AllT.cons rfl (fun K hK => ?_) AllT.nil); go_simp); (refine hK.out _ _ (fun h => absurd h (by decide)) ?_; clear hK K; try simp only [Act.put, pu1, pu2, pu3, pu4, pu5, pu6]); (refine WalkT.quiet (i := 19) (v := ?_) rfl (by kernel_rfl) (by kernel_rfl) (by kernel_rfl) (fun _ _ _ h => h) (Or.inl ⟨by rfl, ?_⟩) ?_; rotate_left; (· (intro wS hSw; (try dsimp only at hSw); go_simp; try with_reducible rfl)); try simp only [Act.put, pu1, pu2, pu3, pu4, pu5, pu6]); (refine WalkT.quiet (i := 20) (v := ?_) rfl (by kernel_rfl) (by kernel_rfl) (by kernel_rfl) (fun _ _ _ h => h) (Or.inl ⟨by rfl, ?_⟩) ?_; rotate_left; (· (intro wS hSw; (try dsimp only at hSw); go_simp; try with_reducible rfl)); try simp only [Act.put, pu1, pu2, pu3, pu4, pu5, pu6]); (refine WalkT.ready (rs := [21]) (by kernel_rfl) (by simp) (AllT.cons rfl (fun K hK => ?_) AllT.nil); go_simp); (refine hK.out _ _ (fun h => absurd h (by decide)) ?_; clear hK K; try simp only [Act.put, pu1, pu2, pu3, pu4, pu5, pu6]); refine WalkT.done (by kernel_rfl) ?_; clear t0 t1 t2 t3 u0 u1; go_wp2; refine bodyPost_ret (v := .tuple #[]) (by simp [results, go_sem]) rfl ?_; exact ⟨rfl, _, _, _, _, by simp, by omega, ((HE.out.put1 rfl kk 0 hkk (by omega) (.string rA) ⟨rA, l[kk].ways, l[kk].par, l[kk].port⟩ rfl).put1 (by simp) kk 1 (by simpa using hkk) (by omega) (.int .i64 rB) ⟨rA, rB, l[kk].par, l[kk].port⟩ (by rw [List.getElem_set_self]; rfl)).mono (by omega)⟩)
            exact AllT.nil
          exact AllT.nil
        exact AllT.nil
      exact AllT.nil
    · go_wp2_with fail
      have hs2 := HD2.out.st.lt
      refine (some_any s _ _ [l[kk].key, ⟨#[115, 52]⟩, ⟨#[122, 122]⟩, ⟨#[]⟩] _ (HD2.out.alloc _).st (by omega) (by exact Arr.litAt (cells := strCells) (sz := 1) (fun _ => rfl) rfl (by rfl) (by rfl) (by simp [maxLen])) (by simp) (by simp) (slice_ne hs2)).mono ?_
      rintro e W3 ⟨v, rfl, ⟨rA, rfl, -⟩, tW3, gW3⟩
      have HD3 := Lib.hid ((HD2.out.alloc _).step tW3 gW3)
      clear HD2 tW3 gW3 hs2 c0 c1 c2 c3
      go_wp2_with fail
      refine (pick_lit s _ [1, 0, 9] _ HD3.out.st (by omega) (by simp) (by simp) (by first | rfl | simp) (by rfl) (by rfl)).mono ?_
      rintro e W4 ⟨v, rfl, ⟨rB, rfl, -⟩, tW4, gW4⟩
      have HE := Lib.hid (HD3.out.step tW4 gW4)
      clear HD3 tW4 gW4
      obtain ⟨⟨t0, t1⟩, t2, t3⟩ := HE.out.spc hkk
      have u2 := HE.out.sfree (kk * 4 + 2)
      have u3 := HE.out.sfree (kk * 4 + 3)
      go_wp2
      clear t0 t1 t2 t3 u2 u3
      refine bodyPost_ret (v := .tuple #[]) (by simp [results, go_sem]) rfl ?_
      exact ⟨rfl, _, _, _, _, by simp, by omega, ((HE.out.put1 rfl kk 2 hkk (by omega) (.string rA) ⟨l[kk].key, l[kk].ways, rA, l[kk].port⟩ rfl).put1 (by simp) kk 3 (by simpa using hkk) (by omega) (.int .i64 rB) ⟨l[kk].key, l[kk].ways, rA, rB⟩ (by rw [List.getElem_set_self]; rfl)).mono (by omega)⟩
    · obtain ⟨nl, hnl⟩ : ∃ nl, nl = l.length - 1 := ⟨_, rfl⟩
      have hnl1 : nl < l.length := by omega
      have hwn : IntKind.i64.wrap ((l.length : Int) - 1) = (nl : Int) := by rw [IntWalk.i64_in _ (by omega)]; omega
      have hnl2 : (nl : Int) < (l.length : Int) := by omega
      have hnl3 : (0 : Int) < (l.length : Int) := by omega
      clear hnl c0 c1 c2 c3
      go_wp2_with fail
      refine WalkT.start (fun w' => w'.cell? ⟨w.heap.size + 1, 0, none⟩ = some (.slice (some ⟨g, 0, none⟩) l.length cap1) ∧ w'.cell? ⟨g, nl * 4, none⟩ = some (.string l[nl].key)) [23, 26] (by kernel_rfl) ?_
      have HD3 := Lib.hid HD2.out.drew
      clear HD2
      generalize W2.drew = W0 at *
      have hS1 : W0.cell? ⟨w.heap.size + 1, 0, none⟩ = some (.slice (some ⟨g, 0, none⟩) l.length cap1) ∧ W0.cell? ⟨g, nl * 4, none⟩ = some (.string l[nl].key) := ⟨HD3.out.bx.cell 0 _ rfl, (HD3.out.spc hnl1).1.1⟩
      (refine WalkT.quiet (i := 0) (v := ?_) rfl (by kernel_rfl) (by kernel_rfl) (by kernel_rfl) (fun _ _ _ h => h) (Or.inl ⟨by rfl, ?_⟩) ?_; rotate_left; (· (intro wS hSw; (try dsimp only at hSw); go_simp; try with_reducible rfl)); try simp only [Act.put, pu1, pu2, pu3, pu4, pu5, pu6])
      (refine WalkT.quiet (i := 1) (v := ?_) rfl (by kernel_rfl) (by kernel_rfl) (by kernel_rfl) (fun _ _ _ h => h) (Or.inl ⟨by rfl, ?_⟩) ?_; rotate_left; (· (intro wS hSw; (try dsimp only at hSw); go_simp; try with_reducible rfl)); try simp only [Act.put, pu1, pu2, pu3, pu4, pu5, pu6])
      (refine WalkT.quiet (i := 2) (v := ?_) rfl (by kernel_rfl) (by kernel_rfl) (by kernel_rfl) (fun _ _ _ h => h) (Or.inl ⟨by rfl, ?_⟩) ?_; rotate_left; (· (intro wS hSw; (try dsimp only at hSw); go_simp; try with_reducible rfl)); try simp only [Act.put, pu1, pu2, pu3, pu4, pu5, pu6])
      (refine WalkT.take (i := 3) (v := ?_) rfl (by kernel_rfl) (by kernel_rfl) (by kernel_rfl) (by kernel_rfl) (fun _ _ _ h => h) hS1 (Or.inl ⟨by rfl, ?_⟩) ?_; rotate_left; (· (intro wS hSw; (try dsimp only at hSw); obtain ⟨t0, t1⟩ := hSw; go_simp; try with_reducible rfl)); try simp only [Act.put, pu1, pu2, pu3, pu4, pu5, pu6])
      (refine WalkT.quiet (i := 4) (v := ?_) rfl (by kernel_rfl) (by kernel_rfl) (by kernel_rfl) (fun _ _ _ h => h) (Or.inl ⟨by rfl, ?_⟩) ?_; rotate_left; (· (intro wS hSw; (try dsimp only at hSw); go_simp; try with_reducible rfl)); try simp only [Act.put, pu1, pu2, pu3, pu4, pu5, pu6])
      (refine WalkT.quiet (i := 5) (v := ?_) rfl (by kernel_rfl) (by kernel_rfl) (by kernel_rfl) (fun _ _ _ h => h) (Or.inl ⟨by rfl, ?_⟩) ?_; rotate_left; (· (intro wS hSw; (try dsimp only at hSw); go_simp; try with_reducible rfl)); try simp only [Act.put, pu1, pu2, pu3, pu4, pu5, pu6])
      (refine WalkT.quiet (i := 6) (v := ?_) rfl (by kernel_rfl) (by kernel_rfl) (by kernel_rfl) (fun _ _ _ h => h) (Or.inl ⟨by rfl, ?_⟩) ?_; rotate_left; (· (intro wS hSw; (try dsimp only at hSw); go_simp; try with_reducible rfl)); try simp only [Act.put, pu1, pu2, pu3, pu4, pu5, pu6])
      (refine WalkT.take (i := 7) (v := ?_) rfl (by kernel_rfl) (by kernel_rfl) (by kernel_rfl) (by kernel_rfl) (fun _ _ _ h => h) hS1 (Or.inl ⟨by rfl, ?_⟩) ?_; rotate_left; (· (intro wS hSw; (try dsimp only at hSw); obtain ⟨t0, t1⟩ := hSw; go_simp; try with_reducible rfl)); try simp only [Act.put, pu1, pu2, pu3, pu4, pu5, pu6])
      (refine WalkT.quiet (i := 8) (v := ?_) rfl (by kernel_rfl) (by kernel_rfl) (by kernel_rfl) (fun _ _ _ h => h) (Or.inl ⟨by rfl, ?_⟩) ?_; rotate_left; (· (intro wS hSw; (try dsimp only at hSw); go_simp; try with_reducible rfl)); try simp only [Act.put, pu1, pu2, pu3, pu4, pu5, pu6])
      (refine WalkT.quiet (i := 9) (v := ?_) rfl (by kernel_rfl) (by kernel_rfl) (by kernel_rfl) (fun _ _ _ h => h) (Or.inl ⟨by rfl, ?_⟩) ?_; rotate_left; (· (intro wS hSw; (try dsimp only at hSw); go_simp; try with_reducible rfl)); try simp only [Act.put, pu1, pu2, pu3, pu4, pu5, pu6])
      (refine WalkT.quiet (i := 10) (v := ?_) rfl (by kernel_rfl) (by kernel_rfl) (by kernel_rfl) (fun _ _ _ h => h) (Or.inl ⟨by rfl, ?_⟩) ?_; rotate_left; (· (intro wS hSw; (try dsimp only at hSw); go_simp; try with_reducible rfl)); try simp only [Act.put, pu1, pu2, pu3, pu4, pu5, pu6])
      (refine WalkT.take (i := 11) (v := ?_) rfl (by kernel_rfl) (by kernel_rfl) (by kernel_rfl) (by kernel_rfl) (fun _ _ _ h => h) hS1 (Or.inl ⟨by rfl, ?_⟩) ?_; rotate_left; (· (intro wS hSw; (try dsimp only at hSw); obtain ⟨t0, t1⟩ := hSw; go_simp; try with_reducible rfl)); try simp only [Act.put, pu1, pu2, pu3, pu4, pu5, pu6])
      (refine WalkT.quiet (i := 12) (v := ?_) rfl (by kernel_rfl) (by kernel_rfl) (by kernel_rfl) (fun _ _ _ h => h) (Or.inl ⟨by rfl, ?_⟩) ?_; rotate_left; (· (intro wS hSw; (try dsimp only at hSw); go_simp; try with_reducible rfl)); try simp only [Act.put, pu1, pu2, pu3, pu4, pu5, pu6])
      (refine WalkT.quiet (i := 13) (v := ?_) rfl (by kernel_rfl) (by kernel_rfl) (by kernel_rfl) (fun _ _ _ h => h) (Or.inl ⟨by rfl, ?_⟩) ?_; rotate_left; (· (intro wS hSw; (try dsimp only at hSw); go_simp; try with_reducible rfl)); try simp only [Act.put, pu1, pu2, pu3, pu4, pu5, pu6])
      (refine WalkT.quiet (i := 14) (v := ?_) rfl (by kernel_rfl) (by kernel_rfl) (by kernel_rfl) (fun _ _ _ h => h) (Or.inl ⟨by rfl, ?_⟩) ?_; rotate_left; (· (intro wS hSw; (try dsimp only at hSw); go_simp; try with_reducible rfl)); try simp only [Act.put, pu1, pu2, pu3, pu4, pu5, pu6])
      (refine WalkT.take (i := 15) (v := ?_) rfl (by kernel_rfl) (by kernel_rfl) (by kernel_rfl) (by kernel_rfl) (fun _ _ _ h => h) hS1 (Or.inl ⟨by rfl, ?_⟩) ?_; rotate_left; (· (intro wS hSw; (try dsimp only at hSw); obtain ⟨t0, t1⟩ := hSw; go_simp; try with_reducible rfl)); try simp only [Act.put, pu1, pu2, pu3, pu4, pu5, pu6])
      (refine WalkT.quiet (i := 16) (v := ?_) rfl (by kernel_rfl) (by kernel_rfl) (by kernel_rfl) (fun _ _ _ h => h) (Or.inl ⟨by rfl, ?_⟩) ?_; rotate_left; (· (intro wS hSw; (try dsimp only at hSw); go_simp; try with_reducible rfl)); try simp only [Act.put, pu1, pu2, pu3, pu4, pu5, pu6])
      (refine WalkT.quiet (i := 17) (v := ?_) rfl (by kernel_rfl) (by kernel_rfl) (by kernel_rfl) (fun _ _ _ h => h) (Or.inl ⟨by rfl, ?_⟩) ?_; rotate_left; (· (intro wS hSw; (try dsimp only at hSw); go_simp; try with_reducible rfl)); try simp only [Act.put, pu1, pu2, pu3, pu4, pu5, pu6])
      (refine WalkT.quiet (i := 18) (v := ?_) rfl (by kernel_rfl) (by kernel_rfl) (by kernel_rfl) (fun _ _ _ h => h) (Or.inl ⟨by rfl, ?_⟩) ?_; rotate_left; (· (intro wS hSw; (try dsimp only at hSw); go_simp; try with_reducible rfl)); try simp only [Act.put, pu1, pu2, pu3, pu4, pu5, pu6])
      (refine WalkT.quiet (i := 19) (v := ?_) rfl (by kernel_rfl) (by kernel_rfl) (by kernel_rfl) (fun _ _ _ h => h) (Or.inl ⟨by rfl, ?_⟩) ?_; rotate_left; (· (intro wS hSw; (try dsimp only at hSw); go_simp; try with_reducible rfl)); try simp only [Act.put, pu1, pu2, pu3, pu4, pu5, pu6])
      (refine WalkT.take (i := 20) (v := ?_) rfl (by kernel_rfl) (by kernel_rfl) (by kernel_rfl) (by kernel_rfl) (fun _ _ _ h => h) hS1 (Or.inl ⟨by rfl, ?_⟩) ?_; rotate_left; (· (intro wS hSw; (try dsimp only at hSw); obtain ⟨t0, t1⟩ := hSw; go_simp; try with_reducible rfl)); try simp only [Act.put, pu1, pu2, pu3, pu4, pu5, pu6])
      (refine WalkT.quiet (i := 21) (v := ?_) rfl (by kernel_rfl) (by kernel_rfl) (by kernel_rfl) (fun _ _ _ h => h) (Or.inl ⟨by rfl, ?_⟩) ?_; rotate_left; (· (intro wS hSw; (try dsimp only at hSw); go_simp; try with_reducible rfl)); try simp only [Act.put, pu1, pu2, pu3, pu4, pu5, pu6])
      (refine WalkT.quiet (i := 22) (v := ?_) rfl (by kernel_rfl) (by kernel_rfl) (by kernel_rfl) (fun _ _ _ h => h) (Or.inl ⟨by rfl, ?_⟩) ?_; rotate_left; (· (intro wS hSw; (try dsimp only at hSw); go_simp; try with_reducible rfl)); try simp only [Act.put, pu1, pu2, pu3, pu4, pu5, pu6])
      obtain ⟨⟨t0, t1⟩, t2, t3⟩ := HD3.out.spc hlp
      have u2 := HD3.out.sfree (0 * 4 + 2)
      have u3 := HD3.out.sfree (0 * 4 + 3)
      simp only [Nat.zero_mul, Nat.zero_add] at t2 t3 u2 u3
      (refine WalkT.ready (rs := [23]) (by kernel_rfl) (by simp) (AllT.cons rfl (fun K hK => ?_) AllT.nil); go_simp)
      (refine hK.out _ _ (fun h => absurd h (by decide)) ?_; clear hK K; try simp only [Act.put, pu1, pu2, pu3, pu4, pu5, pu6])
      (refine WalkT.quiet (i := 24) (v := ?_) rfl (by kernel_rfl) (by kernel_rfl) (by kernel_rfl) (fun _ _ _ h => h) (Or.inl ⟨by rfl, ?_⟩) ?_; rotate_left; (· (intro wS hSw; (try dsimp only at hSw); go_simp; try with_reducible rfl)); try simp only [Act.put, pu1, pu2, pu3, pu4, pu5, pu6])
      (refine WalkT.quiet (i := 25) (v := ?_) rfl (by kernel_rfl) (by kernel_rfl) (by kernel_rfl) (fun _ _ _ h => h) (Or.inl ⟨by rfl, ?_⟩) ?_; rotate_left; (· (intro wS hSw; (try dsimp only at hSw); go_simp; try with_reducible rfl)); try simp only [Act.put, pu1, pu2, pu3, pu4, pu5, pu6])
      (refine WalkT.ready (rs := [26]) (by kernel_rfl) (by simp) (AllT.cons rfl (fun K hK => ?_) AllT.nil); go_simp)
      (refine hK.out _ _ (fun h => absurd h (by decide)) ?_; clear hK K; try simp only [Act.put, pu1, pu2, pu3, pu4, pu5, pu6])
      refine WalkT.done (by kernel_rfl) ?_
      clear t0 t1 t2 t3 u2 u3 hS1
      go_wp2
      refine bodyPost_ret (v := .tuple #[]) (by simp [results, go_sem]) rfl ?_
      exact ⟨rfl, _, _, _, _, by simp, by omega, ((HD3.out.put1 rfl 0 2 hlp (by omega) (.string l[nl].key) ⟨l[0].key, l[0].ways, l[nl].key, l[0].port⟩ rfl).put1 (by simp) 0 3 (by simpa using hlp) (by omega) (.int .i64 1) ⟨l[0].key, l[0].ways, l[nl].key, 1⟩ (by rw [List.getElem_set_self]; rfl)).mono (by omega)⟩
    · have b1 := HD2.out.bx.cell 1 _ rfl
      clear c0 c1 c2 c3
      by_cases hd0 : d.length = 0
      · have hz1' : decide ((0 : Int) < (d.length : Int)) = false := decide_eq_false (by omega)
        have hz2' : decide (0 < d.length) = false := decide_eq_false (by omega)
        clear hd0
        go_wp2
        refine bodyPost_ret (v := .tuple #[]) (by simp [results, go_sem]) rfl ?_
        exact ⟨rfl, _, _, l, d, rfl, by omega, HD2.out.mono (by omega)⟩
      · have hz1' : decide ((0 : Int) < (d.length : Int)) = true := decide_eq_true (by omega)
        have hz2' : decide (0 < d.length) = true := decide_eq_true (by omega)
        have hdp : 0 < d.length := by omega
        clear hd0
        obtain ⟨g2, cap, hg2, hgB2, hgs2, hcn2, hcm2⟩ := own_form2 HD2.out.o2 hdp
        simp only [Value.slice.injEq, true_and] at hg2
        obtain ⟨rfl, rfl⟩ := hg2
        unfold maxLen at hcm2
        go_wp2_with fail
        refine WalkT.start (fun w' => w'.cell? ⟨w.heap.size + 1, 1, none⟩ = some (.slice (some ⟨g2, 0, none⟩) d.length cap2)) [] (by kernel_rfl) ?_
        have HD := Lib.hid HD2.out.drew
        clear HD2 b1
        generalize W2.drew = W0 at *
        have hS1 : W0.cell? ⟨w.heap.size + 1, 1, none⟩ = some (.slice (some ⟨g2, 0, none⟩) d.length cap2) := HD.out.bx.cell 1 _ rfl
        have HS1 := Lib.hid hS1
        clear hS1
        (refine WalkT.quiet (i := 0) (v := ?_) rfl (by kernel_rfl) (by kernel_rfl) (by kernel_rfl) (fun _ _ _ h => h) (Or.inl ⟨by rfl, ?_⟩) ?_; rotate_left; (· (intro wS hSw; (try dsimp only at hSw); go_simp; try with_reducible rfl)); try simp only [Act.put, pu1, pu2, pu3, pu4, pu5, pu6])
        (refine WalkT.quiet (i := 1) (v := ?_) rfl (by kernel_rfl) (by kernel_rfl) (by kernel_rfl) (fun _ _ _ h => h) (Or.inl ⟨by rfl, ?_⟩) ?_; rotate_left; (· (intro wS hSw; (try dsimp only at hSw); go_simp; try with_reducible rfl)); try simp only [Act.put, pu1, pu2, pu3, pu4, pu5, pu6])
        (refine WalkT.quiet (i := 2) (v := ?_) rfl (by kernel_rfl) (by kernel_rfl) (by kernel_rfl) (fun _ _ _ h => h) (Or.inl ⟨by rfl, ?_⟩) ?_; rotate_left; (· (intro wS hSw; (try dsimp only at hSw); go_simp; try with_reducible rfl)); try simp only [Act.put, pu1, pu2, pu3, pu4, pu5, pu6])
        (refine WalkT.take (i := 3) (v := ?_) rfl (by kernel_rfl) (by kernel_rfl) (by kernel_rfl) (by kernel_rfl) (fun _ _ _ h => h) (HS1.out) (Or.inl ⟨by rfl, ?_⟩) ?_; rotate_left; (· (intro wS hSw; (try dsimp only at hSw); go_simp; try with_reducible rfl)); try simp only [Act.put, pu1, pu2, pu3, pu4, pu5, pu6])
        (refine WalkT.quiet (i := 4) (v := ?_) rfl (by kernel_rfl) (by kernel_rfl) (by kernel_rfl) (fun _ _ _ h => h) (Or.inl ⟨by rfl, ?_⟩) ?_; rotate_left; (· (intro wS hSw; (try dsimp only at hSw); go_simp; try with_reducible rfl)); try simp only [Act.put, pu1, pu2, pu3, pu4, pu5, pu6])
        (refine WalkT.quiet (i := 5) (v := ?_) rfl (by kernel_rfl) (by kernel_rfl) (by kernel_rfl) (fun _ _ _ h => h) (Or.inl ⟨by rfl, ?_⟩) ?_; rotate_left; (· (intro wS hSw; (try dsimp only at hSw); go_simp; try with_reducible rfl)); try simp only [Act.put, pu1, pu2, pu3, pu4, pu5, pu6])
        (refine WalkT.quiet (i := 6) (v := ?_) rfl (by kernel_rfl) (by kernel_rfl) (by kernel_rfl) (fun _ _ _ h => h) (Or.inl ⟨by rfl, ?_⟩) ?_; rotate_left; (· (intro wS hSw; (try dsimp only at hSw); go_simp; try with_reducible rfl)); try simp only [Act.put, pu1, pu2, pu3, pu4, pu5, pu6])
        (refine WalkT.quiet (i := 7) (v := ?_) rfl (by kernel_rfl) (by kernel_rfl) (by kernel_rfl) (fun _ _ _ h => h) (Or.inl ⟨by rfl, ?_⟩) ?_; rotate_left; (· (intro wS hSw; (try dsimp only at hSw); go_simp; try with_reducible rfl)); try simp only [Act.put, pu1, pu2, pu3, pu4, pu5, pu6])
        (refine WalkT.take (i := 8) (v := ?_) rfl (by kernel_rfl) (by kernel_rfl) (by kernel_rfl) (by kernel_rfl) (fun _ _ _ h => h) (HS1.out) (Or.inl ⟨by rfl, ?_⟩) ?_; rotate_left; (· (intro wS hSw; (try dsimp only at hSw); go_simp; try with_reducible rfl)); try simp only [Act.put, pu1, pu2, pu3, pu4, pu5, pu6])
        (refine WalkT.quiet (i := 9) (v := ?_) rfl (by kernel_rfl) (by kernel_rfl) (by kernel_rfl) (fun _ _ _ h => h) (Or.inl ⟨by rfl, ?_⟩) ?_; rotate_left; (· (intro wS hSw; (try dsimp only at hSw); go_simp; try with_reducible rfl)); try simp only [Act.put, pu1, pu2, pu3, pu4, pu5, pu6])
        (refine WalkT.ready (rs := [10]) (by kernel_rfl) (by simp) (AllT.cons rfl (fun K hK => ?_) AllT.nil); go_simp)
        refine (next_any s _ _ _ HD.out.st (by omega) (by omega) (by omega)).mono ?_
        rintro e W3 ⟨v, rfl, ⟨r, rfl, x0, x1⟩, tW3, gW3⟩
        obtain ⟨kd, rfl⟩ := Int.eq_ofNat_of_zero_le x0
        have hkd : kd < d.length := by omega
        have hkdl : (kd : Int) < (d.length : Int) := by omega
        have HD4 := Lib.hid (HD.out.step tW3 gW3)
        (refine hK.out _ _ (fun _ _ => HD4.out.bx.cell 1 _ rfl) ?_; clear hK K; try simp only [Act.put, pu1, pu2, pu3, pu4, pu5, pu6])
        clear HD HS1 tW3 gW3
        (refine WalkT.quiet (i := 11) (v := ?_) rfl (by kernel_rfl) (by kernel_rfl) (by kernel_rfl) (fun _ _ _ h => h) (Or.inl ⟨by rfl, ?_⟩) ?_; rotate_left; (· (intro wS hSw; (try dsimp only at hSw); go_simp; try with_reducible rfl)); try simp only [Act.put, pu1, pu2, pu3, pu4, pu5, pu6])
        (refine WalkT.quiet (i := 12) (v := ?_) rfl (by kernel_rfl) (by kernel_rfl) (by kernel_rfl) (fun _ _ _ h => h) (Or.inl ⟨by rfl, ?_⟩) ?_; rotate_left; (· (intro wS hSw; (try dsimp only at hSw); go_simp; try with_reducible rfl)); try simp only [Act.put, pu1, pu2, pu3, pu4, pu5, pu6])
        refine WalkT.done (by kernel_rfl) ?_
        go_wp2_with fail
        refine WalkT.start (SdC d g2 kd hkd) [26, 29, 32] (by kernel_rfl) ?_
        have HD3 := Lib.hid HD4.out.drew
        clear HD4
        generalize W3.drew = W0 at *
        have S0 := HD3.out
        (refine WalkT.quiet (i := 0) (v := ?_) rfl (by kernel_rfl) (by kernel_rfl) (by kernel_rfl) (fun _ _ _ h => h) (Or.inl ⟨by rfl, ?_⟩) ?_; rotate_left; (· (intro wS hSw; (try dsimp only at hSw); go_simp; try with_reducible rfl)); try simp only [Act.put, pu1, pu2, pu3, pu4, pu5, pu6])
        (refine WalkT.quiet (i := 1) (v := ?_) rfl (by kernel_rfl) (by kernel_rfl) (by kernel_rfl) (fun _ _ _ h => h) (Or.inl ⟨by rfl, ?_⟩) ?_; rotate_left; (· (intro wS hSw; (try dsimp only at hSw); go_simp; try with_reducible rfl)); try simp only [Act.put, pu1, pu2, pu3, pu4, pu5, pu6])
        (refine WalkT.quiet (i := 2) (v := ?_) rfl (by kernel_rfl) (by kernel_rfl) (by kernel_rfl) (fun _ _ _ h => h) (Or.inl ⟨by rfl, ?_⟩) ?_; rotate_left; (· (intro wS hSw; (try dsimp only at hSw); go_simp; try with_reducible rfl)); try simp only [Act.put, pu1, pu2, pu3, pu4, pu5, pu6])
        (refine WalkT.quiet (i := 3) (v := ?_) rfl (by kernel_rfl) (by kernel_rfl) (by kernel_rfl) (fun _ _ _ h => h) (Or.inl ⟨by rfl, ?_⟩) ?_; rotate_left; (· (intro wS hSw; (try dsimp only at hSw); go_simp; try with_reducible rfl)); try simp only [Act.put, pu1, pu2, pu3, pu4, pu5, pu6])
        (refine WalkT.quiet (i := 4) (v := ?_) rfl (by kernel_rfl) (by kernel_rfl) (by kernel_rfl) (fun _ _ _ h => h) (Or.inl ⟨by rfl, ?_⟩) ?_; rotate_left; (· (intro wS hSw; (try dsimp only at hSw); go_simp; try with_reducible rfl)); try simp only [Act.put, pu1, pu2, pu3, pu4, pu5, pu6])
        (refine WalkT.quiet (i := 5) (v := ?_) rfl (by kernel_rfl) (by kernel_rfl) (by kernel_rfl) (fun _ _ _ h => h) (Or.inl ⟨by rfl, ?_⟩) ?_; rotate_left; (· (intro wS hSw; (try dsimp only at hSw); go_simp; try with_reducible rfl)); try simp only [Act.put, pu1, pu2, pu3, pu4, pu5, pu6])
        (refine WalkT.quiet (i := 6) (v := ?_) rfl (by kernel_rfl) (by kernel_rfl) (by kernel_rfl) (fun _ _ _ h => h) (Or.inl ⟨by rfl, ?_⟩) ?_; rotate_left; (· (intro wS hSw; (try dsimp only at hSw); go_simp; try with_reducible rfl)); try simp only [Act.put, pu1, pu2, pu3, pu4, pu5, pu6])
        (refine WalkT.take (i := 7) (v := ?_) rfl (by kernel_rfl) (by kernel_rfl) (by kernel_rfl) (by kernel_rfl) (fun _ _ _ h => h) (HD3.out.sdc hkd) (Or.inl ⟨by rfl, ?_⟩) ?_; rotate_left; (· (intro wS hSw; (try unfold SdC at hSw); obtain ⟨t0, t1, t2⟩ := hSw; go_simp; try with_reducible rfl)); try simp only [Act.put, pu1, pu2, pu3, pu4, pu5, pu6])
        (refine WalkT.quiet (i := 10) (v := ?_) rfl (by kernel_rfl) (by kernel_rfl) (by kernel_rfl) (fun _ _ _ h => h) (Or.inl ⟨by rfl, ?_⟩) ?_; rotate_left; (· (intro wS hSw; (try dsimp only at hSw); go_simp; try with_reducible rfl)); try simp only [Act.put, pu1, pu2, pu3, pu4, pu5, pu6])
        (refine WalkT.quiet (i := 11) (v := ?_) rfl (by kernel_rfl) (by kernel_rfl) (by kernel_rfl) (fun _ _ _ h => h) (Or.inl ⟨by rfl, ?_⟩) ?_; rotate_left; (· (intro wS hSw; (try dsimp only at hSw); go_simp; try with_reducible rfl)); try simp only [Act.put, pu1, pu2, pu3, pu4, pu5, pu6])
        (refine WalkT.quiet (i := 12) (v := ?_) rfl (by kernel_rfl) (by kernel_rfl) (by kernel_rfl) (fun _ _ _ h => h) (Or.inl ⟨by rfl, ?_⟩) ?_; rotate_left; (· (intro wS hSw; (try dsimp only at hSw); go_simp; try with_reducible rfl)); try simp only [Act.put, pu1, pu2, pu3, pu4, pu5, pu6])
        (refine WalkT.quiet (i := 13) (v := ?_) rfl (by kernel_rfl) (by kernel_rfl) (by kernel_rfl) (fun _ _ _ h => h) (Or.inl ⟨by rfl, ?_⟩) ?_; rotate_left; (· (intro wS hSw; (try dsimp only at hSw); go_simp; try with_reducible rfl)); try simp only [Act.put, pu1, pu2, pu3, pu4, pu5, pu6])
        (refine WalkT.take (i := 14) (v := ?_) rfl (by kernel_rfl) (by kernel_rfl) (by kernel_rfl) (by kernel_rfl) (fun _ _ _ h => h) (HD3.out.sdc hkd) (Or.inl ⟨by rfl, ?_⟩) ?_; rotate_left; (· (intro wS hSw; (try unfold SdC at hSw); obtain ⟨t0, t1, t2⟩ := hSw; go_simp; try with_reducible rfl)); try simp only [Act.put, pu1, pu2, pu3, pu4, pu5, pu6])
        (refine WalkT.quiet (i := 17) (v := ?_) rfl (by kernel_rfl) (by kernel_rfl) (by kernel_rfl) (fun _ _ _ h => h) (Or.inl ⟨by rfl, ?_⟩) ?_; rotate_left; (· (intro wS hSw; (try dsimp only at hSw); go_simp; try with_reducible rfl)); try simp only [Act.put, pu1, pu2, pu3, pu4, pu5, pu6])
        (refine WalkT.quiet (i := 18) (v := ?_) rfl (by kernel_rfl) (by kernel_rfl) (by kernel_rfl) (fun _ _ _ h => h) (Or.inl ⟨by rfl, ?_⟩) ?_; rotate_left; (· (intro wS hSw; (try dsimp only at hSw); go_simp; try with_reducible rfl)); try simp only [Act.put, pu1, pu2, pu3, pu4, pu5, pu6])
        (refine WalkT.quiet (i := 19) (v := ?_) rfl (by kernel_rfl) (by kernel_rfl) (by kernel_rfl) (fun _ _ _ h => h) (Or.inl ⟨by rfl, ?_⟩) ?_; rotate_left; (· (intro wS hSw; (try dsimp only at hSw); go_simp; try with_reducible rfl)); try simp only [Act.put, pu1, pu2, pu3, pu4, pu5, pu6])
        (refine WalkT.quiet (i := 20) (v := ?_) rfl (by kernel_rfl) (by kernel_rfl) (by kernel_rfl) (fun _ _ _ h => h) (Or.inl ⟨by rfl, ?_⟩) ?_; rotate_left; (· (intro wS hSw; (try dsimp only at hSw); go_simp; try with_reducible rfl)); try simp only [Act.put, pu1, pu2, pu3, pu4, pu5, pu6])
        (refine WalkT.take (i := 21) (v := ?_) rfl (by kernel_rfl) (by kernel_rfl) (by kernel_rfl) (by kernel_rfl) (fun _ _ _ h => h) (HD3.out.sdc hkd) (Or.inl ⟨by rfl, ?_⟩) ?_; rotate_left; (· (intro wS hSw; (try unfold SdC at hSw); obtain ⟨t0, t1, t2⟩ := hSw; go_simp; try with_reducible rfl)); try simp only [Act.put, pu1, pu2, pu3, pu4, pu5, pu6])
        clear HD3
        refine WalkT.ready (rs := [8, 15, 22]) (by kernel_rfl) (by simp) ?_
        refine AllT.cons rfl (fun K hK => ?_) ?_
        · go_simp
          refine genStr (C := fun W' => K _ W') s 3 [d[kd].cust, ⟨#[]⟩, ⟨#[107, 49]⟩] (by rfl) (by rfl) (by simp) ?_
          intro W1 gW1 tW1 AW1
          have SW1 := S0.step (tW1 _ S0.st) gW1
          have qW1 : s < W0.heap.size := S0.st.lt
          refine hK.out _ _ (fun _ _ => SW1.sdc hkd) ?_
          clear hK K S0 gW1 tW1
          try simp only [Act.put, pu1, pu2, pu3, pu4, pu5, pu6]
          refine WalkT.ready (rs := [9, 15, 22]) (by kernel_rfl) (by simp) ?_
          refine AllT.cons rfl (fun K hK => ?_) ?_
          · go_simp
            refine (some_any s _ _ [d[kd].cust, ⟨#[]⟩, ⟨#[107, 49]⟩] _ SW1.st (by omega) AW1 (by simp) (by simp) (slice_ne qW1)).mono ?_
            rintro e W2 ⟨v, rfl, ⟨rA, rfl, hm⟩, tW2, gW2⟩
            have HCU := Lib.hid (cu_some (SW1.cu _ (List.getElem_mem hkd)) hm)
            clear hm
            have SW2 := SW1.step tW2 gW2
            refine hK.out _ _ (fun _ _ => SW2.sdc hkd) ?_
            clear hK K SW1 gW2 tW2 AW1
            try simp only [Act.put, pu1, pu2, pu3, pu4, pu5, pu6]
            refine WalkT.ready (rs := [15, 22]) (by kernel_rfl) (by simp) ?_
            refine AllT.cons rfl (fun K hK => ?_) ?_
            · go_simp
              refine genStr (C := fun W' => K _ W') s 2 [d[kd].spl, ⟨#[122, 122]⟩] (by rfl) (by rfl) (by simp) ?_
              intro W3 gW3 tW3 AW3
              have SW3 := SW2.step (tW3 _ SW2.st) gW3
              have qW3 : s < W2.heap.size := SW2.st.lt
              refine hK.out _ _ (fun _ _ => SW3.sdc hkd) ?_
              clear hK K SW2 gW3 tW3
              try simp only [Act.put, pu1, pu2, pu3, pu4, pu5, pu6]
              refine WalkT.ready (rs := [16, 22]) (by kernel_rfl) (by simp) ?_
              refine AllT.cons rfl (fun K hK => ?_) ?_
              · go_simp
                refine (some_any s _ _ [d[kd].spl, ⟨#[122, 122]⟩] _ SW3.st (by omega) AW3 (by simp) (by simp) (slice_ne qW3)).mono ?_
                rintro e W4 ⟨v, rfl, ⟨rB, rfl, -⟩, tW4, gW4⟩
                have SW4 := SW3.step tW4 gW4
                refine hK.out _ _ (fun _ _ => SW4.sdc hkd) ?_
                clear hK K SW3 gW4 tW4 AW3
                try simp only [Act.put, pu1, pu2, pu3, pu4, pu5, pu6]
                refine WalkT.ready (rs := [22]) (by kernel_rfl) (by simp) ?_
                refine AllT.cons rfl (fun K hK => ?_) ?_
                · go_simp
                  refine genLit (C := fun W' => K _ W') s 3 [d[kd].port, 0, 9] (by rfl) (by rfl) (by simp) ?_
                  intro W5 gW5 tW5 AW5
                  have SW5 := SW4.step (tW5 _ SW4.st) gW5
                  have qW5 : s < W4.heap.size := SW4.st.lt
                  refine hK.out _ _ (fun _ _ => SW5.sdc hkd) ?_
                  clear hK K SW4 gW5 tW5
                  try simp only [Act.put, pu1, pu2, pu3, pu4, pu5, pu6]
                  refine WalkT.ready (rs := [23]) (by kernel_rfl) (by simp) ?_
                  refine AllT.cons rfl (fun K hK => ?_) ?_
                  · go_simp
                    refine (pick_any s _ _ [d[kd].port, 0, 9] _ SW5.st (by omega) AW5 (by simp) (by simp) (slice_ne qW5)).mono ?_
                    rintro e W6 ⟨v, rfl, ⟨rC, rfl, -⟩, tW6, gW6⟩
                    have SW6 := SW5.step tW6 gW6
                    refine hK.out _ _ (fun _ _ => SW6.sdc hkd) ?_
                    clear hK K SW5 gW6 tW6 AW5
                    try simp only [Act.put, pu1, pu2, pu3, pu4, pu5, pu6]
                    have HE := Lib.hid SW6
                    clear SW6
                    obtain ⟨WE, hWE⟩ : ∃ WE : World, WE = W6 := ⟨_, rfl⟩
                    rw [← hWE] at HE ⊢
                    clear hWE
                    (obtain ⟨t0, t1, t2⟩ := HE.out.sdc hkd; have u0 := HE.out.dfree (kd * 3); have u1 := HE.out.dfree (kd * 3 + 1); have u2 := HE.out.dfree (kd * 3 + 2); (refine WalkT.quiet (i := 24) (v := ?_) rfl (by kernel_rfl) (by kernel_rfl) (by kernel_rfl) (fun _ _ _ h => h) (Or.inl ⟨by rfl, ?_⟩) ?_; rotate_left; (· (intro wS hSw; (try dsimp only at hSw); go_simp; try with_reducible rfl)); try simp only [Act.put, pu1, pu2, pu3, pu4, pu5, pu6]); (refine WalkT.quiet (i := 25) (v := ?_) rfl (by kernel_rfl) (by kernel_rfl) (by kernel_rfl) (fun _ _ _ h => h) (Or.inl ⟨by rfl, ?_⟩) ?_; rotate_left; (· (intro wS hSw; (try dsimp only at hSw); go_simp; try with_reducible rfl)); try simp only [Act.put, pu1, pu2, pu3, pu4, pu5, pu6]); (refine WalkT.ready (rs := [26]) (by kernel_rfl) (by simp) (AllT.cons rfl (fun K hK => ?_) AllT.nil); go_simp); (refine hK.out _ _ (fun h => absurd h (by decide)) ?_; clear hK K; try simp only [Act.put, pu1, pu2, pu3, pu4, pu5, pu6]); (refine WalkT.quiet (i := 27) (v := ?_) rfl (by kernel_rfl) (by kernel_rfl) (by kernel_rfl) (fun _ _ _ h => h) (Or.inl ⟨by rfl, ?_⟩) ?_; rotate_left; (· (intro wS hSw; (try dsimp only at hSw); go_simp; try with_reducible rfl)); try simp only [Act.put, pu1, pu2, pu3, pu4, pu5, pu6]); (refine WalkT.quiet (i := 28) (v := ?_) rfl (by kernel_rfl) (by kernel_rfl) (by kernel_rfl) (fun _ _ _ h => h) (Or.inl ⟨by rfl, ?_⟩) ?_; rotate_left; (· (intro wS hSw; (try dsimp only at hSw); go_simp; try with_reducible rfl)); try simp only [Act.put, pu1, pu2, pu3, pu4, pu5, pu6]); (refine WalkT.ready (rs := [29]) (by kernel_rfl) (by simp) (AllT.cons rfl (fun K hK => ?_) AllT.nil); go_simp); (refine hK.out _ _ (fun h => absurd h (by decide)) ?_; clear hK K; try simp only [Act.put, pu1, pu2, pu3, pu4, pu5, pu6]); (refine WalkT.quiet (i := 30) (v := ?_) rfl (by kernel_rfl) (by kernel_rfl) (by kernel_rfl) (fun _ _ _ h => h) (Or.inl ⟨by rfl, ?_⟩) ?_; rotate_left; (· (intro wS hSw; (try dsimp only at hSw); go_simp; try with_reducible rfl)); try simp only [Act.put, pu1, pu2, pu3, pu4, pu5, pu6]); (refine WalkT.quiet (i := 31) (v := ?_) rfl (by kernel_rfl) (by kernel_rfl) (by kernel_rfl) (fun _ _ _ h => h) (Or.inl ⟨by rfl, ?_⟩) ?_; rotate_left; (· (intro wS hSw; (try dsimp only at hSw); go_simp; try with_reducible rfl)); try simp only [Act.put, pu1, pu2, pu3, pu4, pu5, pu6]); (refine WalkT.ready (rs := [32]) (by kernel_rfl) (by simp) (AllT.cons rfl (fun K hK => ?_) AllT.nil); go_simp); (refine hK.out _ _ (fun h => absurd h (by decide)) ?_; clear hK K; try simp only [Act.put, pu1, pu2, pu3, pu4, pu5, pu6]); refine WalkT.done (by kernel_rfl) ?_; clear t0 t1 t2 u0 u1 u2; go_wp2; refine bodyPost_ret (v := .tuple #[]) (by simp [results, go_sem]) rfl ?_; exact ⟨rfl, _, _, l, _, rfl, by simp only [List.length_set]; omega, (((HE.out.put2 rfl kd 0 hkd (by omega) (.string rA) ⟨rA, d[kd].spl, d[kd].port⟩ HCU.out rfl).put2 (by simp) kd 1 (by simpa using hkd) (by omega) (.string rB) ⟨rA, rB, d[kd].port⟩ HCU.out (by rw [List.getElem_set_self]; rfl)).put2 (by simp) kd 2 (by simpa using hkd) (by omega) (.int .i64 rC) ⟨rA, rB, rC⟩ HCU.out (by rw [List.getElem_set_self]; rfl)).mono (by omega)⟩)
                  exact AllT.nil
                exact AllT.nil
              refine AllT.cons rfl (fun K hK => ?_) ?_
              · go_simp
                refine genLit (C := fun W' => K _ W') s 3 [d[kd].port, 0, 9] (by rfl) (by rfl) (by simp) ?_
                intro W7 gW7 tW7 AW7
                have SW7 := SW3.step (tW7 _ SW3.st) gW7
                have qW7 : s < W3.heap.size := SW3.st.lt
                have BW7_15 := Arr.grown AW3 gW7 (Nat.ne_of_gt qW3)
                refine hK.out _ _ (fun _ _ => SW7.sdc hkd) ?_
                clear hK K SW3 gW7 tW7 AW3
                try simp only [Act.put, pu1, pu2, pu3, pu4, pu5, pu6]
                refine WalkT.ready (rs := [16]) (by kernel_rfl) (by simp) ?_
                refine AllT.cons rfl (fun K hK => ?_) ?_
                · go_simp
                  refine (some_any s _ _ [d[kd].spl, ⟨#[122, 122]⟩] _ SW7.st (by omega) BW7_15 (by simp) (by simp) (slice_ne qW3)).mono ?_
                  rintro e W8 ⟨v, rfl, ⟨rB, rfl, -⟩, tW8, gW8⟩
                  have SW8 := SW7.step tW8 gW8
                  have BW8_22 := Arr.grown AW7 gW8 (Nat.ne_of_gt qW7)
                  refine hK.out _ _ (fun _ _ => SW8.sdc hkd) ?_
                  clear hK K SW7 gW8 tW8 BW7_15 AW7
                  try simp only [Act.put, pu1, pu2, pu3, pu4, pu5, pu6]
                  refine WalkT.ready (rs := [23]) (by kernel_rfl) (by simp) ?_
                  refine AllT.cons rfl (fun K hK => ?_) ?_
                  · go_simp
                    refine (pick_any s _ _ [d[kd].port, 0, 9] _ SW8.st (by omega) BW8_22 (by simp) (by simp) (slice_ne qW7)).mono ?_
                    rintro e W9 ⟨v, rfl, ⟨rC, rfl, -⟩, tW9, gW9⟩
                    have SW9 := SW8.step tW9 gW9
                    refine hK.out _ _ (fun _ _ => SW9.sdc hkd) ?_
                    clear hK K SW8 gW9 tW9 BW8_22
                    try simp only [Act.put, pu1, pu2, pu3, pu4, pu5, pu6]
                    have HE := Lib.hid SW9
                    clear SW9
                    obtain ⟨WE, hWE⟩ : ∃ WE : World, WE = W9 := ⟨_, rfl⟩
                    rw [← hWE] at HE ⊢
                    clear hWE
                    (obtain ⟨t0, t1, t2⟩ := HE.out.sdc hkd; have u0 := HE.out.dfree (kd * 3); have u1 := HE.out.dfree (kd * 3 + 1); have u2 := HE.out.dfree (kd * 3 + 2); (refine WalkT.quiet (i := 24) (v := ?_) rfl (by kernel_rfl) (by kernel_rfl) (by kernel_rfl) (fun _ _ _ h => h) (Or.inl ⟨by rfl, ?_⟩) ?_; rotate_left; (· (intro wS hSw; (try dsimp only at hSw); go_simp; try with_reducible rfl)); try simp only [Act.put, pu1, pu2, pu3, pu4, pu5, pu6]); (refine WalkT.quiet (i := 25) (v := ?_) rfl (by kernel_rfl) (by kernel_rfl) (by kernel_rfl) (fun _ _ _ h => h) (Or.inl ⟨by rfl, ?_⟩) ?_; rotate_left; (· (intro wS hSw; (try dsimp only at hSw); go_simp; try with_reducible rfl)); try simp only [Act.put, pu1, pu2, pu3, pu4, pu5, pu6]); (refine WalkT.ready (rs := [26]) (by kernel_rfl) (by simp) (AllT.cons rfl (fun K hK => ?_) AllT.nil); go_simp); (refine hK.out _ _ (fun h => absurd h (by decide)) ?_; clear hK K; try simp only [Act.put, pu1, pu2, pu3, pu4, pu5, pu6]); (refine WalkT.quiet (i := 27) (v := ?_) rfl (by kernel_rfl) (by kernel_rfl) (by kernel_rfl) (fun _ _ _ h => h) (Or.inl ⟨by rfl, ?_⟩) ?_; rotate_left; (· (intro wS hSw; (try dsimp only at hSw); go_simp; try with_reducible rfl)); try simp only [Act.put, pu1, pu2, pu3, pu4, pu5, pu6]); (refine WalkT.quiet (i := 28) (v := ?_) rfl (by kernel_rfl) (by kernel_rfl) (by kernel_rfl) (fun _ _ _ h => h) (Or.inl ⟨by rfl, ?_⟩) ?_; rotate_left; (· (intro wS hSw; (try dsimp only at hSw); go_simp; try with_reducible rfl)); try simp only [Act.put, pu1, pu2, pu3, pu4, pu5, pu6]); (refine WalkT.ready (rs := [29]) (by kernel_rfl) (by simp) (AllT.cons rfl (fun K hK => ?_) AllT.nil); go_simp); (refine hK.out _ _ (fun h => absurd h (by decide)) ?_; clear hK K; try simp only [Act.put, pu1, pu2, pu3, pu4, pu5, pu6]); (refine WalkT.quiet (i := 30) (v := ?_) rfl (by kernel_rfl) (by kernel_rfl) (by kernel_rfl) (fun _ _ _ h => h) (Or.inl ⟨by rfl, ?_⟩) ?_; rotate_left; (· (intro wS hSw; (try dsimp only at hSw); go_simp; try with_reducible rfl)); try simp only [Act.put, pu1, pu2, pu3, pu4, pu5, pu6]); (refine WalkT.quiet (i := 31) (v := ?_) rfl (by kernel_rfl) (by kernel_rfl) (by kernel_rfl) (fun _ _ _ h => h) (Or.inl ⟨by rfl, ?_⟩) ?_; rotate_left; (· (intro wS hSw; (try dsimp only at hSw); go_simp; try with_reducible rfl)); try simp only [Act.put, pu1, pu2, pu3, pu4, pu5, pu6]); (refine WalkT.ready (rs := [32]) (by kernel_rfl) (by simp) (AllT.cons rfl (fun K hK => ?_) AllT.nil); go_simp); (refine hK.out _ _ (fun h => absurd h (by decide)) ?_; clear hK K; try simp only [Act.put, pu1, pu2, pu3, pu4, pu5, pu6]); refine WalkT.done (by kernel_rfl) ?_; clear t0 t1 t2 u0 u1 u2; go_wp2; refine bodyPost_ret (v := .tuple #[]) (by simp [results, go_sem]) rfl ?_; exact ⟨rfl, _, _, l, _, rfl, by simp only [List.length_set]; omega, (((HE.out.put2 rfl kd 0 hkd (by omega) (.string rA) ⟨rA, d[kd].spl, d[kd].port⟩ HCU.out rfl).put2 (by simp) kd 1 (by simpa using hkd) (by omega) (.string rB) ⟨rA, rB, d[kd].port⟩ HCU.out (by rw [List.getElem_set_self]; rfl)).put2 (by simp) kd 2 (by simpa using hkd) (by omega) (.int .i64 rC) ⟨rA, rB, rC⟩ HCU.out (by rw [List.getElem_set_self]; rfl)).mono (by omega)⟩)
                  exact AllT.nil
                exact AllT.nil
              exact AllT.nil
            refine AllT.cons rfl (fun K hK => ?_) ?_
            · go_simp
              refine genLit (C := fun W' => K _ W') s 3 [d[kd].port, 0, 9] (by rfl) (by rfl) (by simp) ?_
              intro W10 gW10 tW10 AW10
              have SW10 := SW2.step (tW10 _ SW2.st) gW10
              have qW10 : s < W2.heap.size := SW2.st.lt
              refine hK.out _ _ (fun _ _ => SW10.sdc hkd) ?_
              clear hK K SW2 gW10 tW10
              try simp only [Act.put, pu1, pu2, pu3, pu4, pu5, pu6]
              refine WalkT.ready (rs := [15]) (by kernel_rfl) (by simp) ?_
              refine AllT.cons rfl (fun K hK => ?_) ?_
              · go_simp
                refine genStr (C := fun W' => K _ W') s 2 [d[kd].spl, ⟨#[122, 122]⟩] (by rfl) (by rfl) (by simp) ?_
                intro W11 gW11 tW11 AW11
                have SW11 := SW10.step (tW11 _ SW10.st) gW11
                have qW11 : s < W10.heap.size := SW10.st.lt
                have BW11_22 := Arr.grown AW10 gW11 (Nat.ne_of_gt qW10)
                refine hK.out _ _ (fun _ _ => SW11.sdc hkd) ?_
                clear hK K SW10 gW11 tW11 AW10
                try simp only [Act.put, pu1, pu2, pu3, pu4, pu5, pu6]
                refine WalkT.ready (rs := [16]) (by kernel_rfl) (by simp) ?_
                refine AllT.cons rfl (fun K hK => ?_) ?_
                · go_simp
                  refine (some_any s _ _ [d[kd].spl, ⟨#[122, 122]⟩] _ SW11.st (by omega) AW11 (by simp) (by simp) (slice_ne qW11)).mono ?_
                  rintro e W12 ⟨v, rfl, ⟨rB, rfl, -⟩, tW12, gW12⟩
                  have SW12 := SW11.step tW12 gW12
                  have BW12_22 := Arr.grown BW11_22 gW12 (Nat.ne_of_gt qW10)
                  refine hK.out _ _ (fun _ _ => SW12.sdc hkd) ?_
                  clear hK K SW11 gW12 tW12 BW11_22 AW11
                  try simp only [Act.put, pu1, pu2, pu3, pu4, pu5, pu6]
                  refine WalkT.ready (rs := [23]) (by kernel_rfl) (by simp) ?_
                  refine AllT.cons rfl (fun K hK => ?_) ?_
                  · go_simp
                    refine (pick_any s _ _ [d[kd].port, 0, 9] _ SW12.st (by omega) BW12_22 (by simp) (by simp) (slice_ne qW10)).mono ?_
                    rintro e W13 ⟨v, rfl, ⟨rC, rfl, -⟩, tW13, gW13⟩
                    have SW13 := SW12.step tW13 gW13
                    refine hK.out _ _ (fun _ _ => SW13.sdc hkd) ?_
                    clear hK K SW12 gW13 tW13 BW12_22
                    try simp only [Act.put, pu1, pu2, pu3, pu4, pu5, pu6]
                    have HE := Lib.hid SW13
                    clear SW13
                    obtain ⟨WE, hWE⟩ : ∃ WE : World, WE = W13 := ⟨_, rfl⟩
                    rw [← hWE] at HE ⊢
                    clear hWE
                    (obtain ⟨t0, t1, t2⟩ := HE.out.sdc hkd; have u0 := HE.out.dfree (kd * 3); have u1 := HE.out.dfree (kd * 3 + 1); have u2 := HE.out.dfree (kd * 3 + 2); (refine WalkT.quiet (i := 24) (v := ?_) rfl (by kernel_rfl) (by kernel_rfl) (by kernel_rfl) (fun _ _ _ h => h) (Or.inl ⟨by rfl, ?_⟩) ?_; rotate_left; (· (intro wS hSw; (try dsimp only at hSw); go_simp; try with_reducible rfl)); try simp only [Act.put, pu1, pu2, pu3, pu4, pu5, pu6]); (refine WalkT.quiet (i := 25) (v := ?_) rfl (by kernel_rfl) (by kernel_rfl) (by kernel_rfl) (fun _ _ _ h => h) (Or.inl ⟨by rfl, ?_⟩) ?_; rotate_left; (· (intro wS hSw; (try dsimp only at hSw); go_simp; try with_reducible rfl)); try simp only [Act.put, pu1, pu2, pu3, pu4, pu5, pu6]); (refine WalkT.ready (rs := [26]) (by kernel_rfl) (by simp) (AllT.cons rfl (fun K hK => ?_) AllT.nil); go_simp); (refine hK.out _ _ (fun h => absurd h (by decide)) ?_; clear hK K; try simp only [Act.put, pu1, pu2, pu3, pu4, pu5, pu6]); (refine WalkT.quiet (i := 27) (v := ?_) rfl (by kernel_rfl) (by kernel_rfl) (by kernel_rfl) (fun _ _ _ h => h) (Or.inl ⟨by rfl, ?_⟩) ?_; rotate_left; (· (intro wS hSw; (try dsimp only at hSw); go_simp; try with_reducible rfl)); try simp only [Act.put, pu1, pu2, pu3, pu4, pu5, pu6]); (refine WalkT.quiet (i := 28) (v := ?_) rfl (by kernel_rfl) (by kernel_rfl) (by kernel_rfl) (fun _ _ _ h => h) (Or.inl ⟨by rfl, ?_⟩) ?_; rotate_left; (· (intro wS hSw; (try dsimp only at hSw); go_simp; try with_reducible rfl)); try simp only [Act.put, pu1, pu2, pu3, pu4, pu5, pu6]); (refine WalkT.ready (rs := [29]) (by kernel_rfl) (by simp) (AllT.cons rfl (fun K hK => ?_) AllT.nil); go_simp); (refine hK.out _ _ (fun h => absurd h (by decide)) ?_; clear hK K; try simp only [Act.put, pu1, pu2, pu3, pu4, pu5, pu6]); (refine WalkT.quiet (i := 30) (v := ?_) rfl (by kernel_rfl) (by kernel_rfl) (by kernel_rfl) (fun _ _ _ h => h) (Or.inl ⟨by rfl, ?_⟩) ?_; rotate_left; (· (intro wS hSw; (try dsimp only at hSw); go_simp; try with_reducible rfl)); try simp only [Act.put, pu1, pu2, pu3, pu4, pu5, pu6]); (refine WalkT.quiet (i := 31) (v := ?_) rfl (by kernel_rfl) (by kernel_rfl) (by kernel_rfl) (fun _ _ _ h => h) (Or.inl ⟨by rfl, ?_⟩) ?_; rotate_left; (· (intro wS hSw; (try dsimp only at hSw); go_simp; try with_reducible rfl)); try simp only [Act.put, pu1, pu2, pu3, pu4, pu5, pu6]); (refine WalkT.ready (rs := [32]) (by kernel_rfl) (by simp) (AllT.cons rfl (fun K hK => ?_) AllT.nil); go_simp); (refine hK.out _ _ (fun h => absurd h (by decide)) ?_; clear hK K; try simp only [Act.put, pu1, pu2, pu3, pu4, pu5, pu6]); refine WalkT.done (by kernel_rfl) ?_; clear t0 t1 t2 u0 u1 u2; go_wp2; refine bodyPost_ret (v := .tuple #[]) (by simp [results, go_sem]) rfl ?_; exact ⟨rfl, _, _, l, _, rfl, by simp only [List.length_set]; omega, (((HE.out.put2 rfl kd 0 hkd (by omega) (.string rA) ⟨rA, d[kd].spl, d[kd].port⟩ HCU.out rfl).put2 (by simp) kd 1 (by simpa using hkd) (by omega) (.string rB) ⟨rA, rB, d[kd].port⟩ HCU.out (by rw [List.getElem_set_self]; rfl)).put2 (by simp) kd 2 (by simpa using hkd) (by omega) (.int .i64 rC) ⟨rA, rB, rC⟩ HCU.out (by rw [List.getElem_set_self]; rfl)).mono (by omega)⟩)
                  exact AllT.nil
                exact AllT.nil
              exact AllT.nil
            exact AllT.nil
          refine AllT.cons rfl (fun K hK => ?_) ?_
          · go_simp
            refine genStr (C := fun W' => K _ W') s 2 [d[kd].spl, ⟨#[122, 122]⟩] (by rfl) (by rfl) (by simp) ?_
            intro W14 gW14 tW14 AW14
            have SW14 := SW1.step (tW14 _ SW1.st) gW14
            have qW14 : s < W1.heap.size := SW1.st.lt
            have BW14_8 := Arr.grown AW1 gW14 (Nat.ne_of_gt qW1)
            refine hK.out _ _ (fun _ _ => SW14.sdc hkd) ?_
            clear hK K SW1 gW14 tW14 AW1
            try simp only [Act.put, pu1, pu2, pu3, pu4, pu5, pu6]
            refine WalkT.ready (rs := [9, 22]) (by kernel_rfl) (by simp) ?_
            refine AllT.cons rfl (fun K hK => ?_) ?_
            · go_simp
              refine (some_any s _ _ [d[kd].cust, ⟨#[]⟩, ⟨#[107, 49]⟩] _ SW14.st (by omega) BW14_8 (by simp) (by simp) (slice_ne qW1)).mono ?_
              rintro e W15 ⟨v, rfl, ⟨rA, rfl, hm⟩, tW15, gW15⟩
              have HCU := Lib.hid (cu_some (SW14.cu _ (List.getElem_mem hkd)) hm)
              clear hm
              have SW15 := SW14.step tW15 gW15
              have BW15_15 := Arr.grown AW14 gW15 (Nat.ne_of_gt qW14)
              refine hK.out _ _ (fun _ _ => SW15.sdc hkd) ?_
              clear hK K SW14 gW15 tW15 BW14_8 AW14
              try simp only [Act.put, pu1, pu2, pu3, pu4, pu5, pu6]
              refine WalkT.ready (rs := [16, 22]) (by kernel_rfl) (by simp) ?_
              refine AllT.cons rfl (fun K hK => ?_) ?_
              · go_simp
                refine (some_any s _ _ [d[kd].spl, ⟨#[122, 122]⟩] _ SW15.st (by omega) BW15_15 (by simp) (by simp) (slice_ne qW14)).mono ?_
                rintro e W16 ⟨v, rfl, ⟨rB, rfl, -⟩, tW16, gW16⟩
                have SW16 := SW15.step tW16 gW16
                refine hK.out _ _ (fun _ _ => SW16.sdc hkd) ?_
                clear hK K SW15 gW16 tW16 BW15_15
                try simp only [Act.put, pu1, pu2, pu3, pu4, pu5, pu6]
                refine WalkT.ready (rs := [22]) (by kernel_rfl) (by simp) ?_
                refine AllT.cons rfl (fun K hK => ?_) ?_
                · go_simp
                  refine genLit (C := fun W' => K _ W') s 3 [d[kd].port, 0, 9] (by rfl) (by rfl) (by simp) ?_
                  intro W17 gW17 tW17 AW17
                  have SW17 := SW16.step (tW17 _ SW16.st) gW17
                  have qW17 : s < W16.heap.size := SW16.st.lt
                  refine hK.out _ _ (fun _ _ => SW17.sdc hkd) ?_
                  clear hK K SW16 gW17 tW17
                  try simp only [Act.put, pu1, pu2, pu3, pu4, pu5, pu6]
                  refine WalkT.ready (rs := [23]) (by kernel_rfl) (by simp) ?_
                  refine AllT.cons rfl (fun K hK => ?_) ?_
                  · go_simp
                    refine (pick_any s _ _ [d[kd].port, 0, 9] _ SW17.st (by omega) AW17 (by simp) (by simp) (slice_ne qW17)).mono ?_
                    rintro e W18 ⟨v, rfl, ⟨rC, rfl, -⟩, tW18, gW18⟩
                    have SW18 := SW17.step tW18 gW18
                    refine hK.out _ _ (fun _ _ => SW18.sdc hkd) ?_
                    clear hK K SW17 gW18 tW18 AW17
                    try simp only [Act.put, pu1, pu2, pu3, pu4, pu5, pu6]
                    have HE := Lib.hid SW18
                    clear SW18
                    obtain ⟨WE, hWE⟩ : ∃ WE : World, WE = W18 := ⟨_, rfl⟩
                    rw [← hWE] at HE ⊢
                    clear hWE
                    (obtain ⟨t0, t1, t2⟩ := HE.out.sdc hkd; have u0 := HE.out.dfree (kd * 3); have u1 := HE.out.dfree (kd * 3 + 1); have u2 := HE.out.dfree (kd * 3 + 2); (refine WalkT.quiet (i := 24) (v := ?_) rfl (by kernel_rfl) (by kernel_rfl) (by kernel_rfl) (fun _ _ _ h => h) (Or.inl ⟨by rfl, ?_⟩) ?_; rotate_left; (· (intro wS hSw; (try dsimp only at hSw); go_simp; try with_reducible rfl)); try simp only [Act.put, pu1, pu2, pu3, pu4, pu5, pu6]); (refine WalkT.quiet (i := 25) (v := ?_) rfl (by kernel_rfl) (by kernel_rfl) (by kernel_rfl) (fun _ _ _ h => h) (Or.inl ⟨by rfl, ?_⟩) ?_; rotate_left; (· (intro wS hSw; (try dsimp only at hSw); go_simp; try with_reducible rfl)); try simp only [Act.put, pu1, pu2, pu3, pu4, pu5, pu6]); (refine WalkT.ready (rs := [26]) (by kernel_rfl) (by simp) (AllT.cons rfl (fun K hK => ?_) AllT.nil); go_simp); (refine hK.out _ _ (fun h => absurd h (by decide)) ?_; clear hK K; try simp only [Act.put, pu1, pu2, pu3, pu4, pu5, pu6]); (refine WalkT.quiet (i := 27) (v := ?_) rfl (by kernel_rfl) (by kernel_rfl) (by kernel_rfl) (fun _ _ _ h => h) (Or.inl ⟨by rfl, ?_⟩) ?_; rotate_left; (· (intro wS hSw; (try dsimp only at hSw); go_simp; try with_reducible rfl)); try simp only [Act.put, pu1, pu2, pu3, pu4, pu5, pu6]); (refine WalkT.quiet (i := 28) (v := ?_) rfl (by kernel_rfl) (by kernel_rfl) (by kernel_rfl) (fun _ _ _ h => h) (Or.inl ⟨by rfl, ?_⟩) ?_; rotate_left; (· (intro wS hSw; (try dsimp only at hSw); go_simp; try with_reducible rfl)); try simp only [Act.put, pu1, pu2, pu3, pu4, pu5, pu6]); (refine WalkT.ready (rs := [29]) (by kernel_rfl) (by simp) (AllT.cons rfl (fun K hK => ?_) AllT.nil); go_simp); (refine hK.out _ _ (fun h => absurd h (by decide)) ?_; clear hK K; try simp only [Act.put, pu1, pu2, pu3, pu4, pu5, pu6]); (refine WalkT.quiet (i := 30) (v := ?_) rfl (by kernel_rfl) (by kernel_rfl) (by kernel_rfl) (fun _ _ _ h => h) (Or.inl ⟨by rfl, ?_⟩) ?_; rotate_left; (· (intro wS hSw; (try dsimp only at hSw); go_simp; try with_reducible rfl)); try simp only [Act.put, pu1, pu2, pu3, pu4, pu5, pu6]); (refine WalkT.quiet (i := 31) (v := ?_) rfl (by kernel_rfl) (by kernel_rfl) (by kernel_rfl) (fun _ _ _ h => h) (Or.inl ⟨by rfl, ?_⟩) ?_; rotate_left; (· (intro wS hSw; (try dsimp only at hSw); go_simp; try with_reducible rfl)); try simp only [Act.put, pu1, pu2, pu3, pu4, pu5, pu6]); (refine WalkT.ready (rs := [32]) (by kernel_rfl) (by simp) (AllT.cons rfl (fun K hK => ?_) AllT.nil); go_simp); (refine hK.out _ _ (fun h => absurd h (by decide)) ?_; clear hK K; try simp only [Act.put, pu1, pu2, pu3, pu4, pu5, pu6]); refine WalkT.done (by kernel_rfl) ?_; clear t0 t1 t2 u0 u1 u2; go_wp2; refine bodyPost_ret (v := .tuple #[]) (by simp [results, go_sem]) rfl ?_; exact ⟨rfl, _, _, l, _, rfl, by simp only [List.length_set]; omega, (((HE.out.put2 rfl kd 0 hkd (by omega) (.string rA) ⟨rA, d[kd].spl, d[kd].port⟩ HCU.out rfl).put2 (by simp) kd 1 (by simpa using hkd) (by omega) (.string rB) ⟨rA, rB, d[kd].port⟩ HCU.out (by rw [List.getElem_set_self]; rfl)).put2 (by simp) kd 2 (by simpa using hkd) (by omega) (.int .i64 rC) ⟨rA, rB, rC⟩ HCU.out (by rw [List.getElem_set_self]; rfl)).mono (by omega)⟩)
                  exact AllT.nil
                exact AllT.nil
              refine AllT.cons rfl (fun K hK => ?_) ?_
              · go_simp
                refine genLit (C := fun W' => K _ W') s 3 [d[kd].port, 0, 9] (by rfl) (by rfl) (by simp) ?_
                intro W19 gW19 tW19 AW19
                have SW19 := SW15.step (tW19 _ SW15.st) gW19
                have qW19 : s < W15.heap.size := SW15.st.lt
                have BW19_15 := Arr.grown BW15_15 gW19 (Nat.ne_of_gt qW14)
                refine hK.out _ _ (fun _ _ => SW19.sdc hkd) ?_
                clear hK K SW15 gW19 tW19 BW15_15
                try simp only [Act.put, pu1, pu2, pu3, pu4, pu5, pu6]
                refine WalkT.ready (rs := [16]) (by kernel_rfl) (by simp) ?_
                refine AllT.cons rfl (fun K hK => ?_) ?_
                · go_simp
                  refine (some_any s _ _ [d[kd].spl, ⟨#[122, 122]⟩] _ SW19.st (by omega) BW19_15 (by simp) (by simp) (slice_ne qW14)).mono ?_
                  rintro e W20 ⟨v, rfl, ⟨rB, rfl, -⟩, tW20, gW20⟩
                  have SW20 := SW19.step tW20 gW20
                  have BW20_22 := Arr.grown AW19 gW20 (Nat.ne_of_gt qW19)
                  refine hK.out _ _ (fun _ _ => SW20.sdc hkd) ?_
                  clear hK K SW19 gW20 tW20 BW19_15 AW19
                  try simp only [Act.put, pu1, pu2, pu3, pu4, pu5, pu6]
                  refine WalkT.ready (rs := [23]) (by kernel_rfl) (by simp) ?_
                  refine AllT.cons rfl (fun K hK => ?_) ?_
                  · go_simp
                    refine (pick_any s _ _ [d[kd].port, 0, 9] _ SW20.st (by omega) BW20_22 (by simp) (by simp) (slice_ne qW19)).mono ?_
                    rintro e W21 ⟨v, rfl, ⟨rC, rfl, -⟩, tW21, gW21⟩
                    have SW21 := SW20.step tW21 gW21
                    refine hK.out _ _ (fun _ _ => SW21.sdc hkd) ?_
                    clear hK K SW20 gW21 tW21 BW20_22
                    try simp only [Act.put, pu1, pu2, pu3, pu4, pu5, pu6]
                    have HE := Lib.hid SW21
                    clear SW21
                    obtain ⟨WE, hWE⟩ : ∃ WE : World, WE = W21 := ⟨_, rfl⟩
                    rw [← hWE] at HE ⊢
                    clear hWE
                    (obtain ⟨t0, t1, t2⟩ := HE.out.sdc hkd; have u0 := HE.out.dfree (kd * 3); have u1 := HE.out.dfree (kd * 3 + 1); have u2 := HE.out.dfree (kd * 3 + 2); (refine WalkT.quiet (i := 24) (v := ?_) rfl (by kernel_rfl) (by kernel_rfl) (by kernel_rfl) (fun _ _ _ h => h) (Or.inl ⟨by rfl, ?_⟩) ?_; rotate_left; (· (intro wS hSw; (try dsimp only at hSw); go_simp; try with_reducible rfl)); try simp only [Act.put, pu1, pu2, pu3, pu4, pu5, pu6]); (refine WalkT.quiet (i := 25) (v := ?_) rfl (by kernel_rfl) (by kernel_rfl) (by kernel_rfl) (fun _ _ _ h => h) (Or.inl ⟨by rfl, ?_⟩) ?_; rotate_left; (· (intro wS hSw; (try dsimp only at hSw); go_simp; try with_reducible rfl)); try simp only [Act.put, pu1, pu2, pu3, pu4, pu5, pu6]); (refine WalkT.ready (rs := [26]) (by kernel_rfl) (by simp) (AllT.cons rfl (fun K hK => ?_) AllT.nil); go_simp); (refine hK.out _ _ (fun h => absurd h (by decide)) ?_; clear hK K; try simp only [Act.put, pu1, pu2, pu3, pu4, pu5, pu6]); (refine WalkT.quiet (i := 27) (v := ?_) rfl (by kernel_rfl) (by kernel_rfl) (by kernel_rfl) (fun _ _ _ h => h) (Or.inl ⟨by rfl, ?_⟩) ?_; rotate_left; (· (intro wS hSw; (try dsimp only at hSw); go_simp; try with_reducible rfl)); try simp only [Act.put, pu1, pu2, pu3, pu4, pu5, pu6]); (refine WalkT.quiet (i := 28) (v := ?_) rfl (by kernel_rfl) (by kernel_rfl) (by kernel_rfl) (fun _ _ _ h => h) (Or.inl ⟨by rfl, ?_⟩) ?_; rotate_left; (· (intro wS hSw; (try dsimp only at hSw); go_simp; try with_reducible rfl)); try simp only [Act.put, pu1, pu2, pu3, pu4, pu5, pu6]); (refine WalkT.ready (rs := [29]) (by kernel_rfl) (by simp) (AllT.cons rfl (fun K hK => ?_) AllT.nil); go_simp); (refine hK.out _ _ (fun h => absurd h (by decide)) ?_; clear hK K; try simp only [Act.put, pu1, pu2, pu3, pu4, pu5, pu6]); (refine WalkT.quiet (i := 30) (v := ?_) rfl (by kernel_rfl) (by kernel_rfl) (by kernel_rfl) (fun _ _ _ h => h) (Or.inl ⟨by rfl, ?_⟩) ?_; rotate_left; (· (intro wS hSw; (try dsimp only at hSw); go_simp; try with_reducible rfl)); try simp only [Act.put, pu1, pu2, pu3, pu4, pu5, pu6]); (refine WalkT.quiet (i := 31) (v := ?_) rfl (by kernel_rfl) (by kernel_rfl) (by kernel_rfl) (fun _ _ _ h => h) (Or.inl ⟨by rfl, ?_⟩) ?_; rotate_left; (· (intro wS hSw; (try dsimp only at hSw); go_simp; try with_reducible rfl)); try simp only [Act.put, pu1, pu2, pu3, pu4, pu5, pu6]); (refine WalkT.ready (rs := [32]) (by kernel_rfl) (by simp) (AllT.cons rfl (fun K hK => ?_) AllT.nil); go_simp); (refine hK.out _ _ (fun h => absurd h (by decide)) ?_; clear hK K; try simp only [Act.put, pu1, pu2, pu3, pu4, pu5, pu6]); refine WalkT.done (by kernel_rfl) ?_; clear t0 t1 t2 u0 u1 u2; go_wp2; refine bodyPost_ret (v := .tuple #[]) (by simp [results, go_sem]) rfl ?_; exact ⟨rfl, _, _, l, _, rfl, by simp only [List.length_set]; omega, (((HE.out.put2 rfl kd 0 hkd (by omega) (.string rA) ⟨rA, d[kd].spl, d[kd].port⟩ HCU.out rfl).put2 (by simp) kd 1 (by simpa using hkd) (by omega) (.string rB) ⟨rA, rB, d[kd].port⟩ HCU.out (by rw [List.getElem_set_self]; rfl)).put2 (by simp) kd 2 (by simpa using hkd) (by omega) (.int .i64 rC) ⟨rA, rB, rC⟩ HCU.out (by rw [List.getElem_set_self]; rfl)).mono (by omega)⟩)
                  exact AllT.nil
                exact AllT.nil
              exact AllT.nil
            refine AllT.cons rfl (fun K hK => ?_) ?_
            · go_simp
              refine genLit (C := fun W' => K _ W') s 3 [d[kd].port, 0, 9] (by rfl) (by rfl) (by simp) ?_
              intro W22 gW22 tW22 AW22
              have SW22 := SW14.step (tW22 _ SW14.st) gW22
              have qW22 : s < W14.heap.size := SW14.st.lt
              have BW22_8 := Arr.grown BW14_8 gW22 (Nat.ne_of_gt qW1)
              have BW22_15 := Arr.grown AW14 gW22 (Nat.ne_of_gt qW14)
              refine hK.out _ _ (fun _ _ => SW22.sdc hkd) ?_
              clear hK K SW14 gW22 tW22 BW14_8 AW14
              try simp only [Act.put, pu1, pu2, pu3, pu4, pu5, pu6]
              refine WalkT.ready (rs := [9]) (by kernel_rfl) (by simp) ?_
              refine AllT.cons rfl (fun K hK => ?_) ?_
              · go_simp
                refine (some_any s _ _ [d[kd].cust, ⟨#[]⟩, ⟨#[107, 49]⟩] _ SW22.st (by omega) BW22_8 (by simp) (by simp) (slice_ne qW1)).mono ?_
                rintro e W23 ⟨v, rfl, ⟨rA, rfl, hm⟩, tW23, gW23⟩
                have HCU := Lib.hid (cu_some (SW22.cu _ (List.getElem_mem hkd)) hm)
                clear hm
                have SW23 := SW22.step tW23 gW23
                have BW23_15 := Arr.grown BW22_15 gW23 (Nat.ne_of_gt qW14)
                have BW23_22 := Arr.grown AW22 gW23 (Nat.ne_of_gt qW22)
                refine hK.out _ _ (fun _ _ => SW23.sdc hkd) ?_
                clear hK K SW22 gW23 tW23 BW22_8 BW22_15 AW22
                try simp only [Act.put, pu1, pu2, pu3, pu4, pu5, pu6]
                refine WalkT.ready (rs := [16]) (by kernel_rfl) (by simp) ?_
                refine AllT.cons rfl (fun K hK => ?_) ?_
                · go_simp
                  refine (some_any s _ _ [d[kd].spl, ⟨#[122, 122]⟩] _ SW23.st (by omega) BW23_15 (by simp) (by simp) (slice_ne qW14)).mono ?_
                  rintro e W24 ⟨v, rfl, ⟨rB, rfl, -⟩, tW24, gW24⟩
                  have SW24 := SW23.step tW24 gW24
                  have BW24_22 := Arr.grown BW23_22 gW24 (Nat.ne_of_gt qW22)
                  refine hK.out _ _ (fun _ _ => SW24.sdc hkd) ?_
                  clear hK K SW23 gW24 tW24 BW23_15 BW23_22
                  try simp only [Act.put, pu1, pu2, pu3, pu4, pu5, pu6]
                  refine WalkT.ready (rs := [23]) (by kernel_rfl) (by simp) ?_
                  refine AllT.cons rfl (fun K hK => ?_) ?_
                  · go_simp
                    refine (pick_any s _ _ [d[kd].port, 0, 9] _ SW24.st (by omega) BW24_22 (by simp) (by simp) (slice_ne qW22)).mono ?_
                    rintro e W25 ⟨v, rfl, ⟨rC, rfl, -⟩, tW25, gW25⟩
                    have SW25 := SW24.step tW25 gW25
                    refine hK.out _ _ (fun _ _ => SW25.sdc hkd) ?_
                    clear hK K SW24 gW25 tW25 BW24_22
                    try simp only [Act.put, pu1, pu2, pu3, pu4, pu5, pu6]
                    have HE := Lib.hid SW25
                    clear SW25
                    obtain ⟨WE, hWE⟩ : ∃ WE : World, WE = W25 := ⟨_, rfl⟩
                    rw [← hWE] at HE ⊢
                    clear hWE
                    (obtain ⟨t0, t1, t2⟩ := HE.out.sdc hkd; have u0 := HE.out.dfree (kd * 3); have u1 := HE.out.dfree (kd * 3 + 1); have u2 := HE.out.dfree (kd * 3 + 2); (refine WalkT.quiet (i := 24) (v := ?_) rfl (by kernel_rfl) (by kernel_rfl) (by kernel_rfl) (fun _ _ _ h => h) (Or.inl ⟨by rfl, ?_⟩) ?_; rotate_left; (· (intro wS hSw; (try dsimp only at hSw); go_simp; try with_reducible rfl)); try simp only [Act.put, pu1, pu2, pu3, pu4, pu5, pu6]); (refine WalkT.quiet (i := 25) (v := ?_) rfl (by kernel_rfl) (by kernel_rfl) (by kernel_rfl) (fun _ _ _ h => h) (Or.inl ⟨by rfl, ?_⟩) ?_; rotate_left; (· (intro wS hSw; (try dsimp only at hSw); go_simp; try with_reducible rfl)); try simp only [Act.put, pu1, pu2, pu3, pu4, pu5, pu6]); (refine WalkT.ready (rs := [26]) (by kernel_rfl) (by simp) (AllT.cons rfl (fun K hK => ?_) AllT.nil); go_simp); (refine hK.out _ _ (fun h => absurd h (by decide)) ?_; clear hK K; try simp only [Act.put, pu1, pu2, pu3, pu4, pu5, pu6]); (refine WalkT.quiet (i := 27) (v := ?_) rfl (by kernel_rfl) (by kernel_rfl) (by kernel_rfl) (fun _ _ _ h => h) (Or.inl ⟨by rfl, ?_⟩) ?_; rotate_left; (· (intro wS hSw; (try dsimp only at hSw); go_simp; try with_reducible rfl)); try simp only [Act.put, pu1, pu2, pu3, pu4, pu5, pu6]); (refine WalkT.quiet (i := 28) (v := ?_) rfl (by kernel_rfl) (by kernel_rfl) (by kernel_rfl) (fun _ _ _ h => h) (Or.inl ⟨by rfl, ?_⟩) ?_; rotate_left; (· (intro wS hSw; (try dsimp only at hSw); go_simp; try with_reducible rfl)); try simp only [Act.put, pu1, pu2, pu3, pu4, pu5, pu6]); (refine WalkT.ready (rs := [29]) (by kernel_rfl) (by simp) (AllT.cons rfl (fun K hK => ?_) AllT.nil); go_simp); (refine hK.out _ _ (fun h => absurd h (by decide)) ?_; clear hK K; try simp only [Act.put, pu1, pu2, pu3, pu4, pu5, pu6]); (refine WalkT.quiet (i := 30) (v := ?_) rfl (by kernel_rfl) (by kernel_rfl) (by kernel_rfl) (fun _ _ _ h => h) (Or.inl ⟨by rfl, ?_⟩) ?_; rotate_left; (· (intro wS hSw; (try dsimp only at hSw); go_simp; try with_reducible rfl)); try simp only [Act.put, pu1, pu2, pu3, pu4, pu5, pu6]); (refine WalkT.quiet (i := 31) (v := ?_) rfl (by kernel_rfl) (by kernel_rfl) (by kernel_rfl) (fun _ _ _ h => h) (Or.inl ⟨by rfl, ?_⟩) ?_; rotate_left; (· (intro wS hSw; (try dsimp only at hSw); go_simp; try with_reducible rfl)); try simp only [Act.put, pu1, pu2, pu3, pu4, pu5, pu6]); (refine WalkT.ready (rs := [32]) (by kernel_rfl) (by simp) (AllT.cons rfl (fun K hK => ?_) AllT.nil); go_simp); (refine hK.out _ _ (fun h => absurd h (by decide)) ?_; clear hK K; try simp only [Act.put, pu1, pu2, pu3, pu4, pu5, pu6]); refine WalkT.done (by kernel_rfl) ?_; clear t0 t1 t2 u0 u1 u2; go_wp2; refine bodyPost_ret (v := .tuple #[]) (by simp [results, go_sem]) rfl ?_; exact ⟨rfl, _, _, l, _, rfl, by simp only [List.length_set]; omega, (((HE.out.put2 rfl kd 0 hkd (by omega) (.string rA) ⟨rA, d[kd].spl, d[kd].port⟩ HCU.out rfl).put2 (by simp) kd 1 (by simpa using hkd) (by omega) (.string rB) ⟨rA, rB, d[kd].port⟩ HCU.out (by rw [List.getElem_set_self]; rfl)).put2 (by simp) kd 2 (by simpa using hkd) (by omega) (.int .i64 rC) ⟨rA, rB, rC⟩ HCU.out (by rw [List.getElem_set_self]; rfl)).mono (by omega)⟩)
                  exact AllT.nil
                exact AllT.nil
              exact AllT.nil
            exact AllT.nil
          refine AllT.cons rfl (fun K hK => ?_) ?_
          · go_simp
            refine genLit (C := fun W' => K _ W') s 3 [d[kd].port, 0, 9] (by rfl) (by rfl) (by simp) ?_
            intro W26 gW26 tW26 AW26
            have SW26 := SW1.step (tW26 _ SW1.st) gW26
            have qW26 : s < W1.heap.size := SW1.st.lt
            have BW26_8 := Arr.grown AW1 gW26 (Nat.ne_of_gt qW1)
            refine hK.out _ _ (fun _ _ => SW26.sdc hkd) ?_
            clear hK K SW1 gW26 tW26 AW1
            try simp only [Act.put, pu1, pu2, pu3, pu4, pu5, pu6]
            refine WalkT.ready (rs := [9, 15]) (by kernel_rfl) (by simp) ?_
            refine AllT.cons rfl (fun K hK => ?_) ?_
            · go_simp
              refine (some_any s _ _ [d[kd].cust, ⟨#[]⟩, ⟨#[107, 49]⟩] _ SW26.st (by omega) BW26_8 (by simp) (by simp) (slice_ne qW1)).mono ?_
              rintro e W27 ⟨v, rfl, ⟨rA, rfl, hm⟩, tW27, gW27⟩
              have HCU := Lib.hid (cu_some (SW26.cu _ (List.getElem_mem hkd)) hm)
              clear hm
              have SW27 := SW26.step tW27 gW27
              have BW27_22 := Arr.grown AW26 gW27 (Nat.ne_of_gt qW26)
              refine hK.out _ _ (fun _ _ => SW27.sdc hkd) ?_
              clear hK K SW26 gW27 tW27 BW26_8 AW26
              try simp only [Act.put, pu1, pu2, pu3, pu4, pu5, pu6]
              refine WalkT.ready (rs := [15]) (by kernel_rfl) (by simp) ?_
              refine AllT.cons rfl (fun K hK => ?_) ?_
              · go_simp
                refine genStr (C := fun W' => K _ W') s 2 [d[kd].spl, ⟨#[122, 122]⟩] (by rfl) (by rfl) (by simp) ?_
                intro W28 gW28 tW28 AW28
                have SW28 := SW27.step (tW28 _ SW27.st) gW28
                have qW28 : s < W27.heap.size := SW27.st.lt
                have BW28_22 := Arr.grown BW27_22 gW28 (Nat.ne_of_gt qW26)
                refine hK.out _ _ (fun _ _ => SW28.sdc hkd) ?_
                clear hK K SW27 gW28 tW28 BW27_22
                try simp only [Act.put, pu1, pu2, pu3, pu4, pu5, pu6]
                refine WalkT.ready (rs := [16]) (by kernel_rfl) (by simp) ?_
                refine AllT.cons rfl (fun K hK => ?_) ?_
                · go_simp
                  refine (some_any s _ _ [d[kd].spl, ⟨#[122, 122]⟩] _ SW28.st (by omega) AW28 (by simp) (by simp) (slice_ne qW28)).mono ?_
                  rintro e W29 ⟨v, rfl, ⟨rB, rfl, -⟩, tW29, gW29⟩
                  have SW29 := SW28.step tW29 gW29
                  have BW29_22 := Arr.grown BW28_22 gW29 (Nat.ne_of_gt qW26)
                  refine hK.out _ _ (fun _ _ => SW29.sdc hkd) ?_
                  clear hK K SW28 gW29 tW29 BW28_22 AW28
                  try simp only [Act.put, pu1, pu2, pu3, pu4, pu5, pu6]
                  refine WalkT.ready (rs := [23]) (by kernel_rfl) (by simp) ?_
                  refine AllT.cons rfl (fun K hK => ?_) ?_
                  · go_simp
                    refine (pick_any s _ _ [d[kd].port, 0, 9] _ SW29.st (by omega) BW29_22 (by simp) (by simp) (slice_ne qW26)).mono ?_
                    rintro e W30 ⟨v, rfl, ⟨rC, rfl, -⟩, tW30, gW30⟩
                    have SW30 := SW29.step tW30 gW30
                    refine hK.out _ _ (fun _ _ => SW30.sdc hkd) ?_
                    clear hK K SW29 gW30 tW30 BW29_22
                    try simp only [Act.put, pu1, pu2, pu3, pu4, pu5, pu6]
                    have HE := Lib.hid SW30
                    clear SW30
                    obtain ⟨WE, hWE⟩ : ∃ WE : World, WE = W30 := ⟨_, rfl⟩
                    rw [← hWE] at HE ⊢
                    clear hWE
                    (obtain ⟨t0, t1, t2⟩ := HE.out.sdc hkd; have u0 := HE.out.dfree (kd * 3); have u1 := HE.out.dfree (kd * 3 + 1); have u2 := HE.out.dfree (kd * 3 + 2); (refine WalkT.quiet (i := 24) (v := ?_) rfl (by kernel_rfl) (by kernel_rfl) (by kernel_rfl) (fun _ _ _ h => h) (Or.inl ⟨by rfl, ?_⟩) ?_; rotate_left; (· (intro wS hSw; (try dsimp only at hSw); go_simp; try with_reducible rfl)); try simp only [Act.put, pu1, pu2, pu3, pu4, pu5, pu6]); (refine WalkT.quiet (i := 25) (v := ?_) rfl (by kernel_rfl) (by kernel_rfl) (by kernel_rfl) (fun _ _ _ h => h) (Or.inl ⟨by rfl, ?_⟩) ?_; rotate_left; (· (intro wS hSw; (try dsimp only at hSw); go_simp; try with_reducible rfl)); try simp only [Act.put, pu1, pu2, pu3, pu4, pu5, pu6]); (refine WalkT.ready (rs := [26]) (by kernel_rfl) (by simp) (AllT.cons rfl (fun K hK => ?_) AllT.nil); go_simp); (refine hK.out _ _ (fun h => absurd h (by decide)) ?_; clear hK K; try simp only [Act.put, pu1, pu2, pu3, pu4, pu5, pu6]); (refine WalkT.quiet (i := 27) (v := ?_) rfl (by kernel_rfl) (by kernel_rfl) (by kernel_rfl) (fun _ _ _ h => h) (Or.inl ⟨by rfl, ?_⟩) ?_; rotate_left; (· (intro wS hSw; (try dsimp only at hSw); go_simp; try with_reducible rfl)); try simp only [Act.put, pu1, pu2, pu3, pu4, pu5, pu6]); (refine WalkT.quiet (i := 28) (v := ?_) rfl (by kernel_rfl) (by kernel_rfl) (by kernel_rfl) (fun _ _ _ h => h) (Or.inl ⟨by rfl, ?_⟩) ?_; rotate_left; (· (intro wS hSw; (try dsimp only at hSw); go_simp; try with_reducible rfl)); try simp only [Act.put, pu1, pu2, pu3, pu4, pu5, pu6]); (refine WalkT.ready (rs := [29]) (by kernel_rfl) (by simp) (AllT.cons rfl (fun K hK => ?_) AllT.nil); go_simp); (refine hK.out _ _ (fun h => absurd h (by decide)) ?_; clear hK K; try simp only [Act.put, pu1, pu2, pu3, pu4, pu5, pu6]); (refine WalkT.quiet (i := 30) (v := ?_) rfl (by kernel_rfl) (by kernel_rfl) (by kernel_rfl) (fun _ _ _ h => h) (Or.inl ⟨by rfl, ?_⟩) ?_; rotate_left; (· (intro wS hSw; (try dsimp only at hSw); go_simp; try with_reducible rfl)); try simp only [Act.put, pu1, pu2, pu3, pu4, pu5, pu6]); (refine WalkT.quiet (i := 31) (v := ?_) rfl (by kernel_rfl) (by kernel_rfl) (by kernel_rfl) (fun _ _ _ h => h) (Or.inl ⟨by rfl, ?_⟩) ?_; rotate_left; (· (intro wS hSw; (try dsimp only at hSw); go_simp; try with_reducible rfl)); try simp only [Act.put, pu1, pu2, pu3, pu4, pu5, pu6]); (refine WalkT.ready (rs := [32]) (by kernel_rfl) (by simp) (AllT.cons rfl (fun K hK => ?_) AllT.nil); go_simp); (refine hK.out _ _ (fun h => absurd h (by decide)) ?_; clear hK K; try simp only [Act.put, pu1, pu2, pu3, pu4, pu5, pu6]); refine WalkT.done (by kernel_rfl) ?_; clear t0 t1 t2 u0 u1 u2; go_wp2; refine bodyPost_ret (v := .tuple #[]) (by simp [results, go_sem]) rfl ?_; exact ⟨rfl, _, _, l, _, rfl, by simp only [List.length_set]; omega, (((HE.out.put2 rfl kd 0 hkd (by omega) (.string rA) ⟨rA, d[kd].spl, d[kd].port⟩ HCU.out rfl).put2 (by simp) kd 1 (by simpa using hkd) (by omega) (.string rB) ⟨rA, rB, d[kd].port⟩ HCU.out (by rw [List.getElem_set_self]; rfl)).put2 (by simp) kd 2 (by simpa using hkd) (by omega) (.int .i64 rC) ⟨rA, rB, rC⟩ HCU.out (by rw [List.getElem_set_self]; rfl)).mono (by omega)⟩)
                  exact AllT.nil
                exact AllT.nil
              exact AllT.nil
            refine AllT.cons rfl (fun K hK => ?_) ?_
            · go_simp
              refine genStr (C := fun W' => K _ W') s 2 [d[kd].spl, ⟨#[122, 122]⟩] (by rfl) (by rfl) (by simp) ?_
              intro W31 gW31 tW31 AW31
              have SW31 := SW26.step (tW31 _ SW26.st) gW31
              have qW31 : s < W26.heap.size := SW26.st.lt
              have BW31_8 := Arr.grown BW26_8 gW31 (Nat.ne_of_gt qW1)
              have BW31_22 := Arr.grown AW26 gW31 (Nat.ne_of_gt qW26)
              refine hK.out _ _ (fun _ _ => SW31.sdc hkd) ?_
              clear hK K SW26 gW31 tW31 BW26_8 AW26
              try simp only [Act.put, pu1, pu2, pu3, pu4, pu5, pu6]
              refine WalkT.ready (rs := [9]) (by kernel_rfl) (by simp) ?_
              refine AllT.cons rfl (fun K hK => ?_) ?_
              · go_simp
                refine (some_any s _ _ [d[kd].cust, ⟨#[]⟩, ⟨#[107, 49]⟩] _ SW31.st (by omega) BW31_8 (by simp) (by simp) (slice_ne qW1)).mono ?_
                rintro e W32 ⟨v, rfl, ⟨rA, rfl, hm⟩, tW32, gW32⟩
                have HCU := Lib.hid (cu_some (SW31.cu _ (List.getElem_mem hkd)) hm)
                clear hm
                have SW32 := SW31.step tW32 gW32
                have BW32_22 := Arr.grown BW31_22 gW32 (Nat.ne_of_gt qW26)
                have BW32_15 := Arr.grown AW31 gW32 (Nat.ne_of_gt qW31)
                refine hK.out _ _ (fun _ _ => SW32.sdc hkd) ?_
                clear hK K SW31 gW32 tW32 BW31_8 BW31_22 AW31
                try simp only [Act.put, pu1, pu2, pu3, pu4, pu5, pu6]
                refine WalkT.ready (rs := [16]) (by kernel_rfl) (by simp) ?_
                refine AllT.cons rfl (fun K hK => ?_) ?_
                · go_simp
                  refine (some_any s _ _ [d[kd].spl, ⟨#[122, 122]⟩] _ SW32.st (by omega) BW32_15 (by simp) (by simp) (slice_ne qW31)).mono ?_
                  rintro e W33 ⟨v, rfl, ⟨rB, rfl, -⟩, tW33, gW33⟩
                  have SW33 := SW32.step tW33 gW33
                  have BW33_22 := Arr.grown BW32_22 gW33 (Nat.ne_of_gt qW26)
                  refine hK.out _ _ (fun _ _ => SW33.sdc hkd) ?_
                  clear hK K SW32 gW33 tW33 BW32_22 BW32_15
                  try simp only [Act.put, pu1, pu2, pu3, pu4, pu5, pu6]
                  refine WalkT.ready (rs := [23]) (by kernel_rfl) (by simp) ?_
                  refine AllT.cons rfl (fun K hK => ?_) ?_
                  · go_simp
                    refine (pick_any s _ _ [d[kd].port, 0, 9] _ SW33.st (by omega) BW33_22 (by simp) (by simp) (slice_ne qW26)).mono ?_
                    rintro e W34 ⟨v, rfl, ⟨rC, rfl, -⟩, tW34, gW34⟩
                    have SW34 := SW33.step tW34 gW34
                    refine hK.out _ _ (fun _ _ => SW34.sdc hkd) ?_
                    clear hK K SW33 gW34 tW34 BW33_22
                    try simp only [Act.put, pu1, pu2, pu3, pu4, pu5, pu6]
                    have HE := Lib.hid SW34
                    clear SW34
                    obtain ⟨WE, hWE⟩ : ∃ WE : World, WE = W34 := ⟨_, rfl⟩
                    rw [← hWE] at HE ⊢
                    clear hWE
                    (obtain ⟨t0, t1, t2⟩ := HE.out.sdc hkd; have u0 := HE.out.dfree (kd * 3); have u1 := HE.out.dfree (kd * 3 + 1); have u2 := HE.out.dfree (kd * 3 + 2); (refine WalkT.quiet (i := 24) (v := ?_) rfl (by kernel_rfl) (by kernel_rfl) (by kernel_rfl) (fun _ _ _ h => h) (Or.inl ⟨by rfl, ?_⟩) ?_; rotate_left; (· (intro wS hSw; (try dsimp only at hSw); go_simp; try with_reducible rfl)); try simp only [Act.put, pu1, pu2, pu3, pu4, pu5, pu6]); (refine WalkT.quiet (i := 25) (v := ?_) rfl (by kernel_rfl) (by kernel_rfl) (by kernel_rfl) (fun _ _ _ h => h) (Or.inl ⟨by rfl, ?_⟩) ?_; rotate_left; (· (intro wS hSw; (try dsimp only at hSw); go_simp; try with_reducible rfl)); try simp only [Act.put, pu1, pu2, pu3, pu4, pu5, pu6]); (refine WalkT.ready (rs := [26]) (by kernel_rfl) (by simp) (AllT.cons rfl (fun K hK => ?_) AllT.nil); go_simp); (refine hK.out _ _ (fun h => absurd h (by decide)) ?_; clear hK K; try simp only [Act.put, pu1, pu2, pu3, pu4, pu5, pu6]); (refine WalkT.quiet (i := 27) (v := ?_) rfl (by kernel_rfl) (by kernel_rfl) (by kernel_rfl) (fun _ _ _ h => h) (Or.inl ⟨by rfl, ?_⟩) ?_; rotate_left; (· (intro wS hSw; (try dsimp only at hSw); go_simp; try with_reducible rfl)); try simp only [Act.put, pu1, pu2, pu3, pu4, pu5, pu6]); (refine WalkT.quiet (i := 28) (v := ?_) rfl (by kernel_rfl) (by kernel_rfl) (by kernel_rfl) (fun _ _ _ h => h) (Or.inl ⟨by rfl, ?_⟩) ?_; rotate_left; (· (intro wS hSw; (try dsimp only at hSw); go_simp; try with_reducible rfl)); try simp only [Act.put, pu1, pu2, pu3, pu4, pu5, pu6]); (refine WalkT.ready (rs := [29]) (by kernel_rfl) (by simp) (AllT.cons rfl (fun K hK => ?_) AllT.nil); go_simp); (refine hK.out _ _ (fun h => absurd h (by decide)) ?_; clear hK K; try simp only [Act.put, pu1, pu2, pu3, pu4, pu5, pu6]); (refine WalkT.quiet (i := 30) (v := ?_) rfl (by kernel_rfl) (by kernel_rfl) (by kernel_rfl) (fun _ _ _ h => h) (Or.inl ⟨by rfl, ?_⟩) ?_; rotate_left; (· (intro wS hSw; (try dsimp only at hSw); go_simp; try with_reducible rfl)); try simp only [Act.put, pu1, pu2, pu3, pu4, pu5, pu6]); (refine WalkT.quiet (i := 31) (v := ?_) rfl (by kernel_rfl) (by kernel_rfl) (by kernel_rfl) (fun _ _ _ h => h) (Or.inl ⟨by rfl, ?_⟩) ?_; rotate_left; (· (intro wS hSw; (try dsimp only at hSw); go_simp; try with_reducible rfl)); try simp only [Act.put, pu1, pu2, pu3, pu4, pu5, pu6]); (refine WalkT.ready (rs := [32]) (by kernel_rfl) (by simp) (AllT.cons rfl (fun K hK => ?_) AllT.nil); go_simp); (refine hK.out _ _ (fun h => absurd h (by decide)) ?_; clear hK K; try simp only [Act.put, pu1, pu2, pu3, pu4, pu5, pu6]); refine WalkT.done (by kernel_rfl) ?_; clear t0 t1 t2 u0 u1 u2; go_wp2; refine bodyPost_ret (v := .tuple #[]) (by simp [results, go_sem]) rfl ?_; exact ⟨rfl, _, _, l, _, rfl, by simp only [List.length_set]; omega, (((HE.out.put2 rfl kd 0 hkd (by omega) (.string rA) ⟨rA, d[kd].spl, d[kd].port⟩ HCU.out rfl).put2 (by simp) kd 1 (by simpa using hkd) (by omega) (.string rB) ⟨rA, rB, d[kd].port⟩ HCU.out (by rw [List.getElem_set_self]; rfl)).put2 (by simp) kd 2 (by simpa using hkd) (by omega) (.int .i64 rC) ⟨rA, rB, rC⟩ HCU.out (by rw [List.getElem_set_self]; rfl)).mono (by omega)⟩)
                  exact AllT.nil
                exact AllT.nil
              exact AllT.nil
            exact AllT.nil
          exact AllT.nil
        refine AllT.cons rfl (fun K hK => ?_) ?_
        · go_simp
          refine genStr (C := fun W' => K _ W') s 2 [d[kd].spl, ⟨#[122, 122]⟩] (by rfl) (by rfl) (by simp) ?_
          intro W35 gW35 tW35 AW35
          have SW35 := S0.step (tW35 _ S0.st) gW35
          have qW35 : s < W0.heap.size := S0.st.lt
          refine hK.out _ _ (fun _ _ => SW35.sdc hkd) ?_
          clear hK K S0 gW35 tW35
          try simp only [Act.put, pu1, pu2, pu3, pu4, pu5, pu6]
          refine WalkT.ready (rs := [8, 22]) (by kernel_rfl) (by simp) ?_
          refine AllT.cons rfl (fun K hK => ?_) ?_
          · go_simp
            refine genStr (C := fun W' => K _ W') s 3 [d[kd].cust, ⟨#[]⟩, ⟨#[107, 49]⟩] (by rfl) (by rfl) (by simp) ?_
            intro W36 gW36 tW36 AW36
            have SW36 := SW35.step (tW36 _ SW35.st) gW36
            have qW36 : s < W35.heap.size := SW35.st.lt
            have BW36_15 := Arr.grown AW35 gW36 (Nat.ne_of_gt qW35)
            refine hK.out _ _ (fun _ _ => SW36.sdc hkd) ?_
            clear hK K SW35 gW36 tW36 AW35
            try simp only [Act.put, pu1, pu2, pu3, pu4, pu5, pu6]
            refine WalkT.ready (rs := [9, 22]) (by kernel_rfl) (by simp) ?_
            refine AllT.cons rfl (fun K hK => ?_) ?_
            · go_simp
              refine (some_any s _ _ [d[kd].cust, ⟨#[]⟩, ⟨#[107, 49]⟩] _ SW36.st (by omega) AW36 (by simp) (by simp) (slice_ne qW36)).mono ?_
              rintro e W37 ⟨v, rfl, ⟨rA, rfl, hm⟩, tW37, gW37⟩
              have HCU := Lib.hid (cu_some (SW36.cu _ (List.getElem_mem hkd)) hm)
              clear hm
              have SW37 := SW36.step tW37 gW37
              have BW37_15 := Arr.grown BW36_15 gW37 (Nat.ne_of_gt qW35)
              refine hK.out _ _ (fun _ _ => SW37.sdc hkd) ?_
              clear hK K SW36 gW37 tW37 BW36_15 AW36
              try simp only [Act.put, pu1, pu2, pu3, pu4, pu5, pu6]
              refine WalkT.ready (rs := [16, 22]) (by kernel_rfl) (by simp) ?_
              refine AllT.cons rfl (fun K hK => ?_) ?_
              · go_simp
                refine (some_any s _ _ [d[kd].spl, ⟨#[122, 122]⟩] _ SW37.st (by omega) BW37_15 (by simp) (by simp) (slice_ne qW35)).mono ?_
                rintro e W38 ⟨v, rfl, ⟨rB, rfl, -⟩, tW38, gW38⟩
                have SW38 := SW37.step tW38 gW38
                refine hK.out _ _ (fun _ _ => SW38.sdc hkd) ?_
                clear hK K SW37 gW38 tW38 BW37_15
                try simp only [Act.put, pu1, pu2, pu3, pu4, pu5, pu6]
                refine WalkT.ready (rs := [22]) (by kernel_rfl) (by simp) ?_
                refine AllT.cons rfl (fun K hK => ?_) ?_
                · go_simp
                  refine genLit (C := fun W' => K _ W') s 3 [d[kd].port, 0, 9] (by rfl) (by rfl) (by simp) ?_
                  intro W39 gW39 tW39 AW39
                  have SW39 := SW38.step (tW39 _ SW38.st) gW39
                  have qW39 : s < W38.heap.size := SW38.st.lt
                  refine hK.out _ _ (fun _ _ => SW39.sdc hkd) ?_
                  clear hK K SW38 gW39 tW39
                  try simp only [Act.put, pu1, pu2, pu3, pu4, pu5, pu6]
                  refine WalkT.ready (rs := [23]) (by kernel_rfl) (by simp) ?_
                  refine AllT.cons rfl (fun K hK => ?_) ?_
                  · go_simp
                    refine (pick_any s _ _ [d[kd].port, 0, 9] _ SW39.st (by omega) AW39 (by simp) (by simp) (slice_ne qW39)).mono ?_
                    rintro e W40 ⟨v, rfl, ⟨rC, rfl, -⟩, tW40, gW40⟩
                    have SW40 := SW39.step tW40 gW40
                    refine hK.out _ _ (fun _ _ => SW40.sdc hkd) ?_
                    clear hK K SW39 gW40 tW40 AW39
                    try simp only [Act.put, pu1, pu2, pu3, pu4, pu5, pu6]
                    have HE := Lib.hid SW40
                    clear SW40
                    obtain ⟨WE, hWE⟩ : ∃ WE : World, WE = W40 := ⟨_, rfl⟩
                    rw [← hWE] at HE ⊢
                    clear hWE
                    (obtain ⟨t0, t1, t2⟩ := HE.out.sdc hkd; have u0 := HE.out.dfree (kd * 3); have u1 := HE.out.dfree (kd * 3 + 1); have u2 := HE.out.dfree (kd * 3 + 2); (refine WalkT.quiet (i := 24) (v := ?_) rfl (by kernel_rfl) (by kernel_rfl) (by kernel_rfl) (fun _ _ _ h => h) (Or.inl ⟨by rfl, ?_⟩) ?_; rotate_left; (· (intro wS hSw; (try dsimp only at hSw); go_simp; try with_reducible rfl)); try simp only [Act.put, pu1, pu2, pu3, pu4, pu5, pu6]); (refine WalkT.quiet (i := 25) (v := ?_) rfl (by kernel_rfl) (by kernel_rfl) (by kernel_rfl) (fun _ _ _ h => h) (Or.inl ⟨by rfl, ?_⟩) ?_; rotate_left; (· (intro wS hSw; (try dsimp only at hSw); go_simp; try with_reducible rfl)); try simp only [Act.put, pu1, pu2, pu3, pu4, pu5, pu6]); (refine WalkT.ready (rs := [26]) (by kernel_rfl) (by simp) (AllT.cons rfl (fun K hK => ?_) AllT.nil); go_simp); (refine hK.out _ _ (fun h => absurd h (by decide)) ?_; clear hK K; try simp only [Act.put, pu1, pu2, pu3, pu4, pu5, pu6]); (refine WalkT.quiet (i := 27) (v := ?_) rfl (by kernel_rfl) (by kernel_rfl) (by kernel_rfl) (fun _ _ _ h => h) (Or.inl ⟨by rfl, ?_⟩) ?_; rotate_left; (· (intro wS hSw; (try dsimp only at hSw); go_simp; try with_reducible rfl)); try simp only [Act.put, pu1, pu2, pu3, pu4, pu5, pu6]); (refine WalkT.quiet (i := 28) (v := ?_) rfl (by kernel_rfl) (by kernel_rfl) (by kernel_rfl) (fun _ _ _ h => h) (Or.inl ⟨by rfl, ?_⟩) ?_; rotate_left; (· (intro wS hSw; (try dsimp only at hSw); go_simp; try with_reducible rfl)); try simp only [Act.put, pu1, pu2, pu3, pu4, pu5, pu6]); (refine WalkT.ready (rs := [29]) (by kernel_rfl) (by simp) (AllT.cons rfl (fun K hK => ?_) AllT.nil); go_simp); (refine hK.out _ _ (fun h => absurd h (by decide)) ?_; clear hK K; try simp only [Act.put, pu1, pu2, pu3, pu4, pu5, pu6]); (refine WalkT.quiet (i := 30) (v := ?_) rfl (by kernel_rfl) (by kernel_rfl) (by kernel_rfl) (fun _ _ _ h => h) (Or.inl ⟨by rfl, ?_⟩) ?_; rotate_left; (· (intro wS hSw; (try dsimp only at hSw); go_simp; try with_reducible rfl)); try simp only [Act.put, pu1, pu2, pu3, pu4, pu5, pu6]); (refine WalkT.quiet (i := 31) (v := ?_) rfl (by kernel_rfl) (by kernel_rfl) (by kernel_rfl) (fun _ _ _ h => h) (Or.inl ⟨by rfl, ?_⟩) ?_; rotate_left; (· (intro wS hSw; (try dsimp only at hSw); go_simp; try with_reducible rfl)); try simp only [Act.put, pu1, pu2, pu3, pu4, pu5, pu6]); (refine WalkT.ready (rs := [32]) (by kernel_rfl) (by simp) (AllT.cons rfl (fun K hK => ?_) AllT.nil); go_simp); (refine hK.out _ _ (fun h => absurd h (by decide)) ?_; clear hK K; try simp only [Act.put, pu1, pu2, pu3, pu4, pu5, pu6]); refine WalkT.done (by kernel_rfl) ?_; clear t0 t1 t2 u0 u1 u2; go_wp2; refine bodyPost_ret (v := .tuple #[]) (by simp [results, go_sem]) rfl ?_; exact ⟨rfl, _, _, l, _, rfl, by simp only [List.length_set]; omega, (((HE.out.put2 rfl kd 0 hkd (by omega) (.string rA) ⟨rA, d[kd].spl, d[kd].port⟩ HCU.out rfl).put2 (by simp) kd 1 (by simpa using hkd) (by omega) (.string rB) ⟨rA, rB, d[kd].port⟩ HCU.out (by rw [List.getElem_set_self]; rfl)).put2 (by simp) kd 2 (by simpa using hkd) (by omega) (.int .i64 rC) ⟨rA, rB, rC⟩ HCU.out (by rw [List.getElem_set_self]; rfl)).mono (by omega)⟩)
                  exact AllT.nil
                exact AllT.nil
              refine AllT.cons rfl (fun K hK => ?_) ?_
              · go_simp
                refine genLit (C := fun W' => K _ W') s 3 [d[kd].port, 0, 9] (by rfl) (by rfl) (by simp) ?_
                intro W41 gW41 tW41 AW41
                have SW41 := SW37.step (tW41 _ SW37.st) gW41
                have qW41 : s < W37.heap.size := SW37.st.lt
                have BW41_15 := Arr.grown BW37_15 gW41 (Nat.ne_of_gt qW35)
                refine hK.out _ _ (fun _ _ => SW41.sdc hkd) ?_
                clear hK K SW37 gW41 tW41 BW37_15
                try simp only [Act.put, pu1, pu2, pu3, pu4, pu5, pu6]
                refine WalkT.ready (rs := [16]) (by kernel_rfl) (by simp) ?_
                refine AllT.cons rfl (fun K hK => ?_) ?_
                · go_simp
                  refine (some_any s _ _ [d[kd].spl, ⟨#[122, 122]⟩] _ SW41.st (by omega) BW41_15 (by simp) (by simp) (slice_ne qW35)).mono ?_
                  rintro e W42 ⟨v, rfl, ⟨rB, rfl, -⟩, tW42, gW42⟩
                  have SW42 := SW41.step tW42 gW42
                  have BW42_22 := Arr.grown AW41 gW42 (Nat.ne_of_gt qW41)
                  refine hK.out _ _ (fun _ _ => SW42.sdc hkd) ?_
                  clear hK K SW41 gW42 tW42 BW41_15 AW41
                  try simp only [Act.put, pu1, pu2, pu3, pu4, pu5, pu6]
                  refine WalkT.ready (rs := [23]) (by kernel_rfl) (by simp) ?_
                  refine AllT.cons rfl (fun K hK => ?_) ?_
                  · go_simp
                    refine (pick_any s _ _ [d[kd].port, 0, 9] _ SW42.st (by omega) BW42_22 (by simp) (by simp) (slice_ne qW41)).mono ?_
                    rintro e W43 ⟨v, rfl, ⟨rC, rfl, -⟩, tW43, gW43⟩
                    have SW43 := SW42.step tW43 gW43
                    refine hK.out _ _ (fun _ _ => SW43.sdc hkd) ?_
                    clear hK K SW42 gW43 tW43 BW42_22
                    try simp only [Act.put, pu1, pu2, pu3, pu4, pu5, pu6]
                    have HE := Lib.hid SW43
                    clear SW43
                    obtain ⟨WE, hWE⟩ : ∃ WE : World, WE = W43 := ⟨_, rfl⟩
                    rw [← hWE] at HE ⊢
                    clear hWE
                    (obtain ⟨t0, t1, t2⟩ := HE.out.sdc hkd; have u0 := HE.out.dfree (kd * 3); have u1 := HE.out.dfree (kd * 3 + 1); have u2 := HE.out.dfree (kd * 3 + 2); (refine WalkT.quiet (i := 24) (v := ?_) rfl (by kernel_rfl) (by kernel_rfl) (by kernel_rfl) (fun _ _ _ h => h) (Or.inl ⟨by rfl, ?_⟩) ?_; rotate_left; (· (intro wS hSw; (try dsimp only at hSw); go_simp; try with_reducible rfl)); try simp only [Act.put, pu1, pu2, pu3, pu4, pu5, pu6]); (refine WalkT.quiet (i := 25) (v := ?_) rfl (by kernel_rfl) (by kernel_rfl) (by kernel_rfl) (fun _ _ _ h => h) (Or.inl ⟨by rfl, ?_⟩) ?_; rotate_left; (· (intro wS hSw; (try dsimp only at hSw); go_simp; try with_reducible rfl)); try simp only [Act.put, pu1, pu2, pu3, pu4, pu5, pu6]); (refine WalkT.ready (rs := [26]) (by kernel_rfl) (by simp) (AllT.cons rfl (fun K hK => ?_) AllT.nil); go_simp); (refine hK.out _ _ (fun h => absurd h (by decide)) ?_; clear hK K; try simp only [Act.put, pu1, pu2, pu3, pu4, pu5, pu6]); (refine WalkT.quiet (i := 27) (v := ?_) rfl (by kernel_rfl) (by kernel_rfl) (by kernel_rfl) (fun _ _ _ h => h) (Or.inl ⟨by rfl, ?_⟩) ?_; rotate_left; (· (intro wS hSw; (try dsimp only at hSw); go_simp; try with_reducible rfl)); try simp only [Act.put, pu1, pu2, pu3, pu4, pu5, pu6]); (refine WalkT.quiet (i := 28) (v := ?_) rfl (by kernel_rfl) (by kernel_rfl) (by kernel_rfl) (fun _ _ _ h => h) (Or.inl ⟨by rfl, ?_⟩) ?_; rotate_left; (· (intro wS hSw; (try dsimp only at hSw); go_simp; try with_reducible rfl)); try simp only [Act.put, pu1, pu2, pu3, pu4, pu5, pu6]); (refine WalkT.ready (rs := [29]) (by kernel_rfl) (by simp) (AllT.cons rfl (fun K hK => ?_) AllT.nil); go_simp); (refine hK.out _ _ (fun h => absurd h (by decide)) ?_; clear hK K; try simp only [Act.put, pu1, pu2, pu3, pu4, pu5, pu6]); (refine WalkT.quiet (i := 30) (v := ?_) rfl (by kernel_rfl) (by kernel_rfl) (by kernel_rfl) (fun _ _ _ h => h) (Or.inl ⟨by rfl, ?_⟩) ?_; rotate_left; (· (intro wS hSw; (try dsimp only at hSw); go_simp; try with_reducible rfl)); try simp only [Act.put, pu1, pu2, pu3, pu4, pu5, pu6]); (refine WalkT.quiet (i := 31) (v := ?_) rfl (by kernel_rfl) (by kernel_rfl) (by kernel_rfl) (fun _ _ _ h => h) (Or.inl ⟨by rfl, ?_⟩) ?_; rotate_left; (· (intro wS hSw; (try dsimp only at hSw); go_simp; try with_reducible rfl)); try simp only [Act.put, pu1, pu2, pu3, pu4, pu5, pu6]); (refine WalkT.ready (rs := [32]) (by kernel_rfl) (by simp) (AllT.cons rfl (fun K hK => ?_) AllT.nil); go_simp); (refine hK.out _ _ (fun h => absurd h (by decide)) ?_; clear hK K; try simp only [Act.put, pu1, pu2, pu3, pu4, pu5, pu6]); refine WalkT.done (by kernel_rfl) ?_; clear t0 t1 t2 u0 u1 u2; go_wp2; refine bodyPost_ret (v := .tuple #[]) (by simp [results, go_sem]) rfl ?_; exact ⟨rfl, _, _, l, _, rfl, by simp only [List.length_set]; omega, (((HE.out.put2 rfl kd 0 hkd (by omega) (.string rA) ⟨rA, d[kd].spl, d[kd].port⟩ HCU.out rfl).put2 (by simp) kd 1 (by simpa using hkd) (by omega) (.string rB) ⟨rA, rB, d[kd].port⟩ HCU.out (by rw [List.getElem_set_self]; rfl)).put2 (by simp) kd 2 (by simpa using hkd) (by omega) (.int .i64 rC) ⟨rA, rB, rC⟩ HCU.out (by rw [List.getElem_set_self]; rfl)).mono (by omega)⟩)
                  exact AllT.nil
                exact AllT.nil
              exact AllT.nil
            refine AllT.cons rfl (fun K hK => ?_) ?_
            · go_simp
              refine genLit (C := fun W' => K _ W') s 3 [d[kd].port, 0, 9] (by rfl) (by rfl) (by simp) ?_
              intro W44 gW44 tW44 AW44
              have SW44 := SW36.step (tW44 _ SW36.st) gW44
              have qW44 : s < W36.heap.size := SW36.st.lt
              have BW44_15 := Arr.grown BW36_15 gW44 (Nat.ne_of_gt qW35)
              have BW44_8 := Arr.grown AW36 gW44 (Nat.ne_of_gt qW36)
              refine hK.out _ _ (fun _ _ => SW44.sdc hkd) ?_
              clear hK K SW36 gW44 tW44 BW36_15 AW36
              try simp only [Act.put, pu1, pu2, pu3, pu4, pu5, pu6]
              refine WalkT.ready (rs := [9]) (by kernel_rfl) (by simp) ?_
              refine AllT.cons rfl (fun K hK => ?_) ?_
              · go_simp
                refine (some_any s _ _ [d[kd].cust, ⟨#[]⟩, ⟨#[107, 49]⟩] _ SW44.st (by omega) BW44_8 (by simp) (by simp) (slice_ne qW36)).mono ?_
                rintro e W45 ⟨v, rfl, ⟨rA, rfl, hm⟩, tW45, gW45⟩
                have HCU := Lib.hid (cu_some (SW44.cu _ (List.getElem_mem hkd)) hm)
                clear hm
                have SW45 := SW44.step tW45 gW45
                have BW45_15 := Arr.grown BW44_15 gW45 (Nat.ne_of_gt qW35)
                have BW45_22 := Arr.grown AW44 gW45 (Nat.ne_of_gt qW44)
                refine hK.out _ _ (fun _ _ => SW45.sdc hkd) ?_
                clear hK K SW44 gW45 tW45 BW44_15 BW44_8 AW44
                try simp only [Act.put, pu1, pu2, pu3, pu4, pu5, pu6]
                refine WalkT.ready (rs := [16]) (by kernel_rfl) (by simp) ?_
                refine AllT.cons rfl (fun K hK => ?_) ?_
                · go_simp
                  refine (some_any s _ _ [d[kd].spl, ⟨#[122, 122]⟩] _ SW45.st (by omega) BW45_15 (by simp) (by simp) (slice_ne qW35)).mono ?_
                  rintro e W46 ⟨v, rfl, ⟨rB, rfl, -⟩, tW46, gW46⟩
                  have SW46 := SW45.step tW46 gW46
                  have BW46_22 := Arr.grown BW45_22 gW46 (Nat.ne_of_gt qW44)
                  refine hK.out _ _ (fun _ _ => SW46.sdc hkd) ?_
                  clear hK K SW45 gW46 tW46 BW45_15 BW45_22
                  try simp only [Act.put, pu1, pu2, pu3, pu4, pu5, pu6]
                  refine WalkT.ready (rs := [23]) (by kernel_rfl) (by simp) ?_
                  refine AllT.cons rfl (fun K hK => ?_) ?_
                  · go_simp
                    refine (pick_any s _ _ [d[kd].port, 0, 9] _ SW46.st (by omega) BW46_22 (by simp) (by simp) (slice_ne qW44)).mono ?_
                    rintro e W47 ⟨v, rfl, ⟨rC, rfl, -⟩, tW47, gW47⟩
                    have SW47 := SW46.step tW47 gW47
                    refine hK.out _ _ (fun _ _ => SW47.sdc hkd) ?_
                    clear hK K SW46 gW47 tW47 BW46_22
                    try simp only [Act.put, pu1, pu2, pu3, pu4, pu5, pu6]
                    have HE := Lib.hid SW47
                    clear SW47
                    obtain ⟨WE, hWE⟩ : ∃ WE : World, WE = W47 := ⟨_, rfl⟩
                    rw [← hWE] at HE ⊢
                    clear hWE
                    (obtain ⟨t0, t1, t2⟩ := HE.out.sdc hkd; have u0 := HE.out.dfree (kd * 3); have u1 := HE.out.dfree (kd * 3 + 1); have u2 := HE.out.dfree (kd * 3 + 2); (refine WalkT.quiet (i := 24) (v := ?_) rfl (by kernel_rfl) (by kernel_rfl) (by kernel_rfl) (fun _ _ _ h => h) (Or.inl ⟨by rfl, ?_⟩) ?_; rotate_left; (· (intro wS hSw; (try dsimp only at hSw); go_simp; try with_reducible rfl)); try simp only [Act.put, pu1, pu2, pu3, pu4, pu5, pu6]); (refine WalkT.quiet (i := 25) (v := ?_) rfl (by kernel_rfl) (by kernel_rfl) (by kernel_rfl) (fun _ _ _ h => h) (Or.inl ⟨by rfl, ?_⟩) ?_; rotate_left; (· (intro wS hSw; (try dsimp only at hSw); go_simp; try with_reducible rfl)); try simp only [Act.put, pu1, pu2, pu3, pu4, pu5, pu6]); (refine WalkT.ready (rs := [26]) (by kernel_rfl) (by simp) (AllT.cons rfl (fun K hK => ?_) AllT.nil); go_simp); (refine hK.out _ _ (fun h => absurd h (by decide)) ?_; clear hK K; try simp only [Act.put, pu1, pu2, pu3, pu4, pu5, pu6]); (refine WalkT.quiet (i := 27) (v := ?_) rfl (by kernel_rfl) (by kernel_rfl) (by kernel_rfl) (fun _ _ _ h => h) (Or.inl ⟨by rfl, ?_⟩) ?_; rotate_left; (· (intro wS hSw; (try dsimp only at hSw); go_simp; try with_reducible rfl)); try simp only [Act.put, pu1, pu2, pu3, pu4, pu5, pu6]); (refine WalkT.quiet (i := 28) (v := ?_) rfl (by kernel_rfl) (by kernel_rfl) (by kernel_rfl) (fun _ _ _ h => h) (Or.inl ⟨by rfl, ?_⟩) ?_; rotate_left; (· (intro wS hSw; (try dsimp only at hSw); go_simp; try with_reducible rfl)); try simp only [Act.put, pu1, pu2, pu3, pu4, pu5, pu6]); (refine WalkT.ready (rs := [29]) (by kernel_rfl) (by simp) (AllT.cons rfl (fun K hK => ?_) AllT.nil); go_simp); (refine hK.out _ _ (fun h => absurd h (by decide)) ?_; clear hK K; try simp only [Act.put, pu1, pu2, pu3, pu4, pu5, pu6]); (refine WalkT.quiet (i := 30) (v := ?_) rfl (by kernel_rfl) (by kernel_rfl) (by kernel_rfl) (fun _ _ _ h => h) (Or.inl ⟨by rfl, ?_⟩) ?_; rotate_left; (· (intro wS hSw; (try dsimp only at hSw); go_simp; try with_reducible rfl)); try simp only [Act.put, pu1, pu2, pu3, pu4, pu5, pu6]); (refine WalkT.quiet (i := 31) (v := ?_) rfl (by kernel_rfl) (by kernel_rfl) (by kernel_rfl) (fun _ _ _ h => h) (Or.inl ⟨by rfl, ?_⟩) ?_; rotate_left; (· (intro wS hSw; (try dsimp only at hSw); go_simp; try with_reducible rfl)); try simp only [Act.put, pu1, pu2, pu3, pu4, pu5, pu6]); (refine WalkT.ready (rs := [32]) (by kernel_rfl) (by simp) (AllT.cons rfl (fun K hK => ?_) AllT.nil); go_simp); (refine hK.out _ _ (fun h => absurd h (by decide)) ?_; clear hK K; try simp only [Act.put, pu1, pu2, pu3, pu4, pu5, pu6]); refine WalkT.done (by kernel_rfl) ?_; clear t0 t1 t2 u0 u1 u2; go_wp2; refine bodyPost_ret (v := .tuple #[]) (by simp [results, go_sem]) rfl ?_; exact ⟨rfl, _, _, l, _, rfl, by simp only [List.length_set]; omega, (((HE.out.put2 rfl kd 0 hkd (by omega) (.string rA) ⟨rA, d[kd].spl, d[kd].port⟩ HCU.out rfl).put2 (by simp) kd 1 (by simpa using hkd) (by omega) (.string rB) ⟨rA, rB, d[kd].port⟩ HCU.out (by rw [List.getElem_set_self]; rfl)).put2 (by simp) kd 2 (by simpa using hkd) (by omega) (.int .i64 rC) ⟨rA, rB, rC⟩ HCU.out (by rw [List.getElem_set_self]; rfl)).mono (by omega)⟩)
                  exact AllT.nil
                exact AllT.nil
              exact AllT.nil
            exact AllT.nil
          refine AllT.cons rfl (fun K hK => ?_) ?_
          · go_simp
            refine genLit (C := fun W' => K _ W') s 3 [d[kd].port, 0, 9] (by rfl) (by rfl) (by simp) ?_
            intro W48 gW48 tW48 AW48
            have SW48 := SW35.step (tW48 _ SW35.st) gW48
            have qW48 : s < W35.heap.size := SW35.st.lt
            have BW48_15 := Arr.grown AW35 gW48 (Nat.ne_of_gt qW35)
            refine hK.out _ _ (fun _ _ => SW48.sdc hkd) ?_
            clear hK K SW35 gW48 tW48 AW35
            try simp only [Act.put, pu1, pu2, pu3, pu4, pu5, pu6]
            refine WalkT.ready (rs := [8]) (by kernel_rfl) (by simp) ?_
            refine AllT.cons rfl (fun K hK => ?_) ?_
            · go_simp
              refine genStr (C := fun W' => K _ W') s 3 [d[kd].cust, ⟨#[]⟩, ⟨#[107, 49]⟩] (by rfl) (by rfl) (by simp) ?_
              intro W49 gW49 tW49 AW49
              have SW49 := SW48.step (tW49 _ SW48.st) gW49
              have qW49 : s < W48.heap.size := SW48.st.lt
              have BW49_15 := Arr.grown BW48_15 gW49 (Nat.ne_of_gt qW35)
              have BW49_22 := Arr.grown AW48 gW49 (Nat.ne_of_gt qW48)
              refine hK.out _ _ (fun _ _ => SW49.sdc hkd) ?_
              clear hK K SW48 gW49 tW49 BW48_15 AW48
              try simp only [Act.put, pu1, pu2, pu3, pu4, pu5, pu6]
              refine WalkT.ready (rs := [9]) (by kernel_rfl) (by simp) ?_
              refine AllT.cons rfl (fun K hK => ?_) ?_
              · go_simp
                refine (some_any s _ _ [d[kd].cust, ⟨#[]⟩, ⟨#[107, 49]⟩] _ SW49.st (by omega) AW49 (by simp) (by simp) (slice_ne qW49)).mono ?_
                rintro e W50 ⟨v, rfl, ⟨rA, rfl, hm⟩, tW50, gW50⟩
                have HCU := Lib.hid (cu_some (SW49.cu _ (List.getElem_mem hkd)) hm)
                clear hm
                have SW50 := SW49.step tW50 gW50
                have BW50_15 := Arr.grown BW49_15 gW50 (Nat.ne_of_gt qW35)
                have BW50_22 := Arr.grown BW49_22 gW50 (Nat.ne_of_gt qW48)
                refine hK.out _ _ (fun _ _ => SW50.sdc hkd) ?_
                clear hK K SW49 gW50 tW50 BW49_15 BW49_22 AW49
                try simp only [Act.put, pu1, pu2, pu3, pu4, pu5, pu6]
                refine WalkT.ready (rs := [16]) (by kernel_rfl) (by simp) ?_
                refine AllT.cons rfl (fun K hK => ?_) ?_
                · go_simp
                  refine (some_any s _ _ [d[kd].spl, ⟨#[122, 122]⟩] _ SW50.st (by omega) BW50_15 (by simp) (by simp) (slice_ne qW35)).mono ?_
                  rintro e W51 ⟨v, rfl, ⟨rB, rfl, -⟩, tW51, gW51⟩
                  have SW51 := SW50.step tW51 gW51
                  have BW51_22 := Arr.grown BW50_22 gW51 (Nat.ne_of_gt qW48)
                  refine hK.out _ _ (fun _ _ => SW51.sdc hkd) ?_
                  clear hK K SW50 gW51 tW51 BW50_15 BW50_22
                  try simp only [Act.put, pu1, pu2, pu3, pu4, pu5, pu6]
                  refine WalkT.ready (rs := [23]) (by kernel_rfl) (by simp) ?_
                  refine AllT.cons rfl (fun K hK => ?_) ?_
                  · go_simp
                    refine (pick_any s _ _ [d[kd].port, 0, 9] _ SW51.st (by omega) BW51_22 (by simp) (by simp) (slice_ne qW48)).mono ?_
                    rintro e W52 ⟨v, rfl, ⟨rC, rfl, -⟩, tW52, gW52⟩
                    have SW52 := SW51.step tW52 gW52
                    refine hK.out _ _ (fun _ _ => SW52.sdc hkd) ?_
                    clear hK K SW51 gW52 tW52 BW51_22
                    try simp only [Act.put, pu1, pu2, pu3, pu4, pu5, pu6]
                    have HE := Lib.hid SW52
                    clear SW52
                    obtain ⟨WE, hWE⟩ : ∃ WE : World, WE = W52 := ⟨_, rfl⟩
                    rw [← hWE] at HE ⊢
                    clear hWE
                    (obtain ⟨t0, t1, t2⟩ := HE.out.sdc hkd; have u0 := HE.out.dfree (kd * 3); have u1 := HE.out.dfree (kd * 3 + 1); have u2 := HE.out.dfree (kd * 3 + 2); (refine WalkT.quiet (i := 24) (v := ?_) rfl (by kernel_rfl) (by kernel_rfl) (by kernel_rfl) (fun _ _ _ h => h) (Or.inl ⟨by rfl, ?_⟩) ?_; rotate_left; (· (intro wS hSw; (try dsimp only at hSw); go_simp; try with_reducible rfl)); try simp only [Act.put, pu1, pu2, pu3, pu4, pu5, pu6]); (refine WalkT.quiet (i := 25) (v := ?_) rfl (by kernel_rfl) (by kernel_rfl) (by kernel_rfl) (fun _ _ _ h => h) (Or.inl ⟨by rfl, ?_⟩) ?_; rotate_left; (· (intro wS hSw; (try dsimp only at hSw); go_simp; try with_reducible rfl)); try simp only [Act.put, pu1, pu2, pu3, pu4, pu5, pu6]); (refine WalkT.ready (rs := [26]) (by kernel_rfl) (by simp) (AllT.cons rfl (fun K hK => ?_) AllT.nil); go_simp); (refine hK.out _ _ (fun h => absurd h (by decide)) ?_; clear hK K; try simp only [Act.put, pu1, pu2, pu3, pu4, pu5, pu6]); (refine WalkT.quiet (i := 27) (v := ?_) rfl (by kernel_rfl) (by kernel_rfl) (by kernel_rfl) (fun _ _ _ h => h) (Or.inl ⟨by rfl, ?_⟩) ?_; rotate_left; (· (intro wS hSw; (try dsimp only at hSw); go_simp; try with_reducible rfl)); try simp only [Act.put, pu1, pu2, pu3, pu4, pu5, pu6]); (refine WalkT.quiet (i := 28) (v := ?_) rfl (by kernel_rfl) (by kernel_rfl) (by kernel_rfl) (fun _ _ _ h => h) (Or.inl ⟨by rfl, ?_⟩) ?_; rotate_left; (· (intro wS hSw; (try dsimp only at hSw); go_simp; try with_reducible rfl)); try simp only [Act.put, pu1, pu2, pu3, pu4, pu5, pu6]); (refine WalkT.ready (rs := [29]) (by kernel_rfl) (by simp) (AllT.cons rfl (fun K hK => ?_) AllT.nil); go_simp); (refine hK.out _ _ (fun h => absurd h (by decide)) ?_; clear hK K; try simp only [Act.put, pu1, pu2, pu3, pu4, pu5, pu6]); (refine WalkT.quiet (i := 30) (v := ?_) rfl (by kernel_rfl) (by kernel_rfl) (by kernel_rfl) (fun _ _ _ h => h) (Or.inl ⟨by rfl, ?_⟩) ?_; rotate_left; (· (intro wS hSw; (try dsimp only at hSw); go_simp; try with_reducible rfl)); try simp only [Act.put, pu1, pu2, pu3, pu4, pu5, pu6]); (refine WalkT.quiet (i := 31) (v := ?_) rfl (by kernel_rfl) (by kernel_rfl) (by kernel_rfl) (fun _ _ _ h => h) (Or.inl ⟨by rfl, ?_⟩) ?_; rotate_left; (· (intro wS hSw; (try dsimp only at hSw); go_simp; try with_reducible rfl)); try simp only [Act.put, pu1, pu2, pu3, pu4, pu5, pu6]); (refine WalkT.ready (rs := [32]) (by kernel_rfl) (by simp) (AllT.cons rfl (fun K hK => ?_) AllT.nil); go_simp); (refine hK.out _ _ (fun h => absurd h (by decide)) ?_; clear hK K; try simp only [Act.put, pu1, pu2, pu3, pu4, pu5, pu6]); refine WalkT.done (by kernel_rfl) ?_; clear t0 t1 t2 u0 u1 u2; go_wp2; refine bodyPost_ret (v := .tuple #[]) (by simp [results, go_sem]) rfl ?_; exact ⟨rfl, _, _, l, _, rfl, by simp only [List.length_set]; omega, (((HE.out.put2 rfl kd 0 hkd (by omega) (.string rA) ⟨rA, d[kd].spl, d[kd].port⟩ HCU.out rfl).put2 (by simp) kd 1 (by simpa using hkd) (by omega) (.string rB) ⟨rA, rB, d[kd].port⟩ HCU.out (by rw [List.getElem_set_self]; rfl)).put2 (by simp) kd 2 (by simpa using hkd) (by omega) (.int .i64 rC) ⟨rA, rB, rC⟩ HCU.out (by rw [List.getElem_set_self]; rfl)).mono (by omega)⟩)
                  exact AllT.nil
                exact AllT.nil
              exact AllT.nil
            exact AllT.nil
          exact AllT.nil
        refine AllT.cons rfl (fun K hK => ?_) ?_
        · go_simp
          refine genLit (C := fun W' => K _ W') s 3 [d[kd].port, 0, 9] (by rfl) (by rfl) (by simp) ?_
          intro W53 gW53 tW53 AW53
          have SW53 := S0.step (tW53 _ S0.st) gW53
          have qW53 : s < W0.heap.size := S0.st.lt
          refine hK.out _ _ (fun _ _ => SW53.sdc hkd) ?_
          clear hK K S0 gW53 tW53
          try simp only [Act.put, pu1, pu2, pu3, pu4, pu5, pu6]
          refine WalkT.ready (rs := [8, 15]) (by kernel_rfl) (by simp) ?_
          refine AllT.cons rfl (fun K hK => ?_) ?_
          · go_simp
            refine genStr (C := fun W' => K _ W') s 3 [d[kd].cust, ⟨#[]⟩, ⟨#[107, 49]⟩] (by rfl) (by rfl) (by simp) ?_
            intro W54 gW54 tW54 AW54
            have SW54 := SW53.step (tW54 _ SW53.st) gW54
            have qW54 : s < W53.heap.size := SW53.st.lt
            have BW54_22 := Arr.grown AW53 gW54 (Nat.ne_of_gt qW53)
            refine hK.out _ _ (fun _ _ => SW54.sdc hkd) ?_
            clear hK K SW53 gW54 tW54 AW53
            try simp only [Act.put, pu1, pu2, pu3, pu4, pu5, pu6]
            refine WalkT.ready (rs := [9, 15]) (by kernel_rfl) (by simp) ?_
            refine AllT.cons rfl (fun K hK => ?_) ?_
            · go_simp
              refine (some_any s _ _ [d[kd].cust, ⟨#[]⟩, ⟨#[107, 49]⟩] _ SW54.st (by omega) AW54 (by simp) (by simp) (slice_ne qW54)).mono ?_
              rintro e W55 ⟨v, rfl, ⟨rA, rfl, hm⟩, tW55, gW55⟩
              have HCU := Lib.hid (cu_some (SW54.cu _ (List.getElem_mem hkd)) hm)
              clear hm
              have SW55 := SW54.step tW55 gW55
              have BW55_22 := Arr.grown BW54_22 gW55 (Nat.ne_of_gt qW53)
              refine hK.out _ _ (fun _ _ => SW55.sdc hkd) ?_
              clear hK K SW54 gW55 tW55 BW54_22 AW54
              try simp only [Act.put, pu1, pu2, pu3, pu4, pu5, pu6]
              refine WalkT.ready (rs := [15]) (by kernel_rfl) (by simp) ?_
              refine AllT.cons rfl (fun K hK => ?_) ?_
              · go_simp
                refine genStr (C := fun W' => K _ W') s 2 [d[kd].spl, ⟨#[122, 122]⟩] (by rfl) (by rfl) (by simp) ?_
                intro W56 gW56 tW56 AW56
                have SW56 := SW55.step (tW56 _ SW55.st) gW56
                have qW56 : s < W55.heap.size := SW55.st.lt
                have BW56_22 := Arr.grown BW55_22 gW56 (Nat.ne_of_gt qW53)
                refine hK.out _ _ (fun _ _ => SW56.sdc hkd) ?_
                clear hK K SW55 gW56 tW56 BW55_22
                try simp only [Act.put, pu1, pu2, pu3, pu4, pu5, pu6]
                refine WalkT.ready (rs := [16]) (by kernel_rfl) (by simp) ?_
                refine AllT.cons rfl (fun K hK => ?_) ?_
                · go_simp
                  refine (some_any s _ _ [d[kd].spl, ⟨#[122, 122]⟩] _ SW56.st (by omega) AW56 (by simp) (by simp) (slice_ne qW56)).mono ?_
                  rintro e W57 ⟨v, rfl, ⟨rB, rfl, -⟩, tW57, gW57⟩
                  have SW57 := SW56.step tW57 gW57
                  have BW57_22 := Arr.grown BW56_22 gW57 (Nat.ne_of_gt qW53)
                  refine hK.out _ _ (fun _ _ => SW57.sdc hkd) ?_
                  clear hK K SW56 gW57 tW57 BW56_22 AW56
                  try simp only [Act.put, pu1, pu2, pu3, pu4, pu5, pu6]
                  refine WalkT.ready (rs := [23]) (by kernel_rfl) (by simp) ?_
                  refine AllT.cons rfl (fun K hK => ?_) ?_
                  · go_simp
                    refine (pick_any s _ _ [d[kd].port, 0, 9] _ SW57.st (by omega) BW57_22 (by simp) (by simp) (slice_ne qW53)).mono ?_
                    rintro e W58 ⟨v, rfl, ⟨rC, rfl, -⟩, tW58, gW58⟩
                    have SW58 := SW57.step tW58 gW58
                    refine hK.out _ _ (fun _ _ => SW58.sdc hkd) ?_
                    clear hK K SW57 gW58 tW58 BW57_22
                    try simp only [Act.put, pu1, pu2, pu3, pu4, pu5, pu6]
                    have HE := Lib.hid SW58
                    clear SW58
                    obtain ⟨WE, hWE⟩ : ∃ WE : World, WE = W58 := ⟨_, rfl⟩
                    rw [← hWE] at HE ⊢
                    clear hWE
                    (obtain ⟨t0, t1, t2⟩ := HE.out.sdc hkd; have u0 := HE.out.dfree (kd * 3); have u1 := HE.out.dfree (kd * 3 + 1); have u2 := HE.out.dfree (kd * 3 + 2); (refine WalkT.quiet (i := 24) (v := ?_) rfl (by kernel_rfl) (by kernel_rfl) (by kernel_rfl) (fun _ _ _ h => h) (Or.inl ⟨by rfl, ?_⟩) ?_; rotate_left; (· (intro wS hSw; (try dsimp only at hSw); go_simp; try with_reducible rfl)); try simp only [Act.put, pu1, pu2, pu3, pu4, pu5, pu6]); (refine WalkT.quiet (i := 25) (v := ?_) rfl (by kernel_rfl) (by kernel_rfl) (by kernel_rfl) (fun _ _ _ h => h) (Or.inl ⟨by rfl, ?_⟩) ?_; rotate_left; (· (intro wS hSw; (try dsimp only at hSw); go_simp; try with_reducible rfl)); try simp only [Act.put, pu1, pu2, pu3, pu4, pu5, pu6]); (refine WalkT.ready (rs := [26]) (by kernel_rfl) (by simp) (AllT.cons rfl (fun K hK => ?_) AllT.nil); go_simp); (refine hK.out _ _ (fun h => absurd h (by decide)) ?_; clear hK K; try simp only [Act.put, pu1, pu2, pu3, pu4, pu5, pu6]); (refine WalkT.quiet (i := 27) (v := ?_) rfl (by kernel_rfl) (by kernel_rfl) (by kernel_rfl) (fun _ _ _ h => h) (Or.inl ⟨by rfl, ?_⟩) ?_; rotate_left; (· (intro wS hSw; (try dsimp only at hSw); go_simp; try with_reducible rfl)); try simp only [Act.put, pu1, pu2, pu3, pu4, pu5, pu6]); (refine WalkT.quiet (i := 28) (v := ?_) rfl (by kernel_rfl) (by kernel_rfl) (by kernel_rfl) (fun _ _ _ h => h) (Or.inl ⟨by rfl, ?_⟩) ?_; rotate_left; (· (intro wS hSw; (try dsimp only at hSw); go_simp; try with_reducible rfl)); try simp only [Act.put, pu1, pu2, pu3, pu4, pu5, pu6]); (refine WalkT.ready (rs := [29]) (by kernel_rfl) (by simp) (AllT.cons rfl (fun K hK => ?_) AllT.nil); go_simp); (refine hK.out _ _ (fun h => absurd h (by decide)) ?_; clear hK K; try simp only [Act.put, pu1, pu2, pu3, pu4, pu5, pu6]); (refine WalkT.quiet (i := 30) (v := ?_) rfl (by kernel_rfl) (by kernel_rfl) (by kernel_rfl) (fun _ _ _ h => h) (Or.inl ⟨by rfl, ?_⟩) ?_; rotate_left; (· (intro wS hSw; (try dsimp only at hSw); go_simp; try with_reducible rfl)); try simp only [Act.put, pu1, pu2, pu3, pu4, pu5, pu6]); (refine WalkT.quiet (i := 31) (v := ?_) rfl (by kernel_rfl) (by kernel_rfl) (by kernel_rfl) (fun _ _ _ h => h) (Or.inl ⟨by rfl, ?_⟩) ?_; rotate_left; (· (intro wS hSw; (try dsimp only at hSw); go_simp; try with_reducible rfl)); try simp only [Act.put, pu1, pu2, pu3, pu4, pu5, pu6]); (refine WalkT.ready (rs := [32]) (by kernel_rfl) (by simp) (AllT.cons rfl (fun K hK => ?_) AllT.nil); go_simp); (refine hK.out _ _ (fun h => absurd h (by decide)) ?_; clear hK K; try simp only [Act.put, pu1, pu2, pu3, pu4, pu5, pu6]); refine WalkT.done (by kernel_rfl) ?_; clear t0 t1 t2 u0 u1 u2; go_wp2; refine bodyPost_ret (v := .tuple #[]) (by simp [results, go_sem]) rfl ?_; exact ⟨rfl, _, _, l, _, rfl, by simp only [List.length_set]; omega, (((HE.out.put2 rfl kd 0 hkd (by omega) (.string rA) ⟨rA, d[kd].spl, d[kd].port⟩ HCU.out rfl).put2 (by simp) kd 1 (by simpa using hkd) (by omega) (.string rB) ⟨rA, rB, d[kd].port⟩ HCU.out (by rw [List.getElem_set_self]; rfl)).put2 (by simp) kd 2 (by simpa using hkd) (by omega) (.int .i64 rC) ⟨rA, rB, rC⟩ HCU.out (by rw [List.getElem_set_self]; rfl)).mono (by omega)⟩)
                  exact AllT.nil
                exact AllT.nil
              exact AllT.nil
            refine AllT.cons rfl (fun K hK => ?_) ?_
            · go_simp
              refine genStr (C := fun W' => K _ W') s 2 [d[kd].spl, ⟨#[122, 122]⟩] (by rfl) (by rfl) (by simp) ?_
              intro W59 gW59 tW59 AW59
              have SW59 := SW54.step (tW59 _ SW54.st) gW59
              have qW59 : s < W54.heap.size := SW54.st.lt
              have BW59_22 := Arr.grown BW54_22 gW59 (Nat.ne_of_gt qW53)
              have BW59_8 := Arr.grown AW54 gW59 (Nat.ne_of_gt qW54)
              refine hK.out _ _ (fun _ _ => SW59.sdc hkd) ?_
              clear hK K SW54 gW59 tW59 BW54_22 AW54
              try simp only [Act.put, pu1, pu2, pu3, pu4, pu5, pu6]
              refine WalkT.ready (rs := [9]) (by kernel_rfl) (by simp) ?_
              refine AllT.cons rfl (fun K hK => ?_) ?_
              · go_simp
                refine (some_any s _ _ [d[kd].cust, ⟨#[]⟩, ⟨#[107, 49]⟩] _ SW59.st (by omega) BW59_8 (by simp) (by simp) (slice_ne qW54)).mono ?_
                rintro e W60 ⟨v, rfl, ⟨rA, rfl, hm⟩, tW60, gW60⟩
                have HCU := Lib.hid (cu_some (SW59.cu _ (List.getElem_mem hkd)) hm)
                clear hm
                have SW60 := SW59.step tW60 gW60
                have BW60_22 := Arr.grown BW59_22 gW60 (Nat.ne_of_gt qW53)
                have BW60_15 := Arr.grown AW59 gW60 (Nat.ne_of_gt qW59)
                refine hK.out _ _ (fun _ _ => SW60.sdc hkd) ?_
                clear hK K SW59 gW60 tW60 BW59_22 BW59_8 AW59
                try simp only [Act.put, pu1, pu2, pu3, pu4, pu5, pu6]
                refine WalkT.ready (rs := [16]) (by kernel_rfl) (by simp) ?_
                refine AllT.cons rfl (fun K hK => ?_) ?_
                · go_simp
                  refine (some_any s _ _ [d[kd].spl, ⟨#[122, 122]⟩] _ SW60.st (by omega) BW60_15 (by simp) (by simp) (slice_ne qW59)).mono ?_
                  rintro e W61 ⟨v, rfl, ⟨rB, rfl, -⟩, tW61, gW61⟩
                  have SW61 := SW60.step tW61 gW61
                  have BW61_22 := Arr.grown BW60_22 gW61 (Nat.ne_of_gt qW53)
                  refine hK.out _ _ (fun _ _ => SW61.sdc hkd) ?_
                  clear hK K SW60 gW61 tW61 BW60_22 BW60_15
                  try simp only [Act.put, pu1, pu2, pu3, pu4, pu5, pu6]
                  refine WalkT.ready (rs := [23]) (by kernel_rfl) (by simp) ?_
                  refine AllT.cons rfl (fun K hK => ?_) ?_
                  · go_simp
                    refine (pick_any s _ _ [d[kd].port, 0, 9] _ SW61.st (by omega) BW61_22 (by simp) (by simp) (slice_ne qW53)).mono ?_
                    rintro e W62 ⟨v, rfl, ⟨rC, rfl, -⟩, tW62, gW62⟩
                    have SW62 := SW61.step tW62 gW62
                    refine hK.out _ _ (fun _ _ => SW62.sdc hkd) ?_
                    clear hK K SW61 gW62 tW62 BW61_22
                    try simp only [Act.put, pu1, pu2, pu3, pu4, pu5, pu6]
                    have HE := Lib.hid SW62
                    clear SW62
                    obtain ⟨WE, hWE⟩ : ∃ WE : World, WE = W62 := ⟨_, rfl⟩
                    rw [← hWE] at HE ⊢
                    clear hWE
                    (obtain ⟨t0, t1, t2⟩ := HE.out.sdc hkd; have u0 := HE.out.dfree (kd * 3); have u1 := HE.out.dfree (kd * 3 + 1); have u2 := HE.out.dfree (kd * 3 + 2); (refine WalkT.quiet (i := 24) (v := ?_) rfl (by kernel_rfl) (by kernel_rfl) (by kernel_rfl) (fun _ _ _ h => h) (Or.inl ⟨by rfl, ?_⟩) ?_; rotate_left; (· (intro wS hSw; (try dsimp only at hSw); go_simp; try with_reducible rfl)); try simp only [Act.put, pu1, pu2, pu3, pu4, pu5, pu6]); (refine WalkT.quiet (i := 25) (v := ?_) rfl (by kernel_rfl) (by kernel_rfl) (by kernel_rfl) (fun _ _ _ h => h) (Or.inl ⟨by rfl, ?_⟩) ?_; rotate_left; (· (intro wS hSw; (try dsimp only at hSw); go_simp; try with_reducible rfl)); try simp only [Act.put, pu1, pu2, pu3, pu4, pu5, pu6]); (refine WalkT.ready (rs := [26]) (by kernel_rfl) (by simp) (AllT.cons rfl (fun K hK => ?_) AllT.nil); go_simp); (refine hK.out _ _ (fun h => absurd h (by decide)) ?_; clear hK K; try simp only [Act.put, pu1, pu2, pu3, pu4, pu5, pu6]); (refine WalkT.quiet (i := 27) (v := ?_) rfl (by kernel_rfl) (by kernel_rfl) (by kernel_rfl) (fun _ _ _ h => h) (Or.inl ⟨by rfl, ?_⟩) ?_; rotate_left; (· (intro wS hSw; (try dsimp only at hSw); go_simp; try with_reducible rfl)); try simp only [Act.put, pu1, pu2, pu3, pu4, pu5, pu6]); (refine WalkT.quiet (i := 28) (v := ?_) rfl (by kernel_rfl) (by kernel_rfl) (by kernel_rfl) (fun _ _ _ h => h) (Or.inl ⟨by rfl, ?_⟩) ?_; rotate_left; (· (intro wS hSw; (try dsimp only at hSw); go_simp; try with_reducible rfl)); try simp only [Act.put, pu1, pu2, pu3, pu4, pu5, pu6]); (refine WalkT.ready (rs := [29]) (by kernel_rfl) (by simp) (AllT.cons rfl (fun K hK => ?_) AllT.nil); go_simp); (refine hK.out _ _ (fun h => absurd h (by decide)) ?_; clear hK K; try simp only [Act.put, pu1, pu2, pu3, pu4, pu5, pu6]); (refine WalkT.quiet (i := 30) (v := ?_) rfl (by kernel_rfl) (by kernel_rfl) (by kernel_rfl) (fun _ _ _ h => h) (Or.inl ⟨by rfl, ?_⟩) ?_; rotate_left; (· (intro wS hSw; (try dsimp only at hSw); go_simp; try with_reducible rfl)); try simp only [Act.put, pu1, pu2, pu3, pu4, pu5, pu6]); (refine WalkT.quiet (i := 31) (v := ?_) rfl (by kernel_rfl) (by kernel_rfl) (by kernel_rfl) (fun _ _ _ h => h) (Or.inl ⟨by rfl, ?_⟩) ?_; rotate_left; (· (intro wS hSw; (try dsimp only at hSw); go_simp; try with_reducible rfl)); try simp only [Act.put, pu1, pu2, pu3, pu4, pu5, pu6]); (refine WalkT.ready (rs := [32]) (by kernel_rfl) (by simp) (AllT.cons rfl (fun K hK => ?_) AllT.nil); go_simp); (refine hK.out _ _ (fun h => absurd h (by decide)) ?_; clear hK K; try simp only [Act.put, pu1, pu2, pu3, pu4, pu5, pu6]); refine WalkT.done (by kernel_rfl) ?_; clear t0 t1 t2 u0 u1 u2; go_wp2; refine bodyPost_ret (v := .tuple #[]) (by simp [results, go_sem]) rfl ?_; exact ⟨rfl, _, _, l, _, rfl, by simp only [List.length_set]; omega, (((HE.out.put2 rfl kd 0 hkd (by omega) (.string rA) ⟨rA, d[kd].spl, d[kd].port⟩ HCU.out rfl).put2 (by simp) kd 1 (by simpa using hkd) (by omega) (.string rB) ⟨rA, rB, d[kd].port⟩ HCU.out (by rw [List.getElem_set_self]; rfl)).put2 (by simp) kd 2 (by simpa using hkd) (by omega) (.int .i64 rC) ⟨rA, rB, rC⟩ HCU.out (by rw [List.getElem_set_self]; rfl)).mono (by omega)⟩)
                  exact AllT.nil
                exact AllT.nil
              exact AllT.nil
            exact AllT.nil
          refine AllT.cons rfl (fun K hK => ?_) ?_
          · go_simp
            refine genStr (C := fun W' => K _ W') s 2 [d[kd].spl, ⟨#[122, 122]⟩] (by rfl) (by rfl) (by simp) ?_
            intro W63 gW63 tW63 AW63
            have SW63 := SW53.step (tW63 _ SW53.st) gW63
            have qW63 : s < W53.heap.size := SW53.st.lt
            have BW63_22 := Arr.grown AW53 gW63 (Nat.ne_of_gt qW53)
            refine hK.out _ _ (fun _ _ => SW63.sdc hkd) ?_
            clear hK K SW53 gW63 tW63 AW53
            try simp only [Act.put, pu1, pu2, pu3, pu4, pu5, pu6]
            refine WalkT.ready (rs := [8]) (by kernel_rfl) (by simp) ?_
            refine AllT.cons rfl (fun K hK => ?_) ?_
            · go_simp
              refine genStr (C := fun W' => K _ W') s 3 [d[kd].cust, ⟨#[]⟩, ⟨#[107, 49]⟩] (by rfl) (by rfl) (by simp) ?_
              intro W64 gW64 tW64 AW64
              have SW64 := SW63.step (tW64 _ SW63.st) gW64
              have qW64 : s < W63.heap.size := SW63.st.lt
              have BW64_22 := Arr.grown BW63_22 gW64 (Nat.ne_of_gt qW53)
              have BW64_15 := Arr.grown AW63 gW64 (Nat.ne_of_gt qW63)
              refine hK.out _ _ (fun _ _ => SW64.sdc hkd) ?_
              clear hK K SW63 gW64 tW64 BW63_22 AW63
              try simp only [Act.put, pu1, pu2, pu3, pu4, pu5, pu6]
              refine WalkT.ready (rs := [9]) (by kernel_rfl) (by simp) ?_
              refine AllT.cons rfl (fun K hK => ?_) ?_
              · go_simp
                refine (some_any s _ _ [d[kd].cust, ⟨#[]⟩, ⟨#[107, 49]⟩] _ SW64.st (by omega) AW64 (by simp) (by simp) (slice_ne qW64)).mono ?_
                rintro e W65 ⟨v, rfl, ⟨rA, rfl, hm⟩, tW65, gW65⟩
                have HCU := Lib.hid (cu_some (SW64.cu _ (List.getElem_mem hkd)) hm)
                clear hm
                have SW65 := SW64.step tW65 gW65
                have BW65_22 := Arr.grown BW64_22 gW65 (Nat.ne_of_gt qW53)
                have BW65_15 := Arr.grown BW64_15 gW65 (Nat.ne_of_gt qW63)
                refine hK.out _ _ (fun _ _ => SW65.sdc hkd) ?_
                clear hK K SW64 gW65 tW65 BW64_22 BW64_15 AW64
                try simp only [Act.put, pu1, pu2, pu3, pu4, pu5, pu6]
                refine WalkT.ready (rs := [16]) (by kernel_rfl) (by simp) ?_
                refine AllT.cons rfl (fun K hK => ?_) ?_
                · go_simp
                  refine (some_any s _ _ [d[kd].spl, ⟨#[122, 122]⟩] _ SW65.st (by omega) BW65_15 (by simp) (by simp) (slice_ne qW63)).mono ?_
                  rintro e W66 ⟨v, rfl, ⟨rB, rfl, -⟩, tW66, gW66⟩
                  have SW66 := SW65.step tW66 gW66
                  have BW66_22 := Arr.grown BW65_22 gW66 (Nat.ne_of_gt qW53)
                  refine hK.out _ _ (fun _ _ => SW66.sdc hkd) ?_
                  clear hK K SW65 gW66 tW66 BW65_22 BW65_15
                  try simp only [Act.put, pu1, pu2, pu3, pu4, pu5, pu6]
                  refine WalkT.ready (rs := [23]) (by kernel_rfl) (by simp) ?_
                  refine AllT.cons rfl (fun K hK => ?_) ?_
                  · go_simp
                    refine (pick_any s _ _ [d[kd].port, 0, 9] _ SW66.st (by omega) BW66_22 (by simp) (by simp) (slice_ne qW53)).mono ?_
                    rintro e W67 ⟨v, rfl, ⟨rC, rfl, -⟩, tW67, gW67⟩
                    have SW67 := SW66.step tW67 gW67
                    refine hK.out _ _ (fun _ _ => SW67.sdc hkd) ?_
                    clear hK K SW66 gW67 tW67 BW66_22
                    try simp only [Act.put, pu1, pu2, pu3, pu4, pu5, pu6]
                    have HE := Lib.hid SW67
                    clear SW67
                    obtain ⟨WE, hWE⟩ : ∃ WE : World, WE = W67 := ⟨_, rfl⟩
                    rw [← hWE] at HE ⊢
                    clear hWE
                    (obtain ⟨t0, t1, t2⟩ := HE.out.sdc hkd; have u0 := HE.out.dfree (kd * 3); have u1 := HE.out.dfree (kd * 3 + 1); have u2 := HE.out.dfree (kd * 3 + 2); (refine WalkT.quiet (i := 24) (v := ?_) rfl (by kernel_rfl) (by kernel_rfl) (by kernel_rfl) (fun _ _ _ h => h) (Or.inl ⟨by rfl, ?_⟩) ?_; rotate_left; (· (intro wS hSw; (try dsimp only at hSw); go_simp; try with_reducible rfl)); try simp only [Act.put, pu1, pu2, pu3, pu4, pu5, pu6]); (refine WalkT.quiet (i := 25) (v := ?_) rfl (by kernel_rfl) (by kernel_rfl) (by kernel_rfl) (fun _ _ _ h => h) (Or.inl ⟨by rfl, ?_⟩) ?_; rotate_left; (· (intro wS hSw; (try dsimp only at hSw); go_simp; try with_reducible rfl)); try simp only [Act.put, pu1, pu2, pu3, pu4, pu5, pu6]); (refine WalkT.ready (rs := [26]) (by kernel_rfl) (by simp) (AllT.cons rfl (fun K hK => ?_) AllT.nil); go_simp); (refine hK.out _ _ (fun h => absurd h (by decide)) ?_; clear hK K; try simp only [Act.put, pu1, pu2, pu3, pu4, pu5, pu6]); (refine WalkT.quiet (i := 27) (v := ?_) rfl (by kernel_rfl) (by kernel_rfl) (by kernel_rfl) (fun _ _ _ h => h) (Or.inl ⟨by rfl, ?_⟩) ?_; rotate_left; (· (intro wS hSw; (try dsimp only at hSw); go_simp; try with_reducible rfl)); try simp only [Act.put, pu1, pu2, pu3, pu4, pu5, pu6]); (refine WalkT.quiet (i := 28) (v := ?_) rfl (by kernel_rfl) (by kernel_rfl) (by kernel_rfl) (fun _ _ _ h => h) (Or.inl ⟨by rfl, ?_⟩) ?_; rotate_left; (· (intro wS hSw; (try dsimp only at hSw); go_simp; try with_reducible rfl)); try simp only [Act.put, pu1, pu2, pu3, pu4, pu5, pu6]); (refine WalkT.ready (rs := [29]) (by kernel_rfl) (by simp) (AllT.cons rfl (fun K hK => ?_) AllT.nil); go_simp); (refine hK.out _ _ (fun h => absurd h (by decide)) ?_; clear hK K; try simp only [Act.put, pu1, pu2, pu3, pu4, pu5, pu6]); (refine WalkT.quiet (i := 30) (v := ?_) rfl (by kernel_rfl) (by kernel_rfl) (by kernel_rfl) (fun _ _ _ h => h) (Or.inl ⟨by rfl, ?_⟩) ?_; rotate_left; (· (intro wS hSw; (try dsimp only at hSw); go_simp; try with_reducible rfl)); try simp only [Act.put, pu1, pu2, pu3, pu4, pu5, pu6]); (refine WalkT.quiet (i := 31) (v := ?_) rfl (by kernel_rfl) (by kernel_rfl) (by kernel_rfl) (fun _ _ _ h => h) (Or.inl ⟨by rfl, ?_⟩) ?_; rotate_left; (· (intro wS hSw; (try dsimp only at hSw); go_simp; try with_reducible rfl)); try simp only [Act.put, pu1, pu2, pu3, pu4, pu5, pu6]); (refine WalkT.ready (rs := [32]) (by kernel_rfl) (by simp) (AllT.cons rfl (fun K hK => ?_) AllT.nil); go_simp); (refine hK.out _ _ (fun h => absurd h (by decide)) ?_; clear hK K; try simp only [Act.put, pu1, pu2, pu3, pu4, pu5, pu6]); refine WalkT.done (by kernel_rfl) ?_; clear t0 t1 t2 u0 u1 u2; go_wp2; refine bodyPost_ret (v := .tuple #[]) (by simp [results, go_sem]) rfl ?_; exact ⟨rfl, _, _, l, _, rfl, by simp only [List.length_set]; omega, (((HE.out.put2 rfl kd 0 hkd (by omega) (.string rA) ⟨rA, d[kd].spl, d[kd].port⟩ HCU.out rfl).put2 (by simp) kd 1 (by simpa using hkd) (by omega) (.string rB) ⟨rA, rB, d[kd].port⟩ HCU.out (by rw [List.getElem_set_self]; rfl)).put2 (by simp) kd 2 (by simpa using hkd) (by omega) (.int .i64 rC) ⟨rA, rB, rC⟩ HCU.out (by rw [List.getElem_set_self]; rfl)).mono (by omega)⟩)
                  exact AllT.nil
                exact AllT.nil
              exact AllT.nil
            exact AllT.nil
          exact AllT.nil
        exact AllT.nil
end Go.Proofs.YtcecpodbmjghhaaGreat
