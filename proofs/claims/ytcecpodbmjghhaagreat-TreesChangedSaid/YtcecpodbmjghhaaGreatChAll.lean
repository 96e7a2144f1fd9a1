/- Texts of one subject in one: PlainG, TreeM, PlainCh, ChS, ChC; what each shows stands at its head. No condition. -/
import Derived.Test.YtcecpodbmjghhaaGreatCmpAll
import Derived.Test.YtcecpodbmjghhaaGreatPlnFK
import Derived.Test.YtcecpodbmjghhaaGreatTreeGH
import Derived.Test.YtcecpodbmjghhaaGreatTreesP
import Derived.Test.YtcecpodbmjghhaaGreatConAll
import Derived.Test.YtcecpodbmjghhaaGreatSortAll
/- Plain: what Merge answers; a tree merged with itself. No program. -/
set_option linter.unusedVariables false
set_option linter.unusedSimpArgs false
namespace Go.Proofs.YtcecpodbmjghhaaGreat
/-- neighbours with one key -/
def AdjK {α : Type} (key : α → ByteArray) (L : List α) : Prop := ∃ j, ∃ h : j + 1 < L.length, key L[j] = key L[j + 1]
/-- what Merge answers: n; S and D are the parts of the tree if n is 0 -/
def MergeIs (l : List Splt) (d : List Drp) (l' : List Splt) (d' : List Drp) (n : Int) (S : List Splt) (D : List Drp) : Prop :=
  (treeF l d ≠ 0 ∧ n = treeF l d) ∨ (treeF l d = 0 ∧ treeF l' d' ≠ 0 ∧ n = treeF l' d') ∨
  (treeF l d = 0 ∧ treeF l' d' = 0 ∧ ∃ L M, L.Perm (l ++ l') ∧ SortTo Splt.key L L.length ∧ M.Perm (d ++ d') ∧ SortTo Drp.cust M M.length ∧ S = ccL L ∧ D = ccL M ∧
    ((AdjK Splt.key S ∨ AdjK Drp.cust D) ∧ n = 13 ∨ ¬ AdjK Splt.key S ∧ ¬ AdjK Drp.cust D ∧ n = treeF S D))
theorem rise_pw {α : Type} {key : α → ByteArray} {l : List α} (h : Rising (l.map key)) : l.Pairwise (fun a b => lessB (key a) (key b) = true) := by
  unfold Rising at h
  exact List.pairwise_map.1 h
end Go.Proofs.YtcecpodbmjghhaaGreat
/- Walk of package tree: a splitter is put at another port. -/
namespace Go.Proofs.YtcecpodbmjghhaaGreat
open Go Go.RowKit
theorem flat_setM {α : Type} {cells : α → List Value} {sz : Nat} (hlen : ∀ x, (cells x).length = sz) {u : Value} {x : α} {j : Nat} (hj : j < sz) : ∀ (l : List α) (k : Nat) (hk : k < l.length), cells x = (cells l[k]).set j u → (l.flatMap cells).set (k * sz + j) u = (l.set k x).flatMap cells
  | y :: l, 0, _, hx => by
    rw [List.flatMap_cons, Nat.zero_mul, Nat.zero_add, List.set_append_left _ _ (by rw [hlen]; exact hj), List.set_cons_zero, List.flatMap_cons, hx]; rfl
  | y :: l, k + 1, hk, hx => by
    rw [List.flatMap_cons, List.set_cons_succ, List.flatMap_cons, List.set_append_right _ _ (by rw [hlen, Nat.succ_mul]; omega), hlen]
    rw [show (k + 1) * sz + j - sz = k * sz + j by rw [Nat.succ_mul]; omega, flat_setM hlen hj l k (by simpa using hk) (by simpa using hx)]
theorem own_form2M {W : World} {B sz n : Nat} {e : TypeId} {v : Value} {xs : List Value} (h : W.ownsRow B e sz v n xs) (hn : 0 < n) : ∃ g cap, v = .slice (some ⟨g, 0, none⟩) n cap ∧ B ≤ g ∧ g < W.heap.size ∧ n ≤ cap ∧ cap ≤ maxLen := by
  have hlt := h.lt
  rcases h.2 with ⟨_, h0⟩ | ⟨g, cap, cur, rfl, hg, _, hc, hm, _⟩
  · omega
  · exact ⟨g, cap, rfl, hg, (hlt g rfl).2, hc, hm⟩
theorem move_row {W : World} {B g cap j : Nat} {l : List Splt} (h : W.ownsRow B 58 4 (.slice (some ⟨g, 0, none⟩) l.length cap) l.length (l.flatMap Splt.cells)) (hj : j < l.length) (par : ByteArray) (port : Int) :
    ((W.setCell ⟨g, j * 4 + 2, none⟩ (.string par)).setCell ⟨g, j * 4 + 3, none⟩ (.int .i64 port)).ownsRow B 58 4 (.slice (some ⟨g, 0, none⟩) l.length cap) (l.set j (movedS l[j] par port)).length ((l.set j (movedS l[j] par port)).flatMap Splt.cells) := by
  have h1 := (h.stored (j * 4 + 2) (.string par)).1
  rw [flat_setM Splt.cells_len (by omega) l j hj (x := ⟨l[j].key, l[j].ways, par, l[j].port⟩) rfl] at h1
  have h2 := (h1.stored (j * 4 + 3) (.int .i64 port)).1
  rw [flat_setM Splt.cells_len (by omega) _ j (by simpa using hj) (x := movedS l[j] par port) (by rw [List.getElem_set_self]; rfl), List.set_set] at h2
  rw [List.length_set]; exact h2
theorem arr_setOther {α : Type} {cells : α → List Value} {sz : Nat} {w : World} {l : List α} {v : Value} (h : Arr cells sz w l v) {c : Nat} (hne : v.ownBlock ≠ some c) (o : Nat) (u : Value) : Arr cells sz (w.setCell ⟨c, o, none⟩ u) l v := by
  obtain ⟨a, cap, rfl, h2, h3, h4⟩ := h
  refine ⟨a, cap, rfl, h2, h3, fun k hk => ?_⟩
  obtain ⟨b, off, ha, hb, hc⟩ := h4 k hk
  refine ⟨b, off, ha, by simp [World.setCell]; exact hb, fun j x hx => ?_⟩
  rw [World.cell?_setCell_other _ _ _ _ (fun e => hne (by subst ha; simp only [Addr.mk.injEq] at e; simp [Value.ownBlock, e.1]))]
  exact hc j x hx
def MovePost (l : List Splt) (d : List Drp) (F : Int) (w : World) (e : Ending) (w' : World) : Prop := ∃ u1 u2, e = .returned (.tuple #[.agg #[u1, u2], .int .i64 F]) ∧ Arr Splt.cells 4 w' (if F = 0 then l else []) u1 ∧ Arr Drp.cells 3 w' (if F = 0 then d else []) u2 ∧ Below w.heap.size w w'
set_option maxHeartbeats 8000000 in
set_option maxRecDepth 100000 in
theorem move_any (v1 v2 : Value) (l : List Splt) (d : List Drp) (key par : ByteArray) (port : Int) (w : World) (h1 : Arr Splt.cells 4 w l v1) (h2 : Arr Drp.cells 3 w d v2) : Calls Tryz.prog 12 #[.agg #[v1, v2], .string key, .string par, .int .i64 port] w (MovePost (moveL l key par port) d (moveF l d key par port) w) := by
  have HA := Lib.hid (And.intro h1 h2)
  obtain ⟨a1, cap1, rfl, -, -, -⟩ := h1
  obtain ⟨a2, cap2, rfl, -, -, -⟩ := h2
  have HF0 : Hid (splitterF l d key ≠ 0 → moveF l d key par port = splitterF l d key) := fun h => by unfold moveF; rw [if_pos h]
  have HF1 : Hid (splitterF l d key = 0 → moveF l d key par port = treeF (moveL l key par port) d) := fun h => by unfold moveF; rw [if_neg (by omega)]
  have hbx : Blk ((w.alloc (.cells #[.slice a1 l.length cap1, .slice a2 d.length cap2] 29)).alloc (.cells #[.slice none 0 0, .slice none 0 0] 29)) w.heap.size #[.slice a1 l.length cap1, .slice a2 d.length cap2] 29 := (Blk.new w _ _).alloc _
  have hrs : Blk ((w.alloc (.cells #[.slice a1 l.length cap1, .slice a2 d.length cap2] 29)).alloc (.cells #[.slice none 0 0, .slice none 0 0] 29)) (w.heap.size + 1) #[.slice none 0 0, .slice none 0 0] 29 := Blk.newAt (by simp)
  have HB0 := Lib.hid (And.intro hbx hrs)
  clear hbx hrs
  go_enter Tryz.func12, Tryz.ntmps12
  go_wp2_with fail
  refine (splitterFault_any _ _ l d key _ (by exact HA.out.1.below (by (repeat (first | exact Below.refl _ _ | assumption | refine below_draws ?_ _ | refine Below.drew ?_ | refine below_alloc ?_ _ (by first | omega | (simp; done) | (simp; omega)) | refine Below.setCell ?_ (by first | omega | (simp; done) | (simp; omega)) _ | refine below_at ?_ (by assumption) (by first | omega | (simp; done) | (simp; omega)))))) (by exact HA.out.2.below (by (repeat (first | exact Below.refl _ _ | assumption | refine below_draws ?_ _ | refine Below.drew ?_ | refine below_alloc ?_ _ (by first | omega | (simp; done) | (simp; omega)) | refine Below.setCell ?_ (by first | omega | (simp; done) | (simp; omega)) _ | refine below_at ?_ (by assumption) (by first | omega | (simp; done) | (simp; omega))))))).mono ?_
  rintro e w2 ⟨rfl, hb2⟩
  have hz2 : w.heap.size + 2 ≤ w2.heap.size := by have := hb2.size; simpa using this
  have hBw : Below w.heap.size w w2 := by (repeat (first | exact Below.refl _ _ | assumption | refine below_draws ?_ _ | refine Below.drew ?_ | refine below_alloc ?_ _ (by first | omega | (simp; done) | (simp; omega)) | refine Below.setCell ?_ (by first | omega | (simp; done) | (simp; omega)) _ | refine below_at ?_ (by assumption) (by first | omega | (simp; done) | (simp; omega))))
  have hbx := HB0.out.1.below hb2 (by simp; omega)
  have hrs := HB0.out.2.below hb2 (by simp)
  have H2 := Lib.hid (And.intro hBw (And.intro hbx hrs))
  have p0 := hbx.cell 0 _ rfl
  have p1 := hbx.cell 1 _ rfl
  have r0 := hrs.cell 0 (.slice none 0 0) rfl
  have r1 := hrs.cell 1 (.slice none 0 0) rfl
  have rf := fun o => hrs.free o
  clear hb2 hBw hbx hrs
  by_cases hf : splitterF l d key = 0
  rotate_left
  · have hf1 : (splitterF l d key != 0) = true := by simp [hf]
    have hFF := HF0.out hf
    have HFN : Hid (¬ moveF l d key par port = 0) := by rw [hFF]; exact hf
    have HFF := Lib.hid hFF
    clear hf hFF
    go_wp2
    refine bodyPost_ret (v := .tuple #[.agg #[.slice none 0 0, .slice none 0 0], .int .i64 (splitterF l d key)]) ?_ rfl ⟨_, _, by rw [HFF.out], ?_, ?_, ?_⟩
    · simp [results, go_sem, r0, r1]
    · rw [if_neg HFN.out]; exact Arr.nil _ _ _
    · rw [if_neg HFN.out]; exact Arr.nil _ _ _
    · have := H2.out.1; (repeat (first | exact Below.refl _ _ | assumption | refine below_draws ?_ _ | refine Below.drew ?_ | refine below_alloc ?_ _ (by first | omega | (simp; done) | (simp; omega)) | refine Below.setCell ?_ (by first | omega | (simp; done) | (simp; omega)) _ | refine below_at ?_ (by assumption) (by first | omega | (simp; done) | (simp; omega))))
  have hf1 : (splitterF l d key != 0) = false := by simp [hf]
  obtain ⟨ht, j, hj, hfj, hgj, hkj⟩ := splitterF_zero hf
  have ok := tok_of ht
  have HFF := Lib.hid (HF1.out hf)
  have HML := Lib.hid (moveL_at (par := par) (port := port) hj hfj)
  have HOK := Lib.hid (And.intro ok hfj)
  have hl5 := ok.s.len
  have hd5 : d.length ≤ 5000 := by
    have := ok.dr
    unfold dropsF at this
    split at this <;> omega
  clear hf ok ht hfj hgj hkj HF0 HF1
  go_wp2_with fail
  refine (copied_any _ _ l d _ (by exact HA.out.1.below H2.out.1) (by exact HA.out.2.below H2.out.1) (by omega) (by omega)).mono ?_
  rintro e w3 ⟨u1, u2, rfl, o1, o2, hap, hb3⟩
  obtain ⟨g, cap3, rfl, hgB, hgs, hcn, hcm⟩ := own_form2M o1 (show 0 < l.length by omega)
  obtain ⟨b2, cap4, rfl⟩ := own_sliceH o2
  have hwl1 : (Value.slice (some ⟨g, 0, none⟩) l.length cap3).ownBlock ≠ some (w.heap.size + 1) := fun e => by have := (o1.lt _ e).1; omega
  have hwl2 : (Value.slice b2 d.length cap4).ownBlock ≠ some (w.heap.size + 1) := fun e => by have := (o2.lt _ e).1; omega
  have hz3 : w2.heap.size ≤ w3.heap.size := hb3.size
  have hBw : Below w.heap.size w w3 := by have := H2.out.1; (repeat (first | exact Below.refl _ _ | assumption | refine below_draws ?_ _ | refine Below.drew ?_ | refine below_alloc ?_ _ (by first | omega | (simp; done) | (simp; omega)) | refine Below.setCell ?_ (by first | omega | (simp; done) | (simp; omega)) _ | refine below_at ?_ (by assumption) (by first | omega | (simp; done) | (simp; omega))))
  have hbx := H2.out.2.1.below hb3 (by omega)
  have hrs := H2.out.2.2.below hb3 (by omega)
  have hox := Blk.new w3 #[.slice (some ⟨g, 0, none⟩) l.length cap3, .slice b2 d.length cap4] 29
  have H3 := Lib.hid (And.intro hBw (And.intro hbx (And.intro hrs (And.intro o1 (And.intro o2 (And.intro hap hox))))))
  clear hb3 hBw hbx hrs o1 o2 hap hox p0 p1 r0 r1 rf
  have p0 := H3.out.2.1.cell 0 _ rfl
  have p1 := H3.out.2.1.cell 1 _ rfl
  have hj1 : (0 : Int) ≤ (j : Int) := by omega
  have hj3 : (j : Int) < (l.length : Int) := by omega
  go_wp2_with fail
  go_region_held3 (fun w' => w'.cell? ⟨w.heap.size, 0, none⟩ = some (.slice a1 l.length cap1) ∧ w'.cell? ⟨w.heap.size, 1, none⟩ = some (.slice a2 d.length cap2) ∧ w'.cell? ⟨w3.heap.size, 0, none⟩ = some (.slice (some ⟨g, 0, none⟩) l.length cap3)) (go_keep)
    (first
      | (go_at_call 57; refine (find_any _ _ l key _ ?_ (by omega) HOK.out.1.s.rise).mono ?_; (exact HA.out.1.below (by have h3 := H3.out.1; (repeat (first | exact Below.refl _ _ | assumption | refine below_draws ?_ _ | refine Below.drew ?_ | refine below_alloc ?_ _ (by first | omega | (simp; done) | (simp; omega)) | refine Below.setCell ?_ (by first | omega | (simp; done) | (simp; omega)) _ | refine below_at ?_ (by assumption) (by first | omega | (simp; done) | (simp; omega)))))); rintro e w4 ⟨rfl, hb4⟩; rw [HOK.out.2]; have s4 := hb4.size; (try simp at s4); have hc4 := bcellAt hb4 w.heap.size (by first | omega | (simp; done) | (simp; omega)); have hc5 := bcellAt hb4 w3.heap.size (by first | omega | (simp; done) | (simp; omega))))
  have o1 := own_below (w := (w3.alloc (.cells #[.slice (some ⟨g, 0, none⟩) l.length cap3, .slice b2 d.length cap4] 29)).drew) (World.ownsRow.alloc (w := w3) H3.out.2.2.2.1 (.cells #[.slice (some ⟨g, 0, none⟩) l.length cap3, .slice b2 d.length cap4] 29)) hb4
  have o2 := own_below (w := (w3.alloc (.cells #[.slice (some ⟨g, 0, none⟩) l.length cap3, .slice b2 d.length cap4] 29)).drew) (World.ownsRow.alloc (w := w3) H3.out.2.2.2.2.1 (.cells #[.slice (some ⟨g, 0, none⟩) l.length cap3, .slice b2 d.length cap4] 29)) hb4
  have hox := (H3.out.2.2.2.2.2.2.drew).below hb4 (by simp)
  have hrs := ((H3.out.2.2.1.alloc (.cells #[.slice (some ⟨g, 0, none⟩) l.length cap3, .slice b2 d.length cap4] 29)).drew).below hb4 (by simp; omega)
  have hBw : Below w.heap.size w w4 := by have := H3.out.1; (repeat (first | exact Below.refl _ _ | assumption | refine below_draws ?_ _ | refine Below.drew ?_ | refine below_alloc ?_ _ (by first | omega | (simp; done) | (simp; omega)) | refine Below.setCell ?_ (by first | omega | (simp; done) | (simp; omega)) _ | refine below_at ?_ (by assumption) (by first | omega | (simp; done) | (simp; omega))))
  have hrow := Row.of_own Splt.cells_len o1 rfl
  have t2 := hrow.1 j hj 2 _ rfl
  have t3 := hrow.1 j hj 3 _ rfl
  have u2 := hrow.2.1 (j * 4 + 2)
  have u3 := hrow.2.1 (j * 4 + 3)
  simp only [Nat.zero_add] at t2 t3
  have K := move_row o1 hj par port
  have H4 := Lib.hid (And.intro o1 (And.intro o2 (And.intro hox (And.intro hrs (And.intro hBw K)))))
  have q0 := hox.cell 0 _ rfl
  have q1 := hox.cell 1 _ rfl
  have hg3 : g ≠ w3.heap.size := by omega
  have hg4 : w3.heap.size ≠ g := by omega
  have hw4 : w3.heap.size < w4.heap.size := hox.lt
  clear hb4 hc4 hc5 o1 o2 hox hrs hBw hrow K p0 p1
  go_wp2_with fail
  have hK := H4.out.2.2.2.2.2
  have hap := H3.out.2.2.2.2.2.1
  have k2 : ((w4.setCell ⟨g, j * 4 + 2, none⟩ (.string par)).setCell ⟨g, j * 4 + 3, none⟩ (.int .i64 port)).ownsRow w2.heap.size 36 3 (.slice b2 d.length cap4) d.length (d.flatMap Drp.cells) := by
    have hne : (Value.slice b2 d.length cap4).ownBlock = none ∨ (Value.slice b2 d.length cap4).ownBlock ≠ some g := by
      cases hv : (Value.slice b2 d.length cap4).ownBlock with
      | none => exact .inl rfl
      | some c => exact .inr (fun e => hap g rfl (by rw [hv]; exact e))
    exact (H4.out.2.1.kept (grown_setCells g [.string par] (j * 4 + 2) w4) hne).kept (grown_setCells g [.int .i64 port] (j * 4 + 3) _) hne
  have kox := ((H4.out.2.2.1.setOther hg4 (j * 4 + 2) (.string par)).setOther hg4 (j * 4 + 3) (.int .i64 port))
  have krs := ((H4.out.2.2.2.1.setOther (c := g) (by omega) (j * 4 + 2) (.string par)).setOther (c := g) (by omega) (j * 4 + 3) (.int .i64 port))
  have kB : Below w.heap.size w ((w4.setCell ⟨g, j * 4 + 2, none⟩ (.string par)).setCell ⟨g, j * 4 + 3, none⟩ (.int .i64 port)) := Below.setCell (Below.setCell H4.out.2.2.2.2.1 (by simp; omega) _) (by simp; omega) _
  have hz5 : w3.heap.size < ((w4.setCell ⟨g, j * 4 + 2, none⟩ (.string par)).setCell ⟨g, j * 4 + 3, none⟩ (.int .i64 port)).heap.size := kox.lt
  generalize (w4.setCell ⟨g, j * 4 + 2, none⟩ (.string par)).setCell ⟨g, j * 4 + 3, none⟩ (.int .i64 port) = w5 at *
  have A1 : Arr Splt.cells 4 w5 (moveL l key par port) (.slice (some ⟨g, 0, none⟩) l.length cap3) := by
    rw [HML.out]
    have := Arr.of_own Splt.cells_len hK
    exact this
  have A2 := Arr.of_own Drp.cells_len k2
  have H5 := Lib.hid (And.intro A1 (And.intro A2 (And.intro kox (And.intro krs kB))))
  clear hK k2 kox krs kB A1 A2 H4 hap t2 t3 u2 u3 q0 q1
  refine (checkTree_any _ _ (moveL l key par port) d _ (by exact H5.out.1) (by exact H5.out.2.1)).mono ?_
  rintro e w6 ⟨rfl, hb6⟩
  have hz6 := hb6.size
  have hBw : Below w.heap.size w w6 := below_at H5.out.2.2.2.2 hb6 (by omega)
  have kox := H5.out.2.2.1.below hb6 (by omega)
  have krs := H5.out.2.2.2.1.below hb6 (by omega)
  have A1 := H5.out.1.below hb6
  have A2 := H5.out.2.1.below hb6
  have H6 := Lib.hid (And.intro hBw (And.intro A1 A2))
  have q0 := kox.cell 0 _ rfl
  have q1 := kox.cell 1 _ rfl
  have r0 := krs.cell 0 (.slice none 0 0) rfl
  have r1 := krs.cell 1 (.slice none 0 0) rfl
  have rf := fun o => krs.free o
  have HKR := Lib.hid krs
  clear hb6 H5 kox krs A1 A2 hBw
  by_cases hm : treeF (moveL l key par port) d = 0
  · have hm1 : (treeF (moveL l key par port) d != 0) = false := by simp [hm]
    have HM := Lib.hid hm
    clear hm
    go_wp2
    refine bodyPost_ret (v := .tuple #[.agg #[.slice (some ⟨g, 0, none⟩) l.length cap3, .slice b2 d.length cap4], .int .i64 0]) ?_ rfl ⟨_, _, by rw [HFF.out, HM.out], ?_, ?_, ?_⟩
    · simp [results, go_sem, r0, r1]
    · rw [HFF.out, HM.out, if_pos rfl]; exact arr_setOther (arr_setOther H6.out.2.1 hwl1 _ _) hwl1 _ _
    · rw [HFF.out, HM.out, if_pos rfl]; exact arr_setOther (arr_setOther H6.out.2.2 hwl2 _ _) hwl2 _ _
    · have := H6.out.1; (repeat (first | exact Below.refl _ _ | assumption | refine below_draws ?_ _ | refine Below.drew ?_ | refine below_alloc ?_ _ (by first | omega | (simp; done) | (simp; omega)) | refine Below.setCell ?_ (by first | omega | (simp; done) | (simp; omega)) _ | refine below_at ?_ (by assumption) (by first | omega | (simp; done) | (simp; omega))))
  · have hm1 : (treeF (moveL l key par port) d != 0) = true := by simp [hm]
    have HM := Lib.hid hm
    clear hm
    go_wp2
    refine bodyPost_ret (v := .tuple #[.agg #[.slice none 0 0, .slice none 0 0], .int .i64 (treeF (moveL l key par port) d)]) ?_ rfl ⟨_, _, by rw [HFF.out], ?_, ?_, ?_⟩
    · simp [results, go_sem, r0, r1]
    · rw [HFF.out, if_neg HM.out]; exact Arr.nil _ _ _
    · rw [HFF.out, if_neg HM.out]; exact Arr.nil _ _ _
    · have := H6.out.1; (repeat (first | exact Below.refl _ _ | assumption | refine below_draws ?_ _ | refine Below.drew ?_ | refine below_alloc ?_ _ (by first | omega | (simp; done) | (simp; omega)) | refine Below.setCell ?_ (by first | omega | (simp; done) | (simp; omega)) _ | refine below_at ?_ (by assumption) (by first | omega | (simp; done) | (simp; omega))))
end Go.Proofs.YtcecpodbmjghhaaGreat
/- Plain: what the reference answers when trees are changed is what the program answers: the best port, sorted drops, a splitter put elsewhere, two trees merged. No program. -/
namespace Go.Proofs.YtcecpodbmjghhaaGreat
/-- strictly rising -/
theorem rise_nle {α : Type} {key : α → ByteArray} {l : List α} (h : l.Pairwise (fun a b => lessB (key a) (key b) = true)) : l.Pairwise (fun a b => lessB (key b) (key a) = false) := h.imp fun h => lessB_asym h
theorem rise_pw2 {α : Type} {key : α → ByteArray} {l : List α} (h : l.Pairwise (fun a b => lessB (key a) (key b) = true)) : Rising (l.map key) := by
  unfold Rising; exact List.pairwise_map.2 h
/-- a sorted permutation of what rises, is it -/
theorem sorted_is {α : Type} {key : α → ByteArray} {L M : List α} (hr : Rising (M.map key)) (hp : L.Perm M) (hs : SortTo key L L.length) : L = M :=
  sort_uniq hp (sortTo_pw hs) (rise_nle (rise_pw hr)) (rise_key (rise_pw hr))
/-- the best port when the first i ports of splitter s, the k-th, are looked at -/
def bestI (l : List Splt) (d : List Drp) (c : ByteArray) (k : Nat) (s : Splt) (i : Nat) : Option (Drp × Int) :=
  match freeI l d s.key i with
  | [] => bestK l d c k
  | p :: _ => match bestK l d c k with
    | none => some (⟨c, s.key, p⟩, powS (chainV l s.key))
    | some (b, m) => if powS (chainV l s.key) < m then some (⟨c, s.key, p⟩, powS (chainV l s.key)) else some (b, m)
theorem bestI_zero (l : List Splt) (d : List Drp) (c : ByteArray) (k : Nat) (s : Splt) : bestI l d c k s 0 = bestK l d c k := by simp [bestI, freeI]
theorem bestI_full {l : List Splt} {d : List Drp} {c : ByteArray} {k : Nat} (hk : k < l.length) : bestI l d c k l[k] l[k].ways.toNat = bestK l d c (k + 1) := by
  rw [bestK_succ hk]
  unfold bestI bestStep
  rw [show freeI l d l[k].key l[k].ways.toNat = freeL l d l[k] from rfl]
  cases freeL l d l[k] <;> rfl
/-- the port is taken -/
theorem bestI_taken {l : List Splt} {d : List Drp} {c : ByteArray} {k : Nat} {s : Splt} {i : Nat} (h : (atPort l d (s.key, (i : Int) + 1)).size ≠ 0) : bestI l d c k s (i + 1) = bestI l d c k s i := by
  unfold bestI; rw [freeI_succ, if_neg h, List.append_nil]
/-- the port is free, and better than what is kept -/
theorem bestI_free {l : List Splt} {d : List Drp} {c : ByteArray} {k : Nat} {s : Splt} {i : Nat} (h : (atPort l d (s.key, (i : Int) + 1)).size = 0) (hb : bestI l d c k s i = none ∨ powS (chainV l s.key) < bestN (bestI l d c k s i)) :
    bestI l d c k s (i + 1) = some (⟨c, s.key, (i : Int) + 1⟩, powS (chainV l s.key)) := by
  unfold bestI at hb ⊢
  rw [freeI_succ, if_pos h]
  cases hf : freeI l d s.key i with
  | nil =>
    rw [hf] at hb
    simp only at hb
    rw [List.nil_append]
    cases hk : bestK l d c k with
    | none => rfl
    | some x =>
      obtain ⟨b, m⟩ := x
      rw [hk] at hb
      rcases hb with hb | hb
      · cases hb
      · simp only [bestN] at hb
        simp only
        rw [if_pos hb]
  | cons p r =>
    rw [hf] at hb
    simp only at hb
    cases hk : bestK l d c k with
    | none =>
      rw [hk] at hb
      rcases hb with hb | hb
      · cases hb
      · simp only [bestN] at hb; omega
    | some x =>
      obtain ⟨b, m⟩ := x
      rw [hk] at hb
      simp only at hb
      split at hb
      · rcases hb with hb | hb
        · cases hb
        · simp only [bestN] at hb; omega
      · rename_i hm
        rcases hb with hb | hb
        · cases hb
        · simp only [bestN] at hb; exact absurd hb hm
/-- the port is free, and no better -/
theorem bestI_worse {l : List Splt} {d : List Drp} {c : ByteArray} {k : Nat} {s : Splt} {i : Nat} (hb : bestI l d c k s i ≠ none) (hp : ¬ powS (chainV l s.key) < bestN (bestI l d c k s i)) :
    bestI l d c k s (i + 1) = bestI l d c k s i := by
  by_cases h : (atPort l d (s.key, (i : Int) + 1)).size = 0
  · unfold bestI at hb hp ⊢
    rw [freeI_succ, if_pos h]
    cases hf : freeI l d s.key i with
    | nil =>
      rw [hf] at hb hp
      simp only at hb hp
      rw [List.nil_append]
      cases hk : bestK l d c k with
      | none => exact absurd hk hb
      | some x =>
        obtain ⟨b, m⟩ := x
        rw [hk] at hp
        simp only [bestN] at hp
        simp only
        rw [if_neg hp]
    | cons p r => rfl
  · exact bestI_taken h
/-- what is kept: the splitter has its name, the way is its way -/
def BestOk (l : List Splt) (c : ByteArray) (st : Option (Drp × Int)) : Prop := match st with
  | none => True
  | some (b, m) => b.cust = c ∧ (∃ s ∈ l, b.spl = s.key) ∧ m = powS (chainV l b.spl)
theorem bestK_ok (l : List Splt) (d : List Drp) (c : ByteArray) : ∀ k, k ≤ l.length → BestOk l c (bestK l d c k)
  | 0, _ => by simp [bestK, BestOk]
  | k + 1, hk => by
    have ih := bestK_ok l d c k (by omega)
    have hs := List.getElem_mem (show k < l.length by omega)
    rw [bestK_succ (by omega)]
    unfold bestStep
    cases freeL l d l[k] with
    | nil => exact ih
    | cons p r =>
      cases hb : bestK l d c k with
      | none => exact ⟨rfl, ⟨_, hs, rfl⟩, rfl⟩
      | some x =>
        obtain ⟨b, m⟩ := x
        simp only
        split
        · exact ⟨rfl, ⟨_, hs, rfl⟩, rfl⟩
        · rw [hb] at ih; exact ih
theorem bestI_ok {l : List Splt} {d : List Drp} {c : ByteArray} {k : Nat} (hk : k < l.length) (i : Nat) : BestOk l c (bestI l d c k l[k] i) := by
  have ih := bestK_ok l d c k (by omega)
  have hs := List.getElem_mem hk
  unfold bestI
  cases freeI l d l[k].key i with
  | nil => exact ih
  | cons p r =>
    cases hb : bestK l d c k with
    | none => exact ⟨rfl, ⟨_, hs, rfl⟩, rfl⟩
    | some x =>
      obtain ⟨b, m⟩ := x
      simp only
      split
      · exact ⟨rfl, ⟨_, hs, rfl⟩, rfl⟩
      · rw [hb] at ih; exact ih
/-- connected: the drops in order -/
theorem con_sorted {l : List Splt} {d : List Drp} {c : ByteArray} (h : conF l d c = 0) {L : List Drp} (hp : L.Perm (d ++ [conB l d c])) (hs : SortTo Drp.cust L L.length) : L = conD l d c := by
  obtain ⟨hf, hk, hd, hlen, s, hsm, p, hB, _⟩ := con_best h
  have hr := (tok_of hf).custs
  have hbc : (conB l d c).cust = c := by rw [hB]
  have hri := rising_ins hbc hr (find_ne hd)
  have e : conD l d c = d.take (posD d c) ++ conB l d c :: d.drop (posD d c) := by unfold conD; rw [if_pos h]
  rw [← e] at hri
  refine sorted_is hri ?_ hs
  refine hp.trans ?_
  rw [e]
  refine (List.perm_append_comm.trans ?_)
  rw [List.singleton_append]
  have h2 : (conB l d c :: d).Perm (conB l d c :: (d.take (posD d c) ++ d.drop (posD d c))) := by rw [List.take_append_drop]
  exact h2.trans List.perm_middle.symm
/-- removed: the drops in order -/
theorem rem_filter {d : List Drp} (hr : Rising (d.map (·.cust))) {j : Nat} (hj : j < d.length) : d.filter (fun x => !decide (x.cust = d[j].cust)) = d.take j ++ d.drop (j + 1) := by
  have e : d = d.take j ++ d[j] :: d.drop (j + 1) := by rw [List.getElem_cons_drop, List.take_append_drop]
  have hpw := rise_pw hr
  rw [List.pairwise_iff_getElem] at hpw
  have h1 : (d.take j).filter (fun x => !decide (x.cust = d[j].cust)) = d.take j := by
    rw [List.filter_eq_self]
    intro x hx
    obtain ⟨i, hi, rfl⟩ := List.mem_iff_getElem.1 hx
    rw [List.length_take] at hi
    rw [List.getElem_take]
    have := hpw i j (by omega) hj (by omega)
    simp only [Bool.not_eq_true', decide_eq_false_iff_not]
    intro h; rw [h, lessB_irrefl] at this; cases this
  have h2 : (d.drop (j + 1)).filter (fun x => !decide (x.cust = d[j].cust)) = d.drop (j + 1) := by
    rw [List.filter_eq_self]
    intro x hx
    obtain ⟨i, hi, rfl⟩ := List.mem_iff_getElem.1 hx
    rw [List.length_drop] at hi
    rw [List.getElem_drop]
    have := hpw j (j + 1 + i) hj (by omega) (by omega)
    simp only [Bool.not_eq_true', decide_eq_false_iff_not]
    intro h; rw [h, lessB_irrefl] at this; cases this
  generalize hc : d[j].cust = c at h1 h2 ⊢
  conv => lhs; rw [e]
  rw [List.filter_append, List.filter_cons, h1, h2]
  simp [hc]
theorem rem_eq {l : List Splt} {d : List Drp} {c : ByteArray} (hf : treeF l d = 0) (h : 0 ≤ findD d c) : remF l d c = 0 ∧ remS l d c = l ∧ remD l d c = d.filter (fun x => !decide (x.cust = c)) := by
  have h0 : remF l d c = 0 := by unfold remF; rw [if_neg (by rw [hf]; simp), if_neg (by omega)]
  refine ⟨h0, by unfold remS; rw [if_pos h0], ?_⟩
  unfold remD
  rw [if_pos h0]
  rcases findD_get d c with ⟨h1, _⟩ | ⟨j, hj, h5, _, h6⟩
  · omega
  rw [h5, Int.toNat_natCast]
  rw [← rem_filter (tok_of hf).custs hj, h6]
theorem filter_rise {α : Type} {key : α → ByteArray} {l : List α} (h : Rising (l.map key)) (p : α → Bool) : Rising ((l.filter p).map key) := rise_pw2 ((rise_pw h).filter p)
/-- moved: every splitter with that name -/
theorem move_map {l : List Splt} (hr : Rising (l.map (·.key))) {key par : ByteArray} {port : Int} {j : Nat} (hj : j < l.length) (hf : findS l key = j) (hk : l[j].key = key) : (l.map fun s => if s.key = key then movedS s par port else s) = moveL l key par port := by
  rw [moveL_at hj hf]
  have hpw := rise_pw hr
  rw [List.pairwise_iff_getElem] at hpw
  apply List.ext_getElem
  · simp
  · intro i h1 h2
    rw [List.length_map] at h1
    rw [List.getElem_map]
    by_cases hij : j = i
    · subst hij; rw [if_pos hk, List.getElem_set_self]
    · rw [List.getElem_set_ne hij, if_neg]
      intro he
      rcases Nat.lt_or_gt_of_ne hij with h | h
      · have := hpw j i hj h1 h; rw [he, hk, lessB_irrefl] at this; cases this
      · have := hpw i j h1 hj h; rw [he, hk, lessB_irrefl] at this; cases this
/-- merged: neighbours that are one are put together -/
theorem ccL_mem {α : Type} [DecidableEq α] {x : α} : ∀ {L : List α}, x ∈ ccL L ↔ x ∈ L
  | [] => by simp [ccL]
  | [y] => by simp [ccL]
  | y :: z :: L => by
    have ih := ccL_mem (x := x) (L := z :: L)
    rw [ccL]
    split
    · rename_i h; subst h; rw [ih]; simp
    · simp only [List.mem_cons] at ih ⊢; rw [ih]
theorem ccL_head {α : Type} [DecidableEq α] : ∀ (x : α) (L : List α), ∃ R, ccL (x :: L) = x :: R
  | x, [] => ⟨[], rfl⟩
  | x, y :: L => by
    rw [ccL]
    split
    · rename_i h; subst h; exact ccL_head x L
    · exact ⟨_, rfl⟩
theorem ccL_sub {α : Type} [DecidableEq α] : ∀ L : List α, (ccL L).Sublist L
  | [] => List.Sublist.refl _
  | [y] => List.Sublist.refl _
  | y :: z :: L => by
    have ih := ccL_sub (z :: L)
    rw [ccL]
    split
    · exact ih.trans (List.sublist_cons_self _ _)
    · exact ih.cons_cons _
/-- no two neighbours of what is put together are one -/
theorem ccL_adj {α : Type} [DecidableEq α] : ∀ (L : List α) (j : Nat) (h : j + 1 < (ccL L).length), (ccL L)[j] ≠ (ccL L)[j + 1]
  | [], j, h => by simp [ccL] at h
  | [y], j, h => by simp [ccL] at h
  | y :: z :: L, j, h => by
    have ih := ccL_adj (z :: L)
    by_cases hyz : y = z
    · have e : ccL (y :: z :: L) = ccL (z :: L) := by rw [ccL, if_pos hyz]
      simp only [e] at h ⊢
      exact ih j h
    · have e : ccL (y :: z :: L) = y :: ccL (z :: L) := by rw [ccL, if_neg hyz]
      simp only [e] at h ⊢
      cases j with
      | zero =>
        obtain ⟨R, hR⟩ := ccL_head z L
        simp only [hR, List.getElem_cons_zero, List.getElem_cons_succ]
        exact hyz
      | succ j =>
        simp only [List.getElem_cons_succ]
        exact ih j (by simpa using h)
section
variable {α : Type} {key : α → ByteArray}
/-- in order, and no neighbours with one key: rising -/
theorem pw_strict : ∀ {S : List α}, S.Pairwise (fun a b => lessB (key b) (key a) = false) → ¬ AdjK key S → S.Pairwise (fun a b => lessB (key a) (key b) = true)
  | [], _, _ => List.Pairwise.nil
  | [x], _, _ => List.pairwise_singleton _ _
  | x :: y :: S, h, hn => by
    rw [List.pairwise_cons] at h
    have ih := pw_strict h.2 (fun ⟨j, hj, e⟩ => hn ⟨j + 1, by simpa using hj, by simpa using e⟩)
    have hxy : lessB (key x) (key y) = true := by
      rcases lessB_total (key x) (key y) with h1 | h1 | h1
      · exact h1
      · exact absurd ⟨0, by simp, by simpa using h1⟩ hn
      · have := h.1 y List.mem_cons_self; rw [h1] at this; cases this
    refine List.pairwise_cons.2 ⟨fun z hz => ?_, ih⟩
    rcases List.mem_cons.1 hz with rfl | hz
    · exact hxy
    · exact lessB_trans hxy ((List.pairwise_cons.1 ih).1 z hz)
theorem rise_nodup {l : List α} (h : l.Pairwise (fun a b => lessB (key a) (key b) = true)) : l.Nodup := by
  refine h.imp ?_
  intro a b hab e
  subst e; rw [lessB_irrefl] at hab; cases hab
end
section
variable {α : Type} [DecidableEq α] {key : α → ByteArray}
/-- two elements of one key that are not one -/
def Clash (key : α → ByteArray) (l l' : List α) : Prop := ∃ s ∈ l', ∃ x ∈ l, key x = key s ∧ x ≠ s
theorem merge_adj {l l' L : List α} (h : l.Pairwise (fun a b => lessB (key a) (key b) = true)) (h' : l'.Pairwise (fun a b => lessB (key a) (key b) = true)) (hp : L.Perm (l ++ l')) (hs : SortTo key L L.length) :
    (AdjK key (ccL L) ↔ Clash key l l') ∧ (¬ Clash key l l' → (ccL L).Pairwise (fun a b => lessB (key a) (key b) = true)) := by
  have hpw := (sortTo_pw hs).sublist (ccL_sub L)
  have hmem : ∀ x, x ∈ ccL L ↔ x ∈ l ∨ x ∈ l' := fun x => by rw [ccL_mem, hp.mem_iff, List.mem_append]
  have hsame : ¬ Clash key l l' → ∀ x ∈ ccL L, ∀ y ∈ ccL L, key x = key y → x = y := by
    intro hc x hx y hy e
    rcases (hmem x).1 hx with hx | hx <;> rcases (hmem y).1 hy with hy | hy
    · exact rise_key h x hx y hy e
    · exact Classical.byContradiction fun hne => hc ⟨y, hy, x, hx, e, hne⟩
    · exact Classical.byContradiction fun hne => hc ⟨x, hx, y, hy, e.symm, fun e2 => hne e2.symm⟩
    · exact rise_key h' x hx y hy e
  have hadj : AdjK key (ccL L) → Clash key l l' := by
    rintro ⟨j, hj, e⟩
    refine Classical.byContradiction fun hc => ?_
    exact ccL_adj L j hj (hsame hc _ (List.getElem_mem _) _ (List.getElem_mem _) e)
  refine ⟨⟨hadj, ?_⟩, fun hc => pw_strict hpw (fun ha => hc (hadj ha))⟩
  rintro ⟨s, hs', x, hx, e, hne⟩
  refine Classical.byContradiction fun hc => ?_
  exact hne (rise_key (pw_strict hpw hc) x ((hmem x).2 (.inl hx)) s ((hmem s).2 (.inr hs')) e)
/-- what is not there yet is put behind -/
def addL (key : α → ByteArray) (l l' : List α) : List α := l ++ l'.filter fun s => !l.any fun x => decide (key x = key s)
theorem merge_eq {l l' L M : List α} (h : l.Pairwise (fun a b => lessB (key a) (key b) = true)) (h' : l'.Pairwise (fun a b => lessB (key a) (key b) = true)) (hc : ¬ Clash key l l') (hp : L.Perm (l ++ l')) (hs : SortTo key L L.length)
    (hpM : M.Perm (addL key l l')) (hsM : SortTo key M M.length) : M = ccL L := by
  have hr := (merge_adj h h' hp hs).2 hc
  have hmem : ∀ x, x ∈ ccL L ↔ x ∈ l ∨ x ∈ l' := fun x => by rw [ccL_mem, hp.mem_iff, List.mem_append]
  have hnd : (addL key l l').Nodup := by
    unfold addL
    refine List.nodup_append.2 ⟨rise_nodup h, (rise_nodup h').filter _, ?_⟩
    intro a ha b hb e
    subst e
    rw [List.mem_filter] at hb
    simp only [Bool.not_eq_true', List.any_eq_false, decide_eq_true_eq] at hb
    exact hb.2 a ha rfl
  have hmA : ∀ x, x ∈ addL key l l' ↔ x ∈ l ∨ x ∈ l' := by
    intro x
    unfold addL
    rw [List.mem_append, List.mem_filter]
    constructor
    · rintro (hx | hx)
      · exact .inl hx
      · exact .inr hx.1
    · rintro (hx | hx)
      · exact .inl hx
      · by_cases hl : x ∈ l
        · exact .inl hl
        · refine .inr ⟨hx, ?_⟩
          simp only [Bool.not_eq_true', List.any_eq_false, decide_eq_true_eq]
          intro y hy e
          refine hc ⟨x, hx, y, hy, e, fun e2 => hl (e2 ▸ hy)⟩
  have hpc : (addL key l l').Perm (ccL L) := (List.perm_ext_iff_of_nodup hnd (rise_nodup hr)).2 fun x => by rw [hmA, hmem]
  exact sorted_is (rise_pw2 hr) (hpM.trans hpc) hsM
end
/-- fewer drops of a right tree: right -/
theorem tree_sub {l : List Splt} {d d' : List Drp} (h : treeF l d = 0) (hs : d'.Sublist d) : treeF l d' = 0 := by
  have ok := tok_of h
  have hlen : d.length ≤ 5000 := by
    have := ok.dr
    unfold dropsF at this
    split at this
    · omega
    · omega
  have h0 : dropsF l d' = 0 := by
    refine drops_of (by have := hs.length_le; omega) (fun x hx => drp_ok ok x (hs.subset hx)) ?_ ?_
    · exact List.Pairwise.sublist (hs.map _) ok.custs
    · have hn := used_nodup ok
      refine hn.sublist ?_
      unfold usedP
      exact (List.Sublist.refl _).append (hs.map _)
  unfold treeF at h ⊢
  split at h
  · rename_i h1; exact absurd h h1
  · rename_i h1
    split at h
    · rename_i h2; exact absurd h h2
    · rename_i h2
      rw [if_neg h1, if_neg h2]; exact h0
end Go.Proofs.YtcecpodbmjghhaaGreat
/- Walks: slices.SortFunc of at most twelve splitters, of at most twelve drops; the reference's tree with other drops. -/
namespace Go.Proofs.YtcecpodbmjghhaaGreat
open Go Go.RowKit
/-- what sorting leaves -/
def SortedV {α : Type} (cells : α → List Value) (sz : Nat) (key : α → ByteArray) (base : Nat) (v : Value) (l : List α) (w : World) (e : Ending) (w' : World) : Prop :=
  e = .returned (.tuple #[]) ∧ ∃ L, L.Perm l ∧ SortTo key L L.length ∧ RowV cells sz base w' v L ∧ w.grownBy w' v.ownBlock
set_option maxHeartbeats 4000000 in
set_option maxRecDepth 100000 in
theorem pdq_splt (v : Value) (l : List Splt) (F : FuncId) (lim : Int) (base : Nat) (w : World) (hv : RowV Splt.cells 4 base w v l) (hl : l.length ≤ 12)
    (hF : ∀ (args : Array Value) (w : World), (callFunc F args).run Tryz.prog w = .ok (.enter F args) w)
    (hcall : ∀ (x y : Splt) (w' : World), Calls Tryz.prog F #[.agg ⟨Splt.cells x⟩, .agg ⟨Splt.cells y⟩] w' fun e w'' => e = .returned (.int .i64 (cmpB x.key y.key)) ∧ Below w'.heap.size w' w'') :
    Calls Tryz.prog 117 #[v, .int .i64 0, .int .i64 l.length, .int .i64 lim, .func (.func F) #[] #[]] w (SortedV Splt.cells 4 Splt.key base v l w) := by
  have HV := Lib.hid (And.intro hv (And.intro hF hcall))
  have h12 : ((l.length : Int) ≤ 12) = True := by simp; omega
  have hsub : IntKind.i64.wrap ((l.length : Int) - 0) = (l.length : Int) := IntWalk.i64_in _ (by omega)
  clear hv hF hcall
  go_enter Tryz.func117, Tryz.ntmps117
  go_wp2
  go_loopw [1, 2] (fun av bv wr => av = .int .i64 0 ∧ bv = .int .i64 l.length ∧ wr = w) (fun _ _ _ => 0)
  case atStart => exact ⟨rfl, rfl, rfl⟩
  case round =>
    obtain ⟨rfl, rfl, hw⟩ := hrel
    have hw := hw.symm
    subst hw
    go_wp2_with fail
    refine (isortV_splt v l F base _ HV.out.1 (by omega) HV.out.2.1 HV.out.2.2).mono ?_
    rintro e w1 ⟨rfl, L, hp, hs, hr, hg⟩
    have HR := Lib.hid (And.intro hp (And.intro hs (And.intro hr hg)))
    clear hp hs hr hg
    go_wp2
    refine bodyPost_ret (v := .tuple #[]) (by simp [results, go_sem]) rfl ?_
    exact ⟨rfl, L, HR.out.1, HR.out.2.1, HR.out.2.2.1, HR.out.2.2.2⟩
set_option maxHeartbeats 4000000 in
theorem sortF_splt (v : Value) (l : List Splt) (F : FuncId) (base : Nat) (w : World) (hv : RowV Splt.cells 4 base w v l) (hl : l.length ≤ 12)
    (hF : ∀ (args : Array Value) (w : World), (callFunc F args).run Tryz.prog w = .ok (.enter F args) w)
    (hcall : ∀ (x y : Splt) (w' : World), Calls Tryz.prog F #[.agg ⟨Splt.cells x⟩, .agg ⟨Splt.cells y⟩] w' fun e w'' => e = .returned (.int .i64 (cmpB x.key y.key)) ∧ Below w'.heap.size w' w'') :
    Calls Tryz.prog 84 #[v, .func (.func F) #[] #[]] w (SortedV Splt.cells 4 Splt.key base v l w) := by
  have HV := Lib.hid (And.intro hv (And.intro hF hcall))
  obtain ⟨a, cap, rfl⟩ := hv.slice
  clear hv hF hcall
  go_enter Tryz.func84, Tryz.ntmps84
  go_wp2_with fail
  refine (Tryz.bits_Len _ _ (by omega) (by omega)).mono ?_
  rintro e w1 ⟨rfl, rfl⟩
  go_wp2_with fail
  refine (pdq_splt _ l F _ base _ HV.out.1 hl HV.out.2.1 HV.out.2.2).mono ?_
  rintro e w1 hS
  have HS := Lib.hid hS
  obtain ⟨rfl, -⟩ := hS
  go_wp2
  refine bodyPost_end (results_none rfl _ _ _) rfl ?_
  exact HS.out
set_option maxHeartbeats 1000000 in
theorem byKey_any (x y : Splt) (w : World) : Calls Tryz.prog 85 #[.agg ⟨Splt.cells x⟩, .agg ⟨Splt.cells y⟩] w fun e w'' => e = .returned (.int .i64 (cmpB x.key y.key)) ∧ Below w.heap.size w w'' := by
  show Calls Tryz.prog 85 #[.agg #[.string (x).key, .int .i64 (x).ways, .string (x).par, .int .i64 (x).port], .agg #[.string (y).key, .int .i64 (y).ways, .string (y).par, .int .i64 (y).port]] w _
  go_enter Tryz.func85, Tryz.ntmps85
  go_wp2_with (go_at_call 53; refine (Tryz.strings_Compare _ _ _).mono ?_; rintro e w' ⟨rfl, rfl⟩)
  go_ret
  exact ⟨rfl, by (repeat (first | exact Below.refl _ _ | assumption | refine below_draws ?_ _ | refine Below.drew ?_ | refine below_alloc ?_ _ (by first | omega | (simp; done) | (simp; omega)) | refine Below.setCell ?_ (by first | omega | (simp; done) | (simp; omega)) _ | refine below_at ?_ (by assumption) (by first | omega | (simp; done) | (simp; omega))))⟩
set_option maxHeartbeats 4000000 in
set_option maxRecDepth 100000 in
theorem pdq_drp (v : Value) (l : List Drp) (F : FuncId) (lim : Int) (base : Nat) (w : World) (hv : RowV Drp.cells 3 base w v l) (hl : l.length ≤ 12)
    (hF : ∀ (args : Array Value) (w : World), (callFunc F args).run Tryz.prog w = .ok (.enter F args) w)
    (hcall : ∀ (x y : Drp) (w' : World), Calls Tryz.prog F #[.agg ⟨Drp.cells x⟩, .agg ⟨Drp.cells y⟩] w' fun e w'' => e = .returned (.int .i64 (cmpB x.cust y.cust)) ∧ Below w'.heap.size w' w'') :
    Calls Tryz.prog 134 #[v, .int .i64 0, .int .i64 l.length, .int .i64 lim, .func (.func F) #[] #[]] w (SortedV Drp.cells 3 Drp.cust base v l w) := by
  have HV := Lib.hid (And.intro hv (And.intro hF hcall))
  have h12 : ((l.length : Int) ≤ 12) = True := by simp; omega
  have hsub : IntKind.i64.wrap ((l.length : Int) - 0) = (l.length : Int) := IntWalk.i64_in _ (by omega)
  clear hv hF hcall
  go_enter Tryz.func134, Tryz.ntmps134
  go_wp2
  go_loopw [1, 2] (fun av bv wr => av = .int .i64 0 ∧ bv = .int .i64 l.length ∧ wr = w) (fun _ _ _ => 0)
  case atStart => exact ⟨rfl, rfl, rfl⟩
  case round =>
    obtain ⟨rfl, rfl, hw⟩ := hrel
    have hw := hw.symm
    subst hw
    go_wp2_with fail
    refine (isortV_drp v l F base _ HV.out.1 (by omega) HV.out.2.1 HV.out.2.2).mono ?_
    rintro e w1 ⟨rfl, L, hp, hs, hr, hg⟩
    have HR := Lib.hid (And.intro hp (And.intro hs (And.intro hr hg)))
    clear hp hs hr hg
    go_wp2
    refine bodyPost_ret (v := .tuple #[]) (by simp [results, go_sem]) rfl ?_
    exact ⟨rfl, L, HR.out.1, HR.out.2.1, HR.out.2.2.1, HR.out.2.2.2⟩
set_option maxHeartbeats 4000000 in
theorem sortF_drp (v : Value) (l : List Drp) (F : FuncId) (base : Nat) (w : World) (hv : RowV Drp.cells 3 base w v l) (hl : l.length ≤ 12)
    (hF : ∀ (args : Array Value) (w : World), (callFunc F args).run Tryz.prog w = .ok (.enter F args) w)
    (hcall : ∀ (x y : Drp) (w' : World), Calls Tryz.prog F #[.agg ⟨Drp.cells x⟩, .agg ⟨Drp.cells y⟩] w' fun e w'' => e = .returned (.int .i64 (cmpB x.cust y.cust)) ∧ Below w'.heap.size w' w'') :
    Calls Tryz.prog 109 #[v, .func (.func F) #[] #[]] w (SortedV Drp.cells 3 Drp.cust base v l w) := by
  have HV := Lib.hid (And.intro hv (And.intro hF hcall))
  obtain ⟨a, cap, rfl⟩ := hv.slice
  clear hv hF hcall
  go_enter Tryz.func109, Tryz.ntmps109
  go_wp2_with fail
  refine (Tryz.bits_Len _ _ (by omega) (by omega)).mono ?_
  rintro e w1 ⟨rfl, rfl⟩
  go_wp2_with fail
  refine (pdq_drp _ l F _ base _ HV.out.1 hl HV.out.2.1 HV.out.2.2).mono ?_
  rintro e w1 hS
  have HS := Lib.hid hS
  obtain ⟨rfl, -⟩ := hS
  go_wp2
  refine bodyPost_end (results_none rfl _ _ _) rfl ?_
  exact HS.out
set_option maxHeartbeats 1000000 in
theorem byCust_any (x y : Drp) (w : World) : Calls Tryz.prog 110 #[.agg ⟨Drp.cells x⟩, .agg ⟨Drp.cells y⟩] w fun e w'' => e = .returned (.int .i64 (cmpB x.cust y.cust)) ∧ Below w.heap.size w w'' := by
  show Calls Tryz.prog 110 #[.agg #[.string (x).cust, .string (x).spl, .int .i64 (x).port], .agg #[.string (y).cust, .string (y).spl, .int .i64 (y).port]] w _
  go_enter Tryz.func110, Tryz.ntmps110
  go_wp2_with (go_at_call 53; refine (Tryz.strings_Compare _ _ _).mono ?_; rintro e w' ⟨rfl, rfl⟩)
  go_ret
  exact ⟨rfl, by (repeat (first | exact Below.refl _ _ | assumption | refine below_draws ?_ _ | refine Below.drew ?_ | refine below_alloc ?_ _ (by first | omega | (simp; done) | (simp; omega)) | refine Below.setCell ?_ (by first | omega | (simp; done) | (simp; omega)) _ | refine below_at ?_ (by assumption) (by first | omega | (simp; done) | (simp; omega))))⟩
end Go.Proofs.YtcecpodbmjghhaaGreat
/- Walk of the reference: a tree with other drops, in order. -/
namespace Go.Proofs.YtcecpodbmjghhaaGreat
open Go Go.RowKit
/-- what withDrops answers -/
def WithPost (l : List Splt) (d : List Drp) (base : Nat) (v : Value) (w : World) (e : Ending) (w' : World) : Prop :=
  ∃ u1 L, e = .returned (.agg #[u1, v]) ∧ L.Perm d ∧ SortTo Drp.cust L L.length ∧ Arr Splt.cells 4 w' l u1 ∧ RowV Drp.cells 3 base w' v L ∧ w.grownBy w' v.ownBlock ∧ ∀ k, u1.ownBlock = some k → w.heap.size ≤ k
set_option maxHeartbeats 4000000 in
set_option maxRecDepth 100000 in
theorem withDrops_any (v1 v2 v : Value) (l : List Splt) (d : List Drp) (base : Nat) (w : World) (h1 : Arr Splt.cells 4 w l v1) (hk : ∀ w', w.grownBy w' v.ownBlock → Arr Splt.cells 4 w' l v1) (hv : RowV Drp.cells 3 base w v d) (hd : d.length ≤ 12) (hl : l.length ≤ 1000) :
    Calls Tryz.prog 68 #[.agg #[v1, v2], v] w (WithPost l d base v w) := by
  have HV := Lib.hid (And.intro hv hk)
  obtain ⟨a1, cap1, rfl, -, -, -⟩ := id h1
  obtain ⟨a, cap, rfl⟩ := hv.slice
  have hbx : Blk ((w.alloc (.cells #[.slice a1 l.length cap1, v2] 29)).alloc (.cells #[.slice none 0 0, .slice none 0 0] 29)) w.heap.size #[.slice a1 l.length cap1, v2] 29 := (Blk.new w _ _).alloc _
  have hbr : Blk ((w.alloc (.cells #[.slice a1 l.length cap1, v2] 29)).alloc (.cells #[.slice none 0 0, .slice none 0 0] 29)) (w.heap.size + 1) #[.slice none 0 0, .slice none 0 0] 29 := Blk.newAt (by simp)
  have hg0 : ∀ row, w.grownBy ((w.alloc (.cells #[.slice a1 l.length cap1, v2] 29)).alloc (.cells #[.slice none 0 0, .slice none 0 0] 29)) row := fun row => grown_trans (World.grownBy_alloc w _ row) (World.grownBy_alloc _ _ row)
  have HB := Lib.hid (And.intro hbx (And.intro hbr hg0))
  have hvl := hv.lt
  have hF : ∀ (args : Array Value) (w : World), (callFunc 110 args).run Tryz.prog w = .ok (.enter 110 args) w := run_fn Tryz.func110 (by kernel_rfl) rfl
  have HL := Lib.hid hvl
  clear hv hk hbx hbr hg0 h1 hvl
  go_enter Tryz.func68, Tryz.ntmps68
  go_wp2_with fail
  refine (sortF_drp _ d _ base _ (HV.out.1.grown (HB.out.2.2 none) (fun _ _ e => by cases e)) hd hF byCust_any).mono ?_
  rintro e w2 ⟨rfl, L, hp, hs, hr, hg⟩
  have ho1 : some w.heap.size ≠ (Value.slice a d.length cap).ownBlock := fun e => by have := (HL.out _ e.symm).2; omega
  have ho2 : some (w.heap.size + 1) ≠ (Value.slice a d.length cap).ownBlock := fun e => by have := (HL.out _ e.symm).2; omega
  have hbx := HB.out.1.grown hg ho1
  have hbr := HB.out.2.1.grown hg ho2
  have hg02 := grown_trans (HB.out.2.2 (Value.slice a d.length cap).ownBlock) hg
  have H2 := Lib.hid (And.intro hp (And.intro hs (And.intro hr (And.intro hg02 (And.intro hbr (HV.out.2 _ hg02))))))
  have p0 := hbx.cell 0 _ rfl
  have p1 := hbx.cell 1 _ rfl
  have hz2 := hbr.lt
  clear hp hs hr hg hbr hbx hg02 ho1 ho2
  go_wp2_with fail
  refine (clone_splt _ l _ (by exact H2.out.2.2.2.2.2) (by omega)).mono ?_
  rintro e w3 ⟨u1, rfl, ⟨ho, -⟩, hb3⟩
  have hA := Arr.of_own Splt.cells_len ho
  obtain ⟨au, cu, rfl, -, -, -⟩ := id hA
  have hbr := H2.out.2.2.2.2.1.below hb3 hz2
  have z0 := hbr.cell 0 _ rfl
  have z1 := hbr.cell 1 _ rfl
  have zf := fun o => hbr.free o
  have hz3 := hbr.lt
  have hlo : ∀ k, (Value.slice au l.length cu).ownBlock = some k → w.heap.size + 1 < k := fun k e => by have := (ho.lt k e).1; omega
  have H3 := Lib.hid (And.intro hA (And.intro (H2.out.2.2.1.below hb3) (And.intro (grown_trans H2.out.2.2.2.1 (grown_below _ hb3)) hlo)))
  clear ho hA hb3 hbr p0 p1 hlo
  go_wp2
  refine bodyPost_ret (v := .agg #[.slice au l.length cu, .slice a d.length cap]) ?_ rfl ⟨_, L, rfl, H2.out.1, H2.out.2.1, ?_, ?_, ?_, fun k e => by have := H3.out.2.2.2 k e; omega⟩
  · simp [results, go_sem, z0, z1]
  · exact arr_setOther (arr_setOther H3.out.1 (fun e => by have := H3.out.2.2.2 _ e; omega) _ _) (fun e => by have := H3.out.2.2.2 _ e; omega) _ _
  · refine (H3.out.2.1.setNe (fun e => ?_) _ _).setNe (fun e => ?_) _ _
    · have := (HL.out _ e).2; omega
    · have := (HL.out _ e).2; omega
  · exact grown_setOwn (grown_setOwn H3.out.2.2.1 (by omega) _ _) (by omega) _ _
end Go.Proofs.YtcecpodbmjghhaaGreat
