/- Walk of package tree: a splitter is put at another port. -/
import Derived.Test.YtcecpodbmjghhaaGreatTreeGH
import Derived.Test.YtcecpodbmjghhaaGreatTreesP
set_option linter.unusedVariables false
set_option linter.unusedSimpArgs false
namespace Go.Proofs.YtcecpodbmjghhaaGreat
open Go Go.RowKit

theorem flat_setM {α : Type} {cells : α → List Value} {sz : Nat} (hlen : ∀ x, (cells x).length = sz) {u : Value} {x : α} {j : Nat} (hj : j < sz) : ∀ (l : List α) (k : Nat) (hk : k < l.length), cells x = (cells l[k]).set j u → (l.flatMap cells).set (k * sz + j) u = (l.set k x).flatMap cells
  | y :: l, 0, _, hx => by
    rw [List.flatMap_cons, Nat.zero_mul, Nat.zero_add, List.set_append_left _ _ (by rw [hlen]; exact hj), List.set_cons_zero, List.flatMap_cons, hx]; rfl
  | y :: l, k + 1, hk, hx => by
    rw [List.flatMap_cons, List.set_cons_succ, List.flatMap_cons, List.set_append_right _ _ (by rw [hlen, Nat.succ_mul]; omega), hlen]
    rw [show (k + 1) * sz + j - sz = k * sz + j by rw [Nat.succ_mul]; omega, flat_setM hlen hj l k (by simpa using hk) (by simpa using hx)]
theorem own_form2M {W : World} {B sz n : Nat} {e : TypeId} {v : Value} {xs : List Value} (h : W.ownsRow B e sz v n xs) (hn : 0 < n) : ∃ g cap, v = .slice (some ⟨g, 0, none⟩) n cap ∧ B ≤ g ∧ g < W.heap.size ∧ n ≤ cap ∧ cap ≤ maxLen := by
  have hlt := h.lt
  rcases h.2 with ⟨_, h0⟩ | ⟨g, cap, cur, rfl, hg, _, hc, hm, _⟩
  · omega
  · exact ⟨g, cap, rfl, hg, (hlt g rfl).2, hc, hm⟩
theorem move_row {W : World} {B g cap j : Nat} {l : List Splt} (h : W.ownsRow B 58 4 (.slice (some ⟨g, 0, none⟩) l.length cap) l.length (l.flatMap Splt.cells)) (hj : j < l.length) (par : ByteArray) (port : Int) :
    ((W.setCell ⟨g, j * 4 + 2, none⟩ (.string par)).setCell ⟨g, j * 4 + 3, none⟩ (.int .i64 port)).ownsRow B 58 4 (.slice (some ⟨g, 0, none⟩) l.length cap) (l.set j (movedS l[j] par port)).length ((l.set j (movedS l[j] par port)).flatMap Splt.cells) := by
  have h1 := (h.stored (j * 4 + 2) (.string par)).1
  rw [flat_setM Splt.cells_len (by omega) l j hj (x := ⟨l[j].key, l[j].ways, par, l[j].port⟩) rfl] at h1
  have h2 := (h1.stored (j * 4 + 3) (.int .i64 port)).1
  rw [flat_setM Splt.cells_len (by omega) _ j (by simpa using hj) (x := movedS l[j] par port) (by rw [List.getElem_set_self]; rfl), List.set_set] at h2
  rw [List.length_set]; exact h2
theorem arr_setOther {α : Type} {cells : α → List Value} {sz : Nat} {w : World} {l : List α} {v : Value} (h : Arr cells sz w l v) {c : Nat} (hne : v.ownBlock ≠ some c) (o : Nat) (u : Value) : Arr cells sz (w.setCell ⟨c, o, none⟩ u) l v := by
  obtain ⟨a, cap, rfl, h2, h3, h4⟩ := h
  refine ⟨a, cap, rfl, h2, h3, fun k hk => ?_⟩
  obtain ⟨b, off, ha, hb, hc⟩ := h4 k hk
  refine ⟨b, off, ha, by simp [World.setCell]; exact hb, fun j x hx => ?_⟩
  rw [World.cell?_setCell_other _ _ _ _ (fun e => hne (by subst ha; simp only [Addr.mk.injEq] at e; simp [Value.ownBlock, e.1]))]
  exact hc j x hx
def MovePost (l : List Splt) (d : List Drp) (F : Int) (w : World) (e : Ending) (w' : World) : Prop := ∃ u1 u2, e = .returned (.tuple #[.agg #[u1, u2], .int .i64 F]) ∧ Arr Splt.cells 4 w' (if F = 0 then l else []) u1 ∧ Arr Drp.cells 3 w' (if F = 0 then d else []) u2 ∧ Below w.heap.size w w'
set_option maxHeartbeats 8000000 in
set_option maxRecDepth 100000 in
theorem move_any (v1 v2 : Value) (l : List Splt) (d : List Drp) (key par : ByteArray) (port : Int) (w : World) (h1 : Arr Splt.cells 4 w l v1) (h2 : Arr Drp.cells 3 w d v2) : Calls Tryz.prog 12 #[.agg #[v1, v2], .string key, .string par, .int .i64 port] w (MovePost (moveL l key par port) d (moveF l d key par port) w) := by
  have HA := Lib.hid (And.intro h1 h2)
  obtain ⟨a1, cap1, rfl, -, -, -⟩ := h1
  obtain ⟨a2, cap2, rfl, -, -, -⟩ := h2
  have HF0 : Hid (splitterF l d key ≠ 0 → moveF l d key par port = splitterF l d key) := fun h => by unfold moveF; rw [if_pos h]
  have HF1 : Hid (splitterF l d key = 0 → moveF l d key par port = treeF (moveL l key par port) d) := fun h => by unfold moveF; rw [if_neg (by omega)]
  have hbx : Blk ((w.alloc (.cells #[.slice a1 l.length cap1, .slice a2 d.length cap2] 29)).alloc (.cells #[.slice none 0 0, .slice none 0 0] 29)) w.heap.size #[.slice a1 l.length cap1, .slice a2 d.length cap2] 29 := (Blk.new w _ _).alloc _
  have hrs : Blk ((w.alloc (.cells #[.slice a1 l.length cap1, .slice a2 d.length cap2] 29)).alloc (.cells #[.slice none 0 0, .slice none 0 0] 29)) (w.heap.size + 1) #[.slice none 0 0, .slice none 0 0] 29 := Blk.newAt (by simp)
  have HB0 := Lib.hid (And.intro hbx hrs)
  clear hbx hrs
  go_enter Tryz.func12, Tryz.ntmps12
  go_wp2_with fail
  refine (splitterFault_any _ _ l d key _ (by exact HA.out.1.below (by (repeat (first | exact Below.refl _ _ | assumption | refine below_draws ?_ _ | refine Below.drew ?_ | refine below_alloc ?_ _ (by first | omega | (simp; done) | (simp; omega)) | refine Below.setCell ?_ (by first | omega | (simp; done) | (simp; omega)) _ | refine below_at ?_ (by assumption) (by first | omega | (simp; done) | (simp; omega)))))) (by exact HA.out.2.below (by (repeat (first | exact Below.refl _ _ | assumption | refine below_draws ?_ _ | refine Below.drew ?_ | refine below_alloc ?_ _ (by first | omega | (simp; done) | (simp; omega)) | refine Below.setCell ?_ (by first | omega | (simp; done) | (simp; omega)) _ | refine below_at ?_ (by assumption) (by first | omega | (simp; done) | (simp; omega))))))).mono ?_
  rintro e w2 ⟨rfl, hb2⟩
  have hz2 : w.heap.size + 2 ≤ w2.heap.size := by have := hb2.size; simpa using this
  have hBw : Below w.heap.size w w2 := by (repeat (first | exact Below.refl _ _ | assumption | refine below_draws ?_ _ | refine Below.drew ?_ | refine below_alloc ?_ _ (by first | omega | (simp; done) | (simp; omega)) | refine Below.setCell ?_ (by first | omega | (simp; done) | (simp; omega)) _ | refine below_at ?_ (by assumption) (by first | omega | (simp; done) | (simp; omega))))
  have hbx := HB0.out.1.below hb2 (by simp; omega)
  have hrs := HB0.out.2.below hb2 (by simp)
  have H2 := Lib.hid (And.intro hBw (And.intro hbx hrs))
  have p0 := hbx.cell 0 _ rfl
  have p1 := hbx.cell 1 _ rfl
  have r0 := hrs.cell 0 (.slice none 0 0) rfl
  have r1 := hrs.cell 1 (.slice none 0 0) rfl
  have rf := fun o => hrs.free o
  clear hb2 hBw hbx hrs
  by_cases hf : splitterF l d key = 0
  rotate_left
  · have hf1 : (splitterF l d key != 0) = true := by simp [hf]
    have hFF := HF0.out hf
    have HFN : Hid (¬ moveF l d key par port = 0) := by rw [hFF]; exact hf
    have HFF := Lib.hid hFF
    clear hf hFF
    go_wp2
    refine bodyPost_ret (v := .tuple #[.agg #[.slice none 0 0, .slice none 0 0], .int .i64 (splitterF l d key)]) ?_ rfl ⟨_, _, by rw [HFF.out], ?_, ?_, ?_⟩
    · simp [results, go_sem, r0, r1]
    · rw [if_neg HFN.out]; exact Arr.nil _ _ _
    · rw [if_neg HFN.out]; exact Arr.nil _ _ _
    · have := H2.out.1; (repeat (first | exact Below.refl _ _ | assumption | refine below_draws ?_ _ | refine Below.drew ?_ | refine below_alloc ?_ _ (by first | omega | (simp; done) | (simp; omega)) | refine Below.setCell ?_ (by first | omega | (simp; done) | (simp; omega)) _ | refine below_at ?_ (by assumption) (by first | omega | (simp; done) | (simp; omega))))
  have hf1 : (splitterF l d key != 0) = false := by simp [hf]
  obtain ⟨ht, j, hj, hfj, hgj, hkj⟩ := splitterF_zero hf
  have ok := tok_of ht
  have HFF := Lib.hid (HF1.out hf)
  have HML := Lib.hid (moveL_at (par := par) (port := port) hj hfj)
  have HOK := Lib.hid (And.intro ok hfj)
  have hl5 := ok.s.len
  have hd5 : d.length ≤ 5000 := by
    have := ok.dr
    unfold dropsF at this
    split at this <;> omega
  clear hf ok ht hfj hgj hkj HF0 HF1
  go_wp2_with fail
  refine (copied_any _ _ l d _ (by exact HA.out.1.below H2.out.1) (by exact HA.out.2.below H2.out.1) (by omega) (by omega)).mono ?_
  rintro e w3 ⟨u1, u2, rfl, o1, o2, hap, hb3⟩
  obtain ⟨g, cap3, rfl, hgB, hgs, hcn, hcm⟩ := own_form2M o1 (show 0 < l.length by omega)
  obtain ⟨b2, cap4, rfl⟩ := own_sliceH o2
  have hwl1 : (Value.slice (some ⟨g, 0, none⟩) l.length cap3).ownBlock ≠ some (w.heap.size + 1) := fun e => by have := (o1.lt _ e).1; omega
  have hwl2 : (Value.slice b2 d.length cap4).ownBlock ≠ some (w.heap.size + 1) := fun e => by have := (o2.lt _ e).1; omega
  have hz3 : w2.heap.size ≤ w3.heap.size := hb3.size
  have hBw : Below w.heap.size w w3 := by have := H2.out.1; (repeat (first | exact Below.refl _ _ | assumption | refine below_draws ?_ _ | refine Below.drew ?_ | refine below_alloc ?_ _ (by first | omega | (simp; done) | (simp; omega)) | refine Below.setCell ?_ (by first | omega | (simp; done) | (simp; omega)) _ | refine below_at ?_ (by assumption) (by first | omega | (simp; done) | (simp; omega))))
  have hbx := H2.out.2.1.below hb3 (by omega)
  have hrs := H2.out.2.2.below hb3 (by omega)
  have hox := Blk.new w3 #[.slice (some ⟨g, 0, none⟩) l.length cap3, .slice b2 d.length cap4] 29
  have H3 := Lib.hid (And.intro hBw (And.intro hbx (And.intro hrs (And.intro o1 (And.intro o2 (And.intro hap hox))))))
  clear hb3 hBw hbx hrs o1 o2 hap hox p0 p1 r0 r1 rf
  have p0 := H3.out.2.1.cell 0 _ rfl
  have p1 := H3.out.2.1.cell 1 _ rfl
  have hj1 : (0 : Int) ≤ (j : Int) := by omega
  have hj3 : (j : Int) < (l.length : Int) := by omega
  go_wp2_with fail
  go_region_held3 (fun w' => w'.cell? ⟨w.heap.size, 0, none⟩ = some (.slice a1 l.length cap1) ∧ w'.cell? ⟨w.heap.size, 1, none⟩ = some (.slice a2 d.length cap2) ∧ w'.cell? ⟨w3.heap.size, 0, none⟩ = some (.slice (some ⟨g, 0, none⟩) l.length cap3)) (go_keep)
    (first
      | (go_at_call 57; refine (find_any _ _ l key _ ?_ (by omega) HOK.out.1.s.rise).mono ?_; (exact HA.out.1.below (by have h3 := H3.out.1; (repeat (first | exact Below.refl _ _ | assumption | refine below_draws ?_ _ | refine Below.drew ?_ | refine below_alloc ?_ _ (by first | omega | (simp; done) | (simp; omega)) | refine Below.setCell ?_ (by first | omega | (simp; done) | (simp; omega)) _ | refine below_at ?_ (by assumption) (by first | omega | (simp; done) | (simp; omega)))))); rintro e w4 ⟨rfl, hb4⟩; rw [HOK.out.2]; have s4 := hb4.size; (try simp at s4); have hc4 := bcellAt hb4 w.heap.size (by first | omega | (simp; done) | (simp; omega)); have hc5 := bcellAt hb4 w3.heap.size (by first | omega | (simp; done) | (simp; omega))))
  have o1 := own_below (w := (w3.alloc (.cells #[.slice (some ⟨g, 0, none⟩) l.length cap3, .slice b2 d.length cap4] 29)).drew) (World.ownsRow.alloc (w := w3) H3.out.2.2.2.1 (.cells #[.slice (some ⟨g, 0, none⟩) l.length cap3, .slice b2 d.length cap4] 29)) hb4
  have o2 := own_below (w := (w3.alloc (.cells #[.slice (some ⟨g, 0, none⟩) l.length cap3, .slice b2 d.length cap4] 29)).drew) (World.ownsRow.alloc (w := w3) H3.out.2.2.2.2.1 (.cells #[.slice (some ⟨g, 0, none⟩) l.length cap3, .slice b2 d.length cap4] 29)) hb4
  have hox := (H3.out.2.2.2.2.2.2.drew).below hb4 (by simp)
  have hrs := ((H3.out.2.2.1.alloc (.cells #[.slice (some ⟨g, 0, none⟩) l.length cap3, .slice b2 d.length cap4] 29)).drew).below hb4 (by simp; omega)
  have hBw : Below w.heap.size w w4 := by have := H3.out.1; (repeat (first | exact Below.refl _ _ | assumption | refine below_draws ?_ _ | refine Below.drew ?_ | refine below_alloc ?_ _ (by first | omega | (simp; done) | (simp; omega)) | refine Below.setCell ?_ (by first | omega | (simp; done) | (simp; omega)) _ | refine below_at ?_ (by assumption) (by first | omega | (simp; done) | (simp; omega))))
  have hrow := Row.of_own Splt.cells_len o1 rfl
  have t2 := hrow.1 j hj 2 _ rfl
  have t3 := hrow.1 j hj 3 _ rfl
  have u2 := hrow.2.1 (j * 4 + 2)
  have u3 := hrow.2.1 (j * 4 + 3)
  simp only [Nat.zero_add] at t2 t3
  have K := move_row o1 hj par port
  have H4 := Lib.hid (And.intro o1 (And.intro o2 (And.intro hox (And.intro hrs (And.intro hBw K)))))
  have q0 := hox.cell 0 _ rfl
  have q1 := hox.cell 1 _ rfl
  have hg3 : g ≠ w3.heap.size := by omega
  have hg4 : w3.heap.size ≠ g := by omega
  have hw4 : w3.heap.size < w4.heap.size := hox.lt
  clear hb4 hc4 hc5 o1 o2 hox hrs hBw hrow K p0 p1
  go_wp2_with fail
  have hK := H4.out.2.2.2.2.2
  have hap := H3.out.2.2.2.2.2.1
  have k2 : ((w4.setCell ⟨g, j * 4 + 2, none⟩ (.string par)).setCell ⟨g, j * 4 + 3, none⟩ (.int .i64 port)).ownsRow w2.heap.size 36 3 (.slice b2 d.length cap4) d.length (d.flatMap Drp.cells) := by
    have hne : (Value.slice b2 d.length cap4).ownBlock = none ∨ (Value.slice b2 d.length cap4).ownBlock ≠ some g := by
      cases hv : (Value.slice b2 d.length cap4).ownBlock with
      | none => exact .inl rfl
      | some c => exact .inr (fun e => hap g rfl (by rw [hv]; exact e))
    exact (H4.out.2.1.kept (grown_setCells g [.string par] (j * 4 + 2) w4) hne).kept (grown_setCells g [.int .i64 port] (j * 4 + 3) _) hne
  have kox := ((H4.out.2.2.1.setOther hg4 (j * 4 + 2) (.string par)).setOther hg4 (j * 4 + 3) (.int .i64 port))
  have krs := ((H4.out.2.2.2.1.setOther (c := g) (by omega) (j * 4 + 2) (.string par)).setOther (c := g) (by omega) (j * 4 + 3) (.int .i64 port))
  have kB : Below w.heap.size w ((w4.setCell ⟨g, j * 4 + 2, none⟩ (.string par)).setCell ⟨g, j * 4 + 3, none⟩ (.int .i64 port)) := Below.setCell (Below.setCell H4.out.2.2.2.2.1 (by simp; omega) _) (by simp; omega) _
  have hz5 : w3.heap.size < ((w4.setCell ⟨g, j * 4 + 2, none⟩ (.string par)).setCell ⟨g, j * 4 + 3, none⟩ (.int .i64 port)).heap.size := kox.lt
  generalize (w4.setCell ⟨g, j * 4 + 2, none⟩ (.string par)).setCell ⟨g, j * 4 + 3, none⟩ (.int .i64 port) = w5 at *
  have A1 : Arr Splt.cells 4 w5 (moveL l key par port) (.slice (some ⟨g, 0, none⟩) l.length cap3) := by
    rw [HML.out]
    have := Arr.of_own Splt.cells_len hK
    exact this
  have A2 := Arr.of_own Drp.cells_len k2
  have H5 := Lib.hid (And.intro A1 (And.intro A2 (And.intro kox (And.intro krs kB))))
  clear hK k2 kox krs kB A1 A2 H4 hap t2 t3 u2 u3 q0 q1
  refine (checkTree_any _ _ (moveL l key par port) d _ (by exact H5.out.1) (by exact H5.out.2.1)).mono ?_
  rintro e w6 ⟨rfl, hb6⟩
  have hz6 := hb6.size
  have hBw : Below w.heap.size w w6 := below_at H5.out.2.2.2.2 hb6 (by omega)
  have kox := H5.out.2.2.1.below hb6 (by omega)
  have krs := H5.out.2.2.2.1.below hb6 (by omega)
  have A1 := H5.out.1.below hb6
  have A2 := H5.out.2.1.below hb6
  have H6 := Lib.hid (And.intro hBw (And.intro A1 A2))
  have q0 := kox.cell 0 _ rfl
  have q1 := kox.cell 1 _ rfl
  have r0 := krs.cell 0 (.slice none 0 0) rfl
  have r1 := krs.cell 1 (.slice none 0 0) rfl
  have rf := fun o => krs.free o
  have HKR := Lib.hid krs
  clear hb6 H5 kox krs A1 A2 hBw
  by_cases hm : treeF (moveL l key par port) d = 0
  · have hm1 : (treeF (moveL l key par port) d != 0) = false := by simp [hm]
    have HM := Lib.hid hm
    clear hm
    go_wp2
    refine bodyPost_ret (v := .tuple #[.agg #[.slice (some ⟨g, 0, none⟩) l.length cap3, .slice b2 d.length cap4], .int .i64 0]) ?_ rfl ⟨_, _, by rw [HFF.out, HM.out], ?_, ?_, ?_⟩
    · simp [results, go_sem, r0, r1]
    · rw [HFF.out, HM.out, if_pos rfl]; exact arr_setOther (arr_setOther H6.out.2.1 hwl1 _ _) hwl1 _ _
    · rw [HFF.out, HM.out, if_pos rfl]; exact arr_setOther (arr_setOther H6.out.2.2 hwl2 _ _) hwl2 _ _
    · have := H6.out.1; (repeat (first | exact Below.refl _ _ | assumption | refine below_draws ?_ _ | refine Below.drew ?_ | refine below_alloc ?_ _ (by first | omega | (simp; done) | (simp; omega)) | refine Below.setCell ?_ (by first | omega | (simp; done) | (simp; omega)) _ | refine below_at ?_ (by assumption) (by first | omega | (simp; done) | (simp; omega))))
  · have hm1 : (treeF (moveL l key par port) d != 0) = true := by simp [hm]
    have HM := Lib.hid hm
    clear hm
    go_wp2
    refine bodyPost_ret (v := .tuple #[.agg #[.slice none 0 0, .slice none 0 0], .int .i64 (treeF (moveL l key par port) d)]) ?_ rfl ⟨_, _, by rw [HFF.out], ?_, ?_, ?_⟩
    · simp [results, go_sem, r0, r1]
    · rw [HFF.out, if_neg HM.out]; exact Arr.nil _ _ _
    · rw [HFF.out, if_neg HM.out]; exact Arr.nil _ _ _
    · have := H6.out.1; (repeat (first | exact Below.refl _ _ | assumption | refine below_draws ?_ _ | refine Below.drew ?_ | refine below_alloc ?_ _ (by first | omega | (simp; done) | (simp; omega)) | refine Below.setCell ?_ (by first | omega | (simp; done) | (simp; omega)) _ | refine below_at ?_ (by assumption) (by first | omega | (simp; done) | (simp; omega))))
end Go.Proofs.YtcecpodbmjghhaaGreat
