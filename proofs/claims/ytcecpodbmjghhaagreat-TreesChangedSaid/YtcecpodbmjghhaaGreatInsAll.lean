/- Texts of one subject in one: Ins, Del; what each shows stands at its head. No condition. -/
import Derived.Test.YtcecpodbmjghhaaGreatMemAll
import Derived.Test.YtcecpodbmjghhaaGreatPlainT
import Derived.Test.YtcecpodbmjghhaaGreatOrders
import Derived.Test.YtcecpodbmjghhaaGreatProg
import Derived.Shelf.Spec.SlicesInsert
import Derived.Shelf.Spec.SlicesInsertGrow
import Derived.Lib.Overlaps
import Derived.OwnWalk
/- Walk: slices.Insert of one drop into what the call owns. -/
set_option linter.unusedVariables false
set_option linter.unusedSimpArgs false
namespace Go.Proofs.YtcecpodbmjghhaaGreat
open Go Go.RowKit
theorem flat_take {α : Type} {cells : α → List Value} {sz : Nat} (hlen : ∀ x, (cells x).length = sz) (l : List α) (i : Nat) (hi : i ≤ l.length) : (l.take i).flatMap cells = (l.flatMap cells).take (i * sz) := by
  have h := congrArg (List.flatMap cells) (List.take_append_drop i l)
  rw [List.flatMap_append] at h
  rw [← h, List.take_left' (by rw [flat_len hlen, List.length_take]; rw [Nat.min_eq_left hi])]
theorem flat_drop {α : Type} {cells : α → List Value} {sz : Nat} (hlen : ∀ x, (cells x).length = sz) (l : List α) (i : Nat) (hi : i ≤ l.length) : (l.drop i).flatMap cells = (l.flatMap cells).drop (i * sz) := by
  have h := congrArg (List.flatMap cells) (List.take_append_drop i l)
  rw [List.flatMap_append] at h
  rw [← h, List.drop_left' (by rw [flat_len hlen, List.length_take]; rw [Nat.min_eq_left hi])]
/-- elements moved up in place, one put between -/
theorem ins_list (cur xs cx : List Value) (i n : Nat) (hx : xs.length = n * 3) (ht : cur.take (n * 3) = xs) (hi : i ≤ n) (hc : cx.length = 3) (hs : (n + 1) * 3 ≤ cur.length) :
    ((cur.take ((i + 1) * 3) ++ xs.drop (i * 3) ++ cur.drop ((i + 1) * 3 + (xs.drop (i * 3)).length)).take (i * 3) ++ cx ++ (cur.take ((i + 1) * 3) ++ xs.drop (i * 3) ++ cur.drop ((i + 1) * 3 + (xs.drop (i * 3)).length)).drop (i * 3 + cx.length)).take ((n + 1) * 3) = xs.take (i * 3) ++ cx ++ xs.drop (i * 3) := by
  have e1 : (cur.take ((i + 1) * 3)).length = (i + 1) * 3 := by rw [List.length_take]; omega
  have e2 : cur.take (i * 3) = xs.take (i * 3) := by rw [← ht, List.take_take, Nat.min_eq_left (by omega)]
  have e3 : (cur.take ((i + 1) * 3) ++ xs.drop (i * 3) ++ cur.drop ((i + 1) * 3 + (xs.drop (i * 3)).length)).take (i * 3) = xs.take (i * 3) := by
    rw [List.append_assoc, List.take_append_of_le_length (by omega), List.take_take, Nat.min_eq_left (by omega), e2]
  have e4 : (cur.take ((i + 1) * 3) ++ xs.drop (i * 3) ++ cur.drop ((i + 1) * 3 + (xs.drop (i * 3)).length)).drop (i * 3 + cx.length) = xs.drop (i * 3) ++ cur.drop ((i + 1) * 3 + (xs.drop (i * 3)).length) := by
    rw [List.append_assoc, List.drop_left' (by rw [e1, hc]; omega)]
  rw [e3, e4, ← List.append_assoc, List.take_left' (by simp [hx, hc]; omega)]
/-- a new row: one put, then the rest behind it -/
theorem grow_list (row xs cx : List Value) (i n : Nat) (hx : xs.length = n * 3) (ht : row.take (i * 3) = xs.take (i * 3)) (hi : i ≤ n) (hc : cx.length = 3) (hs : (n + 1) * 3 ≤ row.length) :
    ((row.take (i * 3) ++ cx ++ row.drop (i * 3 + cx.length)).take ((i + 1) * 3) ++ xs.drop (i * 3) ++ (row.take (i * 3) ++ cx ++ row.drop (i * 3 + cx.length)).drop ((i + 1) * 3 + (xs.drop (i * 3)).length)).take ((n + 1) * 3) = xs.take (i * 3) ++ cx ++ xs.drop (i * 3) := by
  have e0 : (row.take (i * 3) ++ cx).length = (i + 1) * 3 := by rw [List.length_append, List.length_take, hc]; omega
  have e1 : (row.take (i * 3) ++ cx ++ row.drop (i * 3 + cx.length)).take ((i + 1) * 3) = xs.take (i * 3) ++ cx := by
    rw [List.take_left' e0, ht]
  rw [e1, List.append_assoc, ← List.append_assoc, List.take_left' (by simp [hx, hc]; omega)]
theorem shape_blk {w : World} {g : Nat} {cs : Array Value} {t : TypeId} (h : Blk w g cs t) : w.shape? g = some (t, cs.size) := by
  unfold Blk at h; simp [World.shape?, h]
theorem sizeDrp : (Tryz.prog.info? 36).map (·.size) = some 3 := by kernel_rfl
theorem infoDrp3 : (Tryz.prog.info? 36).map (fun i => (i.zero, i.size, i.bytes)) = some (some (.agg #[.string ⟨#[]⟩, .string ⟨#[]⟩, .int .i64 0]), 3, 40) := by kernel_rfl
theorem drp_cells_one (l : List Drp) : ∀ u ∈ l.flatMap Drp.cells, u.oneCell' = true := by
  intro u hu
  obtain ⟨c, _, hc⟩ := List.mem_flatMap.1 hu
  simp [Drp.cells] at hc
  rcases hc with rfl | rfl | rfl <;> rfl
/-- what is behind slices.Insert -/
def InsPost (d : List Drp) (i : Nat) (x : Drp) (v : Value) (base : Nat) (w : World) (e : Ending) (w' : World) : Prop := ∃ v', e = .returned v' ∧ w'.ownsRow base 36 3 v' (d.length + 1) ((d.take i ++ x :: d.drop i).flatMap Drp.cells) ∧ w.grownBy w' v.ownBlock
set_option maxHeartbeats 4000000 in
set_option maxRecDepth 100000 in
/-- at the end -/
theorem insert_end (v : Value) (d : List Drp) (x : Drp) (vb base : Nat) (w : World) (ho : w.ownsRow base 36 3 v d.length (d.flatMap Drp.cells)) (hx : Blk w vb #[.string x.cust, .string x.spl, .int .i64 x.port] 36) (hbase : base ≤ w.heap.size) (hl : d.length ≤ 5000) :
    Calls Tryz.prog 54 #[v, .int .i64 d.length, .slice (some ⟨vb, 0, none⟩) 1 1] w (InsPost d d.length x v base w) := by
  obtain ⟨i0, hi, hz0, hz1, hz2⟩ := info_parts infoDrp3
  have HX := Lib.hid (And.intro hx ho)
  have HV : ∃ a cap, v = .slice a d.length cap ∧ d.length ≤ cap := by
    rcases ho.2 with ⟨hv, h0⟩ | ⟨g, cap, cur, rfl, _, _, hc, _⟩
    · exact ⟨none, 0, by rw [hv, h0], by omega⟩
    · exact ⟨_, cap, rfl, hc⟩
  obtain ⟨a, cap, rfl, hcap⟩ := HV
  clear hx ho
  by_cases hcn : cap = d.length
  · subst hcn
    go_enter Tryz.func54, Tryz.ntmps54
    go_wp2_with (at_builtin; go_must (refine wpList_append_own _ rfl _ _ 27 rfl _ 36 _ _ 3 40 Tryz.underlying27 hi hz0 hz1 hz2 rfl (by decide) _ _ _ rfl HX.out.2 ⟨vb, 0, none⟩ 1 1 (Drp.cells x) rfl rfl (by intro j u hu; exact (by have := HX.out.1.cell j u (by simpa [Drp.cells] using hu); simpa [addr_at] using this)) (drp_cells_one [x] |> fun h u hu => h u (by simpa using hu)) (by unfold maxLen; omega) (by omega) (by omega) ?_); intro v' w4 hown4 hg4 _; have HG := Lib.hid (And.intro hown4 hg4); clear hown4 hg4)
    go_ret
    refine ⟨_, rfl, ?_, HG.out.2⟩
    rw [List.take_length, List.drop_length, List.flatMap_append]
    simpa using HG.out.1
  · have hcn2 : ¬ d.length = cap := fun e => hcn e.symm
    go_enter Tryz.func54, Tryz.ntmps54
    go_wp2_with (at_builtin; go_must (refine wpList_append_own _ rfl _ _ 27 rfl _ 36 _ _ 3 40 Tryz.underlying27 hi hz0 hz1 hz2 rfl (by decide) _ _ _ rfl HX.out.2 ⟨vb, 0, none⟩ 1 1 (Drp.cells x) rfl rfl (by intro j u hu; exact (by have := HX.out.1.cell j u (by simpa [Drp.cells] using hu); simpa [addr_at] using this)) (drp_cells_one [x] |> fun h u hu => h u (by simpa using hu)) (by unfold maxLen; omega) (by omega) (by omega) ?_); intro v' w4 hown4 hg4 _; have HG := Lib.hid (And.intro hown4 hg4); clear hown4 hg4)
    go_ret
    refine ⟨_, rfl, ?_, HG.out.2⟩
    rw [List.take_length, List.drop_length, List.flatMap_append]
    simpa using HG.out.1
/-- what the call owns, at a block -/
theorem own_blk {w : World} {base n : Nat} {v : Value} {xs : List Value} {sz : Nat} {e : TypeId} (ho : w.ownsRow base e sz v n xs) (h0 : 0 < n) : ∃ g cap cur, v = .slice (some ⟨g, 0, none⟩) n cap ∧ base ≤ g ∧ Blk w g cur e ∧ n ≤ cap ∧ cap ≤ maxLen ∧ cur.size = cap * sz ∧ cur.toList.take (n * sz) = xs := by
  obtain ⟨hl, ⟨rfl, hn⟩ | ⟨g, cap, cur, rfl, hg, hh, hc, hm, hs, ht⟩⟩ := ho
  · omega
  · exact ⟨g, cap, cur, rfl, hg, hh, hc, hm, hs, ht⟩
theorem own_of_blk {w : World} {base n g cap sz : Nat} {cur : Array Value} {xs : List Value} {e : TypeId} (hb : Blk w g cur e) (hg : base ≤ g) (hc : n ≤ cap) (hm : cap ≤ maxLen) (hs : cur.size = cap * sz) (ht : cur.toList.take (n * sz) = xs) (hl : xs.length = n * sz) : w.ownsRow base e sz (.slice (some ⟨g, 0, none⟩) n cap) n xs :=
  ⟨hl, .inr ⟨g, cap, cur, rfl, hg, hb, hc, hm, hs, ht⟩⟩
set_option maxHeartbeats 4000000 in
set_option maxRecDepth 100000 in
/-- there is room: in place -/
theorem insert_room (g cap : Nat) (cur : Array Value) (d : List Drp) (i : Nat) (x : Drp) (vb base : Nat) (w : World) (hb : Blk w g cur 36) (hg : base ≤ g) (hc : d.length + 1 ≤ cap) (hm : cap ≤ maxLen) (hs : cur.size = cap * 3) (ht : cur.toList.take (d.length * 3) = d.flatMap Drp.cells) (hi : i < d.length) (hx : Blk w vb #[.string x.cust, .string x.spl, .int .i64 x.port] 36) (hne : vb ≠ g) (hl : d.length ≤ 5000) :
    Calls Tryz.prog 54 #[.slice (some ⟨g, 0, none⟩) d.length cap, .int .i64 i, .slice (some ⟨vb, 0, none⟩) 1 1] w (InsPost d i x (.slice (some ⟨g, 0, none⟩) d.length cap) base w) := by
  unfold maxLen at hm
  have hxl : (d.flatMap Drp.cells).length = d.length * 3 := flat_len Drp.cells_len d
  have hov : ∀ off lb cb, (callFunc 101 #[.slice (some ⟨vb, 0, none⟩) 1 1, .slice (some ⟨g, off, none⟩) lb cb]).run Tryz.prog w = .ok (.value (.bool false)) w := fun off lb cb => by
    rw [run_callFunc_extern Tryz.func101 (by kernel_rfl) (by kernel_rfl) (by kernel_rfl) (e := Extern.SlicesOverlaps.overlaps #[27, 27] #[4]) (by kernel_rfl),
      Lib.run_overlaps_apart w 27 4 36 Tryz.underlying27 3 Tryz.sizeOf36 ⟨vb, 0, none⟩ ⟨g, off, none⟩ 1 1 lb cb hne _ _ _ _ (shape_blk hx) (shape_blk hb) (by rw [hs]; omega) (hx.free 0) (hx.free _)]
    rfl
  obtain ⟨cs1, hcs1⟩ : ∃ cs1, cs1 = (d.flatMap Drp.cells).drop (i * 3) := ⟨_, rfl⟩
  have hcl : cs1.length = (d.length - i) * 3 := by rw [hcs1, List.length_drop, hxl]; omega
  have hcell : ∀ j u, (d.flatMap Drp.cells)[j]? = some u → w.cell? ⟨g, j, none⟩ = some u := fun j u hu => by
    refine hb.cell j u ?_
    rw [← ht, List.getElem?_take] at hu
    split at hu
    · simpa using hu
    · cases hu
  have hsome : ∀ (W : World) (cu : Array Value), Blk W g cu 36 → cu.size = cap * 3 → ∀ j, j < cap * 3 → (W.cell? ⟨g, j, none⟩).isSome = true := fun W cu hB hS j hj => by
    rw [hB.cell j cu[j] (by rw [Array.getElem?_eq_getElem (by omega)])]; rfl
  have hbd : Blk w.drew g cur 36 := hb.drew
  have h1c : ∀ u ∈ cs1, u.oneCell' = true := fun u hu => drp_cells_one d u (by rw [hcs1] at hu; exact List.mem_of_mem_drop hu)
  have hcp1 : ∀ ty dl dc sl sc, Nat.min sl dl = d.length - i → (Builtin.copy_ #[27, 27] ty #[.slice (some ⟨g, (i + 1) * 3, none⟩) dl dc, .slice (some ⟨g, i * 3, none⟩) sl sc]).run Tryz.prog w.drew = .ok (goInt ((d.length - i : Nat) : Int)) (w.drew.setCells g ((i + 1) * 3) cs1) := fun ty dl dc sl sc hn => by
    refine run_copy_sz w.drew _ _ ty 36 g ((i + 1) * 3) dl dc ⟨g, i * 3, none⟩ sl sc (d.length - i) 3 cs1 Tryz.underlying27 sizeDrp hn hcl (fun j u hu => ?_) (fun j hj => ?_) (fun j _ => hbd.free _) h1c
    · rw [addr_at]
      refine hcell (i * 3 + j) u ?_
      rw [hcs1, List.getElem?_drop] at hu
      exact hu
    · exact hsome w.drew cur hbd hs _ (by omega)
  have hfit1 : (i + 1) * 3 + cs1.length ≤ cur.size := by rw [hcl, hs]; omega
  have hb1 := blk_setCells hbd ((i + 1) * 3) cs1 hfit1
  have hz1 := overB_size hfit1
  obtain ⟨W1, hW1⟩ : ∃ W1, W1 = w.drew.setCells g ((i + 1) * 3) cs1 := ⟨_, rfl⟩
  rw [← hW1] at hcp1 hb1
  have hx1 : Blk W1 vb #[.string x.cust, .string x.spl, .int .i64 x.port] 36 := by
    rw [hW1]
    exact hx.drew.grown (grown_setCells g cs1 _ _) (by simp; exact hne)
  have hcp2 : ∀ ty dl dc, 1 ≤ dl → (Builtin.copy_ #[27, 27] ty #[.slice (some ⟨g, i * 3, none⟩) dl dc, .slice (some ⟨vb, 0, none⟩) 1 1]).run Tryz.prog W1 = .ok (goInt ((1 : Nat) : Int)) (W1.setCells g (i * 3) (Drp.cells x)) := fun ty dl dc hd => by
    refine run_copy_sz W1 _ _ ty 36 g (i * 3) dl dc ⟨vb, 0, none⟩ 1 1 1 3 (Drp.cells x) Tryz.underlying27 sizeDrp (Nat.min_eq_left hd) rfl (fun j u hu => ?_) (fun j hj => ?_) (fun j _ => hb1.free _) (fun u hu => drp_cells_one [x] u (by simpa using hu))
    · rw [addr_at]
      exact hx1.cell (0 + j) u (by simpa [Drp.cells] using hu)
    · refine hsome W1 _ hb1 (by rw [hz1, hs]) _ ?_
      have : j < 3 := hj
      omega
  have hfit2 : i * 3 + (Drp.cells x).length ≤ (overB cur ((i + 1) * 3) cs1).size := by
    rw [hz1, hs]
    have : (Drp.cells x).length = 3 := rfl
    omega
  have hb2 := blk_setCells hb1 (i * 3) (Drp.cells x) hfit2
  have hz2 := overB_size hfit2
  have hown : (W1.setCells g (i * 3) (Drp.cells x)).ownsRow base 36 3 (.slice (some ⟨g, 0, none⟩) (d.length + 1) cap) (d.length + 1) ((d.take i ++ x :: d.drop i).flatMap Drp.cells) := by
    refine own_of_blk hb2 hg hc (by unfold maxLen; exact hm) (by rw [hz2, hz1, hs]) ?_ (by rw [flat_len Drp.cells_len]; simp; omega)
    rw [List.flatMap_append, List.flatMap_cons, flat_take Drp.cells_len d i (by omega), flat_drop Drp.cells_len d i (by omega), ← List.append_assoc]
    have := ins_list cur.toList (d.flatMap Drp.cells) (Drp.cells x) i d.length hxl ht (by omega) rfl (by rw [show cur.toList.length = cur.size from rfl, hs]; omega)
    rw [← this, hcs1]
    rfl
  have hgr : w.grownBy (W1.setCells g (i * 3) (Drp.cells x)) (some g) := by
    refine grown_trans (grown_trans (⟨rfl, rfl, rfl, Nat.le_refl _, fun _ _ _ => rfl⟩ : w.grownBy w.drew (some g)) ?_) (grown_setCells g (Drp.cells x) (i * 3) W1)
    rw [hW1]; exact grown_setCells g cs1 _ _
  have HO := Lib.hid (And.intro hown hgr)
  have HCP1 := Lib.hid hcp1
  have HCP2 := Lib.hid hcp2
  have HOV := Lib.hid hov
  clear hW1 hown hgr hb2 hz2 hfit2 hx1 hb1 hz1 hfit1 h1c hbd hsome hcell hcl hcs1 hb hx ht hs hxl hcp1 hcp2 hov
  have e1 : ¬ ((i : Int) = (d.length : Int)) := by omega
  have e2 : IntKind.i64.wrap ((i : Int) + 1) = (i : Int) + 1 := IntWalk.i64_in _ (by omega)
  have e3 : ¬ (cap = i) := by omega
  have e4 : ¬ (cap = i + 1) := by omega
  have e5 : ((i : Int) + 1).toNat = i + 1 := by omega
  have e6 : (0 : Int) ≤ (i : Int) + 1 := by omega
  have e7 : (i : Int) + 1 ≤ (d.length : Int) + 1 := by omega
  have e8 : (i : Int) ≤ (d.length : Int) + 1 := by omega
  have e9 : (i : Int) ≤ (d.length : Int) := by omega
  go_enter Tryz.func54, Tryz.ntmps54
  have hov := HOV.out
  go_wp2_with (simp only [hov])
  refine WalkT.start (fun _ => True) [] (by kernel_rfl) ?_
  refine WalkT.quiet (i := 0) (v := ?_) rfl (by kernel_rfl) (by kernel_rfl) (by kernel_rfl) (fun _ _ _ h => h) (Or.inl ⟨by rfl, ?_⟩) ?_; rotate_left; (· (intro wS hSw; (try dsimp only at hSw); go_simp; try with_reducible rfl)); try simp only [Act.put, pu1, pu2, pu3, pu4, pu5, pu6]
  refine WalkT.quiet (i := 1) (v := ?_) rfl (by kernel_rfl) (by kernel_rfl) (by kernel_rfl) (fun _ _ _ h => h) (Or.inl ⟨by rfl, ?_⟩) ?_; rotate_left; (· (intro wS hSw; (try dsimp only at hSw); go_simp; try with_reducible rfl)); try simp only [Act.put, pu1, pu2, pu3, pu4, pu5, pu6]
  refine WalkT.quiet (i := 2) (v := ?_) rfl (by kernel_rfl) (by kernel_rfl) (by kernel_rfl) (fun _ _ _ h => h) (Or.inl ⟨by rfl, ?_⟩) ?_; rotate_left; (· (intro wS hSw; (try dsimp only at hSw); go_simp; try with_reducible rfl)); try simp only [Act.put, pu1, pu2, pu3, pu4, pu5, pu6]
  refine WalkT.quiet (i := 3) (v := ?_) rfl (by kernel_rfl) (by kernel_rfl) (by kernel_rfl) (fun _ _ _ h => h) (Or.inl ⟨by rfl, ?_⟩) ?_; rotate_left; (· (intro wS hSw; (try dsimp only at hSw); go_simp; try with_reducible rfl)); try simp only [Act.put, pu1, pu2, pu3, pu4, pu5, pu6]
  refine WalkT.quiet (i := 4) (v := ?_) rfl (by kernel_rfl) (by kernel_rfl) (by kernel_rfl) (fun _ _ _ h => h) (Or.inl ⟨by rfl, ?_⟩) ?_; rotate_left; (· (intro wS hSw; (try dsimp only at hSw); go_simp; try with_reducible rfl)); try simp only [Act.put, pu1, pu2, pu3, pu4, pu5, pu6]
  refine WalkT.quiet (i := 5) (v := ?_) rfl (by kernel_rfl) (by kernel_rfl) (by kernel_rfl) (fun _ _ _ h => h) (Or.inl ⟨by rfl, ?_⟩) ?_; rotate_left; (· (intro wS hSw; (try dsimp only at hSw); go_simp; try with_reducible rfl)); try simp only [Act.put, pu1, pu2, pu3, pu4, pu5, pu6]
  refine WalkT.quiet (i := 6) (v := ?_) rfl (by kernel_rfl) (by kernel_rfl) (by kernel_rfl) (fun _ _ _ h => h) (Or.inl ⟨by rfl, ?_⟩) ?_; rotate_left; (· (intro wS hSw; (try dsimp only at hSw); go_simp; try with_reducible rfl)); try simp only [Act.put, pu1, pu2, pu3, pu4, pu5, pu6]
  refine WalkT.quiet (i := 7) (v := ?_) rfl (by kernel_rfl) (by kernel_rfl) (by kernel_rfl) (fun _ _ _ h => h) (Or.inl ⟨by rfl, ?_⟩) ?_; rotate_left; (· (intro wS hSw; (try dsimp only at hSw); go_simp; try with_reducible rfl)); try simp only [Act.put, pu1, pu2, pu3, pu4, pu5, pu6]
  refine WalkT.ready (rs := [8]) (by kernel_rfl) (by simp) (AllT.cons rfl (fun K hK => ?_) AllT.nil)
  refine step_copy_runI (by rfl) _ _ _ _ rfl _ _ (by rfl) (by rfl) (HCP1.out _ _ _ _ _ (by simp only [Nat.min_def]; split <;> omega)) ?_
  refine hK.out _ _ (fun _ _ => trivial) ?_; clear hK K; try simp only [Act.put, pu1, pu2, pu3, pu4, pu5, pu6]
  refine WalkT.done (by kernel_rfl) ?_
  have hcp2 := HCP2.out 3 (d.length + 1 - i) (cap - i) (by omega)
  go_wp2_with (simp only [hcp2])
  go_ret
  exact ⟨_, rfl, HO.out.1, HO.out.2⟩
set_option maxHeartbeats 4000000 in
set_option maxRecDepth 100000 in
/-- there is no room: a new row -/
theorem insert_grow (g : Nat) (cur : Array Value) (d : List Drp) (i : Nat) (x : Drp) (vb base : Nat) (w : World) (hb : Blk w g cur 36) (hbase : base ≤ w.heap.size) (hs : cur.size = d.length * 3) (ht : cur.toList.take (d.length * 3) = d.flatMap Drp.cells) (hi : i < d.length) (hx : Blk w vb #[.string x.cust, .string x.spl, .int .i64 x.port] 36) (hl : d.length ≤ 5000) :
    Calls Tryz.prog 54 #[.slice (some ⟨g, 0, none⟩) d.length d.length, .int .i64 i, .slice (some ⟨vb, 0, none⟩) 1 1] w (InsPost d i x (.slice (some ⟨g, 0, none⟩) d.length d.length) base w) := by
  obtain ⟨i0, hi0, hz0, hz1, hz2⟩ := info_parts infoDrp3
  have hxl : (d.flatMap Drp.cells).length = d.length * 3 := flat_len Drp.cells_len d
  have hcell : ∀ j u, (d.flatMap Drp.cells)[j]? = some u → w.cell? ⟨g, j, none⟩ = some u := fun j u hu => by
    refine hb.cell j u ?_
    rw [← ht, List.getElem?_take] at hu
    split at hu
    · simpa using hu
    · cases hu
  have hik : i + (d.length + 1 - i) = d.length + 1 := by omega
  have hold : (Builtin.firstCells i0.size i (.slice (some ⟨g, 0, none⟩) i d.length)).run Tryz.prog w.drew = .ok ((d.flatMap Drp.cells).take (i * 3)).toArray w.drew := by
    rw [hz1]
    refine run_firstCells_some w.drew 3 i ⟨g, 0, none⟩ i d.length _ (by rw [List.length_take, hxl]; omega) (fun j u hj => ?_)
    rw [addr_at, Nat.zero_add]
    rw [List.getElem?_take] at hj
    split at hj
    · exact hcell j u hj
    · cases hj
  have hrz : ∀ ty, (Builtin.append_ #[27, 3] ty #[.slice (some ⟨g, 0, none⟩) i d.length, .int .i64 ((d.length : Int) + 1 - (i : Int))]).run Tryz.prog w =
      .ok (.slice (some ⟨w.heap.size, 0, none⟩) (d.length + 1) (grownCap w (d.length + 1) d.length 36)) (w.drew.alloc (.cells (((d.flatMap Drp.cells).take (i * 3)).toArray ++ Builtin.zeroCells (Value.agg #[.string ⟨#[]⟩, .string ⟨#[]⟩, .int .i64 0]).cells (d.length + 1 - i) ++ Builtin.zeroCells (Value.agg #[.string ⟨#[]⟩, .string ⟨#[]⟩, .int .i64 0]).cells (grownCap w (d.length + 1) d.length 36 - (d.length + 1))) 36)) := fun ty => by
    have h := Lib.run_append_grow_zeros (P := Tryz.prog) w 27 3 ty 36 i0 _ .i64 .i64 Tryz.underlying27 Tryz.underlying3 hi0 hz0 (some ⟨g, 0, none⟩) i d.length _ hold (d.length + 1 - i) (by omega) (by omega) (by omega) (by omega) (by rw [hz2]; omega) (by rw [hz2, hik]; exact growslice_fits (by omega) (by omega))
    rw [hik] at h
    rw [show (d.length : Int) + 1 - (i : Int) = ((d.length + 1 - i : Nat) : Int) by omega]
    exact h
  have hGn : d.length + 1 ≤ grownCap w (d.length + 1) d.length 36 := grownCap_ge w _ _ _
  have hGm : grownCap w (d.length + 1) d.length 36 ≤ maxLen := grownCap_le_maxLen w _ _ _ (by unfold maxLen; omega)
  generalize grownCap w (d.length + 1) d.length 36 = G at *
  obtain ⟨ROW, hROW⟩ : ∃ ROW : Array Value, ROW = ((d.flatMap Drp.cells).take (i * 3)).toArray ++ Builtin.zeroCells (Value.agg #[.string ⟨#[]⟩, .string ⟨#[]⟩, .int .i64 0]).cells (d.length + 1 - i) ++ Builtin.zeroCells (Value.agg #[.string ⟨#[]⟩, .string ⟨#[]⟩, .int .i64 0]).cells (G - (d.length + 1)) := ⟨_, rfl⟩
  rw [← hROW] at hrz
  have hRs : ROW.size = G * 3 := by
    rw [hROW]
    simp [Builtin.zeroCells, Value.cells, hxl]
    omega
  have hRt : ROW.toList.take (i * 3) = (d.flatMap Drp.cells).take (i * 3) := by
    rw [hROW]
    have e : ((d.flatMap Drp.cells).take (i * 3)).length = i * 3 := by rw [List.length_take, hxl]; omega
    simp only [Array.toList_append, List.append_assoc]
    rw [List.take_left' e]
  have hbN : Blk (w.drew.alloc (.cells ROW 36)) w.heap.size ROW 36 := Blk.new w.drew ROW _
  have hglt := hb.lt
  have hvlt := hx.lt
  have HR := Lib.hid (And.intro hrz (And.intro hRs (And.intro hRt (And.intro hbN (And.intro hb (And.intro hx hcell))))))
  clear hrz hRs hRt hbN hb hx hcell hROW hold hik hxl hs ht
  unfold maxLen at hGm
  have e1 : ¬ ((i : Int) = (d.length : Int)) := by omega
  have e2 : IntKind.i64.wrap ((i : Int) + 1) = (i : Int) + 1 := IntWalk.i64_in _ (by omega)
  have e5 : ((i : Int) + 1).toNat = i + 1 := by omega
  have e6 : (0 : Int) ≤ (i : Int) + 1 := by omega
  have e9 : (i : Int) ≤ (d.length : Int) := by omega
  have e10 : ¬ (G = i) := by omega
  have e11 : ¬ (G = i + 1) := by omega
  have e12 : ¬ (d.length = i) := by omega
  have e13 : (i : Int) + 1 ≤ (d.length : Int) + 1 := by omega
  have e14 : (i : Int) ≤ (d.length : Int) + 1 := by omega
  go_enter Tryz.func54, Tryz.ntmps54
  go_wp2_with (at_builtin; refine Lib.wpList_append_run _ rfl _ _ _ _ rfl _ _ rfl rfl _ _ (HR.out.1 _) ?_)
  obtain ⟨-, hRs, hRt, -, hb, hx, hcell⟩ := HR.out
  have hbN : Blk (w.alloc (.cells ROW 36)).drew w.heap.size ROW 36 := Blk.new w ROW _
  have hx1 : Blk (w.alloc (.cells ROW 36)).drew vb #[.string x.cust, .string x.spl, .int .i64 x.port] 36 := (hx.alloc _).drew
  have hb1 : Blk (w.alloc (.cells ROW 36)).drew g cur 36 := (hb.alloc _).drew
  have hB1 : Below w.heap.size w (w.alloc (.cells ROW 36)).drew := Below.drew (below_alloc (Below.refl _ _) _ (Nat.le_refl _))
  have hcell1 : ∀ j u, (d.flatMap Drp.cells)[j]? = some u → (w.alloc (.cells ROW 36)).drew.cell? ⟨g, j, none⟩ = some u := fun j u hu => (hB1.cell (p := ⟨g, j, none⟩) hglt).trans (hcell j u hu)
  generalize (w.alloc (.cells ROW 36)).drew = W1 at *
  have hxl : (d.flatMap Drp.cells).length = d.length * 3 := flat_len Drp.cells_len d
  have hsome : ∀ (W : World) (cu : Array Value), Blk W w.heap.size cu 36 → cu.size = G * 3 → ∀ j, j < G * 3 → (W.cell? ⟨w.heap.size, j, none⟩).isSome = true := fun W cu hB hS j hj => by
    rw [hB.cell j cu[j] (by rw [Array.getElem?_eq_getElem (by omega)])]; rfl
  have hcp2 : (Builtin.copy_ #[27, 27] 3 #[.slice (some ⟨w.heap.size, i * 3, none⟩) (d.length + 1 - i) (G - i), .slice (some ⟨vb, 0, none⟩) 1 1]).run Tryz.prog W1 = .ok (goInt ((1 : Nat) : Int)) (W1.setCells w.heap.size (i * 3) (Drp.cells x)) := by
    refine run_copy_sz W1 _ _ _ 36 w.heap.size (i * 3) _ _ ⟨vb, 0, none⟩ 1 1 1 3 (Drp.cells x) Tryz.underlying27 sizeDrp (Nat.min_eq_left (by omega)) rfl (fun j u hu => ?_) (fun j hj => ?_) (fun j _ => hbN.free _) (fun u hu => drp_cells_one [x] u (by simpa using hu))
    · rw [addr_at]
      exact hx1.cell (0 + j) u (by simpa [Drp.cells] using hu)
    · refine hsome W1 _ hbN hRs _ ?_
      have : j < 3 := hj
      omega
  have hfit2 : i * 3 + (Drp.cells x).length ≤ ROW.size := by
    rw [hRs]
    have : (Drp.cells x).length = 3 := rfl
    omega
  have hb2 := blk_setCells hbN (i * 3) (Drp.cells x) hfit2
  have hz2' := overB_size hfit2
  have hB2 : Below w.heap.size w (W1.setCells w.heap.size (i * 3) (Drp.cells x)) := below_at hB1 (grown_row (grown_setCells w.heap.size (Drp.cells x) (i * 3) W1) (Nat.le_refl _) hB1.size) (Nat.le_refl _)
  have hcell2 : ∀ j u, (d.flatMap Drp.cells)[j]? = some u → (W1.setCells w.heap.size (i * 3) (Drp.cells x)).cell? ⟨g, j, none⟩ = some u := fun j u hu => (hB2.cell (p := ⟨g, j, none⟩) hglt).trans (hcell j u hu)
  have H2 := Lib.hid (And.intro hb2 (And.intro hz2' (And.intro hB2 (And.intro hcell2 (And.intro hRs (And.intro hRt (And.intro hxl hsome)))))))
  clear hb2 hz2' hB2 hcell2 hRs hRt hxl hsome hb hx hcell hbN hx1 hb1 hB1 hcell1 hfit2
  go_wp2_with (simp only [hcp2])
  clear hcp2
  generalize W1.setCells w.heap.size (i * 3) (Drp.cells x) = W2 at *
  refine WalkT.start (fun _ => True) [] (by kernel_rfl) ?_
  obtain ⟨hb2, hz2', hB2, hcell2, hRs, hRt, hxl, hsome⟩ := H2.out
  obtain ⟨cs1, hcs1⟩ : ∃ cs1, cs1 = (d.flatMap Drp.cells).drop (i * 3) := ⟨_, rfl⟩
  have hcl : cs1.length = (d.length - i) * 3 := by rw [hcs1, List.length_drop, hxl]; omega
  have h1c : ∀ u ∈ cs1, u.oneCell' = true := fun u hu => drp_cells_one d u (by rw [hcs1] at hu; exact List.mem_of_mem_drop hu)
  have hbd : Blk W2.drew w.heap.size (overB ROW (i * 3) (Drp.cells x)) 36 := hb2.drew
  have hcp1 : ∀ ty dl dc sl sc, Nat.min sl dl = d.length - i → (Builtin.copy_ #[27, 27] ty #[.slice (some ⟨w.heap.size, (i + 1) * 3, none⟩) dl dc, .slice (some ⟨g, i * 3, none⟩) sl sc]).run Tryz.prog W2.drew = .ok (goInt ((d.length - i : Nat) : Int)) (W2.drew.setCells w.heap.size ((i + 1) * 3) cs1) := fun ty dl dc sl sc hn => by
    refine run_copy_sz W2.drew _ _ ty 36 w.heap.size ((i + 1) * 3) dl dc ⟨g, i * 3, none⟩ sl sc (d.length - i) 3 cs1 Tryz.underlying27 sizeDrp hn hcl (fun j u hu => ?_) (fun j hj => ?_) (fun j _ => hbd.free _) h1c
    · rw [addr_at]
      refine hcell2 (i * 3 + j) u ?_
      rw [hcs1, List.getElem?_drop] at hu
      exact hu
    · exact hsome W2.drew _ hbd (by rw [hz2', hRs]) _ (by omega)
  have hfit3 : (i + 1) * 3 + cs1.length ≤ (overB ROW (i * 3) (Drp.cells x)).size := by rw [hz2', hRs, hcl]; omega
  have hb3 := blk_setCells hbd ((i + 1) * 3) cs1 hfit3
  have hz3 := overB_size hfit3
  have hB3 : Below w.heap.size w (W2.drew.setCells w.heap.size ((i + 1) * 3) cs1) := below_at (Below.drew hB2) (grown_row (grown_setCells w.heap.size cs1 ((i + 1) * 3) W2.drew) (Nat.le_refl _) hB2.size) (Nat.le_refl _)
  have hown : (W2.drew.setCells w.heap.size ((i + 1) * 3) cs1).ownsRow base 36 3 (.slice (some ⟨w.heap.size, 0, none⟩) (d.length + 1) G) (d.length + 1) ((d.take i ++ x :: d.drop i).flatMap Drp.cells) := by
    refine own_of_blk hb3 hbase hGn (by unfold maxLen; exact hGm) (by rw [hz3, hz2', hRs]) ?_ (by rw [flat_len Drp.cells_len]; simp; omega)
    rw [List.flatMap_append, List.flatMap_cons, flat_take Drp.cells_len d i (by omega), flat_drop Drp.cells_len d i (by omega), ← List.append_assoc]
    have := grow_list ROW.toList (d.flatMap Drp.cells) (Drp.cells x) i d.length hxl hRt (by omega) rfl (by rw [show ROW.toList.length = ROW.size from rfl, hRs]; omega)
    rw [← this, hcs1]
    rfl
  have HO := Lib.hid (And.intro hown (grown_below (some g) hB3))
  have HCP1 := Lib.hid hcp1
  clear hown hB3 hz3 hb3 hfit3 hcp1 hbd h1c hcl hcs1 hb2 hz2' hB2 hcell2 hRs hRt hxl hsome
  refine WalkT.quiet (i := 0) (v := ?_) rfl (by kernel_rfl) (by kernel_rfl) (by kernel_rfl) (fun _ _ _ h => h) (Or.inl ⟨by rfl, ?_⟩) ?_; rotate_left; (· (intro wS hSw; (try dsimp only at hSw); go_simp; try with_reducible rfl)); try simp only [Act.put, pu1, pu2, pu3, pu4, pu5, pu6]
  refine WalkT.quiet (i := 1) (v := ?_) rfl (by kernel_rfl) (by kernel_rfl) (by kernel_rfl) (fun _ _ _ h => h) (Or.inl ⟨by rfl, ?_⟩) ?_; rotate_left; (· (intro wS hSw; (try dsimp only at hSw); go_simp; try with_reducible rfl)); try simp only [Act.put, pu1, pu2, pu3, pu4, pu5, pu6]
  refine WalkT.quiet (i := 2) (v := ?_) rfl (by kernel_rfl) (by kernel_rfl) (by kernel_rfl) (fun _ _ _ h => h) (Or.inl ⟨by rfl, ?_⟩) ?_; rotate_left; (· (intro wS hSw; (try dsimp only at hSw); go_simp; try with_reducible rfl)); try simp only [Act.put, pu1, pu2, pu3, pu4, pu5, pu6]
  refine WalkT.quiet (i := 3) (v := ?_) rfl (by kernel_rfl) (by kernel_rfl) (by kernel_rfl) (fun _ _ _ h => h) (Or.inl ⟨by rfl, ?_⟩) ?_; rotate_left; (· (intro wS hSw; (try dsimp only at hSw); go_simp; try with_reducible rfl)); try simp only [Act.put, pu1, pu2, pu3, pu4, pu5, pu6]
  refine WalkT.quiet (i := 4) (v := ?_) rfl (by kernel_rfl) (by kernel_rfl) (by kernel_rfl) (fun _ _ _ h => h) (Or.inl ⟨by rfl, ?_⟩) ?_; rotate_left; (· (intro wS hSw; (try dsimp only at hSw); go_simp; try with_reducible rfl)); try simp only [Act.put, pu1, pu2, pu3, pu4, pu5, pu6]
  refine WalkT.quiet (i := 5) (v := ?_) rfl (by kernel_rfl) (by kernel_rfl) (by kernel_rfl) (fun _ _ _ h => h) (Or.inl ⟨by rfl, ?_⟩) ?_; rotate_left; (· (intro wS hSw; (try dsimp only at hSw); go_simp; try with_reducible rfl)); try simp only [Act.put, pu1, pu2, pu3, pu4, pu5, pu6]
  refine WalkT.quiet (i := 6) (v := ?_) rfl (by kernel_rfl) (by kernel_rfl) (by kernel_rfl) (fun _ _ _ h => h) (Or.inl ⟨by rfl, ?_⟩) ?_; rotate_left; (· (intro wS hSw; (try dsimp only at hSw); go_simp; try with_reducible rfl)); try simp only [Act.put, pu1, pu2, pu3, pu4, pu5, pu6]
  refine WalkT.quiet (i := 7) (v := ?_) rfl (by kernel_rfl) (by kernel_rfl) (by kernel_rfl) (fun _ _ _ h => h) (Or.inl ⟨by rfl, ?_⟩) ?_; rotate_left; (· (intro wS hSw; (try dsimp only at hSw); go_simp; try with_reducible rfl)); try simp only [Act.put, pu1, pu2, pu3, pu4, pu5, pu6]
  refine WalkT.ready (rs := [8]) (by kernel_rfl) (by simp) (AllT.cons rfl (fun K hK => ?_) AllT.nil)
  refine step_copy_runI (by rfl) _ _ _ _ rfl _ _ (by rfl) (by rfl) (HCP1.out _ _ _ _ _ (by simp only [Nat.min_def]; split <;> omega)) ?_
  refine hK.out _ _ (fun _ _ => trivial) ?_; clear hK K; try simp only [Act.put, pu1, pu2, pu3, pu4, pu5, pu6]
  refine WalkT.done (by kernel_rfl) ?_
  go_wp2
  go_ret
  exact ⟨_, rfl, HO.out.1, HO.out.2⟩
/-- slices.Insert of one drop -/
theorem insert_drp (v : Value) (d : List Drp) (i : Nat) (x : Drp) (vb base : Nat) (w : World) (ho : w.ownsRow base 36 3 v d.length (d.flatMap Drp.cells)) (hi : i ≤ d.length) (hx : Blk w vb #[.string x.cust, .string x.spl, .int .i64 x.port] 36) (hvb : v.ownBlock ≠ some vb) (hbase : base ≤ w.heap.size) (hl : d.length ≤ 5000) :
    Calls Tryz.prog 54 #[v, .int .i64 i, .slice (some ⟨vb, 0, none⟩) 1 1] w (InsPost d i x v base w) := by
  rcases Nat.lt_or_ge i d.length with h | h
  · obtain ⟨g, cap, cur, rfl, hg, hb, hc, hm, hs, ht⟩ := own_blk ho (by omega)
    have hne : vb ≠ g := fun e => hvb (by rw [e]; rfl)
    rcases Nat.lt_or_ge d.length cap with h2 | h2
    · exact insert_room g cap cur d i x vb base w hb hg (by omega) hm hs ht h hx hne hl
    · obtain rfl : cap = d.length := by omega
      exact insert_grow g cur d i x vb base w hb hbase hs ht h hx hl
  · obtain rfl : i = d.length := by omega
    exact insert_end v d x vb base w ho hx hbase hl
end Go.Proofs.YtcecpodbmjghhaaGreat
/- Walk: slices.Delete of one drop of what the call owns. -/
namespace Go.Proofs.YtcecpodbmjghhaaGreat
open Go Go.RowKit
section
variable {P : Program}
/-- append as one step of a region that draws, where its run is known -/
theorem step_append_runI {ops : Array Oper} {o : Oper} {a : Act} {w : World} {K : Act → World → Prop} {Q : Exit → Act → World → Prop} {E : Prop}
    (hg : o.guard = none) (d x : Operand) (dT sT : TypeId) (hop : o.op = Op.call { callee := Callee.builtin Builtin.append, args := #[d, x], argTypes := #[dT, sT] })
    (v u : Value) (hd : a.eval d = v) (hx : a.eval x = u) {v' : Value} {w' : World} (hr : (Builtin.append_ #[dT, sT] o.type #[v, u]).run P w = .ok v' w') (hK : K (a.put o.dst v') w') :
    if Region.wanted o (yielded ops a.tmps) = true then Oper.wp P o a w K Q else E := by
  have hw : Region.wanted o (yielded ops a.tmps) = true := by simp [Region.wanted, hg]
  rw [if_pos hw]
  unfold Oper.wp
  simp [execOp, hop, resolve, invoke, builtin, hd, hx, hr, Result.andThen]
  exact hK
end
theorem own_some {w : World} {base n g cap : Nat} {xs : List Value} {sz : Nat} {e : TypeId} (ho : w.ownsRow base e sz (.slice (some ⟨g, 0, none⟩) n cap) n xs) : ∃ cur, base ≤ g ∧ Blk w g cur e ∧ n ≤ cap ∧ cap ≤ maxLen ∧ cur.size = cap * sz ∧ cur.toList.take (n * sz) = xs := by
  obtain ⟨hl, ⟨hv, hn⟩ | ⟨g2, cap2, cur, hv, hg, hh, hc, hm, hs, ht⟩⟩ := ho
  · cases hv
  · simp only [Value.slice.injEq, Option.some.injEq, Addr.mk.injEq, and_true, true_and] at hv
    obtain ⟨rfl, rfl⟩ := hv
    exact ⟨cur, hg, hh, hc, hm, hs, ht⟩
theorem zeroDrp (w : World) : (zeroValue 36).run Tryz.prog w = .ok (.agg #[.string ⟨#[]⟩, .string ⟨#[]⟩, .int .i64 0]) w := by kernel_rfl
set_option maxHeartbeats 4000000 in
set_option maxRecDepth 100000 in
theorem delete_drp (g cap : Nat) (cur : Array Value) (d : List Drp) (i base : Nat) (w : World) (hb : Blk w g cur 36) (hg : base ≤ g) (hc : d.length ≤ cap) (hm : cap ≤ maxLen) (hs : cur.size = cap * 3) (ht : cur.toList.take (d.length * 3) = d.flatMap Drp.cells) (hi : i < d.length) (hl : d.length ≤ 5000) :
    Calls Tryz.prog 55 #[.slice (some ⟨g, 0, none⟩) d.length cap, .int .i64 i, .int .i64 ((i : Int) + 1)] w
    fun e w' => e = .returned (.slice (some ⟨g, 0, none⟩) (d.length - 1) cap) ∧ w'.ownsRow base 36 3 (.slice (some ⟨g, 0, none⟩) (d.length - 1) cap) (d.length - 1) ((d.take i ++ d.drop (i + 1)).flatMap Drp.cells) ∧ w.grownBy w' (some g) := by
  obtain ⟨i0, hi0, hz0, hz1, hz2⟩ := info_parts infoDrp3
  have hxl : (d.flatMap Drp.cells).length = d.length * 3 := flat_len Drp.cells_len d
  have hcell : ∀ j u, (d.flatMap Drp.cells)[j]? = some u → w.cell? ⟨g, j, none⟩ = some u := fun j u hu => by
    refine hb.cell j u ?_
    rw [← ht, List.getElem?_take] at hu
    split at hu
    · simpa using hu
    · cases hu
  have hown0 : w.drew.ownsRow base 36 3 (.slice (some ⟨g, 0, none⟩) i cap) i ((d.take i).flatMap Drp.cells) := by
    refine own_of_blk hb.drew hg (by omega) hm hs ?_ (by rw [flat_len Drp.cells_len, List.length_take]; rw [Nat.min_eq_left (by omega)])
    rw [flat_take Drp.cells_len d i (by omega), ← ht, List.take_take, Nat.min_eq_left (by omega)]
  have hnl : ((d.drop (i + 1)).flatMap Drp.cells).length = (d.length - (i + 1)) * 3 := by rw [flat_len Drp.cells_len, List.length_drop]
  have hap : ∀ (ad : Addr) (c : Nat) (ty : TypeId), (∀ j u, ((d.drop (i + 1)).flatMap Drp.cells)[j]? = some u → w.drew.cell? (ad.add j) = some u) →
      ∃ w', (Builtin.append_ #[27, 27] ty #[.slice (some ⟨g, 0, none⟩) i cap, .slice (some ad) (d.length - (i + 1)) c]).run Tryz.prog w.drew = .ok (.slice (some ⟨g, 0, none⟩) (d.length - 1) cap) w' ∧ w'.ownsRow base 36 3 (.slice (some ⟨g, 0, none⟩) (d.length - 1) cap) (d.length - 1) ((d.take i ++ d.drop (i + 1)).flatMap Drp.cells) ∧ w.drew.grownBy w' (some g) := fun ad c ty hcc => by
    obtain ⟨w', h1, h2, h3⟩ := run_append_fits (P := Tryz.prog) w.drew base 27 ty 36 i0 3 Tryz.underlying27 hi0 hz1 g i cap _ hown0 ad (d.length - (i + 1)) c _ hnl hcc (drp_cells_one _) (by omega)
    rw [show i + (d.length - (i + 1)) = d.length - 1 by omega] at h1 h2
    rw [← List.flatMap_append] at h2
    exact ⟨w', h1, h2, h3⟩
  have hfin : ∀ w', w'.ownsRow base 36 3 (.slice (some ⟨g, 0, none⟩) (d.length - 1) cap) (d.length - 1) ((d.take i ++ d.drop (i + 1)).flatMap Drp.cells) → ∀ ty c, (Builtin.clear_ #[27] ty #[.slice (some ⟨g, (d.length - 1) * 3, none⟩) 1 c]).run Tryz.prog w' = .ok (.tuple #[]) (w'.setCells g ((d.length - 1) * 3) (Builtin.zeroCells (Value.agg #[.string ⟨#[]⟩, .string ⟨#[]⟩, .int .i64 0]).cells 1).toList) ∧
      (w'.setCells g ((d.length - 1) * 3) (Builtin.zeroCells (Value.agg #[.string ⟨#[]⟩, .string ⟨#[]⟩, .int .i64 0]).cells 1).toList).ownsRow base 36 3 (.slice (some ⟨g, 0, none⟩) (d.length - 1) cap) (d.length - 1) ((d.take i ++ d.drop (i + 1)).flatMap Drp.cells) := fun w' ho ty c => by
    obtain ⟨cu, hg2, hb2, hc2, hm2, hs2, ht2⟩ := own_some ho
    refine ⟨run_clear_rows (P := Tryz.prog) w' 27 36 ty _ Tryz.underlying27 zeroDrp (by simp [Value.cells, Value.oneCell']) g ((d.length - 1) * 3) 1 c (by omega) (fun j hj => ?_) (fun j => hb2.free j), ?_⟩
    · have hj3 : j < 3 := by simpa [Value.cells] using hj
      rw [hb2.cell _ cu[(d.length - 1) * 3 + j] (by rw [Array.getElem?_eq_getElem (by omega)])]; rfl
    · have hzl : (Builtin.zeroCells (Value.agg #[.string ⟨#[]⟩, .string ⟨#[]⟩, .int .i64 0]).cells 1).toList.length = 3 := by simp [Builtin.zeroCells, Value.cells]
      have hfit : (d.length - 1) * 3 + (Builtin.zeroCells (Value.agg #[.string ⟨#[]⟩, .string ⟨#[]⟩, .int .i64 0]).cells 1).toList.length ≤ cu.size := by rw [hzl, hs2]; omega
      refine own_of_blk (blk_setCells hb2 _ _ hfit) hg2 hc2 hm2 (by rw [overB_size hfit, hs2]) ?_ ho.1
      unfold overB
      have e : (cu.toList.take ((d.length - 1) * 3)).length = (d.length - 1) * 3 := by rw [List.length_take, show cu.toList.length = cu.size from rfl, hs2]; omega
      rw [show ∀ L : List Value, L.toArray.toList = L from fun L => rfl, List.append_assoc, List.take_left' e]
      exact ht2
  have hgr : ∀ w' (L : List Value) (o : Nat), w.drew.grownBy w' (some g) → w.grownBy (w'.setCells g o L) (some g) := fun w' L o h => grown_trans (grown_trans (⟨rfl, rfl, rfl, Nat.le_refl _, fun _ _ _ => rfl⟩ : w.grownBy w.drew (some g)) h) (grown_setCells g L o w')
  have hdr : ∀ j u, ((d.drop (i + 1)).flatMap Drp.cells)[j]? = some u → w.drew.cell? ⟨g, (i + 1) * 3 + j, none⟩ = some u := fun j u hu => by
    rw [flat_drop Drp.cells_len d (i + 1) (by omega), List.getElem?_drop] at hu
    exact hcell _ _ hu
  have H := Lib.hid (And.intro hap (And.intro hfin (And.intro hgr hdr)))
  unfold maxLen at hm
  clear hap hfin hgr hdr hown0 hnl hcell hxl hb hs ht
  have e1 : ¬ ((i : Int) = (i : Int) + 1) := by omega
  have e2 : IntKind.i64.wrap ((i : Int) + 1) = (i : Int) + 1 := IntWalk.i64_in _ (by omega)
  have e5 : ((i : Int) + 1).toNat = i + 1 := by omega
  have e6 : (0 : Int) ≤ (i : Int) + 1 := by omega
  have e9 : (i : Int) ≤ (d.length : Int) := by omega
  have e13 : (i : Int) + 1 ≤ (d.length : Int) := by omega
  have e14 : (i : Int) ≤ (i : Int) + 1 := by omega
  have e15 : ¬ (cap = d.length - 1) := by omega
  have e16 : ¬ (cap = i) := by omega
  have e18 : i ≤ cap := by omega
  have e19 : i + 1 ≤ cap := by omega
  have e17 : d.length - (d.length - 1) = 1 := by omega
  by_cases hcap : cap = i + 1
  · subst hcap
    have hnil : d.drop (i + 1) = [] := List.drop_eq_nil_of_le (by omega)
    have HN := Lib.hid hnil
    clear hnil
    go_enter Tryz.func55, Tryz.ntmps55
    go_wp2_with fail
    refine WalkT.start (fun _ => True) [] (by kernel_rfl) ?_
    obtain ⟨w6, hr6, ho6, hg6⟩ := H.out.1 ⟨g, 0, none⟩ 0 27 (fun j u hu => by rw [HN.out] at hu; simp at hu)
    rw [show d.length - (i + 1) = 0 by omega] at hr6
    have H6 := Lib.hid (And.intro ho6 hg6)
    clear ho6 hg6
    refine WalkT.quiet (i := 0) (v := ?_) rfl (by kernel_rfl) (by kernel_rfl) (by kernel_rfl) (fun _ _ _ h => h) (Or.inl ⟨by rfl, ?_⟩) ?_; rotate_left; (· (intro wS hSw; (try dsimp only at hSw); go_simp; try with_reducible rfl)); try simp only [Act.put, pu1, pu2, pu3, pu4, pu5, pu6]
    refine WalkT.quiet (i := 1) (v := ?_) rfl (by kernel_rfl) (by kernel_rfl) (by kernel_rfl) (fun _ _ _ h => h) (Or.inl ⟨by rfl, ?_⟩) ?_; rotate_left; (· (intro wS hSw; (try dsimp only at hSw); go_simp; try with_reducible rfl)); try simp only [Act.put, pu1, pu2, pu3, pu4, pu5, pu6]
    refine WalkT.quiet (i := 2) (v := ?_) rfl (by kernel_rfl) (by kernel_rfl) (by kernel_rfl) (fun _ _ _ h => h) (Or.inl ⟨by rfl, ?_⟩) ?_; rotate_left; (· (intro wS hSw; (try dsimp only at hSw); go_simp; try with_reducible rfl)); try simp only [Act.put, pu1, pu2, pu3, pu4, pu5, pu6]
    refine WalkT.quiet (i := 3) (v := ?_) rfl (by kernel_rfl) (by kernel_rfl) (by kernel_rfl) (fun _ _ _ h => h) (Or.inl ⟨by rfl, ?_⟩) ?_; rotate_left; (· (intro wS hSw; (try dsimp only at hSw); go_simp; try with_reducible rfl)); try simp only [Act.put, pu1, pu2, pu3, pu4, pu5, pu6]
    refine WalkT.quiet (i := 4) (v := ?_) rfl (by kernel_rfl) (by kernel_rfl) (by kernel_rfl) (fun _ _ _ h => h) (Or.inl ⟨by rfl, ?_⟩) ?_; rotate_left; (· (intro wS hSw; (try dsimp only at hSw); go_simp; try with_reducible rfl)); try simp only [Act.put, pu1, pu2, pu3, pu4, pu5, pu6]
    refine WalkT.quiet (i := 5) (v := ?_) rfl (by kernel_rfl) (by kernel_rfl) (by kernel_rfl) (fun _ _ _ h => h) (Or.inl ⟨by rfl, ?_⟩) ?_; rotate_left; (· (intro wS hSw; (try dsimp only at hSw); go_simp; try with_reducible rfl)); try simp only [Act.put, pu1, pu2, pu3, pu4, pu5, pu6]
    refine WalkT.ready (rs := [6]) (by kernel_rfl) (by simp) (AllT.cons rfl (fun K hK => ?_) AllT.nil)
    refine step_append_runI (by rfl) _ _ _ _ rfl _ _ (by rfl) (by rfl) hr6 ?_
    clear hr6
    refine hK.out _ _ (fun _ _ => trivial) ?_; clear hK K; try simp only [Act.put, pu1, pu2, pu3, pu4, pu5, pu6]
    refine WalkT.quiet (i := 7) (v := ?_) rfl (by kernel_rfl) (by kernel_rfl) (by kernel_rfl) (fun _ _ _ h => h) (Or.inl ⟨by rfl, ?_⟩) ?_; rotate_left; (· (intro wS hSw; (try dsimp only at hSw); go_simp; try with_reducible rfl)); try simp only [Act.put, pu1, pu2, pu3, pu4, pu5, pu6]
    refine WalkT.done (by kernel_rfl) ?_
    have hclr := fun ty c => (H.out.2.1 w6 H6.out.1 ty c).1
    go_wp2_with (simp only [hclr])
    go_ret
    exact ⟨rfl, (H.out.2.1 w6 H6.out.1 0 0).2, H.out.2.2.1 _ _ _ H6.out.2⟩
  · have hcap2 : ¬ (i + 1 = cap) := fun e => hcap e.symm
    go_enter Tryz.func55, Tryz.ntmps55
    go_wp2_with fail
    refine WalkT.start (fun _ => True) [] (by kernel_rfl) ?_
    obtain ⟨w6, hr6, ho6, hg6⟩ := H.out.1 ⟨g, (i + 1) * 3, none⟩ (cap - (i + 1)) 27 (fun j u hu => by rw [addr_at]; exact H.out.2.2.2 j u hu)
    have H6 := Lib.hid (And.intro ho6 hg6)
    clear ho6 hg6
    refine WalkT.quiet (i := 0) (v := ?_) rfl (by kernel_rfl) (by kernel_rfl) (by kernel_rfl) (fun _ _ _ h => h) (Or.inl ⟨by rfl, ?_⟩) ?_; rotate_left; (· (intro wS hSw; (try dsimp only at hSw); go_simp; try with_reducible rfl)); try simp only [Act.put, pu1, pu2, pu3, pu4, pu5, pu6]
    refine WalkT.quiet (i := 1) (v := ?_) rfl (by kernel_rfl) (by kernel_rfl) (by kernel_rfl) (fun _ _ _ h => h) (Or.inl ⟨by rfl, ?_⟩) ?_; rotate_left; (· (intro wS hSw; (try dsimp only at hSw); go_simp; try with_reducible rfl)); try simp only [Act.put, pu1, pu2, pu3, pu4, pu5, pu6]
    refine WalkT.quiet (i := 2) (v := ?_) rfl (by kernel_rfl) (by kernel_rfl) (by kernel_rfl) (fun _ _ _ h => h) (Or.inl ⟨by rfl, ?_⟩) ?_; rotate_left; (· (intro wS hSw; (try dsimp only at hSw); go_simp; try with_reducible rfl)); try simp only [Act.put, pu1, pu2, pu3, pu4, pu5, pu6]
    refine WalkT.quiet (i := 3) (v := ?_) rfl (by kernel_rfl) (by kernel_rfl) (by kernel_rfl) (fun _ _ _ h => h) (Or.inl ⟨by rfl, ?_⟩) ?_; rotate_left; (· (intro wS hSw; (try dsimp only at hSw); go_simp; try with_reducible rfl)); try simp only [Act.put, pu1, pu2, pu3, pu4, pu5, pu6]
    refine WalkT.quiet (i := 4) (v := ?_) rfl (by kernel_rfl) (by kernel_rfl) (by kernel_rfl) (fun _ _ _ h => h) (Or.inl ⟨by rfl, ?_⟩) ?_; rotate_left; (· (intro wS hSw; (try dsimp only at hSw); go_simp; try with_reducible rfl)); try simp only [Act.put, pu1, pu2, pu3, pu4, pu5, pu6]
    refine WalkT.quiet (i := 5) (v := ?_) rfl (by kernel_rfl) (by kernel_rfl) (by kernel_rfl) (fun _ _ _ h => h) (Or.inl ⟨by rfl, ?_⟩) ?_; rotate_left; (· (intro wS hSw; (try dsimp only at hSw); go_simp; try with_reducible rfl)); try simp only [Act.put, pu1, pu2, pu3, pu4, pu5, pu6]
    refine WalkT.ready (rs := [6]) (by kernel_rfl) (by simp) (AllT.cons rfl (fun K hK => ?_) AllT.nil)
    refine step_append_runI (by rfl) _ _ _ _ rfl _ _ (by rfl) (by rfl) hr6 ?_
    clear hr6
    refine hK.out _ _ (fun _ _ => trivial) ?_; clear hK K; try simp only [Act.put, pu1, pu2, pu3, pu4, pu5, pu6]
    refine WalkT.quiet (i := 7) (v := ?_) rfl (by kernel_rfl) (by kernel_rfl) (by kernel_rfl) (fun _ _ _ h => h) (Or.inl ⟨by rfl, ?_⟩) ?_; rotate_left; (· (intro wS hSw; (try dsimp only at hSw); go_simp; try with_reducible rfl)); try simp only [Act.put, pu1, pu2, pu3, pu4, pu5, pu6]
    refine WalkT.done (by kernel_rfl) ?_
    have hclr := fun ty c => (H.out.2.1 w6 H6.out.1 ty c).1
    go_wp2_with (simp only [hclr])
    go_ret
    exact ⟨rfl, (H.out.2.1 w6 H6.out.1 0 0).2, H.out.2.2.1 _ _ _ H6.out.2⟩
end Go.Proofs.YtcecpodbmjghhaaGreat
