/- Walk of package tree: a line is read into a tree. -/
import Derived.Test.YteliiknlpfjlkaaGreatDoorTxAll
import Derived.Test.YteliiknlpfjlkaaGreatDoorTyN
import Derived.Test.YteliiknlpfjlkaaGreatDoorOrdN
import Derived.Test.YteliiknlpfjlkaaGreatDoorPlainTy
import Derived.Lib.SlicesS
import Derived.Deep.RegionHeld3
set_option linter.unusedVariables false
set_option linter.unusedSimpArgs false
namespace Go.Proofs.YteliiknlpfjlkaaGreatDoor
open Go Go.RowKit

/-- the tree that was read, behind some lines -/
structure TrInv (ob : Nat) (w0 : World) (done : List (List UInt8)) (W : World) : Prop where
  mx : MaxL w0
  be : Below w0.heap.size w0 W
  row : ∃ v1 v2 xs ys, Blk W ob #[v1, v2] 60 ∧ W.ownsRow w0.heap.size 100 4 v1 xs.length (xs.flatMap Splt.cells) ∧ W.ownsRow w0.heap.size 102 3 v2 ys.length (ys.flatMap Drp.cells) ∧ TrRows done xs ys
  hn : w0.heap.size ≤ ob
theorem TrInv.below {ob : Nat} {w0 W W' : World} {done : List (List UInt8)} (h : TrInv ob w0 done W) (hb : Below W.heap.size W W') : TrInv ob w0 done W' := by
  obtain ⟨v1, v2, xs, ys, h1, h2, h3, h4⟩ := h.row
  exact ⟨h.mx, below_at h.be hb h.be.size, ⟨v1, v2, xs, ys, h1.below hb h1.lt, own_below h2 hb, own_below h3 hb, h4⟩, h.hn⟩
/-- a refused line -/
theorem TrInv.same {ob : Nat} {w0 W W' : World} {done : List (List UInt8)} {x : List UInt8} (h : TrInv ob w0 done W) (hb : Below W.heap.size W W') (hd : dropish x = false) (ho : treeOkP done x = false) : TrInv ob w0 (done ++ [x]) W' := by
  obtain ⟨v1, v2, xs, ys, h1, h2, h3, h4⟩ := (h.below hb).row
  exact ⟨h.mx, (h.below hb).be, ⟨v1, v2, xs, ys, h1, h2, h3, h4.same hd ho⟩, h.hn⟩
/-- some word of the line is empty -/
def holeB (L : List ByteArray) : Bool := Lib.containsS (L.take L.length) ⟨#[]⟩
theorem hole_iff {L : List ByteArray} : holeB L = true ↔ ∃ x ∈ L, x.size = 0 := by
  unfold holeB
  rw [List.take_length, Lib.containsS_iff]
  constructor
  · intro h; exact ⟨_, h, rfl⟩
  · rintro ⟨x, hx, h0⟩
    have : x = ⟨#[]⟩ := by
      cases x with
      | mk d =>
        have : d.size = 0 := h0
        rw [Array.eq_empty_of_size_eq_zero this]
    rw [← this]; exact hx
theorem seg_ne (line : ByteArray) : segB 32 line ≠ [] := by
  unfold segB
  intro h
  exact segs_ne 32 _ (List.map_eq_nil_iff.1 h)
/-- a drop is put behind those that were -/
theorem TrInv.putD {ob : Nat} {w0 W W1 W2 : World} {done : List (List UInt8)} {l : List UInt8} {v1 v2 v2' : Value} {xs : List Splt} {ys : List Drp} {d : Drp} (h : TrInv ob w0 done W) (hbx : Blk W ob #[v1, v2] 60) (ho1 : W.ownsRow w0.heap.size 100 4 v1 xs.length (xs.flatMap Splt.cells)) (ho2 : W.ownsRow w0.heap.size 102 3 v2 ys.length (ys.flatMap Drp.cells)) (hr : TrRows (done ++ [l]) xs (ys ++ [d]))
    (hb : Below W.heap.size W W1) (hg : W1.grownBy W2 v2.ownBlock) (ho3 : W2.ownsRow w0.heap.size 102 3 v2' (ys.length + 1) (ys.flatMap Drp.cells ++ [.string d.cust, .string d.spl, .int .i64 d.port])) :
    TrInv ob w0 (done ++ [l]) (W2.setCell ⟨ob, 1, none⟩ v2') ∧ KeepS W (W2.setCell ⟨ob, 1, none⟩ v2') := by
  have hn := h.hn
  have hbx1 := hbx.below hb hbx.lt
  have ho11 := own_below ho1 hb
  have ho21 := own_below ho2 hb
  have hne := own_neM ho21 hbx1 (by decide)
  have hbx2 := hbx1.grown hg (fun e => hne e.symm)
  have hne3 := own_neM ho3 hbx2 (by decide)
  have ho12 := ho11.kept hg (by
    cases hv : v1.ownBlock with
    | none => exact .inl rfl
    | some k => exact .inr (fun e => own_apart ho11 ho21 (by decide) k hv e.symm))
  have hne1 := own_neM ho12 hbx2 (by decide)
  have hB2 : Below w0.heap.size w0 W2 := below_grown (below_at h.be hb h.be.size) ho21 hg (Nat.le_refl _) (Nat.le_trans h.be.size hb.size)
  refine ⟨⟨h.mx, Below.setCell hB2 hn _, ⟨v1, v2', xs, ys ++ [d], hbx2.set 1 v2', ?_, ?_, hr⟩, hn⟩, ?_, fun b cs hs => ?_⟩
  · refine ho12.kept (row := some ob) (grown_setCells ob [v2'] 1 W2) ?_
    cases hv : v1.ownBlock with
    | none => exact .inl rfl
    | some k => exact .inr (fun e => hne1 (hv.trans e))
  · rw [List.length_append, List.length_singleton, List.flatMap_append, List.flatMap_cons, List.flatMap_nil, List.append_nil]
    refine World.ownsRow.kept (row := some ob) ho3 (grown_setCells ob [v2'] 1 W2) ?_
    cases hv : v2'.ownBlock with
    | none => exact .inl rfl
    | some k => exact .inr (fun e => hne3 (hv.trans e))
  · have h1 := hb.size; have h2 := hg.size; simp only [World.setCell, Array.size_modify]; omega
  · have h1 := hs.below hb hs.lt
    have h2 := h1.grown hg (fun e => own_neM ho21 h1 (by decide) e.symm)
    exact h2.setOther (blk_ne h2 hbx2 (by decide)) _ _
/-- a splitter is put behind those that were -/
theorem TrInv.putS {ob : Nat} {w0 W W1 W2 : World} {done : List (List UInt8)} {l : List UInt8} {v1 v2 v1' : Value} {xs : List Splt} {ys : List Drp} {s : Splt} (h : TrInv ob w0 done W) (hbx : Blk W1 ob #[v1, v2] 60) (ho1 : W1.ownsRow w0.heap.size 100 4 v1 xs.length (xs.flatMap Splt.cells)) (ho2 : W1.ownsRow w0.heap.size 102 3 v2 ys.length (ys.flatMap Drp.cells)) (hr : TrRows (done ++ [l]) (xs ++ [s]) ys)
    (hb : Below W.heap.size W W1) (hg : W1.grownBy W2 v1.ownBlock) (ho3 : W2.ownsRow w0.heap.size 100 4 v1' (xs.length + 1) (xs.flatMap Splt.cells ++ [.string s.key, .int .i64 s.ways, .string s.par, .int .i64 s.port])) :
    TrInv ob w0 (done ++ [l]) (W2.setCell ⟨ob, 0, none⟩ v1') ∧ KeepS W (W2.setCell ⟨ob, 0, none⟩ v1') := by
  have hn := h.hn
  have hne := own_neM ho1 hbx (by decide)
  have hbx2 := hbx.grown hg (fun e => hne e.symm)
  have hne3 := own_neM ho3 hbx2 (by decide)
  have ho22 := ho2.kept hg (by
    cases hv : v2.ownBlock with
    | none => exact .inl rfl
    | some k => exact .inr (fun e => own_apart ho2 ho1 (by decide) k hv e.symm))
  have hne2 := own_neM ho22 hbx2 (by decide)
  have hB2 : Below w0.heap.size w0 W2 := below_grown (below_at h.be hb h.be.size) ho1 hg (Nat.le_refl _) (Nat.le_trans h.be.size hb.size)
  refine ⟨⟨h.mx, Below.setCell hB2 hn _, ⟨v1', v2, xs ++ [s], ys, hbx2.set 0 v1', ?_, ?_, hr⟩, hn⟩, ?_, fun b cs hs => ?_⟩
  · rw [List.length_append, List.length_singleton, List.flatMap_append, List.flatMap_cons, List.flatMap_nil, List.append_nil]
    refine World.ownsRow.kept (row := some ob) ho3 (grown_setCells ob [v1'] 0 W2) ?_
    cases hv : v1'.ownBlock with
    | none => exact .inl rfl
    | some k => exact .inr (fun e => hne3 (hv.trans e))
  · refine ho22.kept (row := some ob) (grown_setCells ob [v1'] 0 W2) ?_
    cases hv : v2.ownBlock with
    | none => exact .inl rfl
    | some k => exact .inr (fun e => hne2 (hv.trans e))
  · have h1 := hb.size; have h2 := hg.size; simp only [World.setCell, Array.size_modify]; omega
  · have h1 := hs.below hb hs.lt
    have h2 := h1.grown hg (fun e => own_neM ho1 h1 (by decide) e.symm)
    exact h2.setOther (blk_ne h2 hbx2 (by decide)) _ _
theorem len_four {L : List ByteArray} (h : L.length = 4) : ∃ a b c d, L = [a, b, c, d] := by
  match L, h with
  | [a, b, c, d], _ => exact ⟨a, b, c, d, rfl⟩
theorem len_five {L : List ByteArray} (h : L.length = 5) : ∃ a b c d e, L = [a, b, c, d, e] := by
  match L, h with
  | [a, b, c, d, e], _ => exact ⟨a, b, c, d, e, rfl⟩
theorem cells4 {W : World} {tb : Nat} {L : List ByteArray} {t : TypeId} {a b c d : ByteArray} (h : Blk W tb (L.map Value.string).toArray t) (hL : L = [a, b, c, d]) : W.cell? ⟨tb, 0, none⟩ = some (.string a) ∧ W.cell? ⟨tb, 1, none⟩ = some (.string b) ∧ W.cell? ⟨tb, 2, none⟩ = some (.string c) ∧ W.cell? ⟨tb, 3, none⟩ = some (.string d) := by
  subst hL; exact ⟨h.cell 0 _ rfl, h.cell 1 _ rfl, h.cell 2 _ rfl, h.cell 3 _ rfl⟩
theorem cells5 {W : World} {tb : Nat} {L : List ByteArray} {t : TypeId} {a b c d e : ByteArray} (h : Blk W tb (L.map Value.string).toArray t) (hL : L = [a, b, c, d, e]) : W.cell? ⟨tb, 0, none⟩ = some (.string a) ∧ W.cell? ⟨tb, 1, none⟩ = some (.string b) ∧ W.cell? ⟨tb, 2, none⟩ = some (.string c) ∧ W.cell? ⟨tb, 3, none⟩ = some (.string d) ∧ W.cell? ⟨tb, 4, none⟩ = some (.string e) := by
  subst hL; exact ⟨h.cell 0 _ rfl, h.cell 1 _ rfl, h.cell 2 _ rfl, h.cell 3 _ rfl, h.cell 4 _ rfl⟩
theorem not_hole {L : List ByteArray} (h : false = holeB L) : ∀ y ∈ L, y.data.toList ≠ [] := by
  intro y hy e
  have : holeB L = true := hole_iff.2 ⟨y, hy, by rw [Lib.size_eq, e]; rfl⟩
  rw [this] at h; cases h
theorem infoDrpY : (Tryz.prog.info? 102).map (fun i => (i.zero, i.size, i.bytes)) = some (some (.agg #[.string ⟨#[]⟩, .string ⟨#[]⟩, .int .i64 0]), 3, 40) := by kernel_rfl
theorem infoSplY : (Tryz.prog.info? 100).map (fun i => (i.zero, i.size, i.bytes)) = some (some (.agg #[.string ⟨#[]⟩, .int .i64 0, .string ⟨#[]⟩, .int .i64 0]), 4, 48) := by kernel_rfl
theorem seg_map {x : ByteArray} {L : List ByteArray} (h : L = segB 32 x) : segs 32 x.data.toList = L.map fun y => y.data.toList := by
  subst h
  unfold segB
  rw [List.map_map]
  have : ((fun y : ByteArray => y.data.toList) ∘ bA) = id := by funext l; rfl
  rw [this, List.map_id]
theorem hole_no {L : List ByteArray} (h : ∃ x ∈ L, x.size = 0) (h2 : ∀ y ∈ L.map (fun y : ByteArray => y.data.toList), y ≠ []) : False := by
  obtain ⟨x, hx, h0⟩ := h
  refine h2 x.data.toList (List.mem_map.2 ⟨x, hx, rfl⟩) (List.length_eq_zero_iff.1 ?_)
  rw [← Lib.size_eq]; exact h0
theorem first_of {L : List ByteArray} {Q : ByteArray} (hlp : 0 < L.length) (hQ : Q = L[0]) {a : List UInt8} {r : List (List UInt8)} (h : L.map (fun y : ByteArray => y.data.toList) = a :: r) : Q.toList = a ∧ L.length = r.length + 1 := by
  have h1 : (L.map (fun y : ByteArray => y.data.toList))[0]? = some a := by rw [h]; rfl
  rw [List.getElem?_map, List.getElem?_eq_getElem hlp, ← hQ] at h1
  have h2 := congrArg List.length h
  rw [List.length_map, List.length_cons] at h2
  exact ⟨by rw [ByteArray.toList_eq]; exact Option.some.inj h1, h2⟩
theorem nums_two {W : World} {base : Nat} {v : Value} {ns : List Int} {x y : Option Int} (h : [x, y] = ns.map some) (ho : W.ownsRow base 3 1 v ns.length (ns.map (Value.int .i64))) :
    ∃ i j g cap cur, x = some i ∧ y = some j ∧ v = .slice (some ⟨g, 0, none⟩) 2 cap ∧ Blk W g cur 3 ∧ W.cell? ⟨g, 0, none⟩ = some (.int .i64 i) ∧ W.cell? ⟨g, 1, none⟩ = some (.int .i64 j) := by
  match ns, h with
  | [i, j], h =>
    simp only [List.map_cons, List.map_nil, List.cons.injEq, and_true] at h
    obtain ⟨rfl, rfl⟩ := h
    obtain ⟨a, cap, rfl, _, _, hc⟩ := Arr.of_ints ho
    rcases ho.2 with ⟨_, h0⟩ | ⟨g, cap2, cur, hv, _, hh, _⟩
    · cases h0
    · simp only [Value.slice.injEq] at hv
      obtain ⟨rfl, _, rfl⟩ := hv
      obtain ⟨b, off, he, _, c0⟩ := hc 0 (by simp)
      obtain ⟨b2, off2, he2, _, c1⟩ := hc 1 (by simp)
      simp only [Option.some.injEq, Addr.mk.injEq, and_true] at he he2
      obtain ⟨rfl, rfl⟩ := he
      obtain ⟨rfl, rfl⟩ := he2
      exact ⟨i, j, g, cap, cur, rfl, rfl, rfl, hh, c0 0 _ rfl, c1 0 _ rfl⟩
set_option maxHeartbeats 4000000 in
set_option maxRecDepth 100000 in
theorem treadLine_any (ob : Nat) (w0 : World) (done : List (List UInt8)) (x : ByteArray) (W : World) (h : TrInv ob w0 done W) (hdl : done.length ≤ 1000000) (hx : x.size ≤ 1000000) :
    Calls Tryz.prog 86 #[.pointer (some ⟨ob, 0, none⟩), .string x] W fun e W' => e = .returned (.bool (treeOkP done x.data.toList)) ∧ TrInv ob w0 (done ++ [x.data.toList]) W' ∧ KeepS W W' := by
  have HI := Lib.hid h
  clear h
  go_enter Tryz.func86, Tryz.ntmps86
  go_wp2_with fail
  refine (split_any x 32 W hx (HI.out.mx.below HI.out.be)).mono ?_
  rintro e w1 ⟨rfl, hw⟩
  have hb1 : Below W.heap.size W w1 := by rw [hw]; exact below_alloc (Below.refl _ _) _ (Nat.le_refl _)
  have hbk : Blk w1 W.heap.size ((segB 32 x).map Value.string).toArray 9 := by rw [hw]; exact Blk.new _ _ _
  obtain ⟨L, hL⟩ : ∃ L, L = segB 32 x := ⟨_, rfl⟩
  have HL := Lib.hid hL
  have hne := seg_ne x
  have hLs : ∀ y ∈ L, y.size ≤ 1000000 := fun y hy => by rw [hL] at hy; have := segB_size hy; omega
  have hLl : L.length ≤ 1000001 := by
    rw [hL]; unfold segB; rw [List.length_map]
    have h1 := segs_len 32 x.data.toList
    have h2 : x.data.toList.length = x.size := (Lib.size_eq x).symm
    omega
  rw [← hL] at hbk hne ⊢
  have H1 := Lib.hid (And.intro (HI.out.below hb1) (And.intro hbk (And.intro hb1 hLs)))
  clear hL hw hb1 hbk hLs
  go_wp2_with fail
  refine (Tryz.slices_Contains_string W.heap.size 0 L.length L.length L ⟨#[]⟩ _ (Nat.le_refl _) (by omega) (fun j hj => by
    have := strs_cell H1.out.2.1 j hj
    rw [Nat.zero_add, this, List.getD_eq_getElem?_getD, List.getElem?_eq_getElem hj]; rfl)).mono ?_
  rintro e w2 ⟨rfl, hw⟩
  rw [hw, show Lib.containsS (L.take L.length) ⟨#[]⟩ = holeB L from rfl]
  clear hw w2
  obtain ⟨b, hb⟩ : ∃ b, b = holeB L := ⟨_, rfl⟩
  rw [← hb]
  have hlp : 0 < L.length := List.length_pos_iff.2 hne
  have HB := Lib.hid hb
  clear hb hne
  cases b
  rotate_left
  · obtain ⟨y, hy, hy0⟩ := hole_iff.1 HB.out.symm
    have HE := Lib.hid (hole_iff.1 HB.out.symm)
    have HF : Hid (dropish x.data.toList = false ∧ treeOkP done x.data.toList = false) := by
      obtain ⟨_, _, xs, ys, _, _, _, htr⟩ := H1.out.1.row
      exact no_line htr (fun k n p o e hne => by rw [seg_map HL.out] at hne; exact (hole_no HE.out hne).elim) (fun c s o e hne => by rw [seg_map HL.out] at hne; exact hole_no HE.out hne)
    clear hy hy0
    go_wp2
    go_ret
    exact ⟨by rw [HF.out.2]; rfl, HI.out.same H1.out.2.2.1 HF.out.1 HF.out.2, KeepS.below H1.out.2.2.1⟩
  have c0 := strs_cell H1.out.2.1 0 hlp
  obtain ⟨v1, v2, xs, ys, hbx, ho1, ho2, htr⟩ := H1.out.1.row
  obtain ⟨s1, k1, rfl⟩ := own_slice' ho1
  obtain ⟨s2, k2, rfl⟩ := own_slice' ho2
  have b0 := hbx.cell 0 _ rfl
  have b1 := hbx.cell 1 _ rfl
  have hob := hbx.lt
  have HT := Lib.hid (And.intro hbx (And.intro ho1 (And.intro ho2 htr)))
  clear hbx ho1 ho2 htr
  obtain ⟨Q, hQ⟩ : ∃ Q, Q = L[0] := ⟨_, rfl⟩
  rw [← hQ] at c0
  have HQ := Lib.hid hQ
  clear hQ
  by_cases hs : Q.toList = [115, 112, 108, 105, 116, 116, 101, 114]
  · have hqs : (Q.toList == [115, 112, 108, 105, 116, 116, 101, 114]) = true := by rw [hs]; rfl
    have hqd : (Q.toList == [100, 114, 111, 112]) = false := by rw [hs]; rfl
    have HS := Lib.hid hs
    clear hs
    by_cases h5 : L.length = 5
    · have hl5 : ((L.length : Int) == 5) = true := by rw [h5]; rfl
      by_cases hy : ys.length = 0
      · have hy0 : ((ys.length : Int) == 0) = true := by rw [hy]; rfl
        obtain ⟨qa, qb, qn, qp, qo, hLe⟩ := len_five h5
        obtain ⟨p0, p1, p2, p3, p4⟩ := cells5 H1.out.2.1 hLe
        have hqa : Q = qa := Value.string.inj (Option.some.inj (c0.symm.trans p0))
        have hszn : qn.size ≤ 1000000 := H1.out.2.2.2 qn (by rw [hLe]; simp)
        have hszo : qo.size ≤ 1000000 := H1.out.2.2.2 qo (by rw [hLe]; simp)
        have hnh := not_hole HB.out
        rw [hLe] at hnh
        have hsg := seg_map HL.out
        rw [hLe] at hsg
        have hqa2 : qa.data.toList = wSplit := by rw [← hqa, ← ByteArray.toList_eq]; exact HS.out
        have HSG := Lib.hid (And.intro hsg (And.intro hqa2 (And.intro (hnh qb (by simp)) (And.intro (hnh qp (by simp)) hy))))
        have hxs : xs.length ≤ 1000000 := Nat.le_trans HT.out.2.2.2.lx (by assumption)
        have htl := H1.out.2.1.lt
        obtain ⟨i0, hi, hz0, hz1, hz2⟩ := info_parts infoSplY
        clear hLe hqa p0 hnh hsg hqa2 hy
        go_wp2_with fail
        refine WalkT.start (fun w' => w'.cell? ⟨W.heap.size, 2, none⟩ = some (.string qn) ∧ w'.cell? ⟨W.heap.size, 4, none⟩ = some (.string qo)) [6, 7] (by kernel_rfl) ?_
        have hS : w1.drew.cell? ⟨W.heap.size, 2, none⟩ = some (.string qn) ∧ w1.drew.cell? ⟨W.heap.size, 4, none⟩ = some (.string qo) := ⟨p2, p4⟩
        have hbd0 : Below w1.heap.size w1 w1.drew := Below.drew (Below.refl _ _)
        generalize w1.drew = wd at *
        (refine WalkT.quiet (i := 0) (v := ?_) rfl (by kernel_rfl) (by kernel_rfl) (by kernel_rfl) (fun _ _ _ h => h) (Or.inl ⟨by rfl, ?_⟩) ?_; rotate_left; (· (intro wS hSw; (try dsimp only at hSw); go_simp; try with_reducible rfl)); try simp only [Act.put, List.setIfInBounds_toArray, List.set_cons_zero, List.set_cons_succ, List.getElem_toArray, List.getElem_cons_succ, List.getElem_cons_zero])
        (refine WalkT.quiet (i := 1) (v := ?_) rfl (by kernel_rfl) (by kernel_rfl) (by kernel_rfl) (fun _ _ _ h => h) (Or.inl ⟨by rfl, ?_⟩) ?_; rotate_left; (· (intro wS hSw; (try dsimp only at hSw); go_simp; try with_reducible rfl)); try simp only [Act.put, List.setIfInBounds_toArray, List.set_cons_zero, List.set_cons_succ, List.getElem_toArray, List.getElem_cons_succ, List.getElem_cons_zero])
        (refine WalkT.takeN (i := 2) (v := ?_) rfl (by kernel_rfl) (by kernel_rfl) (by kernel_rfl) (by kernel_rfl) (fun _ _ _ h => h) (hS) (Or.inl ⟨by rfl, ?_⟩) ?_; rotate_left; (· (intro wS hSw; (try dsimp only at hSw); obtain ⟨t0, t1⟩ := hSw; go_simp; try with_reducible rfl)); try simp only [Act.put, List.setIfInBounds_toArray, List.set_cons_zero, List.set_cons_succ, List.getElem_toArray, List.getElem_cons_succ, List.getElem_cons_zero])
        (refine WalkT.quiet (i := 3) (v := ?_) rfl (by kernel_rfl) (by kernel_rfl) (by kernel_rfl) (fun _ _ _ h => h) (Or.inl ⟨by rfl, ?_⟩) ?_; rotate_left; (· (intro wS hSw; (try dsimp only at hSw); go_simp; try with_reducible rfl)); try simp only [Act.put, List.setIfInBounds_toArray, List.set_cons_zero, List.set_cons_succ, List.getElem_toArray, List.getElem_cons_succ, List.getElem_cons_zero])
        (refine WalkT.quiet (i := 4) (v := ?_) rfl (by kernel_rfl) (by kernel_rfl) (by kernel_rfl) (fun _ _ _ h => h) (Or.inl ⟨by rfl, ?_⟩) ?_; rotate_left; (· (intro wS hSw; (try dsimp only at hSw); go_simp; try with_reducible rfl)); try simp only [Act.put, List.setIfInBounds_toArray, List.set_cons_zero, List.set_cons_succ, List.getElem_toArray, List.getElem_cons_succ, List.getElem_cons_zero])
        (refine WalkT.takeN (i := 5) (v := ?_) rfl (by kernel_rfl) (by kernel_rfl) (by kernel_rfl) (by kernel_rfl) (fun _ _ _ h => h) (hS) (Or.inl ⟨by rfl, ?_⟩) ?_; rotate_left; (· (intro wS hSw; (try dsimp only at hSw); obtain ⟨t0, t1⟩ := hSw; go_simp; try with_reducible rfl)); try simp only [Act.put, List.setIfInBounds_toArray, List.set_cons_zero, List.set_cons_succ, List.getElem_toArray, List.getElem_cons_succ, List.getElem_cons_zero])
        clear hS
        (refine WalkT.ready (rs := [6]) (by kernel_rfl) (by simp) (AllT.cons rfl (fun K hK => ?_) AllT.nil); go_simp)
        (refine hK.out _ _ (fun h => absurd h (by decide)) ?_; clear hK K; try simp only [Act.put, List.setIfInBounds_toArray, List.set_cons_zero, List.set_cons_succ, List.getElem_toArray, List.getElem_cons_succ, List.getElem_cons_zero])
        (refine WalkT.ready (rs := [7]) (by kernel_rfl) (by simp) (AllT.cons rfl (fun K hK => ?_) AllT.nil); go_simp)
        refine (nums_u _ [qn, qo] 15 (by decide) _ (Arr.litAt (cells := strCells) (sz := 1) (fun _ => rfl) rfl (by rfl) (by rfl) (by simp [maxLen])) (fun y hy => by simp only [List.mem_cons, List.not_mem_nil, or_false] at hy; rcases hy with rfl | rfl <;> assumption) (by simp)).mono ?_
        rintro e w3 ⟨v6, b6, rfl, hb3, ht6, hf6⟩
        have hbd : Below w1.heap.size w1 w3 := below_at (below_alloc hbd0 _ hbd0.size) hb3 (by have := hbd0.size; simp; omega)
        have H6 := Lib.hid (And.intro ht6 (And.intro hf6 hbd))
        clear hb3 ht6 hf6 hbd hbd0 p2 p4 b0 b1 c0
        (refine hK.out _ _ (fun h => absurd h (by decide)) ?_; clear hK K; try simp only [Act.put, List.setIfInBounds_toArray, List.set_cons_zero, List.set_cons_succ, List.getElem_toArray, List.getElem_cons_succ, List.getElem_cons_zero])
        (refine WalkT.quiet (i := 8) (v := ?_) rfl (by kernel_rfl) (by kernel_rfl) (by kernel_rfl) (fun _ _ _ h => h) (Or.inl ⟨by rfl, ?_⟩) ?_; rotate_left; (· (intro wS hSw; (try dsimp only at hSw); go_simp; try with_reducible rfl)); try simp only [Act.put, List.setIfInBounds_toArray, List.set_cons_zero, List.set_cons_succ, List.getElem_toArray, List.getElem_cons_succ, List.getElem_cons_zero])
        (refine WalkT.quiet (i := 9) (v := ?_) rfl (by kernel_rfl) (by kernel_rfl) (by kernel_rfl) (fun _ _ _ h => h) (Or.inl ⟨by rfl, ?_⟩) ?_; rotate_left; (· (intro wS hSw; (try dsimp only at hSw); go_simp; try with_reducible rfl)); try simp only [Act.put, List.setIfInBounds_toArray, List.set_cons_zero, List.set_cons_succ, List.getElem_toArray, List.getElem_cons_succ, List.getElem_cons_zero])
        (refine WalkT.quiet (i := 10) (v := ?_) rfl (by kernel_rfl) (by kernel_rfl) (by kernel_rfl) (fun _ _ _ h => h) (Or.inl ⟨by rfl, ?_⟩) ?_; rotate_left; (· (intro wS hSw; (try dsimp only at hSw); go_simp; try with_reducible rfl)); try simp only [Act.put, List.setIfInBounds_toArray, List.set_cons_zero, List.set_cons_succ, List.getElem_toArray, List.getElem_cons_succ, List.getElem_cons_zero])
        (refine WalkT.quiet (i := 11) (v := ?_) rfl (by kernel_rfl) (by kernel_rfl) (by kernel_rfl) (fun _ _ _ h => h) (Or.inl ⟨by rfl, ?_⟩) ?_; rotate_left; (· (intro wS hSw; (try dsimp only at hSw); go_simp; try with_reducible rfl)); try simp only [Act.put, List.setIfInBounds_toArray, List.set_cons_zero, List.set_cons_succ, List.getElem_toArray, List.getElem_cons_succ, List.getElem_cons_zero])
        (refine WalkT.quiet (i := 12) (v := ?_) rfl (by kernel_rfl) (by kernel_rfl) (by kernel_rfl) (fun _ _ _ h => h) (Or.inl ⟨by rfl, ?_⟩) ?_; rotate_left; (· (intro wS hSw; (try dsimp only at hSw); go_simp; try with_reducible rfl)); try simp only [Act.put, List.setIfInBounds_toArray, List.set_cons_zero, List.set_cons_succ, List.getElem_toArray, List.getElem_cons_succ, List.getElem_cons_zero])
        refine WalkT.done (by kernel_rfl) ?_
        cases b6
        · have HF : Hid (dropish x.data.toList = false ∧ treeOkP done x.data.toList = false) := by
            obtain ⟨z, hz, hzn⟩ := H6.out.2.1 rfl
            refine splt_bad HSG.out.1 ?_
            simp only [List.mem_cons, List.not_mem_nil, or_false] at hz
            rcases hz with rfl | rfl
            · exact .inl hzn
            · exact .inr hzn
          have hbe := below_at H1.out.2.2.1 H6.out.2.2 H1.out.2.2.1.size
          clear p1 p3
          go_wp2
          go_ret
          exact ⟨by rw [HF.out.2]; rfl, HI.out.same hbe HF.out.1 HF.out.2, KeepS.below hbe⟩
        · obtain ⟨ns, hns, hno⟩ := H6.out.1 rfl
          obtain ⟨ni, nj, g, cap6, cur6, hni, hnj, rfl, hgb, g0, g1⟩ := nums_two hns hno
          have hsl := splt_line HT.out.2.2.2 HSG.out.2.2.2.2 HSG.out.1 HSG.out.2.1 HSG.out.2.2.1 HSG.out.2.2.2.1 hni hnj
          rw [bA_data] at hsl
          have hb3 := H6.out.2.2
          have hw3 := H1.out.2.1.below hb3 htl
          have hbx3 := HT.out.1.below hb3 HT.out.1.lt
          have ho13 := own_below HT.out.2.1 hb3
          have ho23 := own_below HT.out.2.2.1 hb3
          have hbe := below_at H1.out.2.2.1 hb3 H1.out.2.2.1.size
          have r1 := (hb3.cell (World.block_lt_of_cell? _ _ p1)).trans p1
          have r3 := (hb3.cell (World.block_lt_of_cell? _ _ p3)).trans p3
          have bx0 := hbx3.cell 0 _ rfl
          have w3f := hw3.free 3
          have n1 : W.heap.size ≠ ob := blk_ne hw3 hbx3 (by decide)
          have n2 : W.heap.size ≠ g := blk_ne hw3 hgb (by decide)
          have n3 := own_neM ho13 hw3 (by decide)
          have n4 := own_neM ho23 hw3 (by decide)
          have HK := Lib.hid (And.intro hw3 (And.intro hbx3 (And.intro ho13 (And.intro ho23 (And.intro hbe (And.intro n1 (And.intro n2 (And.intro n3 n4))))))))
          have HC := Lib.hid (And.intro bx0 (And.intro r1 (And.intro r3 (And.intro g0 g1))))
          have HSL0 := Lib.hid hsl
          clear hns hno hni hnj hgb g0 g1 hsl hb3 hw3 hbx3 ho13 ho23 hbe r1 bx0 n1 n2 n3 n4 p1 p3
          by_cases hp : qp.toList = [45]
          · have hp1 : (qp.toList == [45]) = true := by rw [hp]; rfl
            have HSL : Hid (treeOkP done x.data.toList = true ∧ spltDec x.data.toList = some ⟨qb, ni, ⟨#[]⟩, nj⟩) := by
              have := HSL0.out
              rw [if_pos (by show qp.data.toList = [45]; rw [← ByteArray.toList_eq]; exact hp)] at this
              exact this
            clear hp
            obtain ⟨wx, hwx⟩ : ∃ wx, wx = w3.setCell ⟨W.heap.size, 3, none⟩ (.string ⟨#[]⟩) := ⟨_, rfl⟩
            have hk : ∀ v : Value, v.ownBlock ≠ some W.heap.size → v.ownBlock = none ∨ v.ownBlock ≠ some W.heap.size := fun v h => .inr h
            have q1 : Blk wx ob #[.slice s1 xs.length k1, .slice s2 ys.length k2] 60 := by rw [hwx]; exact HK.out.2.1.setOther (fun e => HK.out.2.2.2.2.2.1 e.symm) _ _
            have q2 : wx.ownsRow w0.heap.size 100 4 (.slice s1 xs.length k1) xs.length (xs.flatMap Splt.cells) := by
              rw [hwx]; exact World.ownsRow.kept (row := some W.heap.size) HK.out.2.2.1 (grown_setCells W.heap.size [.string ⟨#[]⟩] 3 w3) (.inr HK.out.2.2.2.2.2.2.2.1)
            have q3 : wx.ownsRow w0.heap.size 102 3 (.slice s2 ys.length k2) ys.length (ys.flatMap Drp.cells) := by
              rw [hwx]; exact World.ownsRow.kept (row := some W.heap.size) HK.out.2.2.2.1 (grown_setCells W.heap.size [.string ⟨#[]⟩] 3 w3) (.inr HK.out.2.2.2.2.2.2.2.2)
            have q4 : Below W.heap.size W wx := by rw [hwx]; exact Below.setCell HK.out.2.2.2.2.1 (Nat.le_refl _) _
            have HX : Hid (Blk wx.drew ob #[.slice s1 xs.length k1, .slice s2 ys.length k2] 60 ∧ wx.drew.ownsRow w0.heap.size 100 4 (.slice s1 xs.length k1) xs.length (xs.flatMap Splt.cells) ∧ wx.drew.ownsRow w0.heap.size 102 3 (.slice s2 ys.length k2) ys.length (ys.flatMap Drp.cells) ∧ Below W.heap.size W wx.drew) :=
              ⟨q1.drew, own_below q2 (Below.drew (Below.refl _ _)), own_below q3 (Below.drew (Below.refl _ _)), Below.drew q4⟩
            have HS5 : Hid (wx.drew.cell? ⟨ob, 0, none⟩ = some (.slice s1 xs.length k1) ∧ wx.drew.cell? ⟨W.heap.size, 1, none⟩ = some (.string qb) ∧ wx.drew.cell? ⟨W.heap.size, 3, none⟩ = some (.string ⟨#[]⟩) ∧ wx.drew.cell? ⟨g, 0, none⟩ = some (.int .i64 ni) ∧ wx.drew.cell? ⟨g, 1, none⟩ = some (.int .i64 nj)) := by
              refine ⟨q1.cell 0 _ rfl, ?_, ?_, ?_, ?_⟩
              · show wx.cell? _ = _
                rw [hwx]; exact (World.cell?_setCell_other _ _ _ _ (fun e => by simp at e)).trans HC.out.2.1
              · show wx.cell? _ = _
                rw [hwx]; exact World.cell?_setCell_same _ _ _ HC.out.2.2.1
              · show wx.cell? _ = _
                rw [hwx]; exact (World.cell?_setCell_other _ _ _ _ (fun e => HK.out.2.2.2.2.2.2.1 (congrArg Addr.block e))).trans HC.out.2.2.2.1
              · show wx.cell? _ = _
                rw [hwx]; exact (World.cell?_setCell_other _ _ _ _ (fun e => HK.out.2.2.2.2.2.2.1 (congrArg Addr.block e))).trans HC.out.2.2.2.2
            have HWX := Lib.hid hwx
            clear q1 q2 q3 q4 hk hwx
            go_wp2_with fail
            rw [← HWX.out]
            clear r3 w3f
            (refine WalkT.start (fun w' => w'.cell? ⟨ob, 0, none⟩ = some (.slice s1 xs.length k1) ∧ w'.cell? ⟨W.heap.size, 1, none⟩ = some (.string qb) ∧ w'.cell? ⟨W.heap.size, 3, none⟩ = some (.string ⟨#[]⟩) ∧ w'.cell? ⟨g, 0, none⟩ = some (.int .i64 ni) ∧ w'.cell? ⟨g, 1, none⟩ = some (.int .i64 nj)) [19, 22] (by kernel_rfl) ?_; generalize wx.drew = W0 at *; have hS := HS5.out; (refine WalkT.quiet (i := 0) (v := ?_) rfl (by kernel_rfl) (by kernel_rfl) (by kernel_rfl) (fun _ _ _ h => h) (Or.inl ⟨by rfl, ?_⟩) ?_; rotate_left; (· (intro wS hSw; (try dsimp only at hSw); go_simp; try with_reducible rfl)); try simp only [Act.put, List.setIfInBounds_toArray, List.set_cons_zero, List.set_cons_succ, List.getElem_toArray, List.getElem_cons_succ, List.getElem_cons_zero]); (refine WalkT.quiet (i := 1) (v := ?_) rfl (by kernel_rfl) (by kernel_rfl) (by kernel_rfl) (fun _ _ _ h => h) (Or.inl ⟨by rfl, ?_⟩) ?_; rotate_left; (· (intro wS hSw; (try dsimp only at hSw); go_simp; try with_reducible rfl)); try simp only [Act.put, List.setIfInBounds_toArray, List.set_cons_zero, List.set_cons_succ, List.getElem_toArray, List.getElem_cons_succ, List.getElem_cons_zero]); (refine WalkT.quiet (i := 2) (v := ?_) rfl (by kernel_rfl) (by kernel_rfl) (by kernel_rfl) (fun _ _ _ h => h) (Or.inl ⟨by rfl, ?_⟩) ?_; rotate_left; (· (intro wS hSw; (try dsimp only at hSw); go_simp; try with_reducible rfl)); try simp only [Act.put, List.setIfInBounds_toArray, List.set_cons_zero, List.set_cons_succ, List.getElem_toArray, List.getElem_cons_succ, List.getElem_cons_zero]); (refine WalkT.quiet (i := 3) (v := ?_) rfl (by kernel_rfl) (by kernel_rfl) (by kernel_rfl) (fun _ _ _ h => h) (Or.inl ⟨by rfl, ?_⟩) ?_; rotate_left; (· (intro wS hSw; (try dsimp only at hSw); go_simp; try with_reducible rfl)); try simp only [Act.put, List.setIfInBounds_toArray, List.set_cons_zero, List.set_cons_succ, List.getElem_toArray, List.getElem_cons_succ, List.getElem_cons_zero]); (refine WalkT.takeN (i := 4) (v := ?_) rfl (by kernel_rfl) (by kernel_rfl) (by kernel_rfl) (by kernel_rfl) (fun _ _ _ h => h) (hS) (Or.inl ⟨by rfl, ?_⟩) ?_; rotate_left; (· (intro wS hSw; (try dsimp only at hSw); obtain ⟨t0, t1, t2, t3, t4⟩ := hSw; go_simp; try with_reducible rfl)); try simp only [Act.put, List.setIfInBounds_toArray, List.set_cons_zero, List.set_cons_succ, List.getElem_toArray, List.getElem_cons_succ, List.getElem_cons_zero]); (refine WalkT.quiet (i := 5) (v := ?_) rfl (by kernel_rfl) (by kernel_rfl) (by kernel_rfl) (fun _ _ _ h => h) (Or.inl ⟨by rfl, ?_⟩) ?_; rotate_left; (· (intro wS hSw; (try dsimp only at hSw); go_simp; try with_reducible rfl)); try simp only [Act.put, List.setIfInBounds_toArray, List.set_cons_zero, List.set_cons_succ, List.getElem_toArray, List.getElem_cons_succ, List.getElem_cons_zero]); (refine WalkT.quiet (i := 6) (v := ?_) rfl (by kernel_rfl) (by kernel_rfl) (by kernel_rfl) (fun _ _ _ h => h) (Or.inl ⟨by rfl, ?_⟩) ?_; rotate_left; (· (intro wS hSw; (try dsimp only at hSw); go_simp; try with_reducible rfl)); try simp only [Act.put, List.setIfInBounds_toArray, List.set_cons_zero, List.set_cons_succ, List.getElem_toArray, List.getElem_cons_succ, List.getElem_cons_zero]); (refine WalkT.takeN (i := 7) (v := ?_) rfl (by kernel_rfl) (by kernel_rfl) (by kernel_rfl) (by kernel_rfl) (fun _ _ _ h => h) (hS) (Or.inl ⟨by rfl, ?_⟩) ?_; rotate_left; (· (intro wS hSw; (try dsimp only at hSw); obtain ⟨t0, t1, t2, t3, t4⟩ := hSw; go_simp; try with_reducible rfl)); try simp only [Act.put, List.setIfInBounds_toArray, List.set_cons_zero, List.set_cons_succ, List.getElem_toArray, List.getElem_cons_succ, List.getElem_cons_zero]); (refine WalkT.quiet (i := 8) (v := ?_) rfl (by kernel_rfl) (by kernel_rfl) (by kernel_rfl) (fun _ _ _ h => h) (Or.inl ⟨by rfl, ?_⟩) ?_; rotate_left; (· (intro wS hSw; (try dsimp only at hSw); go_simp; try with_reducible rfl)); try simp only [Act.put, List.setIfInBounds_toArray, List.set_cons_zero, List.set_cons_succ, List.getElem_toArray, List.getElem_cons_succ, List.getElem_cons_zero]); (refine WalkT.quiet (i := 9) (v := ?_) rfl (by kernel_rfl) (by kernel_rfl) (by kernel_rfl) (fun _ _ _ h => h) (Or.inl ⟨by rfl, ?_⟩) ?_; rotate_left; (· (intro wS hSw; (try dsimp only at hSw); go_simp; try with_reducible rfl)); try simp only [Act.put, List.setIfInBounds_toArray, List.set_cons_zero, List.set_cons_succ, List.getElem_toArray, List.getElem_cons_succ, List.getElem_cons_zero]); (refine WalkT.takeN (i := 10) (v := ?_) rfl (by kernel_rfl) (by kernel_rfl) (by kernel_rfl) (by kernel_rfl) (fun _ _ _ h => h) (hS) (Or.inl ⟨by rfl, ?_⟩) ?_; rotate_left; (· (intro wS hSw; (try dsimp only at hSw); obtain ⟨t0, t1, t2, t3, t4⟩ := hSw; go_simp; try with_reducible rfl)); try simp only [Act.put, List.setIfInBounds_toArray, List.set_cons_zero, List.set_cons_succ, List.getElem_toArray, List.getElem_cons_succ, List.getElem_cons_zero]); (refine WalkT.quiet (i := 11) (v := ?_) rfl (by kernel_rfl) (by kernel_rfl) (by kernel_rfl) (fun _ _ _ h => h) (Or.inl ⟨by rfl, ?_⟩) ?_; rotate_left; (· (intro wS hSw; (try dsimp only at hSw); go_simp; try with_reducible rfl)); try simp only [Act.put, List.setIfInBounds_toArray, List.set_cons_zero, List.set_cons_succ, List.getElem_toArray, List.getElem_cons_succ, List.getElem_cons_zero]); (refine WalkT.quiet (i := 12) (v := ?_) rfl (by kernel_rfl) (by kernel_rfl) (by kernel_rfl) (fun _ _ _ h => h) (Or.inl ⟨by rfl, ?_⟩) ?_; rotate_left; (· (intro wS hSw; (try dsimp only at hSw); go_simp; try with_reducible rfl)); try simp only [Act.put, List.setIfInBounds_toArray, List.set_cons_zero, List.set_cons_succ, List.getElem_toArray, List.getElem_cons_succ, List.getElem_cons_zero]); (refine WalkT.takeN (i := 13) (v := ?_) rfl (by kernel_rfl) (by kernel_rfl) (by kernel_rfl) (by kernel_rfl) (fun _ _ _ h => h) (hS) (Or.inl ⟨by rfl, ?_⟩) ?_; rotate_left; (· (intro wS hSw; (try dsimp only at hSw); obtain ⟨t0, t1, t2, t3, t4⟩ := hSw; go_simp; try with_reducible rfl)); try simp only [Act.put, List.setIfInBounds_toArray, List.set_cons_zero, List.set_cons_succ, List.getElem_toArray, List.getElem_cons_succ, List.getElem_cons_zero]); (refine WalkT.quiet (i := 14) (v := ?_) rfl (by kernel_rfl) (by kernel_rfl) (by kernel_rfl) (fun _ _ _ h => h) (Or.inl ⟨by rfl, ?_⟩) ?_; rotate_left; (· (intro wS hSw; (try dsimp only at hSw); go_simp; try with_reducible rfl)); try simp only [Act.put, List.setIfInBounds_toArray, List.set_cons_zero, List.set_cons_succ, List.getElem_toArray, List.getElem_cons_succ, List.getElem_cons_zero]); (refine WalkT.quiet (i := 15) (v := ?_) rfl (by kernel_rfl) (by kernel_rfl) (by kernel_rfl) (fun _ _ _ h => h) (Or.inl ⟨by rfl, ?_⟩) ?_; rotate_left; (· (intro wS hSw; (try dsimp only at hSw); go_simp; try with_reducible rfl)); try simp only [Act.put, List.setIfInBounds_toArray, List.set_cons_zero, List.set_cons_succ, List.getElem_toArray, List.getElem_cons_succ, List.getElem_cons_zero]); (refine WalkT.takeN (i := 16) (v := ?_) rfl (by kernel_rfl) (by kernel_rfl) (by kernel_rfl) (by kernel_rfl) (fun _ _ _ h => h) (hS) (Or.inl ⟨by rfl, ?_⟩) ?_; rotate_left; (· (intro wS hSw; (try dsimp only at hSw); obtain ⟨t0, t1, t2, t3, t4⟩ := hSw; go_simp; try with_reducible rfl)); try simp only [Act.put, List.setIfInBounds_toArray, List.set_cons_zero, List.set_cons_succ, List.getElem_toArray, List.getElem_cons_succ, List.getElem_cons_zero]); (refine WalkT.quiet (i := 17) (v := ?_) rfl (by kernel_rfl) (by kernel_rfl) (by kernel_rfl) (fun _ _ _ h => h) (Or.inl ⟨by rfl, ?_⟩) ?_; rotate_left; (· (intro wS hSw; (try dsimp only at hSw); go_simp; try with_reducible rfl)); try simp only [Act.put, List.setIfInBounds_toArray, List.set_cons_zero, List.set_cons_succ, List.getElem_toArray, List.getElem_cons_succ, List.getElem_cons_zero]); (refine WalkT.ready (rs := [18]) (by kernel_rfl) (by simp) (AllT.cons rfl (fun K hK => ?_) AllT.nil); go_simp); (refine hK.out _ _ (fun _ _ => ⟨Lib.cell?_alloc_some _ hS.1, Lib.cell?_alloc_some _ hS.2.1, Lib.cell?_alloc_some _ hS.2.2.1, Lib.cell?_alloc_some _ hS.2.2.2.1, Lib.cell?_alloc_some _ hS.2.2.2.2⟩) ?_; clear hK K; try simp only [Act.put, List.setIfInBounds_toArray, List.set_cons_zero, List.set_cons_succ, List.getElem_toArray, List.getElem_cons_succ, List.getElem_cons_zero]); clear hS; (refine WalkT.ready (rs := [19]) (by kernel_rfl) (by simp) (AllT.cons rfl (fun K hK => ?_) AllT.nil)); refine step_append_lies _ (by rfl) _ _ _ (by rfl) w0.heap.size 100 _ _ 4 48 Tryz.underlying57 hi hz0 hz1 hz2 rfl (by decide) _ xs.length _ (by rfl) (World.ownsRow.alloc HX.out.2.1 _) ⟨_, 0, none⟩ 1 1 [.string qb, .int .i64 ni, .string ⟨#[]⟩, .int .i64 nj] (by rfl) rfl (by exact news_at rfl rfl) (by simp [Value.oneCell']) (by omega) (by unfold maxLen; omega) (by omega) (by have h1 := HI.out.be.size; have h2 := HX.out.2.2.2.size; simp; omega) _ rfl ?_; intro g7 cap7 w7 hown7 hg7 hat7 hlt7; have hput := HI.out.putS (l := x.data.toList) (s := ⟨qb, ni, ⟨#[]⟩, nj⟩) (HX.out.1.alloc _) (World.ownsRow.alloc HX.out.2.1 _) (World.ownsRow.alloc HX.out.2.2.1 _) (HT.out.2.2.2.splt HSL.out.2) (below_alloc HX.out.2.2.2 _ HX.out.2.2.2.size) hg7 hown7; have bb := (HX.out.1.alloc (.cells #[.string qb, .int .i64 ni, .string ⟨#[]⟩, .int .i64 nj] 100)).grown hg7 (fun e => own_neM HX.out.2.1 HX.out.1 (by decide) e.symm); have bb0 := bb.cell 0 _ rfl; have bbf := bb.free 0; have HPT := Lib.hid hput; clear hput bb hown7 hg7 hat7; (refine hK.out _ _ (fun h => absurd h (by decide)) ?_; clear hK K; try simp only [Act.put, List.setIfInBounds_toArray, List.set_cons_zero, List.set_cons_succ, List.getElem_toArray, List.getElem_cons_succ, List.getElem_cons_zero]); (refine WalkT.quiet (i := 20) (v := ?_) rfl (by kernel_rfl) (by kernel_rfl) (by kernel_rfl) (fun _ _ _ h => h) (Or.inl ⟨by rfl, ?_⟩) ?_; rotate_left; (· (intro wS hSw; (try dsimp only at hSw); go_simp; try with_reducible rfl)); try simp only [Act.put, List.setIfInBounds_toArray, List.set_cons_zero, List.set_cons_succ, List.getElem_toArray, List.getElem_cons_succ, List.getElem_cons_zero]); (refine WalkT.quiet (i := 21) (v := ?_) rfl (by kernel_rfl) (by kernel_rfl) (by kernel_rfl) (fun _ _ _ h => h) (Or.inl ⟨by rfl, ?_⟩) ?_; rotate_left; (· (intro wS hSw; (try dsimp only at hSw); go_simp; try with_reducible rfl)); try simp only [Act.put, List.setIfInBounds_toArray, List.set_cons_zero, List.set_cons_succ, List.getElem_toArray, List.getElem_cons_succ, List.getElem_cons_zero]); (refine WalkT.ready (rs := [22]) (by kernel_rfl) (by simp) (AllT.cons rfl (fun K hK => ?_) AllT.nil); go_simp); (refine hK.out _ _ (fun h => absurd h (by decide)) ?_; clear hK K; try simp only [Act.put, List.setIfInBounds_toArray, List.set_cons_zero, List.set_cons_succ, List.getElem_toArray, List.getElem_cons_succ, List.getElem_cons_zero]); refine WalkT.done (by kernel_rfl) ?_; go_wp2; go_ret; exact ⟨by rw [HSL.out.1]; rfl, HPT.out.1, HPT.out.2⟩)
          · have hp1 : (qp.toList == [45]) = false := beq_eq_false_iff_ne.2 hp
            have HSL : Hid (treeOkP done x.data.toList = true ∧ spltDec x.data.toList = some ⟨qb, ni, qp, nj⟩) := by
              have := HSL0.out
              rw [if_neg (by show ¬ qp.data.toList = [45]; rw [← ByteArray.toList_eq]; exact hp), bA_data] at this
              exact this
            clear hp
            go_wp2_with fail
            have HX : Hid (Blk w3.drew ob #[.slice s1 xs.length k1, .slice s2 ys.length k2] 60 ∧ w3.drew.ownsRow w0.heap.size 100 4 (.slice s1 xs.length k1) xs.length (xs.flatMap Splt.cells) ∧ w3.drew.ownsRow w0.heap.size 102 3 (.slice s2 ys.length k2) ys.length (ys.flatMap Drp.cells) ∧ Below W.heap.size W w3.drew) :=
              ⟨HK.out.2.1.drew, own_below HK.out.2.2.1 (Below.drew (Below.refl _ _)), own_below HK.out.2.2.2.1 (Below.drew (Below.refl _ _)), Below.drew HK.out.2.2.2.2.1⟩
            have HS5 : Hid (w3.drew.cell? ⟨ob, 0, none⟩ = some (.slice s1 xs.length k1) ∧ w3.drew.cell? ⟨W.heap.size, 1, none⟩ = some (.string qb) ∧ w3.drew.cell? ⟨W.heap.size, 3, none⟩ = some (.string qp) ∧ w3.drew.cell? ⟨g, 0, none⟩ = some (.int .i64 ni) ∧ w3.drew.cell? ⟨g, 1, none⟩ = some (.int .i64 nj)) := ⟨HC.out.1, HC.out.2.1, HC.out.2.2.1, HC.out.2.2.2.1, HC.out.2.2.2.2⟩
            clear r3 w3f
            obtain ⟨wx, hwx⟩ : ∃ wx, wx = w3 := ⟨_, rfl⟩
            rw [← hwx] at HX HS5 ⊢
            clear hwx
            (refine WalkT.start (fun w' => w'.cell? ⟨ob, 0, none⟩ = some (.slice s1 xs.length k1) ∧ w'.cell? ⟨W.heap.size, 1, none⟩ = some (.string qb) ∧ w'.cell? ⟨W.heap.size, 3, none⟩ = some (.string qp) ∧ w'.cell? ⟨g, 0, none⟩ = some (.int .i64 ni) ∧ w'.cell? ⟨g, 1, none⟩ = some (.int .i64 nj)) [19, 22] (by kernel_rfl) ?_; generalize wx.drew = W0 at *; have hS := HS5.out; (refine WalkT.quiet (i := 0) (v := ?_) rfl (by kernel_rfl) (by kernel_rfl) (by kernel_rfl) (fun _ _ _ h => h) (Or.inl ⟨by rfl, ?_⟩) ?_; rotate_left; (· (intro wS hSw; (try dsimp only at hSw); go_simp; try with_reducible rfl)); try simp only [Act.put, List.setIfInBounds_toArray, List.set_cons_zero, List.set_cons_succ, List.getElem_toArray, List.getElem_cons_succ, List.getElem_cons_zero]); (refine WalkT.quiet (i := 1) (v := ?_) rfl (by kernel_rfl) (by kernel_rfl) (by kernel_rfl) (fun _ _ _ h => h) (Or.inl ⟨by rfl, ?_⟩) ?_; rotate_left; (· (intro wS hSw; (try dsimp only at hSw); go_simp; try with_reducible rfl)); try simp only [Act.put, List.setIfInBounds_toArray, List.set_cons_zero, List.set_cons_succ, List.getElem_toArray, List.getElem_cons_succ, List.getElem_cons_zero]); (refine WalkT.quiet (i := 2) (v := ?_) rfl (by kernel_rfl) (by kernel_rfl) (by kernel_rfl) (fun _ _ _ h => h) (Or.inl ⟨by rfl, ?_⟩) ?_; rotate_left; (· (intro wS hSw; (try dsimp only at hSw); go_simp; try with_reducible rfl)); try simp only [Act.put, List.setIfInBounds_toArray, List.set_cons_zero, List.set_cons_succ, List.getElem_toArray, List.getElem_cons_succ, List.getElem_cons_zero]); (refine WalkT.quiet (i := 3) (v := ?_) rfl (by kernel_rfl) (by kernel_rfl) (by kernel_rfl) (fun _ _ _ h => h) (Or.inl ⟨by rfl, ?_⟩) ?_; rotate_left; (· (intro wS hSw; (try dsimp only at hSw); go_simp; try with_reducible rfl)); try simp only [Act.put, List.setIfInBounds_toArray, List.set_cons_zero, List.set_cons_succ, List.getElem_toArray, List.getElem_cons_succ, List.getElem_cons_zero]); (refine WalkT.takeN (i := 4) (v := ?_) rfl (by kernel_rfl) (by kernel_rfl) (by kernel_rfl) (by kernel_rfl) (fun _ _ _ h => h) (hS) (Or.inl ⟨by rfl, ?_⟩) ?_; rotate_left; (· (intro wS hSw; (try dsimp only at hSw); obtain ⟨t0, t1, t2, t3, t4⟩ := hSw; go_simp; try with_reducible rfl)); try simp only [Act.put, List.setIfInBounds_toArray, List.set_cons_zero, List.set_cons_succ, List.getElem_toArray, List.getElem_cons_succ, List.getElem_cons_zero]); (refine WalkT.quiet (i := 5) (v := ?_) rfl (by kernel_rfl) (by kernel_rfl) (by kernel_rfl) (fun _ _ _ h => h) (Or.inl ⟨by rfl, ?_⟩) ?_; rotate_left; (· (intro wS hSw; (try dsimp only at hSw); go_simp; try with_reducible rfl)); try simp only [Act.put, List.setIfInBounds_toArray, List.set_cons_zero, List.set_cons_succ, List.getElem_toArray, List.getElem_cons_succ, List.getElem_cons_zero]); (refine WalkT.quiet (i := 6) (v := ?_) rfl (by kernel_rfl) (by kernel_rfl) (by kernel_rfl) (fun _ _ _ h => h) (Or.inl ⟨by rfl, ?_⟩) ?_; rotate_left; (· (intro wS hSw; (try dsimp only at hSw); go_simp; try with_reducible rfl)); try simp only [Act.put, List.setIfInBounds_toArray, List.set_cons_zero, List.set_cons_succ, List.getElem_toArray, List.getElem_cons_succ, List.getElem_cons_zero]); (refine WalkT.takeN (i := 7) (v := ?_) rfl (by kernel_rfl) (by kernel_rfl) (by kernel_rfl) (by kernel_rfl) (fun _ _ _ h => h) (hS) (Or.inl ⟨by rfl, ?_⟩) ?_; rotate_left; (· (intro wS hSw; (try dsimp only at hSw); obtain ⟨t0, t1, t2, t3, t4⟩ := hSw; go_simp; try with_reducible rfl)); try simp only [Act.put, List.setIfInBounds_toArray, List.set_cons_zero, List.set_cons_succ, List.getElem_toArray, List.getElem_cons_succ, List.getElem_cons_zero]); (refine WalkT.quiet (i := 8) (v := ?_) rfl (by kernel_rfl) (by kernel_rfl) (by kernel_rfl) (fun _ _ _ h => h) (Or.inl ⟨by rfl, ?_⟩) ?_; rotate_left; (· (intro wS hSw; (try dsimp only at hSw); go_simp; try with_reducible rfl)); try simp only [Act.put, List.setIfInBounds_toArray, List.set_cons_zero, List.set_cons_succ, List.getElem_toArray, List.getElem_cons_succ, List.getElem_cons_zero]); (refine WalkT.quiet (i := 9) (v := ?_) rfl (by kernel_rfl) (by kernel_rfl) (by kernel_rfl) (fun _ _ _ h => h) (Or.inl ⟨by rfl, ?_⟩) ?_; rotate_left; (· (intro wS hSw; (try dsimp only at hSw); go_simp; try with_reducible rfl)); try simp only [Act.put, List.setIfInBounds_toArray, List.set_cons_zero, List.set_cons_succ, List.getElem_toArray, List.getElem_cons_succ, List.getElem_cons_zero]); (refine WalkT.takeN (i := 10) (v := ?_) rfl (by kernel_rfl) (by kernel_rfl) (by kernel_rfl) (by kernel_rfl) (fun _ _ _ h => h) (hS) (Or.inl ⟨by rfl, ?_⟩) ?_; rotate_left; (· (intro wS hSw; (try dsimp only at hSw); obtain ⟨t0, t1, t2, t3, t4⟩ := hSw; go_simp; try with_reducible rfl)); try simp only [Act.put, List.setIfInBounds_toArray, List.set_cons_zero, List.set_cons_succ, List.getElem_toArray, List.getElem_cons_succ, List.getElem_cons_zero]); (refine WalkT.quiet (i := 11) (v := ?_) rfl (by kernel_rfl) (by kernel_rfl) (by kernel_rfl) (fun _ _ _ h => h) (Or.inl ⟨by rfl, ?_⟩) ?_; rotate_left; (· (intro wS hSw; (try dsimp only at hSw); go_simp; try with_reducible rfl)); try simp only [Act.put, List.setIfInBounds_toArray, List.set_cons_zero, List.set_cons_succ, List.getElem_toArray, List.getElem_cons_succ, List.getElem_cons_zero]); (refine WalkT.quiet (i := 12) (v := ?_) rfl (by kernel_rfl) (by kernel_rfl) (by kernel_rfl) (fun _ _ _ h => h) (Or.inl ⟨by rfl, ?_⟩) ?_; rotate_left; (· (intro wS hSw; (try dsimp only at hSw); go_simp; try with_reducible rfl)); try simp only [Act.put, List.setIfInBounds_toArray, List.set_cons_zero, List.set_cons_succ, List.getElem_toArray, List.getElem_cons_succ, List.getElem_cons_zero]); (refine WalkT.takeN (i := 13) (v := ?_) rfl (by kernel_rfl) (by kernel_rfl) (by kernel_rfl) (by kernel_rfl) (fun _ _ _ h => h) (hS) (Or.inl ⟨by rfl, ?_⟩) ?_; rotate_left; (· (intro wS hSw; (try dsimp only at hSw); obtain ⟨t0, t1, t2, t3, t4⟩ := hSw; go_simp; try with_reducible rfl)); try simp only [Act.put, List.setIfInBounds_toArray, List.set_cons_zero, List.set_cons_succ, List.getElem_toArray, List.getElem_cons_succ, List.getElem_cons_zero]); (refine WalkT.quiet (i := 14) (v := ?_) rfl (by kernel_rfl) (by kernel_rfl) (by kernel_rfl) (fun _ _ _ h => h) (Or.inl ⟨by rfl, ?_⟩) ?_; rotate_left; (· (intro wS hSw; (try dsimp only at hSw); go_simp; try with_reducible rfl)); try simp only [Act.put, List.setIfInBounds_toArray, List.set_cons_zero, List.set_cons_succ, List.getElem_toArray, List.getElem_cons_succ, List.getElem_cons_zero]); (refine WalkT.quiet (i := 15) (v := ?_) rfl (by kernel_rfl) (by kernel_rfl) (by kernel_rfl) (fun _ _ _ h => h) (Or.inl ⟨by rfl, ?_⟩) ?_; rotate_left; (· (intro wS hSw; (try dsimp only at hSw); go_simp; try with_reducible rfl)); try simp only [Act.put, List.setIfInBounds_toArray, List.set_cons_zero, List.set_cons_succ, List.getElem_toArray, List.getElem_cons_succ, List.getElem_cons_zero]); (refine WalkT.takeN (i := 16) (v := ?_) rfl (by kernel_rfl) (by kernel_rfl) (by kernel_rfl) (by kernel_rfl) (fun _ _ _ h => h) (hS) (Or.inl ⟨by rfl, ?_⟩) ?_; rotate_left; (· (intro wS hSw; (try dsimp only at hSw); obtain ⟨t0, t1, t2, t3, t4⟩ := hSw; go_simp; try with_reducible rfl)); try simp only [Act.put, List.setIfInBounds_toArray, List.set_cons_zero, List.set_cons_succ, List.getElem_toArray, List.getElem_cons_succ, List.getElem_cons_zero]); (refine WalkT.quiet (i := 17) (v := ?_) rfl (by kernel_rfl) (by kernel_rfl) (by kernel_rfl) (fun _ _ _ h => h) (Or.inl ⟨by rfl, ?_⟩) ?_; rotate_left; (· (intro wS hSw; (try dsimp only at hSw); go_simp; try with_reducible rfl)); try simp only [Act.put, List.setIfInBounds_toArray, List.set_cons_zero, List.set_cons_succ, List.getElem_toArray, List.getElem_cons_succ, List.getElem_cons_zero]); (refine WalkT.ready (rs := [18]) (by kernel_rfl) (by simp) (AllT.cons rfl (fun K hK => ?_) AllT.nil); go_simp); (refine hK.out _ _ (fun _ _ => ⟨Lib.cell?_alloc_some _ hS.1, Lib.cell?_alloc_some _ hS.2.1, Lib.cell?_alloc_some _ hS.2.2.1, Lib.cell?_alloc_some _ hS.2.2.2.1, Lib.cell?_alloc_some _ hS.2.2.2.2⟩) ?_; clear hK K; try simp only [Act.put, List.setIfInBounds_toArray, List.set_cons_zero, List.set_cons_succ, List.getElem_toArray, List.getElem_cons_succ, List.getElem_cons_zero]); clear hS; (refine WalkT.ready (rs := [19]) (by kernel_rfl) (by simp) (AllT.cons rfl (fun K hK => ?_) AllT.nil)); refine step_append_lies _ (by rfl) _ _ _ (by rfl) w0.heap.size 100 _ _ 4 48 Tryz.underlying57 hi hz0 hz1 hz2 rfl (by decide) _ xs.length _ (by rfl) (World.ownsRow.alloc HX.out.2.1 _) ⟨_, 0, none⟩ 1 1 [.string qb, .int .i64 ni, .string qp, .int .i64 nj] (by rfl) rfl (by exact news_at rfl rfl) (by simp [Value.oneCell']) (by omega) (by unfold maxLen; omega) (by omega) (by have h1 := HI.out.be.size; have h2 := HX.out.2.2.2.size; simp; omega) _ rfl ?_; intro g7 cap7 w7 hown7 hg7 hat7 hlt7; have hput := HI.out.putS (l := x.data.toList) (s := ⟨qb, ni, qp, nj⟩) (HX.out.1.alloc _) (World.ownsRow.alloc HX.out.2.1 _) (World.ownsRow.alloc HX.out.2.2.1 _) (HT.out.2.2.2.splt HSL.out.2) (below_alloc HX.out.2.2.2 _ HX.out.2.2.2.size) hg7 hown7; have bb := (HX.out.1.alloc (.cells #[.string qb, .int .i64 ni, .string qp, .int .i64 nj] 100)).grown hg7 (fun e => own_neM HX.out.2.1 HX.out.1 (by decide) e.symm); have bb0 := bb.cell 0 _ rfl; have bbf := bb.free 0; have HPT := Lib.hid hput; clear hput bb hown7 hg7 hat7; (refine hK.out _ _ (fun h => absurd h (by decide)) ?_; clear hK K; try simp only [Act.put, List.setIfInBounds_toArray, List.set_cons_zero, List.set_cons_succ, List.getElem_toArray, List.getElem_cons_succ, List.getElem_cons_zero]); (refine WalkT.quiet (i := 20) (v := ?_) rfl (by kernel_rfl) (by kernel_rfl) (by kernel_rfl) (fun _ _ _ h => h) (Or.inl ⟨by rfl, ?_⟩) ?_; rotate_left; (· (intro wS hSw; (try dsimp only at hSw); go_simp; try with_reducible rfl)); try simp only [Act.put, List.setIfInBounds_toArray, List.set_cons_zero, List.set_cons_succ, List.getElem_toArray, List.getElem_cons_succ, List.getElem_cons_zero]); (refine WalkT.quiet (i := 21) (v := ?_) rfl (by kernel_rfl) (by kernel_rfl) (by kernel_rfl) (fun _ _ _ h => h) (Or.inl ⟨by rfl, ?_⟩) ?_; rotate_left; (· (intro wS hSw; (try dsimp only at hSw); go_simp; try with_reducible rfl)); try simp only [Act.put, List.setIfInBounds_toArray, List.set_cons_zero, List.set_cons_succ, List.getElem_toArray, List.getElem_cons_succ, List.getElem_cons_zero]); (refine WalkT.ready (rs := [22]) (by kernel_rfl) (by simp) (AllT.cons rfl (fun K hK => ?_) AllT.nil); go_simp); (refine hK.out _ _ (fun h => absurd h (by decide)) ?_; clear hK K; try simp only [Act.put, List.setIfInBounds_toArray, List.set_cons_zero, List.set_cons_succ, List.getElem_toArray, List.getElem_cons_succ, List.getElem_cons_zero]); refine WalkT.done (by kernel_rfl) ?_; go_wp2; go_ret; exact ⟨by rw [HSL.out.1]; rfl, HPT.out.1, HPT.out.2⟩)
      · have hy0 : ((ys.length : Int) == 0) = false := by rw [beq_eq_false_iff_ne]; omega
        have HY := Lib.hid hy
        clear hy
        (have HF := Lib.hid (no_line (l := x.data.toList) HT.out.2.2.2 (fun k n p o e hne => by rw [seg_map HL.out] at e hne; have hf := first_of hlp HQ.out e; (exact HY.out)) (fun c s o e hne => by rw [seg_map HL.out] at e hne; have hf := first_of hlp HQ.out e; (have h1 := hf.2; simp at h1; omega))); go_wp2; go_ret; exact ⟨by rw [HF.out.2]; rfl, HI.out.same H1.out.2.2.1 HF.out.1 HF.out.2, KeepS.below H1.out.2.2.1⟩)
    · have hl5 : ((L.length : Int) == 5) = false := by rw [beq_eq_false_iff_ne]; omega
      have H5 := Lib.hid h5
      clear h5
      (have HF := Lib.hid (no_line (l := x.data.toList) HT.out.2.2.2 (fun k n p o e hne => by rw [seg_map HL.out] at e hne; have hf := first_of hlp HQ.out e; (exact absurd hf.2 (by have := H5.out; simpa using this))) (fun c s o e hne => by rw [seg_map HL.out] at e hne; have hf := first_of hlp HQ.out e; (have h1 := hf.1; rw [HS.out] at h1; exact absurd h1 (by decide)))); go_wp2; go_ret; exact ⟨by rw [HF.out.2]; rfl, HI.out.same H1.out.2.2.1 HF.out.1 HF.out.2, KeepS.below H1.out.2.2.1⟩)
  · have hqs : (Q.toList == [115, 112, 108, 105, 116, 116, 101, 114]) = false := beq_eq_false_iff_ne.2 hs
    have HS := Lib.hid hs
    clear hs
    by_cases hd : Q.toList = [100, 114, 111, 112]
    · have hqd : (Q.toList == [100, 114, 111, 112]) = true := by rw [hd]; rfl
      have HD := Lib.hid hd
      clear hd
      by_cases h4 : L.length = 4
      · have hl4 : ((L.length : Int) == 4) = true := by rw [h4]; rfl
        obtain ⟨qa, qb, qc, qd, hLe⟩ := len_four h4
        obtain ⟨p0, p1, p2, p3⟩ := cells4 H1.out.2.1 hLe
        have hqa : Q = qa := Value.string.inj (Option.some.inj (c0.symm.trans p0))
        have hsz : qd.size ≤ 1000000 := H1.out.2.2.2 qd (by rw [hLe]; simp)
        have hnh := not_hole HB.out
        rw [hLe] at hnh
        have hsg := seg_map HL.out
        rw [hLe] at hsg
        have hdl := drop_line (done := done) hsg (by rw [← hqa]; show Q.data.toList = wDrop; rw [← ByteArray.toList_eq]; exact HD.out) (hnh qb (by simp)) (hnh qc (by simp)) (hnh qd (by simp))
        rw [bA_data, bA_data] at hdl
        have HDL := Lib.hid hdl
        have hys : ys.length ≤ 1000000 := Nat.le_trans HT.out.2.2.2.ly (by assumption)
        obtain ⟨i0, hi, hz0, hz1, hz2⟩ := info_parts infoDrpY
        clear hLe hqa p0 hnh hsg hdl
        go_wp2_with fail
        refine (number_any qd 15 (by decide) _ hsz).mono ?_
        unfold NumPost
        rintro e w3 ⟨rfl, hb3⟩
        have hbd : Below w1.heap.size w1 w3.drew := Below.drew hb3
        have H3 := Lib.hid (And.intro (HT.out.1.below hbd HT.out.1.lt) (And.intro (own_below HT.out.2.2.1 hbd) (And.intro (H1.out.2.1.below hbd H1.out.2.1.lt) hbd)))
        have hS : w3.drew.cell? ⟨ob, 1, none⟩ = some (.slice s2 ys.length k2) ∧ w3.drew.cell? ⟨W.heap.size, 1, none⟩ = some (.string qb) ∧ w3.drew.cell? ⟨W.heap.size, 2, none⟩ = some (.string qc) :=
          ⟨H3.out.1.cell 1 _ rfl, (hbd.cell (World.block_lt_of_cell? _ _ p1)).trans p1, (hbd.cell (World.block_lt_of_cell? _ _ p2)).trans p2⟩
        obtain ⟨n, hn⟩ : ∃ n, n = (numL 15 qd.data.toList).getD 0 := ⟨_, rfl⟩
        obtain ⟨ok, hok⟩ : ∃ ok, ok = (numL 15 qd.data.toList).isSome := ⟨_, rfl⟩
        rw [← hn, ← hok]
        have HN := Lib.hid (And.intro hn hok)
        clear hn hok hb3 hbd p1 p2 p3 b0 b1 c0
        go_wp2_with fail
        refine WalkT.start (fun w' => w'.cell? ⟨ob, 1, none⟩ = some (.slice s2 ys.length k2) ∧ w'.cell? ⟨W.heap.size, 1, none⟩ = some (.string qb) ∧ w'.cell? ⟨W.heap.size, 2, none⟩ = some (.string qc)) [14, 17] (by kernel_rfl) ?_
        generalize w3.drew = W0 at *
        (refine WalkT.quiet (i := 0) (v := ?_) rfl (by kernel_rfl) (by kernel_rfl) (by kernel_rfl) (fun _ _ _ h => h) (Or.inl ⟨by rfl, ?_⟩) ?_; rotate_left; (· (intro wS hSw; (try dsimp only at hSw); go_simp; try with_reducible rfl)); try simp only [Act.put, List.setIfInBounds_toArray, List.set_cons_zero, List.set_cons_succ, List.getElem_toArray, List.getElem_cons_succ, List.getElem_cons_zero])
        (refine WalkT.quiet (i := 1) (v := ?_) rfl (by kernel_rfl) (by kernel_rfl) (by kernel_rfl) (fun _ _ _ h => h) (Or.inl ⟨by rfl, ?_⟩) ?_; rotate_left; (· (intro wS hSw; (try dsimp only at hSw); go_simp; try with_reducible rfl)); try simp only [Act.put, List.setIfInBounds_toArray, List.set_cons_zero, List.set_cons_succ, List.getElem_toArray, List.getElem_cons_succ, List.getElem_cons_zero])
        (refine WalkT.quiet (i := 2) (v := ?_) rfl (by kernel_rfl) (by kernel_rfl) (by kernel_rfl) (fun _ _ _ h => h) (Or.inl ⟨by rfl, ?_⟩) ?_; rotate_left; (· (intro wS hSw; (try dsimp only at hSw); go_simp; try with_reducible rfl)); try simp only [Act.put, List.setIfInBounds_toArray, List.set_cons_zero, List.set_cons_succ, List.getElem_toArray, List.getElem_cons_succ, List.getElem_cons_zero])
        (refine WalkT.quiet (i := 3) (v := ?_) rfl (by kernel_rfl) (by kernel_rfl) (by kernel_rfl) (fun _ _ _ h => h) (Or.inl ⟨by rfl, ?_⟩) ?_; rotate_left; (· (intro wS hSw; (try dsimp only at hSw); go_simp; try with_reducible rfl)); try simp only [Act.put, List.setIfInBounds_toArray, List.set_cons_zero, List.set_cons_succ, List.getElem_toArray, List.getElem_cons_succ, List.getElem_cons_zero])
        (refine WalkT.takeN (i := 4) (v := ?_) rfl (by kernel_rfl) (by kernel_rfl) (by kernel_rfl) (by kernel_rfl) (fun _ _ _ h => h) (hS) (Or.inl ⟨by rfl, ?_⟩) ?_; rotate_left; (· (intro wS hSw; (try dsimp only at hSw); obtain ⟨t0, t1, t2⟩ := hSw; go_simp; try with_reducible rfl)); try simp only [Act.put, List.setIfInBounds_toArray, List.set_cons_zero, List.set_cons_succ, List.getElem_toArray, List.getElem_cons_succ, List.getElem_cons_zero])
        (refine WalkT.quiet (i := 5) (v := ?_) rfl (by kernel_rfl) (by kernel_rfl) (by kernel_rfl) (fun _ _ _ h => h) (Or.inl ⟨by rfl, ?_⟩) ?_; rotate_left; (· (intro wS hSw; (try dsimp only at hSw); go_simp; try with_reducible rfl)); try simp only [Act.put, List.setIfInBounds_toArray, List.set_cons_zero, List.set_cons_succ, List.getElem_toArray, List.getElem_cons_succ, List.getElem_cons_zero])
        (refine WalkT.quiet (i := 6) (v := ?_) rfl (by kernel_rfl) (by kernel_rfl) (by kernel_rfl) (fun _ _ _ h => h) (Or.inl ⟨by rfl, ?_⟩) ?_; rotate_left; (· (intro wS hSw; (try dsimp only at hSw); go_simp; try with_reducible rfl)); try simp only [Act.put, List.setIfInBounds_toArray, List.set_cons_zero, List.set_cons_succ, List.getElem_toArray, List.getElem_cons_succ, List.getElem_cons_zero])
        (refine WalkT.takeN (i := 7) (v := ?_) rfl (by kernel_rfl) (by kernel_rfl) (by kernel_rfl) (by kernel_rfl) (fun _ _ _ h => h) (hS) (Or.inl ⟨by rfl, ?_⟩) ?_; rotate_left; (· (intro wS hSw; (try dsimp only at hSw); obtain ⟨t0, t1, t2⟩ := hSw; go_simp; try with_reducible rfl)); try simp only [Act.put, List.setIfInBounds_toArray, List.set_cons_zero, List.set_cons_succ, List.getElem_toArray, List.getElem_cons_succ, List.getElem_cons_zero])
        (refine WalkT.quiet (i := 8) (v := ?_) rfl (by kernel_rfl) (by kernel_rfl) (by kernel_rfl) (fun _ _ _ h => h) (Or.inl ⟨by rfl, ?_⟩) ?_; rotate_left; (· (intro wS hSw; (try dsimp only at hSw); go_simp; try with_reducible rfl)); try simp only [Act.put, List.setIfInBounds_toArray, List.set_cons_zero, List.set_cons_succ, List.getElem_toArray, List.getElem_cons_succ, List.getElem_cons_zero])
        (refine WalkT.quiet (i := 9) (v := ?_) rfl (by kernel_rfl) (by kernel_rfl) (by kernel_rfl) (fun _ _ _ h => h) (Or.inl ⟨by rfl, ?_⟩) ?_; rotate_left; (· (intro wS hSw; (try dsimp only at hSw); go_simp; try with_reducible rfl)); try simp only [Act.put, List.setIfInBounds_toArray, List.set_cons_zero, List.set_cons_succ, List.getElem_toArray, List.getElem_cons_succ, List.getElem_cons_zero])
        (refine WalkT.takeN (i := 10) (v := ?_) rfl (by kernel_rfl) (by kernel_rfl) (by kernel_rfl) (by kernel_rfl) (fun _ _ _ h => h) (hS) (Or.inl ⟨by rfl, ?_⟩) ?_; rotate_left; (· (intro wS hSw; (try dsimp only at hSw); obtain ⟨t0, t1, t2⟩ := hSw; go_simp; try with_reducible rfl)); try simp only [Act.put, List.setIfInBounds_toArray, List.set_cons_zero, List.set_cons_succ, List.getElem_toArray, List.getElem_cons_succ, List.getElem_cons_zero])
        (refine WalkT.quiet (i := 11) (v := ?_) rfl (by kernel_rfl) (by kernel_rfl) (by kernel_rfl) (fun _ _ _ h => h) (Or.inl ⟨by rfl, ?_⟩) ?_; rotate_left; (· (intro wS hSw; (try dsimp only at hSw); go_simp; try with_reducible rfl)); try simp only [Act.put, List.setIfInBounds_toArray, List.set_cons_zero, List.set_cons_succ, List.getElem_toArray, List.getElem_cons_succ, List.getElem_cons_zero])
        (refine WalkT.quiet (i := 12) (v := ?_) rfl (by kernel_rfl) (by kernel_rfl) (by kernel_rfl) (fun _ _ _ h => h) (Or.inl ⟨by rfl, ?_⟩) ?_; rotate_left; (· (intro wS hSw; (try dsimp only at hSw); go_simp; try with_reducible rfl)); try simp only [Act.put, List.setIfInBounds_toArray, List.set_cons_zero, List.set_cons_succ, List.getElem_toArray, List.getElem_cons_succ, List.getElem_cons_zero])
        (refine WalkT.ready (rs := [13]) (by kernel_rfl) (by simp) (AllT.cons rfl (fun K hK => ?_) AllT.nil); go_simp)
        (refine hK.out _ _ (fun _ _ => ⟨Lib.cell?_alloc_some _ hS.1, Lib.cell?_alloc_some _ hS.2.1, Lib.cell?_alloc_some _ hS.2.2⟩) ?_; clear hK K; try simp only [Act.put, List.setIfInBounds_toArray, List.set_cons_zero, List.set_cons_succ, List.getElem_toArray, List.getElem_cons_succ, List.getElem_cons_zero])
        clear hS
        (refine WalkT.ready (rs := [14]) (by kernel_rfl) (by simp) (AllT.cons rfl (fun K hK => ?_) AllT.nil))
        refine step_append_lies _ (by rfl) _ _ _ (by rfl) w0.heap.size 102 _ _ 3 40 Tryz.underlying58 hi hz0 hz1 hz2 rfl (by decide) _ ys.length _ (by rfl) (World.ownsRow.alloc H3.out.2.1 _) ⟨_, 0, none⟩ 1 1 [.string qb, .string qc, .int .i64 n] (by rfl) rfl (by exact news_at rfl rfl) (by simp [Value.oneCell']) (by omega) (by unfold maxLen; omega) (by omega) (by have h1 := H1.out.1.be.size; have h2 := H3.out.2.2.2.size; simp; omega) _ rfl ?_
        intro g7 cap7 w7 hown7 hg7 hat7 hlt7
        have hput := H1.out.1.putD (l := x.data.toList) (d := ⟨qb, qc, n⟩) HT.out.1 HT.out.2.1 HT.out.2.2.1 (HT.out.2.2.2.drp HDL.out.1 (by rw [HN.out.1]; exact HDL.out.2.2)) (below_alloc H3.out.2.2.2 _ H3.out.2.2.2.size) hg7 hown7
        have bb := (H3.out.1.alloc (.cells #[.string qb, .string qc, .int .i64 n] 102)).grown hg7 (fun e => own_neM H3.out.2.1 H3.out.1 (by decide) e.symm)
        have bb1 := bb.cell 1 _ rfl
        have bbf := bb.free 1
        have HPT := Lib.hid hput
        clear hput bb hown7 hg7 hat7
        (refine hK.out _ _ (fun h => absurd h (by decide)) ?_; clear hK K; try simp only [Act.put, List.setIfInBounds_toArray, List.set_cons_zero, List.set_cons_succ, List.getElem_toArray, List.getElem_cons_succ, List.getElem_cons_zero])
        (refine WalkT.quiet (i := 15) (v := ?_) rfl (by kernel_rfl) (by kernel_rfl) (by kernel_rfl) (fun _ _ _ h => h) (Or.inl ⟨by rfl, ?_⟩) ?_; rotate_left; (· (intro wS hSw; (try dsimp only at hSw); go_simp; try with_reducible rfl)); try simp only [Act.put, List.setIfInBounds_toArray, List.set_cons_zero, List.set_cons_succ, List.getElem_toArray, List.getElem_cons_succ, List.getElem_cons_zero])
        (refine WalkT.quiet (i := 16) (v := ?_) rfl (by kernel_rfl) (by kernel_rfl) (by kernel_rfl) (fun _ _ _ h => h) (Or.inl ⟨by rfl, ?_⟩) ?_; rotate_left; (· (intro wS hSw; (try dsimp only at hSw); go_simp; try with_reducible rfl)); try simp only [Act.put, List.setIfInBounds_toArray, List.set_cons_zero, List.set_cons_succ, List.getElem_toArray, List.getElem_cons_succ, List.getElem_cons_zero])
        (refine WalkT.ready (rs := [17]) (by kernel_rfl) (by simp) (AllT.cons rfl (fun K hK => ?_) AllT.nil); go_simp)
        (refine hK.out _ _ (fun h => absurd h (by decide)) ?_; clear hK K; try simp only [Act.put, List.setIfInBounds_toArray, List.set_cons_zero, List.set_cons_succ, List.getElem_toArray, List.getElem_cons_succ, List.getElem_cons_zero])
        refine WalkT.done (by kernel_rfl) ?_
        go_wp2
        go_ret
        exact ⟨by rw [HDL.out.2.1, ← HN.out.2]; rfl, HPT.out.1, (KeepS.below H1.out.2.2.1).trans HPT.out.2⟩
      · have hl4 : ((L.length : Int) == 4) = false := by rw [beq_eq_false_iff_ne]; omega
        have H4 := Lib.hid h4
        clear h4
        (have HF := Lib.hid (no_line (l := x.data.toList) HT.out.2.2.2 (fun k n p o e hne => by rw [seg_map HL.out] at e hne; have hf := first_of hlp HQ.out e; (exact absurd hf.1 HS.out)) (fun c s o e hne => by rw [seg_map HL.out] at e hne; have hf := first_of hlp HQ.out e; (exact absurd hf.2 (by have := H4.out; simpa using this)))); go_wp2; go_ret; exact ⟨by rw [HF.out.2]; rfl, HI.out.same H1.out.2.2.1 HF.out.1 HF.out.2, KeepS.below H1.out.2.2.1⟩)
    · have hqd : (Q.toList == [100, 114, 111, 112]) = false := beq_eq_false_iff_ne.2 hd
      have HD := Lib.hid hd
      clear hd
      (have HF := Lib.hid (no_line (l := x.data.toList) HT.out.2.2.2 (fun k n p o e hne => by rw [seg_map HL.out] at e hne; have hf := first_of hlp HQ.out e; (exact absurd hf.1 HS.out)) (fun c s o e hne => by rw [seg_map HL.out] at e hne; have hf := first_of hlp HQ.out e; (exact absurd hf.1 HD.out))); go_wp2; go_ret; exact ⟨by rw [HF.out.2]; rfl, HI.out.same H1.out.2.2.1 HF.out.1 HF.out.2, KeepS.below H1.out.2.2.1⟩)
end Go.Proofs.YteliiknlpfjlkaaGreatDoor
