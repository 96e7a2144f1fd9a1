/- Texts of one subject in one: TyM, TyQ, TyU, Grown, LawTch; what each shows stands at its head. No condition. -/
import Derived.Test.YteliiknlpfjlkaaGreatDoorTxM
import Derived.Test.YteliiknlpfjlkaaGreatDoorTyR
import Derived.Test.YteliiknlpfjlkaaGreatDoorTyS
import Derived.Test.YteliiknlpfjlkaaGreatDoorTxAll
import Derived.Test.YteliiknlpfjlkaaGreatDoorTreeRef
import Derived.Test.YteliiknlpfjlkaaGreatDoorReady
import Derived.Test.YteliiknlpfjlkaaGreatDoorEqual
import Derived.Test.YteliiknlpfjlkaaGreatDoorTyG
import Derived.Test.YteliiknlpfjlkaaGreatDoorTreeGH
import Derived.Test.YteliiknlpfjlkaaGreatDoorLawHead
/- Walks of the reference: numbers and words of a line. -/
set_option linter.unusedVariables false
set_option linter.unusedSimpArgs false
namespace Go.Proofs.YteliiknlpfjlkaaGreatDoor
open Go Go.RowKit

set_option maxHeartbeats 2000000 in
set_option maxRecDepth 100000 in
theorem rnums_any (v : Value) (L : List ByteArray) (most : Nat) (hm : most ≤ 17) (w : World) (h : Arr strCells 1 w L v) (hs : ∀ x ∈ L, x.size ≤ 1000000) (hL : L.length ≤ 1000000) (ht : Tab10 w) : Calls Tryz.prog 89 #[v, .int .i64 most] w
    fun e w' => ∃ (v' : Value) (b : Bool) (ns : List Int), e = .returned (.tuple #[v', .bool b]) ∧ Below w.heap.size w w' ∧ w'.ownsRow w.heap.size 3 1 v' ns.length (ns.map (Value.int .i64)) ∧ (b = true → L.map (fun x => numL most x.data.toList) = ns.map some) ∧ (b = false → ∃ x ∈ L, numL most x.data.toList = none) := by
  obtain ⟨i0, hi, hz0, hz1, hz2⟩ := info_parts infoIntF
  obtain ⟨a, cap, rfl, hcap, hmax, hc⟩ := h
  have hlen : L.length ≤ maxLen := by omega
  unfold maxLen at hlen hmax
  have HS := Lib.hid hs
  have HC := Lib.hid hc
  have HT := Lib.hid ht
  clear hs hc ht
  go_enter Tryz.func89, Tryz.ntmps89
  go_wp2
  go_loopw [6, 7, 14] (fun v bb i wr => ∃ (k : Nat) (ns : List Int) (b : Bool), k ≤ L.length ∧ i = .int .i64 k ∧ bb = .bool b ∧ ns.length = k ∧ (b = true → (L.take k).map (fun x => numL most x.data.toList) = ns.map some) ∧ (b = false → ∃ x ∈ L, numL most x.data.toList = none) ∧ wr.ownsRow w.heap.size 3 1 v k (ns.map (Value.int .i64)) ∧ Below w.heap.size w wr) (fun _ _ i _ => L.length - (intOf i).toNat)
  case atStart => exact ⟨0, [], true, by omega, rfl, rfl, rfl, fun _ => rfl, (fun h => by cases h), World.ownsRow_nil _ _ _ _, Below.refl _ _⟩
  case round =>
    obtain ⟨k, ns, b, hk, rfl, rfl, hnl, hns, hnf, ho, hbe⟩ := hrel
    have HR := Lib.hid (And.intro hns (And.intro hnf (And.intro ho (And.intro hbe hnl))))
    have hz := hbe.size
    clear hns hnf ho hbe hnl
    by_cases hlt : k < L.length
    · obtain ⟨bk, off, rfl, hb, hcc⟩ := HC.out k hlt
      have c0 := hcc 0 _ rfl
      simp only [Nat.mul_one, Nat.add_zero] at c0
      replace c0 := (HR.out.2.2.2.1.cell (p := ⟨bk, _, none⟩) hb).trans c0
      have HX := Lib.hid (HS.out L[k] (List.getElem_mem hlt))
      clear hcc
      go_wp2_with fail
      refine (rnumber_any L[k] most hm _ HX.out (HT.out.below HR.out.2.2.2.1)).mono ?_
      rintro e w1 ⟨n, b1, rfl, hn, hb1⟩
      have hy1 := hb1.size
      have H1 := Lib.hid (And.intro (below_at HR.out.2.2.2.1 hb1 hz) (own_below HR.out.2.2.1 hb1))
      have HN := Lib.hid hn
      clear hb1 hn
      cases b
      · have HF := Lib.hid (show ∃ x ∈ L, numL most x.data.toList = none from HR.out.2.1 (by trivial))
        go_wp2_with ((at_builtin; go_must (refine wpList_append_own _ rfl _ _ 22 rfl _ 3 _ (.int .i64 0) 1 8 Tryz.underlying22 hi hz0 hz1 hz2 rfl (by decide) _ _ _ rfl (H1.out.2.alloc _) ⟨w1.heap.size, 0, none⟩ 1 1 [.int .i64 n] rfl rfl (by exact news_at (by first | rfl | simp) (by rfl)) (by simp [Value.oneCell']) (by unfold maxLen; omega) (by omega) (by first | omega | (simp; done) | (simp; omega)) ?_)); intro v' w3 hown1 hgrow _)
        refine ⟨⟨k + 1, ns ++ [n], false, by omega, by go_num, rfl, by simp [HR.out.2.2.2.2], (fun h => by cases h), fun _ => HF.out, ?_, ?_⟩, by simp [intOf]; omega⟩
        · rw [List.map_append]; exact hown1
        · exact below_grown (below_alloc H1.out.1 _ (by omega)) (H1.out.2.alloc _) hgrow (Nat.le_refl _) (by simp; omega)
      · have HG := Lib.hid (show (L.take k).map (fun x => numL most x.data.toList) = ns.map some from HR.out.1 (by trivial))
        go_wp2_with ((at_builtin; go_must (refine wpList_append_own _ rfl _ _ 22 rfl _ 3 _ (.int .i64 0) 1 8 Tryz.underlying22 hi hz0 hz1 hz2 rfl (by decide) _ _ _ rfl (H1.out.2.alloc _) ⟨w1.heap.size, 0, none⟩ 1 1 [.int .i64 n] rfl rfl (by exact news_at (by first | rfl | simp) (by rfl)) (by simp [Value.oneCell']) (by unfold maxLen; omega) (by omega) (by first | omega | (simp; done) | (simp; omega)) ?_)); intro v' w3 hown1 hgrow _)
        refine ⟨⟨k + 1, ns ++ [n], b1, by omega, by go_num, rfl, by simp [HR.out.2.2.2.2], fun h => ?_, fun h => ?_, ?_, ?_⟩, by simp [intOf]; omega⟩
        · subst h; exact map_take_num hlt HG.out (by have := HN.out; simpa using this)
        · subst h; exact ⟨L[k], List.getElem_mem hlt, by have := HN.out; simpa using this⟩
        · rw [List.map_append]; exact hown1
        · exact below_grown (below_alloc H1.out.1 _ (by omega)) (H1.out.2.alloc _) hgrow (Nat.le_refl _) (by simp; omega)
    · obtain rfl : k = L.length := by omega
      go_wp2
      go_ret2
      refine ⟨_, b, ns, rfl, HR.out.2.2.2.1, by rw [HR.out.2.2.2.2]; exact HR.out.2.2.1, fun h => ?_, HR.out.2.1⟩
      have h1 := HR.out.1 h
      rwa [List.take_length] at h1
set_option maxRecDepth 100000 in
theorem rwords_any (x : ByteArray) (W : World) (hx : x.size ≤ 1000000) (hM : MaxL W) : Calls Tryz.prog 88 #[.string x] W
    fun e w' => e = .returned (.tuple #[.slice (some ⟨W.heap.size, 0, none⟩) (segB 32 x).length (segB 32 x).length, .bool (!holeB (segB 32 x))]) ∧ w' = W.alloc (.cells ((segB 32 x).map Value.string).toArray 9) := by
  have hbk : Blk (W.alloc (.cells ((segB 32 x).map Value.string).toArray 9)) W.heap.size ((segB 32 x).map Value.string).toArray 9 := Blk.new _ _ _
  have HBK := Lib.hid hbk
  have hLl : (segB 32 x).length ≤ 1000001 := by
    unfold segB; rw [List.length_map]
    have h1 := segs_len 32 x.data.toList
    have h2 : x.data.toList.length = x.size := (Lib.size_eq x).symm
    omega
  clear hbk
  go_enter Tryz.func88, Tryz.ntmps88
  go_wp2_with fail
  refine (split_any x 32 W hx hM).mono ?_
  rintro e w1 ⟨rfl, hw⟩
  obtain ⟨L, hL⟩ : ∃ L, L = segB 32 x := ⟨_, rfl⟩
  rw [← hL] at HBK hLl hw ⊢
  rw [← hw] at HBK
  have HW := Lib.hid hw
  have HLL := Lib.hid hL
  clear hL hw
  go_wp2_with fail
  refine (Tryz.slices_Contains_string W.heap.size 0 L.length L.length L ⟨#[]⟩ _ (Nat.le_refl _) (by omega) (fun j hj => by
    have := strs_cell HBK.out j hj
    rw [Nat.zero_add, this, List.getD_eq_getElem?_getD, List.getElem?_eq_getElem hj]; rfl)).mono ?_
  rintro e w2 ⟨rfl, hw⟩
  rw [hw, show Lib.containsS (L.take L.length) ⟨#[]⟩ = holeB L from rfl]
  clear hw w2
  go_wp2
  go_ret2
  rw [← HLL.out]
  exact ⟨rfl, HW.out⟩
end Go.Proofs.YteliiknlpfjlkaaGreatDoor
/- Walk of the reference: a line is read into a tree. -/
set_option linter.unusedVariables false
set_option linter.unusedSimpArgs false
namespace Go.Proofs.YteliiknlpfjlkaaGreatDoor
open Go Go.RowKit

theorem drop_none {l : List UInt8} {done : List (List UInt8)} {q : Option Int} (h : treeOkP done l = q.isSome) (hq : q = none) : drpDec l = none := by
  rw [hq] at h
  unfold treeOkP at h
  cases hd : drpDec l with
  | none => rfl
  | some y => rw [hd] at h; simp at h
set_option maxHeartbeats 4000000 in
set_option maxRecDepth 100000 in
theorem rtreadLine_any (ob : Nat) (w0 : World) (done : List (List UInt8)) (x : ByteArray) (W : World) (h : TrInv ob w0 done W) (hdl : done.length ≤ 1000000) (hx : x.size ≤ 1000000) (ht : Tab10 w0) :
    Calls Tryz.prog 87 #[.string x, .pointer (some ⟨ob, 0, none⟩)] W fun e W' => e = .returned (.bool (treeOkP done x.data.toList)) ∧ TrInv ob w0 (done ++ [x.data.toList]) W' ∧ KeepS W W' := by
  have HI := Lib.hid (And.intro h (ht.below h.be))
  clear h ht
  go_enter Tryz.func87, Tryz.ntmps87
  go_wp2_with fail
  refine (rwords_any x W hx (HI.out.1.mx.below HI.out.1.be)).mono ?_
  rintro e w1 ⟨rfl, hw⟩
  have hb1 : Below W.heap.size W w1 := by rw [hw]; exact below_alloc (Below.refl _ _) _ (Nat.le_refl _)
  have hbk : Blk w1 W.heap.size ((segB 32 x).map Value.string).toArray 9 := by rw [hw]; exact Blk.new _ _ _
  obtain ⟨L, hL⟩ : ∃ L, L = segB 32 x := ⟨_, rfl⟩
  have HL := Lib.hid hL
  have hne := seg_ne x
  have hLs : ∀ y ∈ L, y.size ≤ 1000000 := fun y hy => by rw [hL] at hy; have := segB_size hy; omega
  have hLl : L.length ≤ 1000001 := by
    rw [hL]; unfold segB; rw [List.length_map]
    have h1 := segs_len 32 x.data.toList
    have h2 : x.data.toList.length = x.size := (Lib.size_eq x).symm
    omega
  rw [← hL] at hbk hne ⊢
  have H1 := Lib.hid (And.intro (HI.out.1.below hb1) (And.intro hbk (And.intro hb1 (And.intro hLs (HI.out.2.below hb1)))))
  clear hL hw hb1 hbk hLs
  obtain ⟨b, hb⟩ : ∃ b, b = holeB L := ⟨_, rfl⟩
  rw [← hb]
  have hlp : 0 < L.length := List.length_pos_iff.2 hne
  have HB := Lib.hid hb
  clear hb hne
  cases b
  rotate_left
  · have HE := Lib.hid (hole_iff.1 HB.out.symm)
    have HF : Hid (dropish x.data.toList = false ∧ treeOkP done x.data.toList = false) := by
      obtain ⟨_, _, xs, ys, _, _, _, htr⟩ := H1.out.1.row
      exact no_line htr (fun k n p o e hne => by rw [seg_map HL.out] at hne; exact (hole_no HE.out hne).elim) (fun c s o e hne => by rw [seg_map HL.out] at hne; exact hole_no HE.out hne)
    go_wp2
    go_ret
    exact ⟨by rw [HF.out.2]; rfl, HI.out.1.same H1.out.2.2.1 HF.out.1 HF.out.2, KeepS.below H1.out.2.2.1⟩
  have c0 := strs_cell H1.out.2.1 0 hlp
  obtain ⟨v1, v2, xs, ys, hbx, ho1, ho2, htr⟩ := H1.out.1.row
  obtain ⟨s1, k1, rfl⟩ := own_slice' ho1
  obtain ⟨s2, k2, rfl⟩ := own_slice' ho2
  have b0 := hbx.cell 0 _ rfl
  have b1 := hbx.cell 1 _ rfl
  have hob := hbx.lt
  have HT := Lib.hid (And.intro hbx (And.intro ho1 (And.intro ho2 htr)))
  clear hbx ho1 ho2 htr
  obtain ⟨Q, hQ⟩ : ∃ Q, Q = L[0] := ⟨_, rfl⟩
  rw [← hQ] at c0
  have HQ := Lib.hid hQ
  clear hQ
  by_cases h5 : L.length = 5
  · have hl5 : ((L.length : Int) == 5) = true := by rw [h5]; rfl
    have hl4 : ((L.length : Int) == 4) = false := by rw [h5]; rfl
    by_cases hs : Q.toList = [115, 112, 108, 105, 116, 116, 101, 114]
    · have hqs : (Q.toList == [115, 112, 108, 105, 116, 116, 101, 114]) = true := by rw [hs]; rfl
      have HS := Lib.hid hs
      clear hs
      by_cases hy : ys.length = 0
      · have hy0 : ((ys.length : Int) == 0) = true := by rw [hy]; rfl
        obtain ⟨qa, qb, qn, qp, qo, hLe⟩ := len_five h5
        obtain ⟨p0, p1, p2, p3, p4⟩ := cells5 H1.out.2.1 hLe
        have hqa : Q = qa := Value.string.inj (Option.some.inj (c0.symm.trans p0))
        have hszn : qn.size ≤ 1000000 := H1.out.2.2.2.1 qn (by rw [hLe]; simp)
        have hszo : qo.size ≤ 1000000 := H1.out.2.2.2.1 qo (by rw [hLe]; simp)
        have hnh := not_hole HB.out
        rw [hLe] at hnh
        have hsg := seg_map HL.out
        rw [hLe] at hsg
        have hqa2 : qa.data.toList = wSplit := by rw [← hqa, ← ByteArray.toList_eq]; exact HS.out
        have HSG := Lib.hid (And.intro hsg (And.intro hqa2 (And.intro (hnh qb (by simp)) (And.intro (hnh qp (by simp)) hy))))
        have hxs : xs.length ≤ 1000000 := Nat.le_trans HT.out.2.2.2.lx (by assumption)
        have htl := H1.out.2.1.lt
        obtain ⟨i0, hi, hz0, hz1, hz2⟩ := info_parts infoSplY
        clear hLe hqa p0 hnh hsg hqa2 hy
        go_wp2_with fail
        refine WalkT.start (fun w' => w'.cell? ⟨W.heap.size, 2, none⟩ = some (.string qn) ∧ w'.cell? ⟨W.heap.size, 4, none⟩ = some (.string qo)) [6, 7] (by kernel_rfl) ?_
        have hS : w1.drew.cell? ⟨W.heap.size, 2, none⟩ = some (.string qn) ∧ w1.drew.cell? ⟨W.heap.size, 4, none⟩ = some (.string qo) := ⟨p2, p4⟩
        have hbd0 : Below w1.heap.size w1 w1.drew := Below.drew (Below.refl _ _)
        generalize w1.drew = wd at *
        (refine WalkT.quiet (i := 0) (v := ?_) rfl (by kernel_rfl) (by kernel_rfl) (by kernel_rfl) (fun _ _ _ h => h) (Or.inl ⟨by rfl, ?_⟩) ?_; rotate_left; (· (intro wS hSw; (try dsimp only at hSw); go_simp; try with_reducible rfl)); try simp only [Act.put, List.setIfInBounds_toArray, List.set_cons_zero, List.set_cons_succ, List.getElem_toArray, List.getElem_cons_succ, List.getElem_cons_zero])
        (refine WalkT.quiet (i := 1) (v := ?_) rfl (by kernel_rfl) (by kernel_rfl) (by kernel_rfl) (fun _ _ _ h => h) (Or.inl ⟨by rfl, ?_⟩) ?_; rotate_left; (· (intro wS hSw; (try dsimp only at hSw); go_simp; try with_reducible rfl)); try simp only [Act.put, List.setIfInBounds_toArray, List.set_cons_zero, List.set_cons_succ, List.getElem_toArray, List.getElem_cons_succ, List.getElem_cons_zero])
        (refine WalkT.takeN (i := 2) (v := ?_) rfl (by kernel_rfl) (by kernel_rfl) (by kernel_rfl) (by kernel_rfl) (fun _ _ _ h => h) (hS) (Or.inl ⟨by rfl, ?_⟩) ?_; rotate_left; (· (intro wS hSw; (try dsimp only at hSw); obtain ⟨t0, t1⟩ := hSw; go_simp; try with_reducible rfl)); try simp only [Act.put, List.setIfInBounds_toArray, List.set_cons_zero, List.set_cons_succ, List.getElem_toArray, List.getElem_cons_succ, List.getElem_cons_zero])
        (refine WalkT.quiet (i := 3) (v := ?_) rfl (by kernel_rfl) (by kernel_rfl) (by kernel_rfl) (fun _ _ _ h => h) (Or.inl ⟨by rfl, ?_⟩) ?_; rotate_left; (· (intro wS hSw; (try dsimp only at hSw); go_simp; try with_reducible rfl)); try simp only [Act.put, List.setIfInBounds_toArray, List.set_cons_zero, List.set_cons_succ, List.getElem_toArray, List.getElem_cons_succ, List.getElem_cons_zero])
        (refine WalkT.quiet (i := 4) (v := ?_) rfl (by kernel_rfl) (by kernel_rfl) (by kernel_rfl) (fun _ _ _ h => h) (Or.inl ⟨by rfl, ?_⟩) ?_; rotate_left; (· (intro wS hSw; (try dsimp only at hSw); go_simp; try with_reducible rfl)); try simp only [Act.put, List.setIfInBounds_toArray, List.set_cons_zero, List.set_cons_succ, List.getElem_toArray, List.getElem_cons_succ, List.getElem_cons_zero])
        (refine WalkT.takeN (i := 5) (v := ?_) rfl (by kernel_rfl) (by kernel_rfl) (by kernel_rfl) (by kernel_rfl) (fun _ _ _ h => h) (hS) (Or.inl ⟨by rfl, ?_⟩) ?_; rotate_left; (· (intro wS hSw; (try dsimp only at hSw); obtain ⟨t0, t1⟩ := hSw; go_simp; try with_reducible rfl)); try simp only [Act.put, List.setIfInBounds_toArray, List.set_cons_zero, List.set_cons_succ, List.getElem_toArray, List.getElem_cons_succ, List.getElem_cons_zero])
        clear hS
        (refine WalkT.ready (rs := [6]) (by kernel_rfl) (by simp) (AllT.cons rfl (fun K hK => ?_) AllT.nil); go_simp)
        (refine hK.out _ _ (fun h => absurd h (by decide)) ?_; clear hK K; try simp only [Act.put, List.setIfInBounds_toArray, List.set_cons_zero, List.set_cons_succ, List.getElem_toArray, List.getElem_cons_succ, List.getElem_cons_zero])
        (refine WalkT.ready (rs := [7]) (by kernel_rfl) (by simp) (AllT.cons rfl (fun K hK => ?_) AllT.nil); go_simp)
        refine (rnums_any _ [qn, qo] 15 (by decide) _ (Arr.litAt (cells := strCells) (sz := 1) (fun _ => rfl) rfl (by rfl) (by rfl) (by simp [maxLen])) (fun y hy => by simp only [List.mem_cons, List.not_mem_nil, or_false] at hy; rcases hy with rfl | rfl <;> assumption) (by simp) (H1.out.2.2.2.2.below (below_alloc hbd0 _ hbd0.size))).mono ?_
        rintro e w3 ⟨v6, b6, ns, rfl, hb3, hno, ht6, hf6⟩
        have hbd : Below w1.heap.size w1 w3 := below_at (below_alloc hbd0 _ hbd0.size) hb3 (by have := hbd0.size; simp; omega)
        have H6 := Lib.hid (And.intro ht6 (And.intro hf6 (And.intro hbd hno)))
        clear hb3 ht6 hf6 hbd hbd0 p2 p4 b0 b1 c0 hno
        (refine hK.out _ _ (fun h => absurd h (by decide)) ?_; clear hK K; try simp only [Act.put, List.setIfInBounds_toArray, List.set_cons_zero, List.set_cons_succ, List.getElem_toArray, List.getElem_cons_succ, List.getElem_cons_zero])
        (refine WalkT.quiet (i := 8) (v := ?_) rfl (by kernel_rfl) (by kernel_rfl) (by kernel_rfl) (fun _ _ _ h => h) (Or.inl ⟨by rfl, ?_⟩) ?_; rotate_left; (· (intro wS hSw; (try dsimp only at hSw); go_simp; try with_reducible rfl)); try simp only [Act.put, List.setIfInBounds_toArray, List.set_cons_zero, List.set_cons_succ, List.getElem_toArray, List.getElem_cons_succ, List.getElem_cons_zero])
        (refine WalkT.quiet (i := 9) (v := ?_) rfl (by kernel_rfl) (by kernel_rfl) (by kernel_rfl) (fun _ _ _ h => h) (Or.inl ⟨by rfl, ?_⟩) ?_; rotate_left; (· (intro wS hSw; (try dsimp only at hSw); go_simp; try with_reducible rfl)); try simp only [Act.put, List.setIfInBounds_toArray, List.set_cons_zero, List.set_cons_succ, List.getElem_toArray, List.getElem_cons_succ, List.getElem_cons_zero])
        (refine WalkT.quiet (i := 10) (v := ?_) rfl (by kernel_rfl) (by kernel_rfl) (by kernel_rfl) (fun _ _ _ h => h) (Or.inl ⟨by rfl, ?_⟩) ?_; rotate_left; (· (intro wS hSw; (try dsimp only at hSw); go_simp; try with_reducible rfl)); try simp only [Act.put, List.setIfInBounds_toArray, List.set_cons_zero, List.set_cons_succ, List.getElem_toArray, List.getElem_cons_succ, List.getElem_cons_zero])
        (refine WalkT.quiet (i := 11) (v := ?_) rfl (by kernel_rfl) (by kernel_rfl) (by kernel_rfl) (fun _ _ _ h => h) (Or.inl ⟨by rfl, ?_⟩) ?_; rotate_left; (· (intro wS hSw; (try dsimp only at hSw); go_simp; try with_reducible rfl)); try simp only [Act.put, List.setIfInBounds_toArray, List.set_cons_zero, List.set_cons_succ, List.getElem_toArray, List.getElem_cons_succ, List.getElem_cons_zero])
        (refine WalkT.quiet (i := 12) (v := ?_) rfl (by kernel_rfl) (by kernel_rfl) (by kernel_rfl) (fun _ _ _ h => h) (Or.inl ⟨by rfl, ?_⟩) ?_; rotate_left; (· (intro wS hSw; (try dsimp only at hSw); go_simp; try with_reducible rfl)); try simp only [Act.put, List.setIfInBounds_toArray, List.set_cons_zero, List.set_cons_succ, List.getElem_toArray, List.getElem_cons_succ, List.getElem_cons_zero])
        refine WalkT.done (by kernel_rfl) ?_
        cases b6
        · have HF : Hid (dropish x.data.toList = false ∧ treeOkP done x.data.toList = false) := by
            obtain ⟨z, hz, hzn⟩ := H6.out.2.1 rfl
            refine splt_bad HSG.out.1 ?_
            simp only [List.mem_cons, List.not_mem_nil, or_false] at hz
            rcases hz with rfl | rfl
            · exact .inl hzn
            · exact .inr hzn
          have hbe := below_at H1.out.2.2.1 H6.out.2.2.1 H1.out.2.2.1.size
          clear p1 p3
          go_wp2
          go_ret
          exact ⟨by rw [HF.out.2]; rfl, HI.out.1.same hbe HF.out.1 HF.out.2, KeepS.below hbe⟩
        · obtain ⟨ni, nj, g, cap6, cur6, hni, hnj, rfl, hgb, g0, g1⟩ := nums_two (H6.out.1 rfl) H6.out.2.2.2
          have hsl := splt_line HT.out.2.2.2 HSG.out.2.2.2.2 HSG.out.1 HSG.out.2.1 HSG.out.2.2.1 HSG.out.2.2.2.1 hni hnj
          rw [bA_data] at hsl
          have hb3 := H6.out.2.2.1
          have hbx3 := HT.out.1.below hb3 HT.out.1.lt
          have ho13 := own_below HT.out.2.1 hb3
          have ho23 := own_below HT.out.2.2.1 hb3
          have hbe := below_at H1.out.2.2.1 hb3 H1.out.2.2.1.size
          have hS : w3.drew.cell? ⟨W.heap.size, 1, none⟩ = some (.string qb) ∧ w3.drew.cell? ⟨g, 0, none⟩ = some (.int .i64 ni) ∧ w3.drew.cell? ⟨W.heap.size, 3, none⟩ = some (.string qp) ∧ w3.drew.cell? ⟨g, 1, none⟩ = some (.int .i64 nj) :=
            ⟨(hb3.cell (World.block_lt_of_cell? _ _ p1)).trans p1, g0, (hb3.cell (World.block_lt_of_cell? _ _ p3)).trans p3, g1⟩
          have HK := Lib.hid (And.intro hbx3 (And.intro ho13 (And.intro ho23 hbe)))
          have HSL0 := Lib.hid hsl
          clear hni hnj hgb g0 g1 hsl hb3 hbx3 ho13 ho23 hbe p1 p3
          go_wp2_with fail
          refine WalkT.start (fun w' => w'.cell? ⟨W.heap.size, 1, none⟩ = some (.string qb) ∧ w'.cell? ⟨g, 0, none⟩ = some (.int .i64 ni) ∧ w'.cell? ⟨W.heap.size, 3, none⟩ = some (.string qp) ∧ w'.cell? ⟨g, 1, none⟩ = some (.int .i64 nj)) [14] (by kernel_rfl) ?_
          (refine WalkT.quiet (i := 0) (v := ?_) rfl (by kernel_rfl) (by kernel_rfl) (by kernel_rfl) (fun _ _ _ h => h) (Or.inl ⟨by rfl, ?_⟩) ?_; rotate_left; (· (intro wS hSw; (try dsimp only at hSw); go_simp; try with_reducible rfl)); try simp only [Act.put, List.setIfInBounds_toArray, List.set_cons_zero, List.set_cons_succ, List.getElem_toArray, List.getElem_cons_succ, List.getElem_cons_zero])
          (refine WalkT.quiet (i := 1) (v := ?_) rfl (by kernel_rfl) (by kernel_rfl) (by kernel_rfl) (fun _ _ _ h => h) (Or.inl ⟨by rfl, ?_⟩) ?_; rotate_left; (· (intro wS hSw; (try dsimp only at hSw); go_simp; try with_reducible rfl)); try simp only [Act.put, List.setIfInBounds_toArray, List.set_cons_zero, List.set_cons_succ, List.getElem_toArray, List.getElem_cons_succ, List.getElem_cons_zero])
          (refine WalkT.takeN (i := 2) (v := ?_) rfl (by kernel_rfl) (by kernel_rfl) (by kernel_rfl) (by kernel_rfl) (fun _ _ _ h => h) (hS) (Or.inl ⟨by rfl, ?_⟩) ?_; rotate_left; (· (intro wS hSw; (try dsimp only at hSw); obtain ⟨t0, t1, t2, t3⟩ := hSw; go_simp; try with_reducible rfl)); try simp only [Act.put, List.setIfInBounds_toArray, List.set_cons_zero, List.set_cons_succ, List.getElem_toArray, List.getElem_cons_succ, List.getElem_cons_zero])
          (refine WalkT.quiet (i := 3) (v := ?_) rfl (by kernel_rfl) (by kernel_rfl) (by kernel_rfl) (fun _ _ _ h => h) (Or.inl ⟨by rfl, ?_⟩) ?_; rotate_left; (· (intro wS hSw; (try dsimp only at hSw); go_simp; try with_reducible rfl)); try simp only [Act.put, List.setIfInBounds_toArray, List.set_cons_zero, List.set_cons_succ, List.getElem_toArray, List.getElem_cons_succ, List.getElem_cons_zero])
          (refine WalkT.quiet (i := 4) (v := ?_) rfl (by kernel_rfl) (by kernel_rfl) (by kernel_rfl) (fun _ _ _ h => h) (Or.inl ⟨by rfl, ?_⟩) ?_; rotate_left; (· (intro wS hSw; (try dsimp only at hSw); go_simp; try with_reducible rfl)); try simp only [Act.put, List.setIfInBounds_toArray, List.set_cons_zero, List.set_cons_succ, List.getElem_toArray, List.getElem_cons_succ, List.getElem_cons_zero])
          (refine WalkT.takeN (i := 5) (v := ?_) rfl (by kernel_rfl) (by kernel_rfl) (by kernel_rfl) (by kernel_rfl) (fun _ _ _ h => h) (hS) (Or.inl ⟨by rfl, ?_⟩) ?_; rotate_left; (· (intro wS hSw; (try dsimp only at hSw); obtain ⟨t0, t1, t2, t3⟩ := hSw; go_simp; try with_reducible rfl)); try simp only [Act.put, List.setIfInBounds_toArray, List.set_cons_zero, List.set_cons_succ, List.getElem_toArray, List.getElem_cons_succ, List.getElem_cons_zero])
          (refine WalkT.quiet (i := 6) (v := ?_) rfl (by kernel_rfl) (by kernel_rfl) (by kernel_rfl) (fun _ _ _ h => h) (Or.inl ⟨by rfl, ?_⟩) ?_; rotate_left; (· (intro wS hSw; (try dsimp only at hSw); go_simp; try with_reducible rfl)); try simp only [Act.put, List.setIfInBounds_toArray, List.set_cons_zero, List.set_cons_succ, List.getElem_toArray, List.getElem_cons_succ, List.getElem_cons_zero])
          (refine WalkT.quiet (i := 7) (v := ?_) rfl (by kernel_rfl) (by kernel_rfl) (by kernel_rfl) (fun _ _ _ h => h) (Or.inl ⟨by rfl, ?_⟩) ?_; rotate_left; (· (intro wS hSw; (try dsimp only at hSw); go_simp; try with_reducible rfl)); try simp only [Act.put, List.setIfInBounds_toArray, List.set_cons_zero, List.set_cons_succ, List.getElem_toArray, List.getElem_cons_succ, List.getElem_cons_zero])
          (refine WalkT.takeN (i := 8) (v := ?_) rfl (by kernel_rfl) (by kernel_rfl) (by kernel_rfl) (by kernel_rfl) (fun _ _ _ h => h) (hS) (Or.inl ⟨by rfl, ?_⟩) ?_; rotate_left; (· (intro wS hSw; (try dsimp only at hSw); obtain ⟨t0, t1, t2, t3⟩ := hSw; go_simp; try with_reducible rfl)); try simp only [Act.put, List.setIfInBounds_toArray, List.set_cons_zero, List.set_cons_succ, List.getElem_toArray, List.getElem_cons_succ, List.getElem_cons_zero])
          (refine WalkT.quiet (i := 9) (v := ?_) rfl (by kernel_rfl) (by kernel_rfl) (by kernel_rfl) (fun _ _ _ h => h) (Or.inl ⟨by rfl, ?_⟩) ?_; rotate_left; (· (intro wS hSw; (try dsimp only at hSw); go_simp; try with_reducible rfl)); try simp only [Act.put, List.setIfInBounds_toArray, List.set_cons_zero, List.set_cons_succ, List.getElem_toArray, List.getElem_cons_succ, List.getElem_cons_zero])
          (refine WalkT.quiet (i := 10) (v := ?_) rfl (by kernel_rfl) (by kernel_rfl) (by kernel_rfl) (fun _ _ _ h => h) (Or.inl ⟨by rfl, ?_⟩) ?_; rotate_left; (· (intro wS hSw; (try dsimp only at hSw); go_simp; try with_reducible rfl)); try simp only [Act.put, List.setIfInBounds_toArray, List.set_cons_zero, List.set_cons_succ, List.getElem_toArray, List.getElem_cons_succ, List.getElem_cons_zero])
          (refine WalkT.takeN (i := 11) (v := ?_) rfl (by kernel_rfl) (by kernel_rfl) (by kernel_rfl) (by kernel_rfl) (fun _ _ _ h => h) (hS) (Or.inl ⟨by rfl, ?_⟩) ?_; rotate_left; (· (intro wS hSw; (try dsimp only at hSw); obtain ⟨t0, t1, t2, t3⟩ := hSw; go_simp; try with_reducible rfl)); try simp only [Act.put, List.setIfInBounds_toArray, List.set_cons_zero, List.set_cons_succ, List.getElem_toArray, List.getElem_cons_succ, List.getElem_cons_zero])
          (refine WalkT.quiet (i := 12) (v := ?_) rfl (by kernel_rfl) (by kernel_rfl) (by kernel_rfl) (fun _ _ _ h => h) (Or.inl ⟨by rfl, ?_⟩) ?_; rotate_left; (· (intro wS hSw; (try dsimp only at hSw); go_simp; try with_reducible rfl)); try simp only [Act.put, List.setIfInBounds_toArray, List.set_cons_zero, List.set_cons_succ, List.getElem_toArray, List.getElem_cons_succ, List.getElem_cons_zero])
          (refine WalkT.ready (rs := [13]) (by kernel_rfl) (by simp) (AllT.cons rfl (fun K hK => ?_) AllT.nil); go_simp)
          (refine hK.out _ _ (fun _ _ => ⟨Lib.cell?_alloc_some _ hS.1, Lib.cell?_alloc_some _ hS.2.1, Lib.cell?_alloc_some _ hS.2.2.1, Lib.cell?_alloc_some _ hS.2.2.2⟩) ?_; clear hK K; try simp only [Act.put, List.setIfInBounds_toArray, List.set_cons_zero, List.set_cons_succ, List.getElem_toArray, List.getElem_cons_succ, List.getElem_cons_zero])
          clear hS
          (refine WalkT.ready (rs := [14]) (by kernel_rfl) (by simp) (AllT.cons rfl (fun K hK => ?_) AllT.nil); go_simp)
          (refine hK.out _ _ (fun h => absurd h (by decide)) ?_; clear hK K; try simp only [Act.put, List.setIfInBounds_toArray, List.set_cons_zero, List.set_cons_succ, List.getElem_toArray, List.getElem_cons_succ, List.getElem_cons_zero])
          refine WalkT.done (by kernel_rfl) ?_
          have hbw : Below w3.heap.size w3 ((w3.alloc (.cells #[.string qb, .int .i64 ni, .string qp, .int .i64 nj] 100)).drew) := Below.drew (below_alloc (Below.refl _ _) _ (Nat.le_refl _))
          have hnb : Blk ((w3.alloc (.cells #[.string qb, .int .i64 ni, .string qp, .int .i64 nj] 100)).drew) w3.heap.size #[.string qb, .int .i64 ni, .string qp, .int .i64 nj] 100 := (Blk.new w3 _ _).drew
          have HB1 := Lib.hid (And.intro (HK.out.1.below hbw HK.out.1.lt) (And.intro (own_below HK.out.2.1 hbw) (And.intro (own_below HK.out.2.2.1 hbw) (And.intro (below_at HK.out.2.2.2 hbw HK.out.2.2.2.size) hnb))))
          have hzz := HK.out.2.2.2.size
          have hol : w1.heap.size ≤ w3.heap.size := H6.out.2.2.1.size
          clear hbw
          generalize (w3.alloc (.cells #[.string qb, .int .i64 ni, .string qp, .int .i64 nj] 100)).drew = wb at *
          have n2 := hnb.cell 2 _ rfl
          have nf := hnb.free 2
          clear hnb
          by_cases hp : qp.toList = [45]
          · have hp1 : (qp.toList == [45]) = true := by rw [hp]; rfl
            have HSL : Hid (treeOkP done x.data.toList = true ∧ spltDec x.data.toList = some ⟨qb, ni, ⟨#[]⟩, nj⟩) := by
              have := HSL0.out
              rw [if_pos (by show qp.data.toList = [45]; rw [← ByteArray.toList_eq]; exact hp)] at this
              exact this
            clear hp
            obtain ⟨wx, hwx⟩ : ∃ wx, wx = wb.setCell ⟨w3.heap.size, 2, none⟩ (.string ⟨#[]⟩) := ⟨_, rfl⟩
            have hne : w3.heap.size ≠ ob := by omega
            have q1 : Blk wx ob #[.slice s1 xs.length k1, .slice s2 ys.length k2] 60 := by rw [hwx]; exact HB1.out.1.setOther (fun e => hne e.symm) _ _
            have q2 : wx.ownsRow w0.heap.size 100 4 (.slice s1 xs.length k1) xs.length (xs.flatMap Splt.cells) := by
              rw [hwx]
              exact World.ownsRow.kept (row := some w3.heap.size) HB1.out.2.1 (grown_setCells w3.heap.size [.string ⟨#[]⟩] 2 wb) (.inr (fun e => by have := (HK.out.2.1.lt _ e).2; omega))
            have q3 : wx.ownsRow w0.heap.size 102 3 (.slice s2 ys.length k2) ys.length (ys.flatMap Drp.cells) := by
              rw [hwx]
              exact World.ownsRow.kept (row := some w3.heap.size) HB1.out.2.2.1 (grown_setCells w3.heap.size [.string ⟨#[]⟩] 2 wb) (.inr (fun e => by have := (HK.out.2.2.1.lt _ e).2; omega))
            have q4 : Below W.heap.size W wx := by rw [hwx]; exact Below.setCell HB1.out.2.2.2.1 hzz _
            have q5 : Blk wx w3.heap.size #[.string qb, .int .i64 ni, .string ⟨#[]⟩, .int .i64 nj] 100 := by rw [hwx]; exact HB1.out.2.2.2.2.set 2 _
            have HX := Lib.hid (And.intro q1 (And.intro q2 (And.intro q3 (And.intro q4 q5))))
            have HWX := Lib.hid hwx
            clear q1 q2 q3 q4 q5 hwx hne
            go_upto_region 9 with fail
            rw [← HWX.out]
            clear n2 nf
            (have hwz : w0.heap.size ≤ wx.heap.size := Nat.le_trans HI.out.1.be.size HX.out.2.2.2.1.size; have x0 := HX.out.1.cell 0 _ rfl; have y0 := HX.out.2.2.2.2.cell 0 _ rfl; have y1 := HX.out.2.2.2.2.cell 1 _ rfl; have y2 := HX.out.2.2.2.2.cell 2 _ rfl; have y3 := HX.out.2.2.2.2.cell 3 _ rfl; go_wp2_with ((at_builtin; go_must (refine wpList_append_own _ rfl _ _ 57 rfl _ 100 _ (.agg #[.string ⟨#[]⟩, .int .i64 0, .string ⟨#[]⟩, .int .i64 0]) 4 48 Tryz.underlying57 hi hz0 hz1 hz2 rfl (by decide) _ _ _ rfl (HX.out.2.1.alloc _) ⟨wx.heap.size, 0, none⟩ 1 1 [.string qb, .int .i64 ni, .string ⟨#[]⟩, .int .i64 nj] rfl rfl (by exact news_at (by first | rfl | simp) (by rfl)) (by simp [Value.oneCell']) (by unfold maxLen; omega) (by omega) (by first | omega | (simp; done) | (simp; omega)) ?_)); intro v' w9 hown9 hgrow _; obtain ⟨g9, cap9, rfl⟩ := own_slice' hown9; have bb := (HX.out.1.alloc (.cells #[.string qb, .int .i64 ni, .string ⟨#[]⟩, .int .i64 nj] 100)).grown hgrow (fun e => own_neM HX.out.2.1 HX.out.1 (by decide) e.symm); have bb0 := bb.cell 0 _ rfl; have bbf := bb.free 0); go_ret; have hput := HI.out.1.putS (l := x.data.toList) (s := ⟨qb, ni, ⟨#[]⟩, nj⟩) (HX.out.1.alloc _) (World.ownsRow.alloc HX.out.2.1 _) (World.ownsRow.alloc HX.out.2.2.1 _) (HT.out.2.2.2.splt HSL.out.2) (below_alloc HX.out.2.2.2.1 _ HX.out.2.2.2.1.size) hgrow hown9; exact ⟨by rw [HSL.out.1]; rfl, hput.1, hput.2⟩)
          · have hp1 : (qp.toList == [45]) = false := beq_eq_false_iff_ne.2 hp
            have HSL : Hid (treeOkP done x.data.toList = true ∧ spltDec x.data.toList = some ⟨qb, ni, qp, nj⟩) := by
              have := HSL0.out
              rw [if_neg (by show ¬ qp.data.toList = [45]; rw [← ByteArray.toList_eq]; exact hp), bA_data] at this
              exact this
            clear hp
            obtain ⟨wx, hwx⟩ : ∃ wx, wx = wb := ⟨_, rfl⟩
            subst hwx
            have HX := Lib.hid HB1.out
            (have hwz : w0.heap.size ≤ wx.heap.size := Nat.le_trans HI.out.1.be.size HX.out.2.2.2.1.size; have x0 := HX.out.1.cell 0 _ rfl; have y0 := HX.out.2.2.2.2.cell 0 _ rfl; have y1 := HX.out.2.2.2.2.cell 1 _ rfl; have y2 := HX.out.2.2.2.2.cell 2 _ rfl; have y3 := HX.out.2.2.2.2.cell 3 _ rfl; go_wp2_with ((at_builtin; go_must (refine wpList_append_own _ rfl _ _ 57 rfl _ 100 _ (.agg #[.string ⟨#[]⟩, .int .i64 0, .string ⟨#[]⟩, .int .i64 0]) 4 48 Tryz.underlying57 hi hz0 hz1 hz2 rfl (by decide) _ _ _ rfl (HX.out.2.1.alloc _) ⟨wx.heap.size, 0, none⟩ 1 1 [.string qb, .int .i64 ni, .string qp, .int .i64 nj] rfl rfl (by exact news_at (by first | rfl | simp) (by rfl)) (by simp [Value.oneCell']) (by unfold maxLen; omega) (by omega) (by first | omega | (simp; done) | (simp; omega)) ?_)); intro v' w9 hown9 hgrow _; obtain ⟨g9, cap9, rfl⟩ := own_slice' hown9; have bb := (HX.out.1.alloc (.cells #[.string qb, .int .i64 ni, .string qp, .int .i64 nj] 100)).grown hgrow (fun e => own_neM HX.out.2.1 HX.out.1 (by decide) e.symm); have bb0 := bb.cell 0 _ rfl; have bbf := bb.free 0); go_ret; have hput := HI.out.1.putS (l := x.data.toList) (s := ⟨qb, ni, qp, nj⟩) (HX.out.1.alloc _) (World.ownsRow.alloc HX.out.2.1 _) (World.ownsRow.alloc HX.out.2.2.1 _) (HT.out.2.2.2.splt HSL.out.2) (below_alloc HX.out.2.2.2.1 _ HX.out.2.2.2.1.size) hgrow hown9; exact ⟨by rw [HSL.out.1]; rfl, hput.1, hput.2⟩)
      · have hy0 : ((ys.length : Int) == 0) = false := by rw [beq_eq_false_iff_ne]; omega
        have HY := Lib.hid hy
        clear hy
        (have HF := Lib.hid (no_line (l := x.data.toList) HT.out.2.2.2 (fun k n p o e hne => by rw [seg_map HL.out] at e hne; have hf := first_of hlp HQ.out e; (exact HY.out)) (fun c s o e hne => by rw [seg_map HL.out] at e hne; have hf := first_of hlp HQ.out e; (have h1 := hf.2; simp at h1; omega))); go_wp2; go_ret; exact ⟨by rw [HF.out.2]; rfl, HI.out.1.same H1.out.2.2.1 HF.out.1 HF.out.2, KeepS.below H1.out.2.2.1⟩)
    · have hqs : (Q.toList == [115, 112, 108, 105, 116, 116, 101, 114]) = false := beq_eq_false_iff_ne.2 hs
      have HS := Lib.hid hs
      clear hs
      (have HF := Lib.hid (no_line (l := x.data.toList) HT.out.2.2.2 (fun k n p o e hne => by rw [seg_map HL.out] at e hne; have hf := first_of hlp HQ.out e; (exact absurd hf.1 HS.out)) (fun c s o e hne => by rw [seg_map HL.out] at e hne; have hf := first_of hlp HQ.out e; (have h1 := hf.2; simp at h1; omega))); go_wp2; go_ret; exact ⟨by rw [HF.out.2]; rfl, HI.out.1.same H1.out.2.2.1 HF.out.1 HF.out.2, KeepS.below H1.out.2.2.1⟩)
  have hl5 : ((L.length : Int) == 5) = false := by rw [beq_eq_false_iff_ne]; omega
  have H5 := Lib.hid h5
  clear h5
  by_cases h4 : L.length = 4
  · have hl4 : ((L.length : Int) == 4) = true := by rw [h4]; rfl
    by_cases hd : Q.toList = [100, 114, 111, 112]
    · have hqd : (Q.toList == [100, 114, 111, 112]) = true := by rw [hd]; rfl
      have HD := Lib.hid hd
      clear hd
      obtain ⟨qa, qb, qc, qd, hLe⟩ := len_four h4
      obtain ⟨p0, p1, p2, p3⟩ := cells4 H1.out.2.1 hLe
      have hqa : Q = qa := Value.string.inj (Option.some.inj (c0.symm.trans p0))
      have hsz : qd.size ≤ 1000000 := H1.out.2.2.2.1 qd (by rw [hLe]; simp)
      have hnh := not_hole HB.out
      rw [hLe] at hnh
      have hsg := seg_map HL.out
      rw [hLe] at hsg
      have hdl := drop_line (done := done) hsg (by rw [← hqa]; show Q.data.toList = wDrop; rw [← ByteArray.toList_eq]; exact HD.out) (hnh qb (by simp)) (hnh qc (by simp)) (hnh qd (by simp))
      rw [bA_data, bA_data] at hdl
      have HDL := Lib.hid hdl
      have hys : ys.length ≤ 1000000 := Nat.le_trans HT.out.2.2.2.ly (by assumption)
      obtain ⟨i0, hi, hz0, hz1, hz2⟩ := info_parts infoDrpY
      clear hLe hqa p0 hnh hsg hdl
      go_wp2_with fail
      refine (rnumber_any qd 15 (by decide) _ hsz H1.out.2.2.2.2).mono ?_
      rintro e w3 ⟨n, ok, rfl, hn, hb3⟩
      have hbd : Below w1.heap.size w1 w3.drew := Below.drew hb3
      have H3 := Lib.hid (And.intro (HT.out.1.below hbd HT.out.1.lt) (And.intro (own_below HT.out.2.2.1 hbd) (And.intro (H1.out.2.1.below hbd H1.out.2.1.lt) hbd)))
      have hS : w3.drew.cell? ⟨ob, 1, none⟩ = some (.slice s2 ys.length k2) ∧ w3.drew.cell? ⟨W.heap.size, 1, none⟩ = some (.string qb) ∧ w3.drew.cell? ⟨W.heap.size, 2, none⟩ = some (.string qc) :=
        ⟨H3.out.1.cell 1 _ rfl, (hbd.cell (World.block_lt_of_cell? _ _ p1)).trans p1, (hbd.cell (World.block_lt_of_cell? _ _ p2)).trans p2⟩
      have HN : Hid (treeOkP done x.data.toList = ok ∧ ∀ y, drpDec x.data.toList = some y → (⟨qb, qc, n⟩ : Drp) = y) := by
        obtain ⟨_, h2, h3⟩ := HDL.out
        cases ok
        · have hq : numL 15 qd.data.toList = none := by simpa using hn
          refine ⟨by rw [h2]; show (numL 15 qd.data.toList).isSome = false; rw [hq]; rfl, fun y hy => ?_⟩
          rw [drop_none h2 hq] at hy; cases hy
        · have hq : numL 15 qd.data.toList = some n := by simpa using hn
          refine ⟨by rw [h2]; show (numL 15 qd.data.toList).isSome = true; rw [hq]; rfl, fun y hy => ?_⟩
          have h4 := h3 y hy
          rw [← h4]
          show (⟨qb, qc, n⟩ : Drp) = ⟨qb, qc, (numL 15 qd.data.toList).getD 0⟩
          rw [hq]; rfl
      clear hn hb3 hbd p1 p2 p3 b0 b1 c0
      go_wp2_with fail
      refine WalkT.start (fun w' => w'.cell? ⟨ob, 1, none⟩ = some (.slice s2 ys.length k2) ∧ w'.cell? ⟨W.heap.size, 1, none⟩ = some (.string qb) ∧ w'.cell? ⟨W.heap.size, 2, none⟩ = some (.string qc)) [11, 13] (by kernel_rfl) ?_
      generalize w3.drew = W0 at *
      (refine WalkT.quiet (i := 0) (v := ?_) rfl (by kernel_rfl) (by kernel_rfl) (by kernel_rfl) (fun _ _ _ h => h) (Or.inl ⟨by rfl, ?_⟩) ?_; rotate_left; (· (intro wS hSw; (try dsimp only at hSw); go_simp; try with_reducible rfl)); try simp only [Act.put, List.setIfInBounds_toArray, List.set_cons_zero, List.set_cons_succ, List.getElem_toArray, List.getElem_cons_succ, List.getElem_cons_zero])
      (refine WalkT.takeN (i := 1) (v := ?_) rfl (by kernel_rfl) (by kernel_rfl) (by kernel_rfl) (by kernel_rfl) (fun _ _ _ h => h) (hS) (Or.inl ⟨by rfl, ?_⟩) ?_; rotate_left; (· (intro wS hSw; (try dsimp only at hSw); obtain ⟨t0, t1, t2⟩ := hSw; go_simp; try with_reducible rfl)); try simp only [Act.put, List.setIfInBounds_toArray, List.set_cons_zero, List.set_cons_succ, List.getElem_toArray, List.getElem_cons_succ, List.getElem_cons_zero])
      (refine WalkT.quiet (i := 2) (v := ?_) rfl (by kernel_rfl) (by kernel_rfl) (by kernel_rfl) (fun _ _ _ h => h) (Or.inl ⟨by rfl, ?_⟩) ?_; rotate_left; (· (intro wS hSw; (try dsimp only at hSw); go_simp; try with_reducible rfl)); try simp only [Act.put, List.setIfInBounds_toArray, List.set_cons_zero, List.set_cons_succ, List.getElem_toArray, List.getElem_cons_succ, List.getElem_cons_zero])
      (refine WalkT.quiet (i := 3) (v := ?_) rfl (by kernel_rfl) (by kernel_rfl) (by kernel_rfl) (fun _ _ _ h => h) (Or.inl ⟨by rfl, ?_⟩) ?_; rotate_left; (· (intro wS hSw; (try dsimp only at hSw); go_simp; try with_reducible rfl)); try simp only [Act.put, List.setIfInBounds_toArray, List.set_cons_zero, List.set_cons_succ, List.getElem_toArray, List.getElem_cons_succ, List.getElem_cons_zero])
      (refine WalkT.takeN (i := 4) (v := ?_) rfl (by kernel_rfl) (by kernel_rfl) (by kernel_rfl) (by kernel_rfl) (fun _ _ _ h => h) (hS) (Or.inl ⟨by rfl, ?_⟩) ?_; rotate_left; (· (intro wS hSw; (try dsimp only at hSw); obtain ⟨t0, t1, t2⟩ := hSw; go_simp; try with_reducible rfl)); try simp only [Act.put, List.setIfInBounds_toArray, List.set_cons_zero, List.set_cons_succ, List.getElem_toArray, List.getElem_cons_succ, List.getElem_cons_zero])
      (refine WalkT.quiet (i := 5) (v := ?_) rfl (by kernel_rfl) (by kernel_rfl) (by kernel_rfl) (fun _ _ _ h => h) (Or.inl ⟨by rfl, ?_⟩) ?_; rotate_left; (· (intro wS hSw; (try dsimp only at hSw); go_simp; try with_reducible rfl)); try simp only [Act.put, List.setIfInBounds_toArray, List.set_cons_zero, List.set_cons_succ, List.getElem_toArray, List.getElem_cons_succ, List.getElem_cons_zero])
      (refine WalkT.quiet (i := 6) (v := ?_) rfl (by kernel_rfl) (by kernel_rfl) (by kernel_rfl) (fun _ _ _ h => h) (Or.inl ⟨by rfl, ?_⟩) ?_; rotate_left; (· (intro wS hSw; (try dsimp only at hSw); go_simp; try with_reducible rfl)); try simp only [Act.put, List.setIfInBounds_toArray, List.set_cons_zero, List.set_cons_succ, List.getElem_toArray, List.getElem_cons_succ, List.getElem_cons_zero])
      (refine WalkT.takeN (i := 7) (v := ?_) rfl (by kernel_rfl) (by kernel_rfl) (by kernel_rfl) (by kernel_rfl) (fun _ _ _ h => h) (hS) (Or.inl ⟨by rfl, ?_⟩) ?_; rotate_left; (· (intro wS hSw; (try dsimp only at hSw); obtain ⟨t0, t1, t2⟩ := hSw; go_simp; try with_reducible rfl)); try simp only [Act.put, List.setIfInBounds_toArray, List.set_cons_zero, List.set_cons_succ, List.getElem_toArray, List.getElem_cons_succ, List.getElem_cons_zero])
      (refine WalkT.quiet (i := 8) (v := ?_) rfl (by kernel_rfl) (by kernel_rfl) (by kernel_rfl) (fun _ _ _ h => h) (Or.inl ⟨by rfl, ?_⟩) ?_; rotate_left; (· (intro wS hSw; (try dsimp only at hSw); go_simp; try with_reducible rfl)); try simp only [Act.put, List.setIfInBounds_toArray, List.set_cons_zero, List.set_cons_succ, List.getElem_toArray, List.getElem_cons_succ, List.getElem_cons_zero])
      (refine WalkT.quiet (i := 9) (v := ?_) rfl (by kernel_rfl) (by kernel_rfl) (by kernel_rfl) (fun _ _ _ h => h) (Or.inl ⟨by rfl, ?_⟩) ?_; rotate_left; (· (intro wS hSw; (try dsimp only at hSw); go_simp; try with_reducible rfl)); try simp only [Act.put, List.setIfInBounds_toArray, List.set_cons_zero, List.set_cons_succ, List.getElem_toArray, List.getElem_cons_succ, List.getElem_cons_zero])
      (refine WalkT.ready (rs := [10]) (by kernel_rfl) (by simp) (AllT.cons rfl (fun K hK => ?_) AllT.nil); go_simp)
      (refine hK.out _ _ (fun _ _ => ⟨Lib.cell?_alloc_some _ hS.1, Lib.cell?_alloc_some _ hS.2.1, Lib.cell?_alloc_some _ hS.2.2⟩) ?_; clear hK K; try simp only [Act.put, List.setIfInBounds_toArray, List.set_cons_zero, List.set_cons_succ, List.getElem_toArray, List.getElem_cons_succ, List.getElem_cons_zero])
      clear hS
      (refine WalkT.ready (rs := [11]) (by kernel_rfl) (by simp) (AllT.cons rfl (fun K hK => ?_) AllT.nil))
      refine step_append_lies _ (by rfl) _ _ _ (by rfl) w0.heap.size 102 _ _ 3 40 Tryz.underlying58 hi hz0 hz1 hz2 rfl (by decide) _ ys.length _ (by rfl) (World.ownsRow.alloc H3.out.2.1 _) ⟨_, 0, none⟩ 1 1 [.string qb, .string qc, .int .i64 n] (by rfl) rfl (by exact news_at rfl rfl) (by simp [Value.oneCell']) (by omega) (by unfold maxLen; omega) (by omega) (by have h1 := H1.out.1.be.size; have h2 := H3.out.2.2.2.size; simp; omega) _ rfl ?_
      intro g7 cap7 w7 hown7 hg7 hat7 hlt7
      have hput := H1.out.1.putD (l := x.data.toList) (d := ⟨qb, qc, n⟩) HT.out.1 HT.out.2.1 HT.out.2.2.1 (HT.out.2.2.2.drp HDL.out.1 HN.out.2) (below_alloc H3.out.2.2.2 _ H3.out.2.2.2.size) hg7 hown7
      have bb := (H3.out.1.alloc (.cells #[.string qb, .string qc, .int .i64 n] 102)).grown hg7 (fun e => own_neM H3.out.2.1 H3.out.1 (by decide) e.symm)
      have bb1 := bb.cell 1 _ rfl
      have bbf := bb.free 1
      have HPT := Lib.hid hput
      clear hput bb hown7 hg7 hat7
      (refine hK.out _ _ (fun h => absurd h (by decide)) ?_; clear hK K; try simp only [Act.put, List.setIfInBounds_toArray, List.set_cons_zero, List.set_cons_succ, List.getElem_toArray, List.getElem_cons_succ, List.getElem_cons_zero])
      (refine WalkT.quiet (i := 12) (v := ?_) rfl (by kernel_rfl) (by kernel_rfl) (by kernel_rfl) (fun _ _ _ h => h) (Or.inl ⟨by rfl, ?_⟩) ?_; rotate_left; (· (intro wS hSw; (try dsimp only at hSw); go_simp; try with_reducible rfl)); try simp only [Act.put, List.setIfInBounds_toArray, List.set_cons_zero, List.set_cons_succ, List.getElem_toArray, List.getElem_cons_succ, List.getElem_cons_zero])
      (refine WalkT.ready (rs := [13]) (by kernel_rfl) (by simp) (AllT.cons rfl (fun K hK => ?_) AllT.nil); go_simp)
      (refine hK.out _ _ (fun h => absurd h (by decide)) ?_; clear hK K; try simp only [Act.put, List.setIfInBounds_toArray, List.set_cons_zero, List.set_cons_succ, List.getElem_toArray, List.getElem_cons_succ, List.getElem_cons_zero])
      refine WalkT.done (by kernel_rfl) ?_
      go_wp2
      go_ret
      exact ⟨by rw [HN.out.1]; rfl, HPT.out.1, (KeepS.below H1.out.2.2.1).trans HPT.out.2⟩
    · have hqd : (Q.toList == [100, 114, 111, 112]) = false := beq_eq_false_iff_ne.2 hd
      have HD := Lib.hid hd
      clear hd
      (have HF := Lib.hid (no_line (l := x.data.toList) HT.out.2.2.2 (fun k n p o e hne => by rw [seg_map HL.out] at e hne; have hf := first_of hlp HQ.out e; (exact absurd hf.2 (by have := H5.out; simpa using this))) (fun c s o e hne => by rw [seg_map HL.out] at e hne; have hf := first_of hlp HQ.out e; (exact absurd hf.1 HD.out))); go_wp2; go_ret; exact ⟨by rw [HF.out.2]; rfl, HI.out.1.same H1.out.2.2.1 HF.out.1 HF.out.2, KeepS.below H1.out.2.2.1⟩)
  · have hl4 : ((L.length : Int) == 4) = false := by rw [beq_eq_false_iff_ne]; omega
    have H4 := Lib.hid h4
    clear h4
    (have HF := Lib.hid (no_line (l := x.data.toList) HT.out.2.2.2 (fun k n p o e hne => by rw [seg_map HL.out] at e hne; have hf := first_of hlp HQ.out e; (exact absurd hf.2 (by have := H5.out; simpa using this))) (fun c s o e hne => by rw [seg_map HL.out] at e hne; have hf := first_of hlp HQ.out e; (exact absurd hf.2 (by have := H4.out; simpa using this)))); go_wp2; go_ret; exact ⟨by rw [HF.out.2]; rfl, HI.out.1.same H1.out.2.2.1 HF.out.1 HF.out.2, KeepS.below H1.out.2.2.1⟩)
end Go.Proofs.YteliiknlpfjlkaaGreatDoor
/- Walk of the reference: a tree is read from a text. -/
set_option linter.unusedVariables false
set_option linter.unusedSimpArgs false
namespace Go.Proofs.YteliiknlpfjlkaaGreatDoor
open Go Go.RowKit

theorem rtread1_feeds (ob : Nat) (w0 : World) (most : Nat) (hm : most ≤ 1000000) (ht : Tab10 w0) : Feeds 87 #[.pointer (some ⟨ob, 0, none⟩)] treeOkP (TrInv ob w0) most where
  run := run_fn Tryz.func87 (by kernel_rfl) rfl
  grows := fun _ _ _ h hb => h.below hb
  call := fun done x W h hd hx => rtreadLine_any ob w0 done x W h hd (by omega) ht
  maxl := fun _ _ h => h.mx.below h.be
set_option maxHeartbeats 4000000 in
set_option maxRecDepth 100000 in
theorem rtread_any (text : ByteArray) (w : World) (hs : text.size ≤ 1000000) (hM : MaxL w) (ht : Tab10 w) : Calls Tryz.prog 36 #[.string text] w (TReadPost text w) := by
  have hl : text.data.toList.length = text.size := (Lib.size_eq text).symm
  have hb1 : Below w.heap.size w ((w.alloc (.cells #[.slice none 0 0, .slice none 0 0] 60)).alloc (.cells #[.slice none 0 0, .slice none 0 0] 60)) := below_alloc (below_alloc (Below.refl _ _) _ (Nat.le_refl _)) _ (by simp)
  have hrb : Blk ((w.alloc (.cells #[.slice none 0 0, .slice none 0 0] 60)).alloc (.cells #[.slice none 0 0, .slice none 0 0] 60)) w.heap.size #[.slice none 0 0, .slice none 0 0] 60 := (Blk.new _ _ _).alloc _
  have hnb : Blk ((w.alloc (.cells #[.slice none 0 0, .slice none 0 0] 60)).alloc (.cells #[.slice none 0 0, .slice none 0 0] 60)) (w.heap.size + 1) #[.slice none 0 0, .slice none 0 0] 60 := Blk.newAt (by simp)
  obtain ⟨w1, hw1⟩ : ∃ w1, w1 = (w.alloc (.cells #[.slice none 0 0, .slice none 0 0] 60)).alloc (.cells #[.slice none 0 0, .slice none 0 0] 60) := ⟨_, rfl⟩
  rw [← hw1] at hb1 hrb hnb
  have HNB := Lib.hid hnb
  have HTB := Lib.hid (ht.below hb1)
  have hnl := hnb.lt
  clear hnb ht
  have hrl := hrb.lt
  have HW1 := Lib.hid hw1
  have H1 := Lib.hid (And.intro hb1 (And.intro hrb (hM.below hb1)))
  clear hw1 hb1 hM
  by_cases hbig : 200000 < text.size
  · have hbi : (200000 : Int) < (text.size : Int) := by omega
    have HR := Lib.hid (show treeRead text.data.toList = ([], [], 0, 2) by unfold treeRead; rw [if_pos (by omega)])
    have m0 := HNB.out.cell 0 _ rfl
    have m1 := HNB.out.cell 1 _ rfl
    have z0 := hrb.cell 0 _ rfl
    have z1 := hrb.cell 1 _ rfl
    have zf := fun o => hrb.free o
    clear hl hrb
    go_enter Tryz.func36, Tryz.ntmps36
    go_upto_region 2 with fail
    rw [← HW1.out]
    go_wp2
    refine bodyPost_ret (v := .tuple #[.agg #[.slice none 0 0, .slice none 0 0], .int .i64 0, .int .i64 2]) ?_ rfl ⟨_, _, _, _, _, _, rfl, HR.out, Arr.nil _ _ _, Arr.nil _ _ _, ?_⟩
    · simp [results, go_sem, z0, z1]
    · have := H1.out.1; (repeat (first | exact Below.refl _ _ | assumption | refine below_draws ?_ _ | refine Below.drew ?_ | refine below_alloc ?_ _ (by first | omega | (simp; done) | (simp; omega)) | refine Below.setCell ?_ (by first | omega | (simp; done) | (simp; omega)) _ | refine below_at ?_ (by assumption) (by first | omega | (simp; done) | (simp; omega))))
  have hbi : ¬ (200000 : Int) < (text.size : Int) := by omega
  have HL := Lib.hid (show ¬ 200000 < text.data.toList.length by omega)
  have hI : TrInv w1.heap.size w1 [] (w1.alloc (.cells #[.slice none 0 0, .slice none 0 0] 60)) := ⟨H1.out.2.2, below_alloc (Below.refl _ _) _ (Nat.le_refl _), ⟨_, _, [], [], Blk.new _ _ _, World.ownsRow_nil _ _ _ _, World.ownsRow_nil _ _ _ _, TrRows.nil⟩, Nat.le_refl _⟩
  have HI := Lib.hid hI
  clear hl hI hrb
  go_enter Tryz.func36, Tryz.ntmps36
  go_upto_region 2 with fail
  rw [← HW1.out]
  go_wp2_with fail
  refine (rlines_any _ _ treeOkP (TrInv w1.heap.size w1) 1000000 text _ (rtread1_feeds w1.heap.size w1 1000000 (Nat.le_refl _) HTB.out) (Nat.le_refl _) hs HI.out).mono ?_
  unfold EachPost
  rintro e w2 ⟨rfl, hi⟩
  obtain ⟨I, hIe⟩ : ∃ I, eachF treeOkP text.data.toList = I := ⟨_, rfl⟩
  have HE := Lib.hid hIe
  rw [hIe] at hi ⊢
  obtain ⟨i, b, P⟩ := I
  simp only at hi ⊢
  have HI2 := Lib.hid hi
  have hr2 := H1.out.2.1.below hi.be hrl
  have hn2 := HNB.out.below hi.be hnl
  have m0 := hn2.cell 0 _ rfl
  have m1 := hn2.cell 1 _ rfl
  have HN2 := Lib.hid hn2
  clear hn2
  have z0 := hr2.cell 0 _ rfl
  have z1 := hr2.cell 1 _ rfl
  have zf := fun o => hr2.free o
  have HR2 := Lib.hid hr2
  clear hIe hi HI hr2
  cases b
  · have HR := Lib.hid (show treeRead text.data.toList = ([], [], (i : Int), 9) by unfold treeRead; rw [if_neg HL.out, ← eachP_eq, HE.out, if_pos rfl])
    go_wp2
    refine bodyPost_ret (v := .tuple #[.agg #[.slice none 0 0, .slice none 0 0], .int .i64 i, .int .i64 9]) ?_ rfl ⟨_, _, _, _, _, _, rfl, HR.out, Arr.nil _ _ _, Arr.nil _ _ _, ?_⟩
    · simp [results, go_sem, z0, z1]
    · have h1 := H1.out.1; have h2 := below_at h1 HI2.out.be h1.size; (repeat (first | exact Below.refl _ _ | assumption | refine below_draws ?_ _ | refine Below.drew ?_ | refine below_alloc ?_ _ (by first | omega | (simp; done) | (simp; omega)) | refine Below.setCell ?_ (by first | omega | (simp; done) | (simp; omega)) _ | refine below_at ?_ (by assumption) (by first | omega | (simp; done) | (simp; omega))))
  · obtain ⟨v1, v2, xs, ys, hbx, ho1, ho2, htr⟩ := HI2.out.row
    obtain ⟨e1, e2⟩ := htr.ok (feed_seq HE.out)
    have ha1 := Arr.of_own Splt.cells_len ho1
    have ha2 := Arr.of_own Drp.cells_len ho2
    obtain ⟨s1, k1, rfl⟩ := own_slice' ho1
    obtain ⟨s2, k2, rfl⟩ := own_slice' ho2
    have b0 := hbx.cell 0 _ rfl
    have b1 := hbx.cell 1 _ rfl
    have HX := Lib.hid (And.intro hbx (And.intro ha1 (And.intro ha2 (And.intro e1 e2))))
    have HO := Lib.hid (And.intro ho1 ho2)
    clear hbx ho1 ho2 htr ha1 ha2 e1 e2
    go_wp2_with fail
    refine (rtreeFault_any _ _ xs ys _ (by exact HX.out.2.1) (by exact HX.out.2.2.1)).mono ?_
    rintro e w3 ⟨rfl, hb3⟩
    have hr3 := HR2.out.below hb3 HR2.out.lt
    have hn3 := HN2.out.below hb3 HN2.out.lt
    have m0 := hn3.cell 0 _ rfl
    have m1 := hn3.cell 1 _ rfl
    clear hn3
    have hx3 := HX.out.1.below hb3 HX.out.1.lt
    have H3 := Lib.hid (And.intro (HX.out.2.1.below hb3) (And.intro (HX.out.2.2.1.below hb3) (below_at (below_at H1.out.1 HI2.out.be H1.out.1.size) hb3 (by have := H1.out.1.size; have := HI2.out.be.size; omega))))
    have o1 := own_below HO.out.1 hb3
    have o2 := own_below HO.out.2 hb3
    have HO3 := Lib.hid (And.intro o1 (And.intro o2 (And.intro (own_neM o1 hr3 (by decide)) (own_neM o2 hr3 (by decide)))))
    clear o1 o2
    have z0 := hr3.cell 0 _ rfl
    have z1 := hr3.cell 1 _ rfl
    have zf := fun o => hr3.free o
    have b0 := hx3.cell 0 _ rfl
    have b1 := hx3.cell 1 _ rfl
    clear hb3 hr3 hx3
    obtain ⟨F, hF⟩ : ∃ F, F = treeF xs ys := ⟨_, rfl⟩
    have HF := Lib.hid hF
    rw [← hF]
    clear hF
    have HT : Hid (treeRead text.data.toList = if F ≠ 0 then ([], [], 0, F) else (xs, ys, 0, 0)) := by
      show _ = _
      unfold treeRead
      rw [if_neg HL.out, ← eachP_eq, HE.out, if_neg (by simp)]
      simp only
      rw [← HX.out.2.2.2.1, ← HX.out.2.2.2.2, ← HF.out]
    by_cases h0 : F = 0
    · subst h0
      have HR := HT.out
      rw [if_neg (by simp)] at HR
      have HR2 := Lib.hid HR
      clear HR
      go_wp2
      refine bodyPost_ret (v := .tuple #[.agg #[.slice s1 xs.length k1, .slice s2 ys.length k2], .int .i64 0, .int .i64 0]) ?_ rfl ⟨_, _, xs, ys, _, _, rfl, HR2.out, ?_, ?_, ?_⟩
      · simp [results, go_sem, z0, z1]
      · exact Arr.of_own Splt.cells_len (World.ownsRow.kept (row := some w.heap.size) HO3.out.1 (grown_setCells w.heap.size [.slice s1 xs.length k1, .slice s2 ys.length k2] 0 w3) (.inr HO3.out.2.2.1))
      · exact Arr.of_own Drp.cells_len (World.ownsRow.kept (row := some w.heap.size) HO3.out.2.1 (grown_setCells w.heap.size [.slice s1 xs.length k1, .slice s2 ys.length k2] 0 w3) (.inr HO3.out.2.2.2))
      · have := H3.out.2.2; (repeat (first | exact Below.refl _ _ | assumption | refine below_draws ?_ _ | refine Below.drew ?_ | refine below_alloc ?_ _ (by first | omega | (simp; done) | (simp; omega)) | refine Below.setCell ?_ (by first | omega | (simp; done) | (simp; omega)) _ | refine below_at ?_ (by assumption) (by first | omega | (simp; done) | (simp; omega))))
    · have h1 : (F != 0) = true := by simpa using h0
      have HR := HT.out
      rw [if_pos h0] at HR
      have HR2 := Lib.hid HR
      clear HR h0
      go_wp2
      refine bodyPost_ret (v := .tuple #[.agg #[.slice none 0 0, .slice none 0 0], .int .i64 0, .int .i64 F]) ?_ rfl ⟨_, _, _, _, _, _, rfl, HR2.out, Arr.nil _ _ _, Arr.nil _ _ _, ?_⟩
      · simp [results, go_sem, z0, z1]
      · have := H3.out.2.2; (repeat (first | exact Below.refl _ _ | assumption | refine below_draws ?_ _ | refine Below.drew ?_ | refine below_alloc ?_ _ (by first | omega | (simp; done) | (simp; omega)) | refine Below.setCell ?_ (by first | omega | (simp; done) | (simp; omega)) _ | refine below_at ?_ (by assumption) (by first | omega | (simp; done) | (simp; omega))))
end Go.Proofs.YteliiknlpfjlkaaGreatDoor
/- Walk: the laws' 'grown'. -/
set_option linter.unusedVariables false
set_option linter.unusedSimpArgs false
namespace Go.Proofs.YteliiknlpfjlkaaGreatDoor
open Go Go.RowKit

set_option maxHeartbeats 1000000 in
set_option maxRecDepth 100000 in
theorem grown_any (w : World) : Calls Tryz.prog 38 #[] w
    fun e w' => e = .returned (.bool true) ∧ Below w.heap.size w w' := by
  have HS := Lib.hid (And.intro grownSplit grownPorts)
  go_enter Tryz.func38, Tryz.ntmps38
  go_wp2_with fail
  refine (ports_any _ _ [⟨keyS, 2, ⟨#[]⟩, 0⟩] [⟨⟨#[107]⟩, keyS, 2⟩] keyS _ ?_ ?_).mono ?_
  · refine Arr.below (w := w.alloc (.cells #[.string keyS, .int .i64 2, .string ⟨#[]⟩, .int .i64 0] 100)) (Arr.litAt Splt.cells_len (by rfl) (by rfl) (by rfl) (by simp [maxLen])) ?_
    exact below_alloc (Below.refl _ _) _ (Nat.le_refl _)
  · exact Arr.litAt Drp.cells_len (by simp) (by rfl) (by rfl) (by simp [maxLen])
  rintro e w1 ⟨v1, rfl, hA1, hb1⟩
  rw [HS.out.1]
  have hz1 := hb1.size
  simp only [World.size_alloc] at hz1
  have hB1 : Below w.heap.size w w1 := by (repeat (first | exact Below.refl _ _ | assumption | refine below_draws ?_ _ | refine Below.drew ?_ | refine below_alloc ?_ _ (by first | omega | (simp; done) | (simp; omega)) | refine Below.setCell ?_ (by first | omega | (simp; done) | (simp; omega)) _ | refine below_at ?_ (by assumption) (by first | omega | (simp; done) | (simp; omega))))
  rw [HS.out.2] at hA1
  have H1 := Lib.hid (And.intro hA1 hB1)
  clear hb1 hB1 hA1
  go_wp2_with fail
  refine (equal_strs v1 _ [⟨#[]⟩, ⟨#[107]⟩] [⟨#[]⟩, ⟨#[107]⟩] _ (H1.out.1.below (by (repeat (first | exact Below.refl _ _ | assumption | refine below_draws ?_ _ | refine Below.drew ?_ | refine below_alloc ?_ _ (by first | omega | (simp; done) | (simp; omega)) | refine Below.setCell ?_ (by first | omega | (simp; done) | (simp; omega)) _ | refine below_at ?_ (by assumption) (by first | omega | (simp; done) | (simp; omega)))))) ?_).mono ?_
  · exact Arr.litAt (cells := strCells) (sz := 1) (fun _ => rfl) (by first | rfl | simp) (by rfl) (by rfl) (by simp [maxLen])
  rintro e w2 ⟨rfl, hb2⟩
  have hz2 := hb2.size
  simp only [World.size_alloc] at hz2
  have hB2 : Below w.heap.size w w2 := by have h1 := H1.out.2; (repeat (first | exact Below.refl _ _ | assumption | refine below_draws ?_ _ | refine Below.drew ?_ | refine below_alloc ?_ _ (by first | omega | (simp; done) | (simp; omega)) | refine Below.setCell ?_ (by first | omega | (simp; done) | (simp; omega)) _ | refine below_at ?_ (by assumption) (by first | omega | (simp; done) | (simp; omega))))
  have H2 := Lib.hid hB2
  clear hb2 hB2
  go_wp2
  go_ret
  exact ⟨rfl, H2.out⟩
end Go.Proofs.YteliiknlpfjlkaaGreatDoor
/- The walk of TreesChecked: the law's function returns true for every list of integers, and writes nothing that was there. -/
set_option linter.unusedVariables false
set_option linter.unusedSimpArgs false
namespace Go.Proofs.YteliiknlpfjlkaaGreatDoor
open Go Go.RowKit

set_option maxHeartbeats 4000000 in
set_option maxRecDepth 100000 in
theorem law_tch (a0 : Option Addr) (len0 cap0 : Nat) (z0 : List Int) (w : World) (w0 : IsRow .i64 w a0 len0 cap0 z0) (ht : Tab10 w) (hM : MaxL w) :
    Calls Tryz.prog 4 #[.slice a0 len0 cap0] w fun e w' => e = .returned (.bool true) ∧ Below w.heap.size w w' := by
  have hS := strm_start w0
  have HL : Hid (∀ w', w.grownBy w' (some w.heap.size) → Tab10 w' ∧ MaxL w') := fun w' h => ⟨ht.below (below_row h), hM.below (below_row h)⟩
  clear w0 ht hM
  go_enter Tryz.func4, Tryz.ntmps4
  go_wp2_with fail
  refine (atree_any w.heap.size 0 _ hS (by omega)).mono ?_
  rintro e w1 ⟨v, rfl, ⟨v1, v2, l, d, rfl, hl4, hd6, hA1, hA2, -, -⟩, hs1, hg1⟩
  have hg1' := grown_trans (World.grownBy_alloc w _ _) hg1
  have hlen : treeF l d = 0 → (treeText l d).length ≤ 200000 := fun hf => by
    have := (tree_lines (tx_tree hf).1 (tx_tree hf).2).2.2
    omega
  obtain ⟨a1, c1, rfl, -, -, -⟩ := id hA1
  obtain ⟨a2, c2, rfl, -, -, -⟩ := id hA2
  have hba : Below w1.heap.size w1 (w1.alloc (.cells #[.slice a1 l.length c1, .slice a2 d.length c2] 60)) := below_alloc (Below.refl _ _) _ (Nat.le_refl _)
  have hbx : Blk (w1.alloc (.cells #[.slice a1 l.length c1, .slice a2 d.length c2] 60)) w1.heap.size #[.slice a1 l.length c1, .slice a2 d.length c2] 60 := Blk.new _ _ _
  have H1 := Lib.hid (And.intro (hs1.below hba (Nat.le_refl _)) (And.intro (grown_trans hg1' (grown_below (some w.heap.size) hba)) (And.intro (hA1.below hba) (And.intro (hA2.below hba) hbx))))
  have HLN := Lib.hid hlen
  clear hs1 hg1 hg1' hA1 hA2 hS hba hlen
  go_wp2_with fail
  generalize w1.alloc (.cells #[.slice a1 l.length c1, .slice a2 d.length c2] 60) = W1 at *
  have x0 := hbx.cell 0 _ rfl
  have x1 := hbx.cell 1 _ rfl
  clear hbx
  refine (rtreeFault_any _ _ l d _ H1.out.2.2.1 H1.out.2.2.2.1).mono ?_
  rintro e w2 ⟨rfl, hb2⟩
  have H2 := Lib.hid (And.intro (H1.out.1.below hb2 (Nat.le_refl _)) (And.intro (grown_trans H1.out.2.1 (grown_below (some w.heap.size) hb2)) (And.intro (H1.out.2.2.1.below hb2) (And.intro (H1.out.2.2.2.1.below hb2) (H1.out.2.2.2.2.below hb2 H1.out.2.2.2.2.lt)))))
  clear hb2 x0 x1
  have x0 := H2.out.2.2.2.2.cell 0 _ rfl
  have x1 := H2.out.2.2.2.2.cell 1 _ rfl
  go_wp2_with fail
  refine (checkTree_any _ _ l d _ H2.out.2.2.1 H2.out.2.2.2.1).mono ?_
  rintro e w3 ⟨rfl, hb3⟩
  have H3 := Lib.hid (And.intro (H2.out.1.below hb3 (Nat.le_refl _)) (And.intro (grown_trans H2.out.2.1 (grown_below (some w.heap.size) hb3)) (And.intro (H2.out.2.2.1.below hb3) (And.intro (H2.out.2.2.2.1.below hb3) (H2.out.2.2.2.2.below hb3 H2.out.2.2.2.2.lt)))))
  clear hb3 x0 x1
  have x0 := H3.out.2.2.2.2.cell 0 _ rfl
  have x1 := H3.out.2.2.2.2.cell 1 _ rfl
  go_wp2_with fail
  refine (ttext_any _ _ l d _ H3.out.2.2.1 H3.out.2.2.2.1 (HL.out _ H3.out.2.1).1 HLN.out).mono ?_
  unfold TTextPost
  rintro e w4 ⟨rfl, hb4⟩
  have H4 := Lib.hid (And.intro (H3.out.1.below hb4 (Nat.le_refl _)) (And.intro (grown_trans H3.out.2.1 (grown_below (some w.heap.size) hb4)) (And.intro (H3.out.2.2.1.below hb4) (And.intro (H3.out.2.2.2.1.below hb4) (H3.out.2.2.2.2.below hb4 H3.out.2.2.2.2.lt)))))
  clear hb4 x0 x1
  have x0 := H4.out.2.2.2.2.cell 0 _ rfl
  have x1 := H4.out.2.2.2.2.cell 1 _ rfl
  obtain ⟨PF, hPF⟩ : ∃ PF, PF = treeF l d := ⟨_, rfl⟩
  have HPF := Lib.hid hPF
  rw [← hPF]
  clear hPF
  by_cases h0 : PF = 0
  · subst h0
    rw [if_pos rfl]
    obtain ⟨T, hT⟩ : ∃ T, T = bA (treeText l d) := ⟨_, rfl⟩
    have HT := Lib.hid hT
    rw [← hT]
    clear hT
    go_wp2_with fail
    refine (treeLines_any _ _ l d _ H4.out.2.2.1 H4.out.2.2.2.1 (HL.out _ H4.out.2.1).1 HPF.out.symm (HLN.out HPF.out.symm)).mono ?_
    rintro e w5 ⟨rfl, hb5⟩
    rw [← HT.out]
    have H6 := Lib.hid (And.intro (H4.out.1.below hb5 (Nat.le_refl _)) (grown_trans H4.out.2.1 (grown_below (some w.heap.size) hb5)))
    clear hb5 x0 x1
    (go_wp2_with fail; refine (treeString_any w.heap.size _ _ H6.out.1 (by omega) (fun w' hw' => (HL.out _ (grown_trans H6.out.2 hw')).1)).mono ?_; rintro e w7 ⟨v7, rfl, ⟨t, rfl, hts⟩, hs7, hg7⟩; have H7 := Lib.hid (grown_trans H6.out.2 hg7); clear hs7 hg7; go_wp2_with fail; refine (tread_any t _ (by omega) (HL.out _ H7.out).2).mono ?_; rintro e w8 ⟨u1, u2, xs, ys, i, er, rfl, hr, hU1, hU2, hb8⟩; obtain ⟨e3, f3, rfl, -, -, -⟩ := id hU1; obtain ⟨e4, f4, rfl, -, -, -⟩ := id hU2; have hba : Below w8.heap.size w8 (w8.alloc (.cells #[.slice e3 xs.length f3, .slice e4 ys.length f4] 60)) := below_alloc (Below.refl _ _) _ (Nat.le_refl _); have hbx : Blk (w8.alloc (.cells #[.slice e3 xs.length f3, .slice e4 ys.length f4] 60)) w8.heap.size #[.slice e3 xs.length f3, .slice e4 ys.length f4] 60 := Blk.new _ _ _; have hg8 := grown_trans H7.out (grown_below (some w.heap.size) hb8); have H8 := Lib.hid (And.intro (grown_trans hg8 (grown_below (some w.heap.size) hba)) (And.intro (hU1.below hba) (And.intro (hU2.below hba) (And.intro hbx hr)))); clear hb8 hU1 hU2 hba hbx hg8 hr; go_wp2_with fail; generalize w8.alloc (.cells #[.slice e3 xs.length f3, .slice e4 ys.length f4] 60) = W8 at *; refine (rtread_any t _ (by omega) (HL.out _ H8.out.1).2 (HL.out _ H8.out.1).1).mono ?_; rintro e w9 ⟨u1, u2, xs2, ys2, i2, er2, rfl, hr, hU1, hU2, hb9⟩; rw [H8.out.2.2.2.2] at hr; simp only [Prod.mk.injEq] at hr; obtain ⟨rfl, rfl, rfl, rfl⟩ := hr; obtain ⟨e5, f5, rfl, -, -, -⟩ := id hU1; obtain ⟨e6, f6, rfl, -, -, -⟩ := id hU2; have hba : Below w9.heap.size w9 (w9.alloc (.cells #[.slice e5 xs.length f5, .slice e6 ys.length f6] 60)) := below_alloc (Below.refl _ _) _ (Nat.le_refl _); have hb99 := below_at hb9 hba hb9.size; have hbx : Blk (w9.alloc (.cells #[.slice e5 xs.length f5, .slice e6 ys.length f6] 60)) w9.heap.size #[.slice e5 xs.length f5, .slice e6 ys.length f6] 60 := Blk.new _ _ _; have hby := H8.out.2.2.2.1.below hb99 H8.out.2.2.2.1.lt; have H9 := Lib.hid (And.intro (grown_trans H8.out.1 (grown_below (some w.heap.size) hb99)) (And.intro (H8.out.2.1.below hb99) (And.intro (H8.out.2.2.1.below hb99) (And.intro (hU1.below hba) (hU2.below hba))))); have x0 := hbx.cell 0 _ rfl; have x1 := hbx.cell 1 _ rfl; have y0 := hby.cell 0 _ rfl; have y1 := hby.cell 1 _ rfl; clear hb9 hU1 hU2 hba hbx hby hb99; go_wp2_with fail; refine (sameTree_any _ _ _ _ xs ys _ H9.out.2.1 H9.out.2.2.1 H9.out.2.2.2.1 H9.out.2.2.2.2).mono ?_; rintro e w10 ⟨rfl, hb10⟩; have H10 := Lib.hid (grown_trans H9.out.1 (grown_below (some w.heap.size) hb10)); clear hb10 x0 x1 y0 y1; go_wp2_with fail; refine (grown_any _).mono ?_; rintro e w11 ⟨rfl, hb11⟩; have H11 := Lib.hid (grown_trans H10.out (grown_below (some w.heap.size) hb11)); clear hb11; go_wp2; go_ret; exact ⟨rfl, below_row H11.out⟩)
  · rw [if_neg h0]
    have h1 : (PF == 0) = false := by simpa using h0
    have h2 : (PF != 0) = true := by simpa using h0
    clear h0
    rw [show bA [] = ⟨#[]⟩ from rfl]
    have H6 := Lib.hid (And.intro H4.out.1 H4.out.2.1)
    clear x0 x1
    (go_wp2_with fail; refine (treeString_any w.heap.size _ _ H6.out.1 (by omega) (fun w' hw' => (HL.out _ (grown_trans H6.out.2 hw')).1)).mono ?_; rintro e w7 ⟨v7, rfl, ⟨t, rfl, hts⟩, hs7, hg7⟩; have H7 := Lib.hid (grown_trans H6.out.2 hg7); clear hs7 hg7; go_wp2_with fail; refine (tread_any t _ (by omega) (HL.out _ H7.out).2).mono ?_; rintro e w8 ⟨u1, u2, xs, ys, i, er, rfl, hr, hU1, hU2, hb8⟩; obtain ⟨e3, f3, rfl, -, -, -⟩ := id hU1; obtain ⟨e4, f4, rfl, -, -, -⟩ := id hU2; have hba : Below w8.heap.size w8 (w8.alloc (.cells #[.slice e3 xs.length f3, .slice e4 ys.length f4] 60)) := below_alloc (Below.refl _ _) _ (Nat.le_refl _); have hbx : Blk (w8.alloc (.cells #[.slice e3 xs.length f3, .slice e4 ys.length f4] 60)) w8.heap.size #[.slice e3 xs.length f3, .slice e4 ys.length f4] 60 := Blk.new _ _ _; have hg8 := grown_trans H7.out (grown_below (some w.heap.size) hb8); have H8 := Lib.hid (And.intro (grown_trans hg8 (grown_below (some w.heap.size) hba)) (And.intro (hU1.below hba) (And.intro (hU2.below hba) (And.intro hbx hr)))); clear hb8 hU1 hU2 hba hbx hg8 hr; go_wp2_with fail; generalize w8.alloc (.cells #[.slice e3 xs.length f3, .slice e4 ys.length f4] 60) = W8 at *; refine (rtread_any t _ (by omega) (HL.out _ H8.out.1).2 (HL.out _ H8.out.1).1).mono ?_; rintro e w9 ⟨u1, u2, xs2, ys2, i2, er2, rfl, hr, hU1, hU2, hb9⟩; rw [H8.out.2.2.2.2] at hr; simp only [Prod.mk.injEq] at hr; obtain ⟨rfl, rfl, rfl, rfl⟩ := hr; obtain ⟨e5, f5, rfl, -, -, -⟩ := id hU1; obtain ⟨e6, f6, rfl, -, -, -⟩ := id hU2; have hba : Below w9.heap.size w9 (w9.alloc (.cells #[.slice e5 xs.length f5, .slice e6 ys.length f6] 60)) := below_alloc (Below.refl _ _) _ (Nat.le_refl _); have hb99 := below_at hb9 hba hb9.size; have hbx : Blk (w9.alloc (.cells #[.slice e5 xs.length f5, .slice e6 ys.length f6] 60)) w9.heap.size #[.slice e5 xs.length f5, .slice e6 ys.length f6] 60 := Blk.new _ _ _; have hby := H8.out.2.2.2.1.below hb99 H8.out.2.2.2.1.lt; have H9 := Lib.hid (And.intro (grown_trans H8.out.1 (grown_below (some w.heap.size) hb99)) (And.intro (H8.out.2.1.below hb99) (And.intro (H8.out.2.2.1.below hb99) (And.intro (hU1.below hba) (hU2.below hba))))); have x0 := hbx.cell 0 _ rfl; have x1 := hbx.cell 1 _ rfl; have y0 := hby.cell 0 _ rfl; have y1 := hby.cell 1 _ rfl; clear hb9 hU1 hU2 hba hbx hby hb99; go_wp2_with fail; refine (sameTree_any _ _ _ _ xs ys _ H9.out.2.1 H9.out.2.2.1 H9.out.2.2.2.1 H9.out.2.2.2.2).mono ?_; rintro e w10 ⟨rfl, hb10⟩; have H10 := Lib.hid (grown_trans H9.out.1 (grown_below (some w.heap.size) hb10)); clear hb10 x0 x1 y0 y1; go_wp2_with fail; refine (grown_any _).mono ?_; rintro e w11 ⟨rfl, hb11⟩; have H11 := Lib.hid (grown_trans H10.out (grown_below (some w.heap.size) hb11)); clear hb11; go_wp2; go_ret; exact ⟨rfl, below_row H11.out⟩)
end Go.Proofs.YteliiknlpfjlkaaGreatDoor
