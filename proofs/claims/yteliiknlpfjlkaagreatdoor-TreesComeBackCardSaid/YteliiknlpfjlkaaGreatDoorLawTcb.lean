/- The walk of TreesComeBack: the law's function returns true for every list of integers, and writes nothing that was there. -/
import Derived.Test.YteliiknlpfjlkaaGreatDoorTyG
import Derived.Test.YteliiknlpfjlkaaGreatDoorTyS
import Derived.Test.YteliiknlpfjlkaaGreatDoorTreeGH
import Derived.Test.YteliiknlpfjlkaaGreatDoorReady
import Derived.Test.YteliiknlpfjlkaaGreatDoorLawHead
set_option linter.unusedVariables false
set_option linter.unusedSimpArgs false
namespace Go.Proofs.YteliiknlpfjlkaaGreatDoor
open Go Go.RowKit

theorem bA_ofT {s : ByteArray} {l : List UInt8} (h : l = s.data.toList) : bA l = s := by subst h; exact bA_data s
set_option maxHeartbeats 4000000 in
set_option maxRecDepth 100000 in
theorem law_tcb (a0 : Option Addr) (len0 cap0 : Nat) (z0 : List Int) (w : World) (w0 : IsRow .i64 w a0 len0 cap0 z0) (ht : Tab10 w) (hM : MaxL w) :
    Calls Tryz.prog 6 #[.slice a0 len0 cap0] w fun e w' => e = .returned (.bool true) ∧ Below w.heap.size w w' := by
  have hS := strm_start w0
  have HL : Hid (∀ w', w.grownBy w' (some w.heap.size) → Tab10 w' ∧ MaxL w') := fun w' h => ⟨ht.below (below_row h), hM.below (below_row h)⟩
  clear w0 ht hM
  go_enter Tryz.func6, Tryz.ntmps6
  go_wp2_with fail
  refine (rightTree_any w.heap.size 0 _ hS (by omega)).mono ?_
  rintro e w1 ⟨v, rfl, ⟨v1, v2, l, d, rfl, hl4, hd6, hf, hA1, hA2, -, -⟩, hs1, hg1⟩
  have hg1' := grown_trans (World.grownBy_alloc w _ _) hg1
  have hlen := (tree_lines (tx_tree hf).1 (tx_tree hf).2).2.2
  obtain ⟨hback, hl2⟩ := tree_back hf (by omega)
  obtain ⟨a1, c1, rfl, -, -, -⟩ := id hA1
  obtain ⟨a2, c2, rfl, -, -, -⟩ := id hA2
  have hba : Below w1.heap.size w1 (w1.alloc (.cells #[.slice a1 l.length c1, .slice a2 d.length c2] 60)) := below_alloc (Below.refl _ _) _ (Nat.le_refl _)
  have hbx : Blk (w1.alloc (.cells #[.slice a1 l.length c1, .slice a2 d.length c2] 60)) w1.heap.size #[.slice a1 l.length c1, .slice a2 d.length c2] 60 := Blk.new _ _ _
  have H1 := Lib.hid (And.intro (hs1.below hba (Nat.le_refl _)) (And.intro (grown_trans hg1' (grown_below (some w.heap.size) hba)) (And.intro (hA1.below hba) (And.intro (hA2.below hba) hbx))))
  have HP := Lib.hid (And.intro hback hf)
  clear hs1 hg1 hg1' hA1 hA2 hS hback hba
  go_wp2_with fail
  generalize w1.alloc (.cells #[.slice a1 l.length c1, .slice a2 d.length c2] 60) = W1 at *
  have x0 := hbx.cell 0 _ rfl
  have x1 := hbx.cell 1 _ rfl
  clear hbx
  refine (ttext_any _ _ l d _ H1.out.2.2.1 H1.out.2.2.2.1 (HL.out _ H1.out.2.1).1 (fun _ => hl2)).mono ?_
  unfold TTextPost
  rw [HP.out.2, if_pos rfl]
  rintro e w2 ⟨rfl, hb2⟩
  have H2 := Lib.hid (And.intro (H1.out.1.below hb2 (Nat.le_refl _)) (And.intro (grown_trans H1.out.2.1 (grown_below (some w.heap.size) hb2)) (And.intro (H1.out.2.2.1.below hb2) (And.intro (H1.out.2.2.2.1.below hb2) (H1.out.2.2.2.2.below hb2 H1.out.2.2.2.2.lt)))))
  obtain ⟨T, hT⟩ : ∃ T, T = bA (treeText l d) := ⟨_, rfl⟩
  have hTs : T.size ≤ 1000000 := by rw [hT, size_bA]; omega
  have HT := Lib.hid hT
  rw [← hT]
  clear hT hb2 hf hlen hl2 x0 x1
  go_wp2_with fail
  refine (tread_any T _ hTs (HL.out _ H2.out.2.1).2).mono ?_
  rintro e w3 ⟨u1, u2, xs, ys, i, er, rfl, hr, hU1, hU2, hb3⟩
  rw [HT.out, data_bA, HP.out.1] at hr
  simp only [Prod.mk.injEq] at hr
  obtain ⟨rfl, rfl, rfl, rfl⟩ := hr
  obtain ⟨e1, f1, rfl, -, -, -⟩ := id hU1
  obtain ⟨e2, f2, rfl, -, -, -⟩ := id hU2
  have hba : Below w3.heap.size w3 (w3.alloc (.cells #[.slice e1 l.length f1, .slice e2 d.length f2] 60)) := below_alloc (Below.refl _ _) _ (Nat.le_refl _)
  have hb4 : Below w2.heap.size w2 (w3.alloc (.cells #[.slice e1 l.length f1, .slice e2 d.length f2] 60)) := below_at hb3 hba hb3.size
  have hbx : Blk (w3.alloc (.cells #[.slice e1 l.length f1, .slice e2 d.length f2] 60)) w3.heap.size #[.slice e1 l.length f1, .slice e2 d.length f2] 60 := Blk.new _ _ _
  have hb1 := H2.out.2.2.2.2.below hb4 H2.out.2.2.2.2.lt
  have H3 := Lib.hid (And.intro (H2.out.1.below hb4 (Nat.le_refl _)) (And.intro (grown_trans H2.out.2.1 (grown_below (some w.heap.size) hb4)) (And.intro (H2.out.2.2.1.below hb4) (And.intro (H2.out.2.2.2.1.below hb4) (And.intro (hU1.below hba) (hU2.below hba))))))
  clear hU1 hU2 hb3 hb4 hba hTs
  have x0 := hbx.cell 0 _ rfl
  have x1 := hbx.cell 1 _ rfl
  have y0 := hb1.cell 0 _ rfl
  have y1 := hb1.cell 1 _ rfl
  clear hbx hb1
  go_wp2_with fail
  refine (sameTree_any _ _ _ _ l d _ H3.out.2.2.2.2.1 H3.out.2.2.2.2.2 H3.out.2.2.1 H3.out.2.2.2.1).mono ?_
  rintro e w4 ⟨rfl, hb4⟩
  have H4 := Lib.hid (And.intro (H3.out.1.below hb4 (Nat.le_refl _)) (grown_trans H3.out.2.1 (grown_below (some w.heap.size) hb4)))
  clear hb4 x0 x1 y0 y1
  go_wp2_with fail
  refine (treeString_any w.heap.size _ _ H4.out.1 (by omega) (fun w' hw' => (HL.out _ (grown_trans H4.out.2 hw')).1)).mono ?_
  rintro e w5 ⟨v5, rfl, ⟨t, rfl, hts⟩, hs5, hg5⟩
  have H5 := Lib.hid (grown_trans H4.out.2 hg5)
  clear hs5 hg5
  go_wp2_with fail
  refine (tread_any t _ (by omega) (HL.out _ H5.out).2).mono ?_
  rintro e w6 ⟨g1, g2, xs, ys, i, er, rfl, hr, hU1, hU2, hb6⟩
  obtain ⟨e3, f3, rfl, -, -, -⟩ := id hU1
  obtain ⟨e4, f4, rfl, -, -, -⟩ := id hU2
  have hba : Below w6.heap.size w6 (w6.alloc (.cells #[.slice e3 xs.length f3, .slice e4 ys.length f4] 60)) := below_alloc (Below.refl _ _) _ (Nat.le_refl _)
  have hbx : Blk (w6.alloc (.cells #[.slice e3 xs.length f3, .slice e4 ys.length f4] 60)) w6.heap.size #[.slice e3 xs.length f3, .slice e4 ys.length f4] 60 := Blk.new _ _ _
  have hg6 := grown_trans H5.out (grown_below (some w.heap.size) hb6)
  have H6 := Lib.hid (And.intro (grown_trans hg6 (grown_below (some w.heap.size) hba)) (And.intro (hU1.below hba) (hU2.below hba)))
  have x0 := hbx.cell 0 _ rfl
  have x1 := hbx.cell 1 _ rfl
  clear hb6 hU1 hU2 hba hbx hg6
  by_cases h0 : er = 0
  · subst h0
    obtain ⟨hx1, hx2, hx3⟩ := tree_forth hr
    have HX := Lib.hid (And.intro (bA_ofT hx1) (And.intro hx2 (show treeF xs ys = 0 → (treeText xs ys).length ≤ 200000 from fun _ => by rw [hx1]; exact hx3)))
    clear hr hx1 hx2 hx3
    go_wp2_with fail
    refine (ttext_any _ _ xs ys _ H6.out.2.1 H6.out.2.2 (HL.out _ H6.out.1).1 HX.out.2.2).mono ?_
    unfold TTextPost
    rw [HX.out.2.1, if_pos rfl, HX.out.1]
    rintro e w7 ⟨rfl, hb7⟩
    have H7 := Lib.hid (grown_trans H6.out.1 (grown_below (some w.heap.size) hb7))
    clear hb7
    go_wp2_with fail
    refine (ready_any _).mono ?_
    rintro e w8 ⟨rfl, hb8⟩
    have H8 := Lib.hid (grown_trans H7.out (grown_below (some w.heap.size) hb8))
    clear hb8
    go_wp2
    go_ret
    exact ⟨rfl, below_row H8.out⟩
  · have h1 : (er == 0) = false := by simpa using h0
    clear h0 hr
    go_wp2_with fail
    refine (ready_any _).mono ?_
    rintro e w8 ⟨rfl, hb8⟩
    have H8 := Lib.hid (grown_trans H6.out.1 (grown_below (some w.heap.size) hb8))
    clear hb8
    go_wp2
    go_ret
    exact ⟨rfl, below_row H8.out⟩
end Go.Proofs.YteliiknlpfjlkaaGreatDoor
