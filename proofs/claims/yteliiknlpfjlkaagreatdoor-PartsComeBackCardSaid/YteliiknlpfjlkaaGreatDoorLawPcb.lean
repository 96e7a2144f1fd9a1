/- The walk of PartsComeBack: the law's function returns true for every list of integers, and writes nothing that was there. -/
import Derived.Test.YteliiknlpfjlkaaGreatDoorKeepA
import Derived.Test.YteliiknlpfjlkaaGreatDoorReady
import Derived.Test.YteliiknlpfjlkaaGreatDoorSwapAll
import Derived.Test.YteliiknlpfjlkaaGreatDoorTxAll
import Derived.Test.YteliiknlpfjlkaaGreatDoorTxG
import Derived.Test.YteliiknlpfjlkaaGreatDoorLawHead
set_option linter.unusedVariables false
set_option linter.unusedSimpArgs false
namespace Go.Proofs.YteliiknlpfjlkaaGreatDoor
open Go Go.RowKit

theorem bA_of {s : ByteArray} {l : List UInt8} (h : l = s.data.toList) : bA l = s := by subst h; exact bA_data s
set_option maxHeartbeats 4000000 in
set_option maxRecDepth 100000 in
theorem law_pcb (a0 : Option Addr) (len0 cap0 : Nat) (z0 : List Int) (w : World) (w0 : IsRow .i64 w a0 len0 cap0 z0) (ht : Tab10 w) (hM : MaxL w) :
    Calls Tryz.prog 5 #[.slice a0 len0 cap0] w fun e w' => e = .returned (.bool true) ∧ Below w.heap.size w w' := by
  have hS := strm_start w0
  have HL : Hid (∀ w', w.grownBy w' (some w.heap.size) → Tab10 w' ∧ MaxL w') := fun w' h => ⟨ht.below (below_row h), hM.below (below_row h)⟩
  clear w0 ht hM
  go_enter Tryz.func5, Tryz.ntmps5
  go_wp2_with fail
  refine (rightParts_any w.heap.size 0 6 _ hS (by omega) (by omega)).mono ?_
  rintro e w1 ⟨v1, rfl, ⟨l, hl6, hf, hA, hlo⟩, hs1, hg1⟩
  have hg1' := grown_trans (World.grownBy_alloc w _ _) hg1
  have hlen := text_len (parts_each hf).2
  have hback := parts_back hf
  have hAr := id hA
  obtain ⟨av, capv, rfl, -, -, -⟩ := hAr
  have H1 := Lib.hid (And.intro hs1 (And.intro hg1' hA))
  have HP := Lib.hid (And.intro hback hlo)
  clear hs1 hg1 hg1' hA hlo hS hback
  go_wp2_with fail
  refine (text_any _ l _ H1.out.2.2 (HL.out _ H1.out.2.1).1).mono ?_
  unfold TextPost
  rw [hf, if_pos rfl]
  rintro e w2 ⟨rfl, hb2⟩
  have H2 := Lib.hid (And.intro (H1.out.1.below hb2 (Nat.le_refl _)) (And.intro (grown_trans H1.out.2.1 (grown_below (some w.heap.size) hb2)) (H1.out.2.2.below hb2)))
  obtain ⟨T, hT⟩ : ∃ T, T = bA (partsText l) := ⟨_, rfl⟩
  have hTs : T.size ≤ 1000000 := by rw [hT, size_bA]; omega
  have HT := Lib.hid hT
  rw [← hT]
  clear hT hb2 hf hlen
  go_wp2_with fail
  refine (read_any T _ hTs (HL.out _ H2.out.2.1).2).mono ?_
  rintro e w3 ⟨v3, xs, i, er, rfl, hr, hA3, hb3⟩
  rw [HT.out, data_bA, HP.out.1] at hr
  simp only [Prod.mk.injEq] at hr
  obtain ⟨rfl, rfl, rfl⟩ := hr
  have hAr := id hA3
  obtain ⟨av3, capv3, rfl, -, -, -⟩ := hAr
  have H3 := Lib.hid (And.intro (H2.out.1.below hb3 (Nat.le_refl _)) (And.intro (grown_trans H2.out.2.1 (grown_below (some w.heap.size) hb3)) (And.intro (H2.out.2.2.below hb3) hA3)))
  clear hA3 hb3 hTs
  go_wp2_with fail
  refine (same_part _ _ l _ H3.out.2.2.2 H3.out.2.2.1).mono ?_
  rintro e w4 ⟨rfl, hb4⟩
  have H4 := Lib.hid (And.intro (H3.out.1.below hb4 (Nat.le_refl _)) (grown_trans H3.out.2.1 (grown_below (some w.heap.size) hb4)))
  clear hb4
  go_wp2_with fail
  refine (partString_any w.heap.size _ _ H4.out.1 (by omega) (HL.out _ H4.out.2).1 (fun w' hw' => (HL.out _ (grown_trans H4.out.2 hw')).1)).mono ?_
  rintro e w5 ⟨v5, rfl, ⟨t, rfl, hts⟩, hs5, hg5⟩
  have H5 := Lib.hid (grown_trans H4.out.2 hg5)
  clear hs5 hg5
  go_wp2_with fail
  refine (read_any t _ (by omega) (HL.out _ H5.out).2).mono ?_
  rintro e w6 ⟨v6, xs, i, er, rfl, hr, hA6, hb6⟩
  have H6 := Lib.hid (And.intro (grown_trans H5.out (grown_below (some w.heap.size) hb6)) hA6)
  have hAr := id hA6
  obtain ⟨av6, capv6, rfl, -, -, -⟩ := hAr
  clear hb6 hA6
  by_cases h0 : er = 0
  · subst h0
    obtain ⟨hx1, hx2⟩ := parts_forth hr
    have HX := Lib.hid (And.intro (bA_of hx1) hx2)
    clear hr hx1 hx2
    go_wp2_with fail
    refine (text_any _ xs _ H6.out.2 (HL.out _ H6.out.1).1).mono ?_
    unfold TextPost
    rw [HX.out.2, if_pos rfl, HX.out.1]
    rintro e w7 ⟨rfl, hb7⟩
    have H7 := Lib.hid (grown_trans H6.out.1 (grown_below (some w.heap.size) hb7))
    clear hb7
    go_wp2_with fail
    refine (ready_any _).mono ?_
    rintro e w8 ⟨rfl, hb8⟩
    have H8 := Lib.hid (grown_trans H7.out (grown_below (some w.heap.size) hb8))
    clear hb8
    go_wp2
    go_ret
    exact ⟨rfl, below_row H8.out⟩
  · have h1 : (er == 0) = false := by simpa using h0
    clear h0 hr
    go_wp2_with fail
    refine (ready_any _).mono ?_
    rintro e w8 ⟨rfl, hb8⟩
    have H8 := Lib.hid (grown_trans H6.out.1 (grown_below (some w.heap.size) hb8))
    clear hb8
    go_wp2
    go_ret
    exact ⟨rfl, below_row H8.out⟩
end Go.Proofs.YteliiknlpfjlkaaGreatDoor
