/- Walks: the reference reads parts from a text. -/
import Derived.Test.YteliiknlpfjlkaaGreatDoorTxAll
import Derived.Test.YteliiknlpfjlkaaGreatDoorTxM
import Derived.Test.YteliiknlpfjlkaaGreatDoorIndexS
import Derived.Test.YteliiknlpfjlkaaGreatDoorKeepA
set_option linter.unusedVariables false
set_option linter.unusedSimpArgs false
namespace Go.Proofs.YteliiknlpfjlkaaGreatDoor
open Go Go.RowKit

def wordL : List ByteArray := [⟨#[102, 105, 98, 114, 101]⟩, ⟨#[115, 112, 108, 105, 99, 101]⟩, ⟨#[99, 111, 110, 110, 101, 99, 116, 111, 114]⟩, ⟨#[115, 112, 108, 105, 116, 116, 101, 114]⟩]

theorem bA_of' {s : ByteArray} {l : List UInt8} (h : s.data.toList = l) : s = bA l := by subst h; exact (bA_data s).symm
theorem kind_ix (w : ByteArray) : ∃ I, idxF (fun x => strB w x) wordL = I ∧ -1 ≤ I ∧ I ≤ 3 ∧ kindOf w.data.toList = (if 0 < I + 1 then some (I + 1) else none) := by
  by_cases h1 : w = ⟨#[102, 105, 98, 114, 101]⟩
  · subst h1; exact ⟨0, by decide +kernel, by decide, by decide, by decide⟩
  by_cases h2 : w = ⟨#[115, 112, 108, 105, 99, 101]⟩
  · subst h2; exact ⟨1, by decide +kernel, by decide, by decide, by decide⟩
  by_cases h3 : w = ⟨#[99, 111, 110, 110, 101, 99, 116, 111, 114]⟩
  · subst h3; exact ⟨2, by decide +kernel, by decide, by decide, by decide⟩
  by_cases h4 : w = ⟨#[115, 112, 108, 105, 116, 116, 101, 114]⟩
  · subst h4; exact ⟨3, by decide +kernel, by decide, by decide, by decide⟩
  refine ⟨-1, ?_, by decide, by decide, ?_⟩
  · refine idxF_none ?_
    unfold wordL
    have e : ∀ x : ByteArray, w ≠ x → strB w x = false := fun x hx => by
      rw [Bool.eq_false_iff]
      exact fun h => hx (strB_iff.1 h)
    simp only [List.any_cons, List.any_nil, e _ h1, e _ h2, e _ h3, e _ h4, Bool.or_false]
  · have e : ∀ l : List UInt8, w ≠ bA l → w.data.toList ≠ l := fun l hx h => hx (bA_of' h)
    unfold kindOf
    rw [if_neg (e wFibre h1), if_neg (e wSplice h2), if_neg (e wConn h3), if_neg (e wSplit h4)]
    rfl
theorem cut_rest_len (c : UInt8) (l : List UInt8) : (Lib.cut l [c]).2.1.length ≤ l.length := by
  rcases segs_at c l with h | ⟨a, b, rfl, h⟩
  · rw [cut_none1 h]; simp
  · rw [cut_at1 h]; simp; omega
theorem dec_ref {l : List UInt8} {I n : Int} {b : Bool} (hk : kindOf (Lib.cut l [32]).1 = (if 0 < I + 1 then some (I + 1) else none)) (hn : numL 15 (Lib.cut l [32]).2.1 = (if b then some n else none)) : partDec l = (if b && decide (0 < I + 1) then some ⟨I + 1, n⟩ else none) := by
  rw [dec_cut, hk, hn]
  by_cases h : 0 < I + 1
  · rw [if_pos h, decide_eq_true h]; cases b <;> rfl
  · rw [if_neg h, decide_eq_false h]; cases b <;> rfl
theorem dec_ok {l : List UInt8} {I n : Int} {c : Bool} (hd : partDec l = (if c then some ⟨I + 1, n⟩ else none)) (done : List (List UInt8)) : partOk done l = c ∧ ∀ y, partDec l = some y → (⟨I + 1, n⟩ : Part) = y := by
  unfold partOk
  rw [hd]
  cases c
  · exact ⟨rfl, fun y h => by cases h⟩
  · exact ⟨rfl, fun y h => Option.some.inj h⟩
set_option maxHeartbeats 4000000 in
set_option maxRecDepth 100000 in
theorem rread1_any (ob : Nat) (w0 : World) (done : List (List UInt8)) (x : ByteArray) (W : World) (h : PrInv ob w0 done W) (hdl : done.length ≤ 1000000) (hx : x.size ≤ 1000000) (ht : Tab10 w0) :
    Calls Tryz.prog 66 #[.string x, .pointer (some ⟨ob, 0, none⟩)] W fun e W' => e = .returned (.bool (partOk done x.data.toList)) ∧ PrInv ob w0 (done ++ [x.data.toList]) W' ∧ KeepS W W' := by
  have HI := Lib.hid (And.intro h (ht.below h.be))
  obtain ⟨i0, hi, hz0, hz1, hz2⟩ := info_parts infoPart
  have hl2 : (Lib.cut x.data.toList [32]).2.1.length ≤ x.size := by
    rw [Lib.size_eq]; exact cut_rest_len _ _
  obtain ⟨I, hI, hI0, hI1, hkI⟩ := kind_ix (bA (Lib.cut x.data.toList [32]).1)
  have HK := Lib.hid (And.intro hI hkI)
  clear h ht hI hkI
  go_enter Tryz.func66, Tryz.ntmps66
  go_wp2_with fail
  refine (cut_any x 32 W hx (HI.out.1.mx.below HI.out.1.be)).mono ?_
  rintro e w1 ⟨rfl, hb1⟩
  have H1 := Lib.hid (And.intro hb1 (HI.out.2.below hb1))
  obtain ⟨A, hA⟩ : ∃ A, A = bA (Lib.cut x.data.toList [32]).1 := ⟨_, rfl⟩
  obtain ⟨B, hB⟩ : ∃ B, B = bA (Lib.cut x.data.toList [32]).2.1 := ⟨_, rfl⟩
  obtain ⟨C, hC⟩ : ∃ C, C = (Lib.cut x.data.toList [32]).2.2 := ⟨_, rfl⟩
  have hBs : B.size ≤ 1000000 := by rw [hB, size_bA]; omega
  have HAB := Lib.hid (And.intro hA hB)
  rw [← hA, ← hB, ← hC]
  clear hA hB hC hb1 hl2
  go_wp2_with fail
  refine (rnumber_any B 15 (by decide) _ hBs H1.out.2).mono ?_
  rintro e w2 ⟨n, b, rfl, hn, hb2⟩
  have H2 := Lib.hid (And.intro hn (below_at H1.out.1 hb2 H1.out.1.size))
  clear hn hb2 hBs
  go_wp2_with fail
  refine (partWords_any _).mono ?_
  rintro e w3 ⟨rfl, rfl⟩
  have hbw := Blk.new w2 #[.string ⟨#[]⟩, .string ⟨#[102, 105, 98, 114, 101]⟩, .string ⟨#[115, 112, 108, 105, 99, 101]⟩, .string ⟨#[99, 111, 110, 110, 101, 99, 116, 111, 114]⟩, .string ⟨#[115, 112, 108, 105, 116, 116, 101, 114]⟩] 9
  have HW := Lib.hid hbw
  clear hbw
  go_wp2_with fail
  refine (index_str_any _ wordL A _ ?_).mono ?_
  · refine ⟨some ⟨w2.heap.size, 1, none⟩, 4, rfl, by decide, by decide, fun k hk => ⟨_, 1, rfl, HW.out.lt, fun j u hu => ?_⟩⟩
    have h4 : wordL.length = 4 := rfl
    have hj : j < 1 := by
      have := (List.getElem?_eq_some_iff.1 hu).1
      simpa [strCells] using this
    obtain rfl : j = 0 := by omega
    refine HW.out.cell _ _ ?_
    rcases (show k = 0 ∨ k = 1 ∨ k = 2 ∨ k = 3 by omega) with rfl | rfl | rfl | rfl <;> exact hu
  rintro e w4 ⟨rfl, rfl⟩
  rw [HAB.out.1, HK.out.1]
  have hb3 : Below W.heap.size W (w2.alloc (.cells #[.string ⟨#[]⟩, .string ⟨#[102, 105, 98, 114, 101]⟩, .string ⟨#[115, 112, 108, 105, 99, 101]⟩, .string ⟨#[99, 111, 110, 110, 101, 99, 116, 111, 114]⟩, .string ⟨#[115, 112, 108, 105, 116, 116, 101, 114]⟩] 9)) := below_alloc H2.out.2 _ H2.out.2.size
  have HD := Lib.hid (dec_ref HK.out.2 (show numL 15 (Lib.cut x.data.toList [32]).2.1 = (if b then some n else none) by rw [← H2.out.1, HAB.out.2]; rfl))
  obtain ⟨w5, hw5⟩ : ∃ w5, w5 = w2.alloc (.cells #[.string ⟨#[]⟩, .string ⟨#[102, 105, 98, 114, 101]⟩, .string ⟨#[115, 112, 108, 105, 99, 101]⟩, .string ⟨#[99, 111, 110, 110, 101, 99, 116, 111, 114]⟩, .string ⟨#[115, 112, 108, 105, 116, 116, 101, 114]⟩] 9) := ⟨_, rfl⟩
  rw [← hw5] at hb3 ⊢
  clear hw5 HW
  have HI1 := Lib.hid (HI.out.1.below hb3)
  obtain ⟨v, xs, hbx, ho, hl, hxs⟩ := HI1.out.row
  have hxl : xs.length ≤ 1000000 := by omega
  obtain ⟨sa, sc, rfl⟩ := own_slice' ho
  have hob := hbx.lt
  have b0 := hbx.cell 0 _ rfl
  have bf := hbx.free 0
  have HX := Lib.hid (And.intro hbx (And.intro ho (And.intro hl hxs)))
  have hw0 := HI1.out.be.size
  have hne := own_neM ho hbx (by decide)
  have HNE := Lib.hid (And.intro hne hb3)
  clear hbx ho hl hxs hne hb3
  cases b
  · have HC := Lib.hid (dec_ok (I := I) (n := n) (c := false) (l := x.data.toList) HD.out done)
    (go_wp2_with ((at_builtin; go_must (refine wpList_append_own _ rfl _ _ 26 rfl _ 54 _ (.agg #[.int .i64 0, .int .i64 0]) 2 16 Tryz.underlying26 hi hz0 hz1 hz2 rfl (by decide) _ _ _ rfl (HX.out.2.1.alloc _) ⟨w5.heap.size, 0, none⟩ 1 1 [.int .i64 (I + 1), .int .i64 n] rfl rfl (by exact news_at (by first | rfl | simp) (by rfl)) (by simp [Value.oneCell']) (by unfold maxLen; omega) (by omega) (by first | omega | (simp; done) | (simp; omega)) ?_)); intro v' w9 hown9 hgrow _; obtain ⟨g9, cap9, rfl⟩ := own_slice' hown9; have bb := (HX.out.1.alloc (.cells #[.int .i64 (I + 1), .int .i64 n] 54)).grown hgrow (fun e => HNE.out.1 e.symm); have bb0 := bb.cell 0 _ rfl; have bbf := bb.free 0); go_ret; have hm := HI1.out.more HX.out.1 HX.out.2.1 HX.out.2.2.1 HX.out.2.2.2 (l := x.data.toList) (x := ⟨I + 1, n⟩) (below_alloc (Below.refl w5.heap.size w5) (.cells #[.int .i64 (I + 1), .int .i64 n] 54) (Nat.le_refl _)) hgrow hown9 HC.out.2; exact ⟨by (rw [HC.out.1]; first | rfl | (show Ending.returned (.bool (decide (0 < I + 1))) = _; rw [decide_eq_false (by omega)])), hm.1, (KeepS.below HNE.out.2).trans hm.2⟩)
  · by_cases h0 : 0 < I + 1
    · have HC := Lib.hid (dec_ok (I := I) (n := n) (c := true) (l := x.data.toList) (by have := HD.out; rw [decide_eq_true h0] at this; exact this) done)
      (go_wp2_with ((at_builtin; go_must (refine wpList_append_own _ rfl _ _ 26 rfl _ 54 _ (.agg #[.int .i64 0, .int .i64 0]) 2 16 Tryz.underlying26 hi hz0 hz1 hz2 rfl (by decide) _ _ _ rfl (HX.out.2.1.alloc _) ⟨w5.heap.size, 0, none⟩ 1 1 [.int .i64 (I + 1), .int .i64 n] rfl rfl (by exact news_at (by first | rfl | simp) (by rfl)) (by simp [Value.oneCell']) (by unfold maxLen; omega) (by omega) (by first | omega | (simp; done) | (simp; omega)) ?_)); intro v' w9 hown9 hgrow _; obtain ⟨g9, cap9, rfl⟩ := own_slice' hown9; have bb := (HX.out.1.alloc (.cells #[.int .i64 (I + 1), .int .i64 n] 54)).grown hgrow (fun e => HNE.out.1 e.symm); have bb0 := bb.cell 0 _ rfl; have bbf := bb.free 0); go_ret; have hm := HI1.out.more HX.out.1 HX.out.2.1 HX.out.2.2.1 HX.out.2.2.2 (l := x.data.toList) (x := ⟨I + 1, n⟩) (below_alloc (Below.refl w5.heap.size w5) (.cells #[.int .i64 (I + 1), .int .i64 n] 54) (Nat.le_refl _)) hgrow hown9 HC.out.2; exact ⟨by (rw [HC.out.1]; first | rfl | (show Ending.returned (.bool (decide (0 < I + 1))) = _; rw [decide_eq_false (by omega)])), hm.1, (KeepS.below HNE.out.2).trans hm.2⟩)
    · have HC := Lib.hid (dec_ok (I := I) (n := n) (c := false) (l := x.data.toList) (by have := HD.out; rw [decide_eq_false h0] at this; exact this) done)
      (go_wp2_with ((at_builtin; go_must (refine wpList_append_own _ rfl _ _ 26 rfl _ 54 _ (.agg #[.int .i64 0, .int .i64 0]) 2 16 Tryz.underlying26 hi hz0 hz1 hz2 rfl (by decide) _ _ _ rfl (HX.out.2.1.alloc _) ⟨w5.heap.size, 0, none⟩ 1 1 [.int .i64 (I + 1), .int .i64 n] rfl rfl (by exact news_at (by first | rfl | simp) (by rfl)) (by simp [Value.oneCell']) (by unfold maxLen; omega) (by omega) (by first | omega | (simp; done) | (simp; omega)) ?_)); intro v' w9 hown9 hgrow _; obtain ⟨g9, cap9, rfl⟩ := own_slice' hown9; have bb := (HX.out.1.alloc (.cells #[.int .i64 (I + 1), .int .i64 n] 54)).grown hgrow (fun e => HNE.out.1 e.symm); have bb0 := bb.cell 0 _ rfl; have bbf := bb.free 0); go_ret; have hm := HI1.out.more HX.out.1 HX.out.2.1 HX.out.2.2.1 HX.out.2.2.2 (l := x.data.toList) (x := ⟨I + 1, n⟩) (below_alloc (Below.refl w5.heap.size w5) (.cells #[.int .i64 (I + 1), .int .i64 n] 54) (Nat.le_refl _)) hgrow hown9 HC.out.2; exact ⟨by (rw [HC.out.1]; first | rfl | (show Ending.returned (.bool (decide (0 < I + 1))) = _; rw [decide_eq_false (by omega)])), hm.1, (KeepS.below HNE.out.2).trans hm.2⟩)
theorem rread1_feeds (ob : Nat) (w0 : World) (most : Nat) (hm : most ≤ 1000000) (ht : Tab10 w0) : Feeds 66 #[.pointer (some ⟨ob, 0, none⟩)] partOk (PrInv ob w0) most where
  run := run_fn Tryz.func66 (by kernel_rfl) rfl
  grows := fun _ _ _ h hb => h.below hb
  call := fun done x W h hd hx => rread1_any ob w0 done x W h hd (by omega) ht
  maxl := fun _ _ h => h.mx.below h.be
set_option maxHeartbeats 4000000 in
set_option maxRecDepth 100000 in
theorem rread_any (text : ByteArray) (w : World) (hs : text.size ≤ 1000000) (hM : MaxL w) (ht : Tab10 w) : Calls Tryz.prog 26 #[.string text] w (ReadPost text w) := by
  have hl : text.data.toList.length = text.size := (Lib.size_eq text).symm
  by_cases hbig : 200000 < text.size
  · have hbi : (200000 : Int) < (text.size : Int) := by omega
    have HR := Lib.hid (show partsRead text.data.toList = ([], 0, 2) by unfold partsRead; rw [if_pos (by omega)])
    clear hl hM
    go_enter Tryz.func26, Tryz.ntmps26
    go_wp2
    go_ret3
    exact ⟨_, _, _, _, rfl, HR.out, Arr.nil _ _ _, Below.refl _ _⟩
  have hbi : ¬ (200000 : Int) < (text.size : Int) := by omega
  have HL := Lib.hid (show ¬ 200000 < text.data.toList.length by omega)
  have hI : PrInv w.heap.size w [] (w.alloc (.cells #[.slice none 0 0] 26)) := ⟨hM, below_alloc (Below.refl _ _) _ (Nat.le_refl _), ⟨_, [], Blk.new _ _ _, World.ownsRow_nil _ _ _ _, rfl, fun _ => rfl⟩, Nat.le_refl _⟩
  have HI := Lib.hid hI
  clear hl hI
  go_enter Tryz.func26, Tryz.ntmps26
  go_wp2_with fail
  refine (rlines_any _ _ partOk (PrInv w.heap.size w) 1000000 text _ ((fun ob _ m h => rread1_feeds ob w m h ht) w.heap.size w 1000000 (Nat.le_refl _)) (Nat.le_refl _) hs HI.out).mono ?_
  unfold EachPost
  rintro e w2 ⟨rfl, hi⟩
  have HF : Hid (∀ i P, eachF partOk text.data.toList = (i, true, P) → ∀ l ∈ P, (partDec l).isSome = true) := fun i P h l hl => by
    obtain ⟨_, h2, _, h4⟩ := feed_ok (ok := partOk) (done := []) h
    rw [h2, List.nil_append] at hl
    obtain ⟨k, hk, rfl⟩ := List.mem_iff_getElem.1 hl
    have := h4 k hk
    exact this
  obtain ⟨I, hIe⟩ : ∃ I, eachF partOk text.data.toList = I := ⟨_, rfl⟩
  have HE := Lib.hid hIe
  rw [hIe] at hi ⊢
  obtain ⟨i, b, P⟩ := I
  simp only at hi ⊢
  have HI2 := Lib.hid hi
  clear hIe hi HI
  cases b
  · have HR := Lib.hid (show partsRead text.data.toList = ([], (i : Int), 9) by unfold partsRead; rw [if_neg HL.out, HE.out, if_pos rfl])
    go_wp2
    go_ret3
    exact ⟨_, _, _, _, rfl, HR.out, Arr.nil _ _ _, HI2.out.be⟩
  · obtain ⟨v, xs, hbx, ho, hxl, hx⟩ := HI2.out.row
    have hxs := hx (HF.out i P HE.out)
    have ha := Arr.of_own Part.cells_len ho
    obtain ⟨sa, sc, rfl⟩ := own_slice' ho
    have b0 := hbx.cell 0 _ rfl
    have HX := Lib.hid (And.intro hbx (And.intro ha hxs))
    clear hbx ho hx hxs ha hxl
    go_wp2_with fail
    refine (rpartsFault_any _ xs _ (by exact HX.out.2.1)).mono ?_
    rintro e w3 ⟨rfl, hb3⟩
    have H3 := Lib.hid (And.intro (HX.out.1.below hb3 HX.out.1.lt) (And.intro (HX.out.2.1.below hb3) (below_at HI2.out.be hb3 HI2.out.be.size)))
    clear hb3 b0
    obtain ⟨F, hF⟩ : ∃ F, F = partsFault xs := ⟨_, rfl⟩
    have HFF := Lib.hid hF
    rw [← hF]
    clear hF
    by_cases h0 : F = 0
    · subst h0
      have HR := Lib.hid (show partsRead text.data.toList = (xs, 0, 0) by unfold partsRead; rw [if_neg HL.out, HE.out, if_neg (by simp)]; simp only; rw [← HX.out.2.2, if_neg (by rw [← HFF.out]; simp)])
      have b0 := H3.out.1.cell 0 _ rfl
      go_wp2
      go_ret3
      exact ⟨_, _, _, _, rfl, HR.out, H3.out.2.1, H3.out.2.2⟩
    · have h1 : (F != 0) = true := by simpa using h0
      have HR := Lib.hid (show partsRead text.data.toList = ([], 0, F) by unfold partsRead; rw [if_neg HL.out, HE.out, if_neg (by simp)]; simp only; rw [← HX.out.2.2, ← HFF.out, if_pos h0])
      clear h0
      go_wp2
      go_ret3
      exact ⟨_, _, _, _, rfl, HR.out, Arr.nil _ _ _, H3.out.2.2⟩
end Go.Proofs.YteliiknlpfjlkaaGreatDoor
