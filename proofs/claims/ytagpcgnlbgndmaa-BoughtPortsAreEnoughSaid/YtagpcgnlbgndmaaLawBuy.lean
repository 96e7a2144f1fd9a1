/- The walk of SplittersBought: the law's function returns true for every list of integers, and writes nothing that was there. -/
import Derived.Test.YtagpcgnlbgndmaaBuyAll
import Derived.Test.YtagpcgnlbgndmaaAsgAll
import Derived.Test.YtagpcgnlbgndmaaCostAll
import Derived.Test.YtagpcgnlbgndmaaStream7
import Derived.Test.YtagpcgnlbgndmaaGrown
import Derived.Test.YtagpcgnlbgndmaaEqual
import Derived.Test.YtagpcgnlbgndmaaKeysR
import Derived.Test.YtagpcgnlbgndmaaLawHead
import Derived.OpenShut
import Derived.Deep.CutRange
set_option linter.unusedVariables false
set_option linter.unusedSimpArgs false
namespace Go.Proofs.Ytagpcgnlbgndmaa
open Go Go.RowKit

/-- what Buy gives, its numbers as letters -/
theorem buy_letters (v : Value) (os : List Offer) (n : Int) (w : World) (h : Arr Offer.cells 2 w os v) : Calls Try.prog 38 #[v, .int .i64 n] w
    fun e w' => ∃ a cap L S B F, e = .returned (.tuple #[.slice a L.length cap, .int .i64 S, .bool B, .int .i64 F]) ∧ Arr intCells 1 w' L (.slice a L.length cap) ∧ Below w.heap.size w w' ∧ F = offersFault os n ∧
      (F ≠ 0 → S = 0 ∧ B = false ∧ L = []) ∧ (F = 0 → S = boughtS os (needN n) ∧ B = boughtB os (needN n) ∧ L = boughtL os (needN n)) := by
  refine (buy_any v os n w h).mono ?_
  rintro e w' ⟨u, rfl, hA, hb⟩
  obtain ⟨a, cap, rfl, h1, h2, h3⟩ := hA
  refine ⟨a, cap, _, _, _, _, rfl, ⟨a, cap, rfl, h1, h2, h3⟩, hb, rfl, fun hf => ?_, fun hf => ?_⟩
  · rw [if_neg hf, if_neg hf]; exact ⟨rfl, by simp [hf], rfl⟩
  · rw [if_pos hf, if_pos hf]; exact ⟨rfl, by simp [hf], rfl⟩
theorem assign_letters (v u : Value) (rows : List (List Int)) (free : List Int) (w : World) (h : Tab w rows v) (hf : Arr intCells 1 w free u) : Calls Try.prog 43 #[v, u] w
    fun e w' => ∃ a cap L S B F, e = .returned (.tuple #[.slice a L.length cap, .int .i64 S, .bool B, .int .i64 F]) ∧ Arr intCells 1 w' L (.slice a L.length cap) ∧ Below w.heap.size w w' ∧ F = tabF rows free ∧
      (F ≠ 0 → S = 0 ∧ B = false ∧ L = []) ∧ (F = 0 → S = bestS (assignedV rows free) ∧ B = bestB (assignedV rows free) ∧ L = bestL (assignedV rows free)) := by
  refine (assign_any v u rows free w h hf).mono ?_
  rintro e w' ⟨u, rfl, hA, hb⟩
  obtain ⟨a, cap, rfl, h1, h2, h3⟩ := hA
  refine ⟨a, cap, _, _, _, _, rfl, ⟨a, cap, rfl, h1, h2, h3⟩, hb, rfl, fun hf => ?_, fun hf => ?_⟩
  · rw [if_neg hf, if_neg hf]; exact ⟨rfl, by simp [hf], rfl⟩
  · rw [if_pos hf, if_pos hf]; exact ⟨rfl, by simp [hf], rfl⟩
theorem keyK : keyB ⟨#[107]⟩ = true := by decide +kernel

set_option maxHeartbeats 16000000 in
set_option maxRecDepth 100000 in
theorem law_buy (a0 : Option Addr) (len0 cap0 : Nat) (z0 : List Int) (w : World) (w0 : IsRow .i64 w a0 len0 cap0 z0) :
    Calls Try.prog 4 #[.slice a0 len0 cap0] w fun e w' => e = .returned (.bool true) ∧ Below w.heap.size w w' := by
  have hS := strm_start w0
  have HKK := Lib.hid keyK
  clear w0
  go_enter Try.func4, Try.ntmps4
  go_wp2_with fail
  refine (offers_any w.heap.size 0 _ hS (by omega)).mono ?_
  rintro e w1 ⟨v1, rfl, ⟨os, hp, hpl⟩, hs1, hg1⟩
  go_wp2_with fail
  refine (pick_lit w.heap.size _ [0, 1, 2, 5, 10, 11, 33, 100, -1, 2001] _ hs1 (by omega) (by simp) (by simp) (by first | rfl | simp) (by rfl) (by rfl)).mono ?_
  rintro e w2 ⟨v4, rfl, ⟨n, rfl, -⟩, hs2, hg2⟩
  have hP := hp.grownBy hg2 hpl
  have hB : Below w.heap.size w w2 := below_row (grown_trans (World.grownBy_alloc w _ _) (grown_trans hg1 hg2))
  have hz2 := hB.size
  obtain ⟨av, capv, rfl, -, -, -⟩ := hp
  have H2 := Lib.hid (And.intro hP (And.intro hs2 hB))
  clear hS hpl hs1 hg1 hs2 hg2 hP hB
  go_wp2_with fail
  refine (buy_letters _ os n _ (by exact H2.out.1)).mono ?_
  rintro e w3 ⟨ba, bcap, L, S, B, F, rfl, hA3, hb3, hF, hF1, hF2⟩
  have hz3 := hb3.size
  have H3 := Lib.hid (And.intro hA3 (And.intro (H2.out.1.below hb3) (And.intro (H2.out.2.1.below hb3 (Nat.le_refl _)) (below_at H2.out.2.2 hb3 hz2))))
  have HF := Lib.hid (And.intro hF (And.intro hF1 hF2))
  clear hb3 hA3 hF hF1 hF2
  go_wp2_with fail
  refine (roffersFault_any _ os n _ (by exact H3.out.2.1)).mono ?_
  rintro e w4 ⟨rfl, hb4⟩
  rw [← HF.out.1]
  have hz4 := hb4.size
  have H4 := Lib.hid (And.intro (H3.out.1.below hb4) (And.intro (H3.out.2.1.below hb4) (And.intro (H3.out.2.2.1.below hb4 (Nat.le_refl _)) (below_at H3.out.2.2.2 hb4 (by omega)))))
  clear hb4
  go_upto_if 43 with fail
  go_cut [2] from 11 to 83 (fun r wc => r = .bool false ∧ Strm wc w.heap.size (0 + 20 + 1) ∧ Below w.heap.size w wc)
  case first =>
    by_cases hf : F = 0
    · have hFo : offersFault os n = 0 := by rw [← HF.out.1]; exact hf
      obtain ⟨ok1, ok2, ok3, ok4, ok5⟩ := buyOk_of hFo
      obtain ⟨e1, e2, e3⟩ := HF.out.2.2 hf
      subst e1 e2 e3 hf
      have HK := Lib.hid (And.intro ok2 ok3)
      clear ok2 ok3 hFo
      go_wp2_with fail
      refine (bought_any _ os n (needN n) _ (by exact H4.out.2.1) ok4 ok5 (by unfold needN; omega) HK.out.1 HK.out.2 ok1).mono ?_
      rintro e w5 ⟨u5, rfl, hA5, hb5⟩
      have hz5 := hb5.size
      obtain ⟨ca, ccap, rfl, -, -, -⟩ := id hA5
      have H5 := Lib.hid (And.intro (H4.out.1.below hb5) (And.intro hA5 (And.intro (H4.out.2.2.1.below hb5 (Nat.le_refl _)) (below_at H4.out.2.2.2 hb5 (by omega)))))
      clear hb5 hA5
      generalize boughtL os (needN n) = l at *
      generalize boughtS os (needN n) = sm at *
      generalize boughtB os (needN n) = bo at *
      go_wp2_with fail
      refine (equal_ints _ _ l l _ (by exact H5.out.1) (by exact H5.out.2.1)).mono ?_
      rintro e w6 ⟨rfl, hb6⟩
      rw [decide_eq_true (rfl : l = l)]
      have H6 := Lib.hid (And.intro (H5.out.2.2.1.below hb6 (Nat.le_refl _)) (below_at H5.out.2.2.2 hb6 (by omega)))
      clear hb6
      go_wp2
      go_meet
      exact ⟨rfl, H6.out⟩
    · obtain ⟨e1, e2, e3⟩ := HF.out.2.1 hf
      subst e1 e2 e3
      have hfb : (F != 0) = true := by simp [hf]
      have HFF := Lib.hid hf
      clear hf
      go_wp2
      go_meet
      exact ⟨rfl, H4.out.2.2⟩
  case rest =>
  obtain ⟨rfl, hst, hB⟩ := hcut
  have hzc := hB.size
  have HC := Lib.hid hB
  have hsl := hst.lt
  clear hB
  go_wp2_with fail
  refine (costTable_any w.heap.size _ _ hst (by omega)).mono ?_
  rintro e w5 ⟨v5, rfl, ⟨tv, fv, rows, free, rfl, hT, hFr⟩, hg5⟩
  have hB5 := grown_row hg5 (B := w.heap.size) (Nat.le_refl _) (by omega)
  have hz5 := hg5.size
  obtain ⟨ta, tcap, rfl, -, -, -⟩ := id hT
  obtain ⟨fa, fcap, rfl, -, -, -⟩ := id hFr
  have H5 := Lib.hid (And.intro hT (And.intro hFr (below_at HC.out hB5 (Nat.le_refl _))))
  clear hT hFr hB5 hg5 hst
  go_wp2_with fail
  refine (assign_letters _ _ rows free _ (by exact H5.out.1) (by exact H5.out.2.1)).mono ?_
  rintro e w6 ⟨aa, acap, L2, S2, B2, F2, rfl, hA6, hb6, hF, hF1, hF2⟩
  have hz6 := hb6.size
  have H6 := Lib.hid (And.intro (H5.out.1.below hb6) (And.intro (H5.out.2.1.below hb6) (And.intro hA6 (below_at H5.out.2.2 hb6 (by omega)))))
  have HF2 := Lib.hid (And.intro hF (And.intro hF1 hF2))
  clear hb6 hA6 hF hF1 hF2
  go_wp2_with fail
  refine (assignFault_any _ _ rows free _ (by exact H6.out.1) (by exact H6.out.2.1)).mono ?_
  rintro e w7 ⟨rfl, rfl⟩
  rw [← HF2.out.1]
  by_cases hf : F2 = 0
  · have hFo : tabF rows free = 0 := by rw [← HF2.out.1]; exact hf
    have HFo := Lib.hid hFo
    obtain ⟨e1, e2, e3⟩ := HF2.out.2.2 hf
    subst e1 e2 e3 hf
    clear hFo
    go_wp2_with fail
    refine (assigned_any _ _ rows free _ (by exact H6.out.1) (by exact H6.out.2.1) HFo.out).mono ?_
    rintro e w8 ⟨u8, rfl, hA8, hb8⟩
    have hz8 := hb8.size
    obtain ⟨ca, ccap, rfl, -, -, -⟩ := id hA8
    have H8 := Lib.hid (And.intro (H6.out.2.2.1.below hb8) (And.intro hA8 (below_at H6.out.2.2.2 hb8 (by omega))))
    clear hb8 hA8
    generalize assignedV rows free = st at *
    go_wp2_with fail
    refine (equal_ints _ _ (bestL st) (bestL st) _ (by exact H8.out.1) (by exact H8.out.2.1)).mono ?_
    rintro e w9 ⟨rfl, hb9⟩
    rw [decide_eq_true (rfl : bestL st = bestL st)]
    have hz9 := hb9.size
    have H9 := Lib.hid (below_at H8.out.2.2 hb9 (by omega))
    clear hb9
    go_wp2_with (go_at_call 47; refine (rkey_any _ _).mono ?_; rintro e w' ⟨rfl, rfl⟩; rw [HKK.out])
    refine (grown_any _).mono ?_
    rintro e w10 ⟨rfl, hb10⟩
    have hB10 := below_at H9.out hb10 (by omega)
    clear hb10
    go_wp2
    go_ret
    exact ⟨rfl, hB10⟩
  · obtain ⟨e1, e2, e3⟩ := HF2.out.2.1 hf
    subst e1 e2 e3
    have hfb : (F2 != 0) = true := by simp [hf]
    have HFF := Lib.hid hf
    clear hf
    go_wp2_with fail
    refine (grown_any _).mono ?_
    rintro e w10 ⟨rfl, hb10⟩
    have hB10 := below_at H6.out.2.2.2 hb10 (by omega)
    clear hb10
    go_wp2
    go_ret
    exact ⟨rfl, hB10⟩
end Go.Proofs.Ytagpcgnlbgndmaa
