/- The walk of PartsSwapped: the law's function returns true for every list of integers, and writes nothing that was there. -/
import Derived.Test.YtagpcgnlbgndmaaLawFit
import Derived.Test.YtagpcgnlbgndmaaEqual
import Derived.Test.YtagpcgnlbgndmaaCofW
set_option linter.unusedVariables false
set_option linter.unusedSimpArgs false
namespace Go.Proofs.Ytagpcgnlbgndmaa
open Go Go.RowKit

theorem chpF_four (p : List Part) (x : Losses) (o : Optics) (s : List Swap) : firstF [partsFault p, lossesFault x, opticsFault o, swapsFault p.length s] = chpF p x o s := by
  unfold chpF faultF
  simp only [firstF]
  split <;> (try split) <;> (try split) <;> simp_all
set_option maxHeartbeats 16000000 in
set_option maxRecDepth 100000 in
theorem law_swp (a0 : Option Addr) (len0 cap0 : Nat) (z0 : List Int) (w : World) (w0 : IsRow .i64 w a0 len0 cap0 z0) :
    Calls Try.prog 5 #[.slice a0 len0 cap0] w fun e w' => e = .returned (.bool true) ∧ Below w.heap.size w w' := by
  have hS := strm_start w0
  clear w0
  go_enter Try.func5, Try.ntmps5
  go_wp2_with fail
  refine (partListL_any w.heap.size 0 5 _ hS (by omega) (by omega)).mono ?_
  rintro e w1 ⟨v1, rfl, ⟨p, hpm, hp, hpl⟩, hs1, hg1⟩
  go_wp2_with fail
  refine (lossTable_any w.heap.size _ _ hs1 (by omega)).mono ?_
  rintro e w2 ⟨v2, rfl, ⟨x, rfl⟩, hs2, hg2⟩
  go_wp2_with fail
  refine (opticsOf_any w.heap.size _ _ hs2 (by omega)).mono ?_
  rintro e w3 ⟨v3, rfl, ⟨o, rfl⟩, hs3, hg3⟩
  have hP := (hp.grownBy hg2 hpl).grownBy hg3 hpl
  obtain ⟨ap, capp, rfl, -, -, -⟩ := hp
  have hG3 := grown_trans (World.grownBy_alloc w _ _) (grown_trans hg1 (grown_trans hg2 hg3))
  have hz3 := hG3.size
  have hb0 : w.heap.size < w3.heap.size := by have := hs3.lt; omega
  have HS := Lib.hid (And.intro hP (And.intro hs3 (And.intro hG3 hpl)))
  clear hS hpl hs1 hg1 hs2 hg2 hs3 hg3 hP hG3
  go_wp2_with fail
  refine (swapList_any w.heap.size _ _ p _ ((HS.out.2.1.alloc _).alloc _) (by omega) (by exact HS.out.1.below (by (repeat (first | exact Below.refl _ _ | assumption | refine below_draws ?_ _ | refine Below.drew ?_ | refine below_alloc ?_ _ (by first | omega | (simp; done) | (simp; omega)) | refine Below.setCell ?_ (by first | omega | (simp; done) | (simp; omega)) _ | refine below_at ?_ (by assumption) (by first | omega | (simp; done) | (simp; omega)))))) (by omega)).mono ?_
  rintro e w4 ⟨v4, rfl, ⟨s, hsa, hsl⟩, hs4, hg4⟩
  have h0 : FitS x o p s (.slice ap p.length capp) v4 w3.heap.size (w3.heap.size + 1) w4 := by
    refine ⟨Arr.grownBy (s := w.heap.size) (w := (w3.alloc _).alloc _) (HS.out.1.below (by (repeat (first | exact Below.refl _ _ | assumption | refine below_draws ?_ _ | refine Below.drew ?_ | refine below_alloc ?_ _ (by first | omega | (simp; done) | (simp; omega)) | refine Below.setCell ?_ (by first | omega | (simp; done) | (simp; omega)) _ | refine below_at ?_ (by assumption) (by first | omega | (simp; done) | (simp; omega)))))) hg4 HS.out.2.2.2, hsa, ?_, ?_⟩
    · exact Blk.grown (((Blk.new w3 _ _)).alloc _) hg4 (by simp; omega)
    · exact Blk.grown (Blk.newAt (by simp)) hg4 (by simp; omega)
  have hB0 : Below w.heap.size w w4 := below_row (grown_trans HS.out.2.2.1 (grown_trans (grown_trans (World.grownBy_alloc _ _ _) (World.grownBy_alloc _ _ _)) hg4))
  obtain ⟨av, capv, rfl, -, hmaxv, -⟩ := id hsa
  unfold maxLen at hmaxv
  have hz4 := hB0.size
  generalize w3.heap.size = b at *
  have H4 := Lib.hid (And.intro h0 hB0)
  clear HS hsa hsl hs4 hg4 h0 hB0
  (obtain ⟨⟨s1, s2, s3, s4⟩, s5, s6, s7⟩ := H4.out.1.s; have q1 := H4.out.1.kx.lt; have q2 := H4.out.1.ko.lt)
  have HFF := Lib.hid (chpF_four p x o s)
  go_wp2_with fail
  go_region_held3 (fun w' => w'.cell? ⟨b, 0, none⟩ = some (.int .i64 x.perKm) ∧ w'.cell? ⟨b, 1, none⟩ = some (.int .i64 x.conn) ∧ w'.cell? ⟨b, 2, none⟩ = some (.int .i64 x.dblg) ∧ w'.cell? ⟨b, 3, none⟩ = some (.int .i64 x.exc) ∧ w'.cell? ⟨b + 1, 0, none⟩ = some (.int .i64 o.launch) ∧ w'.cell? ⟨b + 1, 1, none⟩ = some (.int .i64 o.least) ∧ w'.cell? ⟨b + 1, 2, none⟩ = some (.int .i64 o.most)) (go_keep)
    (first
      | (go_at_call 20; refine (rpartsFault_any _ p _ ?_).mono ?_; (exact H4.out.1.P.below (by (repeat (first | exact Below.refl _ _ | assumption | refine below_draws ?_ _ | refine Below.drew ?_ | refine below_alloc ?_ _ (by first | omega | (simp; done) | (simp; omega)) | refine Below.setCell ?_ (by first | omega | (simp; done) | (simp; omega)) _ | refine below_at ?_ (by assumption) (by first | omega | (simp; done) | (simp; omega)))))); rintro e w5 ⟨rfl, hb5⟩; have y5 : b + 1 < w5.heap.size := (by have := hb5.size; (try simp at this); omega); have hc5 := bcellAt hb5 b (by first | omega | (simp; done) | (simp; omega)); have hd5 := bcellAt hb5 (b + 1) (by first | omega | (simp; done) | (simp; omega)))
      | (go_at_call 21; refine (rlossesFault_any x _).mono ?_; rintro e w6 ⟨rfl, hb6⟩; have y6 : b + 1 < w6.heap.size := (by have := hb6.size; (try simp at this); omega); have hc6 := bcellAt hb6 b (by first | omega | (simp; done) | (simp; omega)); have hd6 := bcellAt hb6 (b + 1) (by first | omega | (simp; done) | (simp; omega)))
      | (go_at_call 22; refine (ropticsFault_any o _).mono ?_; rintro e w7 ⟨rfl, hb7⟩; have y7 : b + 1 < w7.heap.size := (by have := hb7.size; (try simp at this); omega); have hc7 := bcellAt hb7 b (by first | omega | (simp; done) | (simp; omega)); have hd7 := bcellAt hb7 (b + 1) (by first | omega | (simp; done) | (simp; omega)))
      | (go_at_call 49; refine (rswapsFault_any _ _ p s _ ?_ ?_).mono ?_; (exact H4.out.1.P.below (by have z5 := hb5.size; have z6 := hb6.size; have z7 := hb7.size; simp only [World.size_drew] at z5; (repeat (first | exact Below.refl _ _ | assumption | refine below_draws ?_ _ | refine Below.drew ?_ | refine below_alloc ?_ _ (by first | omega | (simp; done) | (simp; omega)) | refine Below.setCell ?_ (by first | omega | (simp; done) | (simp; omega)) _ | refine below_at ?_ (by assumption) (by first | omega | (simp; done) | (simp; omega)))))); (exact H4.out.1.S.below (by have z5 := hb5.size; have z6 := hb6.size; have z7 := hb7.size; simp only [World.size_drew] at z5; (repeat (first | exact Below.refl _ _ | assumption | refine below_draws ?_ _ | refine Below.drew ?_ | refine below_alloc ?_ _ (by first | omega | (simp; done) | (simp; omega)) | refine Below.setCell ?_ (by first | omega | (simp; done) | (simp; omega)) _ | refine below_at ?_ (by assumption) (by first | omega | (simp; done) | (simp; omega)))))); rintro e w8 ⟨rfl, hb8⟩; have y8 : b + 1 < w8.heap.size := (by have := hb8.size; (try simp at this); omega); have hc8 := bcellAt hb8 b (by first | omega | (simp; done) | (simp; omega)); have hd8 := bcellAt hb8 (b + 1) (by first | omega | (simp; done) | (simp; omega)))
      | (go_at_call 19; refine (or_any _ [partsFault p, lossesFault x, opticsFault o, swapsFault p.length s] _ (by exact Arr.lit (cells := intCells) (sz := 1) (fun _ => rfl) _ [partsFault p, lossesFault x, opticsFault o, swapsFault p.length s] _ _ 4 (by rfl) rfl (by simp [maxLen]))).mono ?_; rintro e w9 ⟨rfl, rfl⟩; rw [HFF.out]))
  have HB8 : Below w4.heap.size w4 w8 := by
    have z5 := hb5.size; have z6 := hb6.size; have z7 := hb7.size; have z8 := hb8.size
    simp only [World.size_drew] at z5
    (repeat (first | exact Below.refl _ _ | assumption | refine below_draws ?_ _ | refine Below.drew ?_ | refine below_alloc ?_ _ (by first | omega | (simp; done) | (simp; omega)) | refine Below.setCell ?_ (by first | omega | (simp; done) | (simp; omega)) _ | refine below_at ?_ (by assumption) (by first | omega | (simp; done) | (simp; omega))))
  have hz8 : w4.heap.size ≤ w8.heap.size := HB8.size
  have H8 := Lib.hid (And.intro (H4.out.1.below HB8) (below_at H4.out.2 HB8 (by omega)))
  clear HB8 hb5 hb6 hb7 hb8 hc5 hc6 hc7 hc8 hd5 hd6 hd7 hd8 y5 y6 y7 y8 s1 s2 s3 s4 s5 s6 s7 q1 q2
  (obtain ⟨⟨s1, s2, s3, s4⟩, s5, s6, s7⟩ := H8.out.1.s; have q1 := H8.out.1.kx.lt; have q2 := H8.out.1.ko.lt)
  go_wp2_with fail
  refine (cheapest_any _ _ p x o s _ (by exact H8.out.1.P.below (by (repeat (first | exact Below.refl _ _ | assumption | refine below_draws ?_ _ | refine Below.drew ?_ | refine below_alloc ?_ _ (by first | omega | (simp; done) | (simp; omega)) | refine Below.setCell ?_ (by first | omega | (simp; done) | (simp; omega)) _ | refine below_at ?_ (by assumption) (by first | omega | (simp; done) | (simp; omega)))))) (by exact H8.out.1.S.below (by (repeat (first | exact Below.refl _ _ | assumption | refine below_draws ?_ _ | refine Below.drew ?_ | refine below_alloc ?_ _ (by first | omega | (simp; done) | (simp; omega)) | refine Below.setCell ?_ (by first | omega | (simp; done) | (simp; omega)) _ | refine below_at ?_ (by assumption) (by first | omega | (simp; done) | (simp; omega))))))).mono ?_
  rintro e w10 ⟨la, lcap, L, S, B, rfl, hown, hb10, hc1, hc2⟩
  have hL := Arr.of_ints hown
  have hLn := hL.len
  unfold maxLen at hLn
  have HB10 : Below w8.heap.size w8 w10 := below_at (below_alloc (Below.refl _ _) _ (Nat.le_refl _)) hb10 (by simp)
  have hz10 : w8.heap.size ≤ w10.heap.size := HB10.size
  have H10 := Lib.hid (And.intro (H8.out.1.below HB10) (And.intro (below_at H8.out.2 HB10 (by omega)) hL))
  clear HB10 hb10 hown hL s1 s2 s3 s4 s5 s6 s7 q1 q2
  (obtain ⟨⟨s1, s2, s3, s4⟩, s5, s6, s7⟩ := H10.out.1.s; have q1 := H10.out.1.kx.lt; have q2 := H10.out.1.ko.lt)
  by_cases hf : chpF p x o s = 0
  · obtain ⟨c1, c2, c3⟩ := hc2 hf
    have hf1 : (chpF p x o s != 0) = false := by simp [hf]
    have hfz := chpF_zero.1 hf
    have HC := Lib.hid (And.intro c1 (And.intro c2 (And.intro c3 (And.intro hfz.1 (swapsOk_of hfz.2)))))
    rw [hf]
    clear hf1 hfz c1 c2 c3 hc1 hc2 hf
    go_wp2_with fail
    refine (cheapestOf_any _ _ p x o s _ (by exact H10.out.1.P) (by exact H10.out.1.S) HC.out.2.2.2.1 HC.out.2.2.2.2).mono ?_
    rintro e w11 ⟨a2, cap2, L2, S2, B2, rfl, hL2, hb11, h1, h2, h3⟩
    obtain rfl : S2 = S := by rw [h1, HC.out.1]
    obtain rfl : B2 = B := by rw [h2, HC.out.2.1]
    obtain rfl : L2 = L := by rw [h3, HC.out.2.2.1]
    have hz11 := hb11.size
    have H11 := Lib.hid (And.intro (below_at H10.out.2.1 hb11 (by omega)) (And.intro (H10.out.2.2.below hb11) hL2))
    clear h1 h2 h3 hb11 hL2 s1 s2 s3 s4 s5 s6 s7 q1 q2
    go_wp2_with fail
    refine (equal_ints _ _ L2 L2 _ (by exact H11.out.2.1) (by exact H11.out.2.2)).mono ?_
    rintro e w12 ⟨rfl, hb12⟩
    rw [decide_eq_true (show L2 = L2 from rfl)]
    have hz12 := hb12.size
    have H12 := Lib.hid (below_at H11.out.1 hb12 (by omega))
    clear hb12
    go_wp2_with fail
    refine (budgeted_any _).mono ?_
    rintro e w13 ⟨rfl, hb13⟩
    have hB := below_at H12.out hb13 (by omega)
    clear hb13
    go_wp2
    go_ret
    exact ⟨rfl, hB⟩
  · have hf1 : (chpF p x o s != 0) = true := by simp [hf]
    obtain ⟨rfl, rfl, rfl⟩ := hc1 hf
    clear hc1 hc2 hf
    go_wp2_with fail
    refine (budgeted_any _).mono ?_
    rintro e w13 ⟨rfl, hb13⟩
    have hB := below_at H10.out.2.1 hb13 (by omega)
    clear hb13 s1 s2 s3 s4 s5 s6 s7 q1 q2
    go_wp2
    go_ret
    exact ⟨rfl, hB⟩
end Go.Proofs.Ytagpcgnlbgndmaa
