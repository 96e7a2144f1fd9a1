/- The walk of LossesAreOneFromBothEnds: the law's function returns true for every list of integers, and writes nothing that was there. -/
import Derived.Test.YtagpcgnlbgndmaaRun
import Derived.Test.YtagpcgnlbgndmaaRev
import Derived.Test.YtagpcgnlbgndmaaAppA
import Derived.Test.YtagpcgnlbgndmaaKeepB
import Derived.Test.YtagpcgnlbgndmaaReady
import Derived.Test.YtagpcgnlbgndmaaStream4
import Derived.Test.YtagpcgnlbgndmaaLawHead
set_option linter.unusedVariables false
set_option linter.unusedSimpArgs false
namespace Go.Proofs.Ytagpcgnlbgndmaa
open Go Go.RowKit

/-- what the walk carries -/
structure TwoP (p q : List Part) (x : Losses) (v1 v2 : Value) (b : Nat) (w : World) : Prop where
  P : Arr Part.cells 2 w p v1
  Q : Arr Part.cells 2 w q v2
  K : Blk w b #[.int .i64 x.perKm, .int .i64 x.conn, .int .i64 x.dblg, .int .i64 x.exc] 29
theorem TwoP.below {p q : List Part} {x : Losses} {v1 v2 : Value} {b : Nat} {w w' : World} (h : TwoP p q x v1 v2 b w) (hB : Below w.heap.size w w') : TwoP p q x v1 v2 b w' :=
  ⟨h.P.below hB, h.Q.below hB, h.K.below hB h.K.lt⟩

def CellsX (x : Losses) (b : Nat) (w' : World) : Prop := w'.cell? ⟨b, 0, none⟩ = some (.int .i64 x.perKm) ∧ w'.cell? ⟨b, 1, none⟩ = some (.int .i64 x.conn) ∧ w'.cell? ⟨b, 2, none⟩ = some (.int .i64 x.dblg) ∧ w'.cell? ⟨b, 3, none⟩ = some (.int .i64 x.exc)
theorem TwoP.s {p q : List Part} {x : Losses} {v1 v2 : Value} {b : Nat} {w : World} (h : TwoP p q x v1 v2 b w) : CellsX x b w :=
  ⟨h.K.cell 0 _ rfl, h.K.cell 1 _ rfl, h.K.cell 2 _ rfl, h.K.cell 3 _ rfl⟩

theorem parts_cat {p q : List Part} (hl : p.length + q.length ≤ 1000) (h1 : partsFault p = 0) (h2 : partsFault q = 0) : partsFault (p ++ q) = 0 := by
  rw [partsFault_zero] at *
  refine ⟨by simp; omega, fun r hr => ?_⟩
  rcases List.mem_append.1 hr with h | h
  · exact h1.2 r h
  · exact h2.2 r h
theorem parts_turned {p : List Part} (h1 : partsFault p = 0) : partsFault p.reverse = 0 := by
  rw [partsFault_zero] at *
  exact ⟨by simpa using h1.1, fun r hr => h1.2 r (by simpa using hr)⟩
theorem loss_right {p : List Part} {x : Losses} (h1 : partsFault p = 0) (hx : lossesFault x = 0) : lossF p x = 0 ∧ lossV p x = total p x := by
  have h := lossF_zero.2 ⟨h1, hx⟩
  exact ⟨h, by unfold lossV; rw [if_pos h]⟩
theorem total_cat (p q : List Part) (x : Losses) : total (p ++ q) x = total p x + total q x := by unfold total; simp
theorem total_turned (p : List Part) (x : Losses) : total p.reverse x = total p x := by
  induction p with
  | nil => rfl
  | cons a p ih => rw [List.reverse_cons, total_cat, ih]; unfold total; simp; omega
theorem running_sorted {p : List Part} {x : Losses} (h1 : partsFault p = 0) (hx : lossesFault x = 0) : ∀ i (h : i + 1 < (running p x 0).length), (running p x 0)[i] ≤ (running p x 0)[i + 1] := by
  intro i h
  have hl : i + 1 < p.length := by rwa [running_len] at h
  rw [running_at, running_at]
  rw [total_take_succ p x (i + 1) hl]
  have := (lossOf_bound ((partsFault_zero.1 h1).2 p[i + 1] (List.getElem_mem _)) (lossesFault_zero.1 hx)).1
  omega
theorem running_last {p : List Part} {x : Losses} (h : 0 < p.length) : (running p x 0)[p.length - 1]'(by rw [running_len]; omega) = total p x := by
  rw [running_at, Int.zero_add, List.take_of_length_le (by omega)]


set_option maxHeartbeats 16000000 in
set_option maxRecDepth 100000 in
theorem law_loss (a0 : Option Addr) (len0 cap0 : Nat) (z0 : List Int) (w : World) (w0 : IsRow .i64 w a0 len0 cap0 z0) :
    Calls Try.prog 6 #[.slice a0 len0 cap0] w fun e w' => e = .returned (.bool true) ∧ Below w.heap.size w w' := by
  have hS := strm_start w0
  obtain ⟨i0, hi, hz0, hz1, hz2⟩ := info_parts infoPart
  clear w0
  go_enter Try.func6, Try.ntmps6
  go_wp2_with fail
  refine (rightParts_any w.heap.size 0 6 _ hS (by omega) (by omega)).mono ?_
  rintro e w1 ⟨v1, rfl, ⟨p, hpm, hpf, hp, hpl⟩, hs1, hg1⟩
  go_wp2_with fail
  refine (rightParts_any w.heap.size _ 6 _ hs1 (by omega) (by omega)).mono ?_
  rintro e w2 ⟨v2, rfl, ⟨q, hqm, hqf, hq, hql⟩, hs2, hg2⟩
  go_wp2_with fail
  refine (lossTable_any w.heap.size _ _ hs2 (by omega)).mono ?_
  rintro e w3 ⟨v3, rfl, ⟨x, rfl⟩, hs3, hg3⟩
  have hP := (hp.grownBy hg2 hpl).grownBy hg3 hpl
  have hQ := hq.grownBy hg3 hql
  have hB : Below w.heap.size w w3 := below_row (grown_trans (World.grownBy_alloc w _ _) (grown_trans hg1 (grown_trans hg2 hg3)))
  have hz3 := hB.size
  obtain ⟨av, capv, rfl, -, -, -⟩ := hp
  obtain ⟨aq, capq, rfl, -, -, -⟩ := hq
  have HS := Lib.hid (And.intro hP (And.intro hQ hB))
  have HPF := Lib.hid hpf
  have HQF := Lib.hid hqf
  clear hS hpf hpl hs1 hg1 hs2 hg2 hs3 hg3 hP hB hQ hqf hql
  go_wp2_with fail
  have C0 : TwoP p q x (.slice av p.length capv) (.slice aq q.length capq) w3.heap.size (w3.alloc (.cells #[.int .i64 x.perKm, .int .i64 x.conn, .int .i64 x.dblg, .int .i64 x.exc] 29)) :=
    ⟨HS.out.1.below (by (repeat (first | exact Below.refl _ _ | assumption | refine below_draws ?_ _ | refine Below.drew ?_ | refine below_alloc ?_ _ (by first | omega | (simp; done) | (simp; omega)) | refine Below.setCell ?_ (by first | omega | (simp; done) | (simp; omega)) _ | refine below_at ?_ (by assumption) (by first | omega | (simp; done) | (simp; omega))))), HS.out.2.1.below (by (repeat (first | exact Below.refl _ _ | assumption | refine below_draws ?_ _ | refine Below.drew ?_ | refine below_alloc ?_ _ (by first | omega | (simp; done) | (simp; omega)) | refine Below.setCell ?_ (by first | omega | (simp; done) | (simp; omega)) _ | refine below_at ?_ (by assumption) (by first | omega | (simp; done) | (simp; omega))))), Blk.new w3 _ _⟩
  have hB0 : Below w.heap.size w (w3.alloc (.cells #[.int .i64 x.perKm, .int .i64 x.conn, .int .i64 x.dblg, .int .i64 x.exc] 29)) := by have h3 := HS.out.2.2; (repeat (first | exact Below.refl _ _ | assumption | refine below_draws ?_ _ | refine Below.drew ?_ | refine below_alloc ?_ _ (by first | omega | (simp; done) | (simp; omega)) | refine Below.setCell ?_ (by first | omega | (simp; done) | (simp; omega)) _ | refine below_at ?_ (by assumption) (by first | omega | (simp; done) | (simp; omega))))
  generalize (w3.alloc (.cells #[.int .i64 x.perKm, .int .i64 x.conn, .int .i64 x.dblg, .int .i64 x.exc] 29)) = W0 at *
  generalize w3.heap.size = b at *
  clear HS
  have H0 := Lib.hid (And.intro C0 hB0)
  have hz0' := hB0.size
  clear C0 hB0
  have s0 := H0.out.1.K.cell 0 _ rfl; have s1 := H0.out.1.K.cell 1 _ rfl; have s2 := H0.out.1.K.cell 2 _ rfl; have s3 := H0.out.1.K.cell 3 _ rfl; have q0 := H0.out.1.K.lt
  refine (rlossesFault_any x _).mono ?_
  rintro e w4 ⟨rfl, hb4⟩
  have H4 := Lib.hid (And.intro (H0.out.1.below hb4) (below_at H0.out.2 hb4 (by omega))); have hz4 := hb4.size; clear hb4 s0 s1 s2 s3 q0; have s0 := H4.out.1.K.cell 0 _ rfl; have s1 := H4.out.1.K.cell 1 _ rfl; have s2 := H4.out.1.K.cell 2 _ rfl; have s3 := H4.out.1.K.cell 3 _ rfl; have q0 := H4.out.1.K.lt
  by_cases hx0 : lossesFault x = 0
  · have hx1 : (lossesFault x != 0) = false := by simp [hx0]
    have HX := Lib.hid hx0
    have hbp := total_bound (lossesFault_zero.1 hx0) (partsFault_zero.1 HPF.out).2
    have hbq := total_bound (lossesFault_zero.1 hx0) (partsFault_zero.1 HQF.out).2
    obtain ⟨tp0, tp1⟩ := hbp
    obtain ⟨tq0, tq1⟩ := hbq
    have tp2 : total p x ≤ 1200000 := by omega
    have tq2 : total q x ≤ 1200000 := by omega
    clear hx0 tp1 tq1
    go_wp2_with fail
    refine (clone_part _ p _ H4.out.1.P (by omega)).mono ?_
    rintro e w5 ⟨v5, rfl, hcl, hb5⟩
    have HCL := Lib.hid hcl
    have hz5 := hb5.size
    have HB5 := Lib.hid hb5
    have H5 := Lib.hid (And.intro (H4.out.1.below hb5) (below_at H4.out.2 hb5 (by omega)))
    clear hcl hb5 s0 s1 s2 s3 q0
    have s0 := H5.out.1.K.cell 0 _ rfl; have s1 := H5.out.1.K.cell 1 _ rfl; have s2 := H5.out.1.K.cell 2 _ rfl; have s3 := H5.out.1.K.cell 3 _ rfl; have q0 := H5.out.1.K.lt
    go_wp2_with fail
    refine (reverse_part v5 p _ w4.heap.size HCL.out.1 (by omega)).mono ?_
    rintro e w6 ⟨rfl, hrv, hb6⟩
    have hb46 := HB5.out.trans hb6
    have H6 := Lib.hid (And.intro (H4.out.1.below hb46) (below_at H4.out.2 hb46 (by omega)))
    have HRV := Lib.hid hrv
    have hz6 := hb46.size
    have hz6' := hb6.size
    clear hrv hb6 hb46 HCL HB5 s0 s1 s2 s3 q0
    have s0 := H6.out.1.K.cell 0 _ rfl; have s1 := H6.out.1.K.cell 1 _ rfl; have s2 := H6.out.1.K.cell 2 _ rfl; have s3 := H6.out.1.K.cell 3 _ rfl; have q0 := H6.out.1.K.lt
    have HLP : Hid (lossF p x = 0 ∧ lossV p x = total p x) := loss_right HPF.out HX.out
    have hL := loss_any (.slice av p.length capv) p x w6 H6.out.1.P
    rw [HLP.out.1, HLP.out.2] at hL
    have HL := Lib.hid hL
    clear hL
    go_wp2_with fail
    refine HL.out.mono ?_
    clear HL
    rintro e w7 ⟨rfl, hb7⟩
    have HRV7 := Lib.hid (HRV.out.below hb7)
    clear HRV
    have H7 := Lib.hid (And.intro (H6.out.1.below hb7) (below_at H6.out.2 hb7 (by omega))); have hz7 := hb7.size; clear hb7 s0 s1 s2 s3 q0; have s0 := H7.out.1.K.cell 0 _ rfl; have s1 := H7.out.1.K.cell 1 _ rfl; have s2 := H7.out.1.K.cell 2 _ rfl; have s3 := H7.out.1.K.cell 3 _ rfl; have q0 := H7.out.1.K.lt
    have hL := loss_any v5 p.reverse x w7 HRV7.out
    rw [(loss_right (parts_turned HPF.out) HX.out).1, (loss_right (parts_turned HPF.out) HX.out).2, total_turned] at hL
    have HL := Lib.hid hL
    clear hL HRV7
    go_wp2_with fail
    refine HL.out.mono ?_
    clear HL
    rintro e w8 ⟨rfl, hb8⟩
    have H8 := Lib.hid (And.intro (H7.out.1.below hb8) (below_at H7.out.2 hb8 (by omega))); have hz8 := hb8.size; clear hb8 s0 s1 s2 s3 q0; have s0 := H8.out.1.K.cell 0 _ rfl; have s1 := H8.out.1.K.cell 1 _ rfl; have s2 := H8.out.1.K.cell 2 _ rfl; have s3 := H8.out.1.K.cell 3 _ rfl; have q0 := H8.out.1.K.lt
    have hL := loss_any (.slice aq q.length capq) q x w8 H8.out.1.Q
    rw [(loss_right HQF.out HX.out).1, (loss_right HQF.out HX.out).2] at hL
    have HL := Lib.hid hL
    clear hL
    go_wp2_with fail
    refine HL.out.mono ?_
    clear HL
    rintro e w9 ⟨rfl, hb9⟩
    have H9 := Lib.hid (And.intro (H8.out.1.below hb9) (below_at H8.out.2 hb9 (by omega))); have hz9 := hb9.size; clear hb9 s0 s1 s2 s3 q0; have s0 := H9.out.1.K.cell 0 _ rfl; have s1 := H9.out.1.K.cell 1 _ rfl; have s2 := H9.out.1.K.cell 2 _ rfl; have s3 := H9.out.1.K.cell 3 _ rfl; have q0 := H9.out.1.K.lt
    go_wp2_with fail
    refine WalkT.start (CellsX x b) [] (by kernel_rfl) ?_
    have HS0 : Hid (CellsX x b w9.drew) := H9.out.1.s
    refine WalkT.take (i := 4) (v := ?_) rfl (by kernel_rfl) (by kernel_rfl) (by kernel_rfl) (by kernel_rfl) (fun _ _ _ h => h) HS0.out (Or.inl ⟨by rfl, ?_⟩) ?_; rotate_left; (· (intro wS hSw; (try unfold CellsX at hSw); obtain ⟨s0, s1, s2, s3⟩ := hSw; go_simp; try with_reducible rfl)); try simp only [Act.put, List.setIfInBounds_toArray, List.set_cons_zero, List.set_cons_succ, List.getElem_toArray, List.getElem_cons_succ, List.getElem_cons_zero]
    refine WalkT.quiet (i := 0) (v := ?_) rfl (by kernel_rfl) (by kernel_rfl) (by kernel_rfl) (fun _ _ _ h => h) (Or.inl ⟨by rfl, ?_⟩) ?_; rotate_left; (· (intro wS hSw; (try dsimp only at hSw); go_simp; try with_reducible rfl)); try simp only [Act.put, List.setIfInBounds_toArray, List.set_cons_zero, List.set_cons_succ, List.getElem_toArray, List.getElem_cons_succ, List.getElem_cons_zero]
    refine WalkT.quiet (i := 2) (v := ?_) rfl (by kernel_rfl) (by kernel_rfl) (by kernel_rfl) (fun _ _ _ h => h) (Or.inl ⟨by rfl, ?_⟩) ?_; rotate_left; (· (intro wS hSw; (try dsimp only at hSw); go_simp; try with_reducible rfl)); try simp only [Act.put, List.setIfInBounds_toArray, List.set_cons_zero, List.set_cons_succ, List.getElem_toArray, List.getElem_cons_succ, List.getElem_cons_zero]
    refine WalkT.ready (rs := [1]) (by kernel_rfl) (by simp) (AllT.cons rfl (fun K hK => ?_) AllT.nil); go_simp
    refine (clone_part _ p _ (by exact H9.out.1.P.below (by (repeat (first | exact Below.refl _ _ | assumption | refine below_draws ?_ _ | refine Below.drew ?_ | refine below_alloc ?_ _ (by first | omega | (simp; done) | (simp; omega)) | refine Below.setCell ?_ (by first | omega | (simp; done) | (simp; omega)) _ | refine below_at ?_ (by assumption) (by first | omega | (simp; done) | (simp; omega)))))) (by omega)).mono ?_
    rintro e w10 ⟨v10, rfl, hcl, hb10⟩
    have hz10 : w9.heap.size ≤ w10.heap.size := hb10.size
    have hdr : w9.drew.heap.size = w9.heap.size := rfl
    have hBw : Below w9.heap.size w9 w10 := by (repeat (first | exact Below.refl _ _ | assumption | refine below_draws ?_ _ | refine Below.drew ?_ | refine below_alloc ?_ _ (by first | omega | (simp; done) | (simp; omega)) | refine Below.setCell ?_ (by first | omega | (simp; done) | (simp; omega)) _ | refine below_at ?_ (by assumption) (by first | omega | (simp; done) | (simp; omega))))
    have H10 := Lib.hid (And.intro hcl hBw)
    clear hcl hBw hb10
    refine hK.out _ _ (fun _ _ => (H9.out.1.below H10.out.2).s) ?_; clear hK K; try simp only [Act.put, List.setIfInBounds_toArray, List.set_cons_zero, List.set_cons_succ, List.getElem_toArray, List.getElem_cons_succ, List.getElem_cons_zero]
    refine WalkT.ready (rs := [3]) (by kernel_rfl) (by simp) (AllT.cons rfl (fun K hK => ?_) AllT.nil)
    refine step_append_arr Part.cells_len (H9.out.1.Q.below H10.out.2) rfl _ _ _ (by rfl) _ 81 _ _ 16 Try.underlying26 hi hz0 hz1 hz2 rfl (by decide) _ p.length _ (by rfl) H10.out.1.1 (by rfl) (part_one q) (by unfold maxLen; omega) (by omega) (by first | omega | (simp; done) | (simp; omega)) ?_
    intro v11 w11 hown11 hg11
    have hB11 : Below w9.heap.size w9 w11 := below_grown H10.out.2 H10.out.1.1 hg11 (Nat.le_refl _) (by omega)
    have hz11 : w9.heap.size ≤ w11.heap.size := hB11.size
    have hA11 : Arr Part.cells 2 w11 (p ++ q) v11 := Arr.of_own Part.cells_len (base := w9.heap.size) (e := 81) (by simpa [List.flatMap_append] using hown11)
    have hL := loss_any v11 (p ++ q) x w11 hA11
    rw [(loss_right (parts_cat (by omega) HPF.out HQF.out) HX.out).1, (loss_right (parts_cat (by omega) HPF.out HQF.out) HX.out).2, total_cat] at hL
    have HL := Lib.hid hL
    have HB11 := Lib.hid hB11
    clear hL hA11 hown11 hg11 hB11 H10
    refine hK.out _ _ (fun _ _ => (H9.out.1.below HB11.out).s) ?_; clear hK K; try simp only [Act.put, List.setIfInBounds_toArray, List.set_cons_zero, List.set_cons_succ, List.getElem_toArray, List.getElem_cons_succ, List.getElem_cons_zero]
    refine WalkT.ready (rs := [5]) (by kernel_rfl) (by simp) (AllT.cons rfl (fun K hK => ?_) AllT.nil); go_simp
    refine HL.out.mono ?_
    clear HL
    rintro e w12 ⟨rfl, hb12⟩
    have hz12 : w11.heap.size ≤ w12.heap.size := hb12.size
    have hBw12 : Below w9.heap.size w9 w12 := HB11.out.trans (hb12.mono hz11)
    have H12 := Lib.hid (And.intro (H9.out.1.below hBw12) (below_at H9.out.2 hBw12 (by omega)))
    clear hb12 hBw12 HB11 s0 s1 s2 s3 q0
    refine hK.out _ _ (fun _ _ => H12.out.1.s) ?_; clear hK K; try simp only [Act.put, List.setIfInBounds_toArray, List.set_cons_zero, List.set_cons_succ, List.getElem_toArray, List.getElem_cons_succ, List.getElem_cons_zero]
    refine WalkT.quiet (i := 6) (v := ?_) rfl (by kernel_rfl) (by kernel_rfl) (by kernel_rfl) (fun _ _ _ h => h) (Or.inl ⟨by rfl, ?_⟩) ?_; rotate_left; (· (intro wS hSw; (try dsimp only at hSw); go_simp; try with_reducible rfl)); try simp only [Act.put, List.setIfInBounds_toArray, List.set_cons_zero, List.set_cons_succ, List.getElem_toArray, List.getElem_cons_succ, List.getElem_cons_zero]
    refine WalkT.quiet (i := 7) (v := ?_) rfl (by kernel_rfl) (by kernel_rfl) (by kernel_rfl) (fun _ _ _ h => h) (Or.inl ⟨by rfl, ?_⟩) ?_; rotate_left; (· (intro wS hSw; (try dsimp only at hSw); go_simp; try with_reducible rfl)); try simp only [Act.put, List.setIfInBounds_toArray, List.set_cons_zero, List.set_cons_succ, List.getElem_toArray, List.getElem_cons_succ, List.getElem_cons_zero]
    refine WalkT.quiet (i := 8) (v := ?_) rfl (by kernel_rfl) (by kernel_rfl) (by kernel_rfl) (fun _ _ _ h => h) (Or.inl ⟨by rfl, ?_⟩) ?_; rotate_left; (· (intro wS hSw; (try dsimp only at hSw); go_simp; try with_reducible rfl)); try simp only [Act.put, List.setIfInBounds_toArray, List.set_cons_zero, List.set_cons_succ, List.getElem_toArray, List.getElem_cons_succ, List.getElem_cons_zero]
    refine WalkT.quiet (i := 9) (v := ?_) rfl (by kernel_rfl) (by kernel_rfl) (by kernel_rfl) (fun _ _ _ h => h) (Or.inl ⟨by rfl, ?_⟩) ?_; rotate_left; (· (intro wS hSw; (try dsimp only at hSw); go_simp; try with_reducible rfl)); try simp only [Act.put, List.setIfInBounds_toArray, List.set_cons_zero, List.set_cons_succ, List.getElem_toArray, List.getElem_cons_succ, List.getElem_cons_zero]
    refine WalkT.quiet (i := 10) (v := ?_) rfl (by kernel_rfl) (by kernel_rfl) (by kernel_rfl) (fun _ _ _ h => h) (Or.inl ⟨by rfl, ?_⟩) ?_; rotate_left; (· (intro wS hSw; (try dsimp only at hSw); go_simp; try with_reducible rfl)); try simp only [Act.put, List.setIfInBounds_toArray, List.set_cons_zero, List.set_cons_succ, List.getElem_toArray, List.getElem_cons_succ, List.getElem_cons_zero]
    refine WalkT.done (by kernel_rfl) ?_
    have s0 := H12.out.1.K.cell 0 _ rfl; have s1 := H12.out.1.K.cell 1 _ rfl; have s2 := H12.out.1.K.cell 2 _ rfl; have s3 := H12.out.1.K.cell 3 _ rfl; have q0 := H12.out.1.K.lt
    go_wp2_with fail
    refine (running_any _ p x _ H12.out.1.P HLP.out.1).mono ?_
    rintro e w13 ⟨v13, rfl, hown, hb13⟩
    obtain ⟨r, hR, hrl, hrs, hrt⟩ : ∃ r : List Int, Arr intCells 1 w13 r v13 ∧ r.length = p.length ∧ (∀ i (h : i + 1 < r.length), r[i] ≤ r[i + 1]) ∧ (∀ h : p.length - 1 < r.length, 0 < p.length → r[p.length - 1] = total p x) :=
      ⟨running p x 0, Arr.of_ints hown, running_len x p 0, running_sorted HPF.out HX.out, fun _ h => running_last h⟩
    have HR := Lib.hid hR
    have HRS := Lib.hid hrs
    obtain ⟨ar, capr, e13, -, -, hcr⟩ := hR
    rw [hrl] at e13
    subst e13
    have HRT := Lib.hid (And.intro hrt hcr)
    have HRL := Lib.hid hrl
    clear hown hrs hrt hcr hrl
    have H13 := Lib.hid (And.intro (H12.out.1.below hb13) (below_at H12.out.2 hb13 (by omega))); have hz13 := hb13.size; clear hb13 s0 s1 s2 s3 q0; have s0 := H13.out.1.K.cell 0 _ rfl; have s1 := H13.out.1.K.cell 1 _ rfl; have s2 := H13.out.1.K.cell 2 _ rfl; have s3 := H13.out.1.K.cell 3 _ rfl; have q0 := H13.out.1.K.lt
    generalize hT : total p x = T at *
    generalize hU : total q x = U at *
    have HT := Lib.hid hT
    have HU := Lib.hid hU
    clear hT hU
    have hw1 : IntKind.i64.wrap (T + U) = T + U := IntWalk.i64_in _ (by omega)
    go_wp2_with fail
    have hso := sorted_int _ r _ HR.out (by rw [HRL.out]; omega) HRS.out
    refine hso.mono ?_
    clear hso
    rintro e w14 ⟨rfl, nq, rfl⟩
    have hb14 : Below w13.heap.size w13 (w13.drewN nq) := by (repeat (first | exact Below.refl _ _ | assumption | refine below_draws ?_ _ | refine Below.drew ?_ | refine below_alloc ?_ _ (by first | omega | (simp; done) | (simp; omega)) | refine Below.setCell ?_ (by first | omega | (simp; done) | (simp; omega)) _ | refine below_at ?_ (by assumption) (by first | omega | (simp; done) | (simp; omega))))
    have HRT' := Lib.hid (fun k hk => HRT.out.2 k hk)
    generalize w13.drewN nq = w14 at *
    have HB14 := Lib.hid hb14
    have H14 := Lib.hid (And.intro (H13.out.1.below hb14) (below_at H13.out.2 hb14 (by omega))); have hz14 := hb14.size; clear hb14 s0 s1 s2 s3 q0; have s0 := H14.out.1.K.cell 0 _ rfl; have s1 := H14.out.1.K.cell 1 _ rfl; have s2 := H14.out.1.K.cell 2 _ rfl; have s3 := H14.out.1.K.cell 3 _ rfl; have q0 := H14.out.1.K.lt
    by_cases hp0 : p.length = 0
    · have hp1 : ((p.length : Int) == 0) = true := by simp [hp0]
      clear hp0
      go_wp2_with fail
      refine (ready_any _).mono ?_
      rintro e w15 ⟨rfl, hb15⟩
      have hB15 := below_at H14.out.2 hb15 (by omega)
      clear hb15
      go_wp2
      go_ret
      exact ⟨rfl, hB15⟩
    · have hp1 : ((p.length : Int) == 0) = false := by rw [beq_eq_false_iff_ne]; omega
      have hpk : p.length - 1 < r.length := by rw [HRL.out]; omega
      obtain ⟨g, off, rfl, hg, hcg⟩ := HRT.out.2 (p.length - 1) hpk
      have hcc := hcg 0 _ rfl
      rw [HRT.out.1 hpk (by omega)] at hcc
      simp only [Nat.mul_one, Nat.add_zero] at hcc
      have hcell : w14.cell? ⟨g, off + (p.length - 1), none⟩ = some (.int .i64 T) := (HB14.out.cell (p := ⟨g, _, none⟩) hg).trans hcc
      clear hcg hcc
      have hw2 : IntKind.i64.wrap ((p.length : Int) - 1) = (p.length : Int) - 1 := IntWalk.i64_in _ (by omega)
      have hw3 : ((p.length : Int) - 1).toNat = p.length - 1 := by omega
      have hw4 : 0 < p.length := by omega
      clear hp0
      go_wp2_with fail
      refine (ready_any _).mono ?_
      rintro e w15 ⟨rfl, hb15⟩
      have hB15 := below_at H14.out.2 hb15 (by omega)
      clear hb15
      go_wp2
      go_ret
      exact ⟨rfl, hB15⟩
  · have hx1 : (lossesFault x != 0) = true := by simp [hx0]
    clear hx0
    go_wp2_with fail
    refine (ready_any _).mono ?_
    rintro e w5 ⟨rfl, hb5⟩
    have hB5 := below_at H4.out.2 hb5 (by omega)
    clear hb5
    go_wp2
    go_ret
    exact ⟨rfl, hB5⟩
end Go.Proofs.Ytagpcgnlbgndmaa
