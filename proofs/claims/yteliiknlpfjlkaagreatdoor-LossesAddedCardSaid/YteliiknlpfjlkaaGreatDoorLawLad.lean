/- The walk of LossesAdded: the law's function returns true for every list of integers, and writes nothing that was there. -/
import Derived.Test.YteliiknlpfjlkaaGreatDoorStream3
import Derived.Test.YteliiknlpfjlkaaGreatDoorStream4
import Derived.Test.YteliiknlpfjlkaaGreatDoorStream5
import Derived.Test.YteliiknlpfjlkaaGreatDoorRunF
import Derived.Test.YteliiknlpfjlkaaGreatDoorRefBAll
import Derived.Test.YteliiknlpfjlkaaGreatDoorEqual
import Derived.Test.YteliiknlpfjlkaaGreatDoorSwapAll
import Derived.Test.YteliiknlpfjlkaaGreatDoorTxAll
import Derived.Test.YteliiknlpfjlkaaGreatDoorTxV
import Derived.Test.YteliiknlpfjlkaaGreatDoorTxG
import Derived.Test.YteliiknlpfjlkaaGreatDoorLawHead
import Derived.Deep.RegionHeld3
import Derived.Deep.CutRange
set_option linter.unusedVariables false
set_option linter.unusedSimpArgs false
namespace Go.Proofs.YteliiknlpfjlkaaGreatDoor
open Go Go.RowKit

/-- the state behind the draws -/
structure LadSt (w : World) (b : Nat) (W : World) (v : Value) (p : List Part) (x : Losses) (o : Optics) : Prop where
  gro : w.grownBy W (some w.heap.size)
  s : Strm W w.heap.size 2000
  lx : Blk W b #[.int .i64 x.perKm, .int .i64 x.conn, .int .i64 x.dblg, .int .i64 x.exc] 29
  lo : Blk W (b + 1) #[.int .i64 o.launch, .int .i64 o.least, .int .i64 o.most] 32
  P : Arr Part.cells 2 W p v
theorem LadSt.step {w W W' : World} {b : Nat} {v : Value} {p : List Part} {x : Losses} {o : Optics} (h : LadSt w b W v p x o) (hb : Below W.heap.size W W') : LadSt w b W' v p x o :=
  ⟨grown_trans h.gro (grown_below (some w.heap.size) hb), h.s.below hb (Nat.le_refl _), h.lx.below hb h.lx.lt, h.lo.below hb h.lo.lt, h.P.below hb⟩
set_option maxHeartbeats 1000000 in
set_option maxRecDepth 100000 in
theorem law_lad (a0 : Option Addr) (len0 cap0 : Nat) (z0 : List Int) (w : World) (w0 : IsRow .i64 w a0 len0 cap0 z0) (ht : Tab10 w) (hM : MaxL w) :
    Calls Tryz.prog 3 #[.slice a0 len0 cap0] w fun e w' => e = .returned (.bool true) ∧ Below w.heap.size w w' := by
  have hS := strm_start w0
  have HL : Hid (∀ w', w.grownBy w' (some w.heap.size) → Tab10 w' ∧ MaxL w') := fun w' h => ⟨ht.below (below_row h), hM.below (below_row h)⟩
  clear w0 ht hM
  go_enter Tryz.func3, Tryz.ntmps3
  go_wp2_with fail
  refine (partList_any w.heap.size 0 8 _ hS (by omega) (by omega)).mono ?_
  rintro e w1 ⟨v1, rfl, ⟨p, hp, hpl⟩, hs1, hg1⟩
  go_wp2_with fail
  refine (lossTable_any w.heap.size _ _ hs1 (by omega)).mono ?_
  rintro e w2 ⟨v2, rfl, ⟨x, rfl⟩, hs2, hg2⟩
  go_wp2_with fail
  refine (opticsOf_any w.heap.size _ _ hs2 (by omega)).mono ?_
  rintro e w3 ⟨v3, rfl, ⟨o, rfl⟩, hs3, hg3⟩
  have hP := (hp.grownBy hg2 hpl).grownBy hg3 hpl
  have hB := grown_trans (World.grownBy_alloc w (.cells #[.slice a0 len0 cap0, .int .i64 0] 25) (some w.heap.size)) (grown_trans hg1 (grown_trans hg2 hg3))
  have HS := Lib.hid (And.intro hP (And.intro hs3 hB))
  have hPr := id hP
  obtain ⟨av, capv, rfl, -, -, -⟩ := hPr
  clear hS hp hpl hs1 hg1 hs2 hg2 hs3 hg3 hP hB
  go_wp2_with fail
  have S0 : LadSt w w3.heap.size ((w3.alloc (.cells #[.int .i64 x.perKm, .int .i64 x.conn, .int .i64 x.dblg, .int .i64 x.exc] 29)).alloc (.cells #[.int .i64 o.launch, .int .i64 o.least, .int .i64 o.most] 32)) (.slice av p.length capv) p x o :=
    ⟨grown_trans HS.out.2.2 (grown_trans (World.grownBy_alloc _ _ _) (World.grownBy_alloc _ _ _)), ((HS.out.2.1.mono (by omega)).alloc _).alloc _, (Blk.new w3 _ _).alloc _, Blk.newAt (by simp), HS.out.1.below (by (repeat (first | exact Below.refl _ _ | assumption | refine below_draws ?_ _ | refine Below.drew ?_ | refine below_alloc ?_ _ (by first | omega | (simp; done) | (simp; omega)) | refine Below.setCell ?_ (by first | omega | (simp; done) | (simp; omega)) _ | refine below_at ?_ (by assumption) (by first | omega | (simp; done) | (simp; omega)))))⟩
  generalize ((w3.alloc (.cells #[.int .i64 x.perKm, .int .i64 x.conn, .int .i64 x.dblg, .int .i64 x.exc] 29)).alloc (.cells #[.int .i64 o.launch, .int .i64 o.least, .int .i64 o.most] 32)) = W0 at *
  generalize w3.heap.size = b at *
  clear HS
  have H0 := Lib.hid S0
  clear S0
  have l0 := H0.out.lx.cell 0 _ rfl; have l1 := H0.out.lx.cell 1 _ rfl; have l2 := H0.out.lx.cell 2 _ rfl; have l3 := H0.out.lx.cell 3 _ rfl; have o0 := H0.out.lo.cell 0 _ rfl; have o1 := H0.out.lo.cell 1 _ rfl; have o2 := H0.out.lo.cell 2 _ rfl
  have sz0 : b + 1 < W0.heap.size := H0.out.lo.lt
  go_region_held3 (fun w' => w'.cell? ⟨b, 0, none⟩ = some (.int .i64 x.perKm) ∧ w'.cell? ⟨b, 1, none⟩ = some (.int .i64 x.conn) ∧ w'.cell? ⟨b, 2, none⟩ = some (.int .i64 x.dblg) ∧ w'.cell? ⟨b, 3, none⟩ = some (.int .i64 x.exc) ∧ w'.cell? ⟨b + 1, 0, none⟩ = some (.int .i64 o.launch) ∧ w'.cell? ⟨b + 1, 1, none⟩ = some (.int .i64 o.least) ∧ w'.cell? ⟨b + 1, 2, none⟩ = some (.int .i64 o.most)) (go_keep)
    (first
      | (go_at_call 10; refine (rpartsFault_any _ p _ ?_).mono ?_; (exact H0.out.P.below (by (repeat (first | exact Below.refl _ _ | assumption | refine below_draws ?_ _ | refine Below.drew ?_ | refine below_alloc ?_ _ (by first | omega | (simp; done) | (simp; omega)) | refine Below.setCell ?_ (by first | omega | (simp; done) | (simp; omega)) _ | refine below_at ?_ (by assumption) (by first | omega | (simp; done) | (simp; omega)))))); rintro e w1 ⟨rfl, hb1⟩; have y1 : b + 1 < w1.heap.size := (by have := hb1.size; (try simp at this); omega); have hc1 := bcellAt hb1 b (by first | omega | (simp; done) | (simp; omega)); have hd1 := bcellAt hb1 (b + 1) (by first | omega | (simp; done) | (simp; omega)))
      | (go_at_call 11; refine (rlossesFault_any x _).mono ?_; rintro e w2 ⟨rfl, hb2⟩; have y2 : b + 1 < w2.heap.size := (by have := hb2.size; (try simp at this); omega); have hc2 := bcellAt hb2 b (by first | omega | (simp; done) | (simp; omega)); have hd2 := bcellAt hb2 (b + 1) (by first | omega | (simp; done) | (simp; omega))))
  have HB2 : Below W0.heap.size W0 w2 := by
    have z1 := hb1.size; have z2 := hb2.size
    simp only [World.size_drew] at z1
    (repeat (first | exact Below.refl _ _ | assumption | refine below_draws ?_ _ | refine Below.drew ?_ | refine below_alloc ?_ _ (by first | omega | (simp; done) | (simp; omega)) | refine Below.setCell ?_ (by first | omega | (simp; done) | (simp; omega)) _ | refine below_at ?_ (by assumption) (by first | omega | (simp; done) | (simp; omega))))
  have H2 := Lib.hid (H0.out.step HB2)
  clear HB2 hb1 hb2 hc1 hc2 hd1 hd2 y1 y2 sz0 H0 l0 l1 l2 l3 o0 o1 o2
  try clear hSx
  have l0 := H2.out.lx.cell 0 _ rfl; have l1 := H2.out.lx.cell 1 _ rfl; have l2 := H2.out.lx.cell 2 _ rfl; have l3 := H2.out.lx.cell 3 _ rfl; have o0 := H2.out.lo.cell 0 _ rfl; have o1 := H2.out.lo.cell 1 _ rfl; have o2 := H2.out.lo.cell 2 _ rfl
  have sz2 : b + 1 < w2.heap.size := H2.out.lo.lt
  go_wp2_with fail
  go_region_held3 (fun w' => w'.cell? ⟨b, 0, none⟩ = some (.int .i64 x.perKm) ∧ w'.cell? ⟨b, 1, none⟩ = some (.int .i64 x.conn) ∧ w'.cell? ⟨b, 2, none⟩ = some (.int .i64 x.dblg) ∧ w'.cell? ⟨b, 3, none⟩ = some (.int .i64 x.exc) ∧ w'.cell? ⟨b + 1, 0, none⟩ = some (.int .i64 o.launch) ∧ w'.cell? ⟨b + 1, 1, none⟩ = some (.int .i64 o.least) ∧ w'.cell? ⟨b + 1, 2, none⟩ = some (.int .i64 o.most)) (go_keep)
    (first
      | (go_at_call 12; refine (checkParts_any _ p _ ?_).mono ?_; (exact H2.out.P.below (by (repeat (first | exact Below.refl _ _ | assumption | refine below_draws ?_ _ | refine Below.drew ?_ | refine below_alloc ?_ _ (by first | omega | (simp; done) | (simp; omega)) | refine Below.setCell ?_ (by first | omega | (simp; done) | (simp; omega)) _ | refine below_at ?_ (by assumption) (by first | omega | (simp; done) | (simp; omega)))))); rintro e w3 ⟨rfl, hb3⟩; have y3 : b + 1 < w3.heap.size := (by have := hb3.size; (try simp at this); omega); have hc3 := bcellAt hb3 b (by first | omega | (simp; done) | (simp; omega)); have hd3 := bcellAt hb3 (b + 1) (by first | omega | (simp; done) | (simp; omega)))
      | (go_at_call 13; refine (checkLosses_any x _).mono ?_; rintro e w4 ⟨rfl, hb4⟩; have y4 : b + 1 < w4.heap.size := (by have := hb4.size; (try simp at this); omega); have hc4 := bcellAt hb4 b (by first | omega | (simp; done) | (simp; omega)); have hd4 := bcellAt hb4 (b + 1) (by first | omega | (simp; done) | (simp; omega)))
      | (go_at_call 14; refine (checkOptics_any o _).mono ?_; rintro e w5 ⟨rfl, hb5⟩; have y5 : b + 1 < w5.heap.size := (by have := hb5.size; (try simp at this); omega); have hc5 := bcellAt hb5 b (by first | omega | (simp; done) | (simp; omega)); have hd5 := bcellAt hb5 (b + 1) (by first | omega | (simp; done) | (simp; omega)))
      | (go_at_call 15; refine (ropticsFault_any o _).mono ?_; rintro e w6 ⟨rfl, hb6⟩; have y6 : b + 1 < w6.heap.size := (by have := hb6.size; (try simp at this); omega); have hc6 := bcellAt hb6 b (by first | omega | (simp; done) | (simp; omega)); have hd6 := bcellAt hb6 (b + 1) (by first | omega | (simp; done) | (simp; omega))))
  have HB6 : Below w2.heap.size w2 w6 := by
    have z3 := hb3.size; have z4 := hb4.size; have z5 := hb5.size; have z6 := hb6.size
    simp only [World.size_drew] at z3
    (repeat (first | exact Below.refl _ _ | assumption | refine below_draws ?_ _ | refine Below.drew ?_ | refine below_alloc ?_ _ (by first | omega | (simp; done) | (simp; omega)) | refine Below.setCell ?_ (by first | omega | (simp; done) | (simp; omega)) _ | refine below_at ?_ (by assumption) (by first | omega | (simp; done) | (simp; omega))))
  have H6 := Lib.hid (H2.out.step HB6)
  clear HB6 hb3 hb4 hb5 hb6 hc3 hc4 hc5 hc6 hd3 hd4 hd5 hd6 y3 y4 y5 y6 sz2 H2 l0 l1 l2 l3 o0 o1 o2
  try clear hSx
  have l0 := H6.out.lx.cell 0 _ rfl; have l1 := H6.out.lx.cell 1 _ rfl; have l2 := H6.out.lx.cell 2 _ rfl; have l3 := H6.out.lx.cell 3 _ rfl; have o0 := H6.out.lo.cell 0 _ rfl; have o1 := H6.out.lo.cell 1 _ rfl; have o2 := H6.out.lo.cell 2 _ rfl
  have sz6 : b + 1 < w6.heap.size := H6.out.lo.lt
  go_wp2_with fail
  refine (loss_any _ p x _ H6.out.P).mono ?_
  rintro e w3 ⟨rfl, hb3⟩
  have H3 := Lib.hid (H6.out.step hb3)
  clear hb3 sz6 H6 l0 l1 l2 l3 o0 o1 o2
  have l0 := H3.out.lx.cell 0 _ rfl; have l1 := H3.out.lx.cell 1 _ rfl; have l2 := H3.out.lx.cell 2 _ rfl; have l3 := H3.out.lx.cell 3 _ rfl; have o0 := H3.out.lo.cell 0 _ rfl; have o1 := H3.out.lo.cell 1 _ rfl; have o2 := H3.out.lo.cell 2 _ rfl
  go_wp2_with fail
  refine (run_any _ p x _ H3.out.P).mono ?_
  rintro e w4 ⟨v4, rfl, hA4, hb4⟩
  have hAr := id hA4
  obtain ⟨av4, capv4, rfl, -, -, -⟩ := hAr
  have H4 := Lib.hid (And.intro (H3.out.step hb4) hA4)
  clear hb4 H3 hA4 l0 l1 l2 l3 o0 o1 o2
  have l0 := H4.out.1.lx.cell 0 _ rfl; have l1 := H4.out.1.lx.cell 1 _ rfl; have l2 := H4.out.1.lx.cell 2 _ rfl; have l3 := H4.out.1.lx.cell 3 _ rfl; have o0 := H4.out.1.lo.cell 0 _ rfl; have o1 := H4.out.1.lo.cell 1 _ rfl; have o2 := H4.out.1.lo.cell 2 _ rfl
  go_wp2_with fail
  refine (or_any _ [partsFault p, lossesFault x] _ (by exact Arr.lit (cells := intCells) (sz := 1) (fun _ => rfl) _ [partsFault p, lossesFault x] _ _ 2 (by rfl) rfl (by simp [maxLen]))).mono ?_
  rintro e wz ⟨rfl, rfl⟩
  rw [show firstF [partsFault p, lossesFault x] = lossF p x from rfl]
  have H5 := Lib.hid (And.intro (H4.out.1.step (below_alloc (Below.refl w4.heap.size w4) (.cells #[.int .i64 (partsFault p), .int .i64 (lossesFault x)] 34) (Nat.le_refl _))) (H4.out.2.below (below_alloc (Below.refl w4.heap.size w4) (.cells #[.int .i64 (partsFault p), .int .i64 (lossesFault x)] 34) (Nat.le_refl _))))
  clear H4 l0 l1 l2 l3 o0 o1 o2
  generalize (w4.alloc (.cells #[.int .i64 (partsFault p), .int .i64 (lossesFault x)] 34)) = w5 at *
  have l0 := H5.out.1.lx.cell 0 _ rfl; have l1 := H5.out.1.lx.cell 1 _ rfl; have l2 := H5.out.1.lx.cell 2 _ rfl; have l3 := H5.out.1.lx.cell 3 _ rfl; have o0 := H5.out.1.lo.cell 0 _ rfl; have o1 := H5.out.1.lo.cell 1 _ rfl; have o2 := H5.out.1.lo.cell 2 _ rfl
  have sz5 : b + 1 < w5.heap.size := H5.out.1.lo.lt
  go_upto_if 71 with fail
  go_cut [14, 15] from 71 to 77 (fun n v wc => n = .int .i64 (lossV p x) ∧ (∃ a cap, v = .slice a (runV p x).length cap) ∧ Arr intCells 1 wc (runV p x) v ∧ Below w5.heap.size w5 wc)
  case first =>
    by_cases hf : lossF p x = 0
    · have hf1 : (lossF p x == 0) = true := by simp [hf]
      obtain ⟨p1, p2⟩ := lossF_zero.1 hf
      have HV := Lib.hid (And.intro (partsFault_zero.1 p1) (And.intro (lossesFault_zero.1 p2) (And.intro (show lossV p x = total p x by unfold lossV; rw [if_pos hf]) (show runV p x = running p x 0 by unfold runV; rw [if_pos hf]))))
      clear hf p1 p2
      go_wp2_with fail
      go_region_held3 (fun w' => w'.cell? ⟨b, 0, none⟩ = some (.int .i64 x.perKm) ∧ w'.cell? ⟨b, 1, none⟩ = some (.int .i64 x.conn) ∧ w'.cell? ⟨b, 2, none⟩ = some (.int .i64 x.dblg) ∧ w'.cell? ⟨b, 3, none⟩ = some (.int .i64 x.exc)) (go_keep)
        (first
          | (go_at_call 19; refine (rlossOf_any _ p x _ ?_ HV.out.1.2 HV.out.1.1 HV.out.2.1).mono ?_; (exact H5.out.1.P.below (by (repeat (first | exact Below.refl _ _ | assumption | refine below_draws ?_ _ | refine Below.drew ?_ | refine below_alloc ?_ _ (by first | omega | (simp; done) | (simp; omega)) | refine Below.setCell ?_ (by first | omega | (simp; done) | (simp; omega)) _ | refine below_at ?_ (by assumption) (by first | omega | (simp; done) | (simp; omega)))))); rintro e w6 ⟨rfl, hb6⟩; have y6 : b + 1 < w6.heap.size := (by have := hb6.size; (try simp at this); omega); have hc6 := bcellAt hb6 b (by first | omega | (simp; done) | (simp; omega)); have hd6 := bcellAt hb6 (b + 1) (by first | omega | (simp; done) | (simp; omega)))
          | (go_at_call 20; refine (runningOf_any _ p x _ ?_ HV.out.1.2 HV.out.1.1 HV.out.2.1).mono ?_; (exact H5.out.1.P.below (by (repeat (first | exact Below.refl _ _ | assumption | refine below_draws ?_ _ | refine Below.drew ?_ | refine below_alloc ?_ _ (by first | omega | (simp; done) | (simp; omega)) | refine Below.setCell ?_ (by first | omega | (simp; done) | (simp; omega)) _ | refine below_at ?_ (by assumption) (by first | omega | (simp; done) | (simp; omega)))))); rintro e w7 ⟨v7, rfl, hA7, hb7⟩; (obtain ⟨av7, capv7, rfl, -, -, -⟩ := id hA7); have y7 : b + 1 < w7.heap.size := (by have := hb7.size; (try simp at this); omega); have hc7 := bcellAt hb7 b (by first | omega | (simp; done) | (simp; omega)); have hd7 := bcellAt hb7 (b + 1) (by first | omega | (simp; done) | (simp; omega))))
      have HB7 : Below w5.heap.size w5 w7 := by
        have z6 := hb6.size; have z7 := hb7.size
        simp only [World.size_drew] at z6
        (repeat (first | exact Below.refl _ _ | assumption | refine below_draws ?_ _ | refine Below.drew ?_ | refine below_alloc ?_ _ (by first | omega | (simp; done) | (simp; omega)) | refine Below.setCell ?_ (by first | omega | (simp; done) | (simp; omega)) _ | refine below_at ?_ (by assumption) (by first | omega | (simp; done) | (simp; omega))))
      go_wp2
      go_meet
      exact ⟨by rw [HV.out.2.2.1], ⟨av7, capv7, by rw [HV.out.2.2.2]⟩, by rw [HV.out.2.2.2]; exact hA7, HB7⟩
    · have hf1 : (lossF p x == 0) = false := by simp [hf]
      have HV := Lib.hid (And.intro (show lossV p x = 0 by unfold lossV; rw [if_neg hf]) (show runV p x = [] by unfold runV; rw [if_neg hf]))
      clear hf
      go_wp2
      go_meet
      rw [HV.out.1, HV.out.2]
      exact ⟨rfl, ⟨_, _, rfl⟩, Arr.nil _ _ _, Below.refl _ _⟩
  case rest =>
  obtain ⟨rfl, ⟨a6, c6, rfl⟩, hA6, hb6⟩ := hcut
  have H6 := Lib.hid (And.intro (H5.out.1.step hb6) (And.intro (H5.out.2.below hb6) hA6))
  clear hA6 hb6 H5 sz5 l0 l1 l2 l3 o0 o1 o2
  have l0 := H6.out.1.lx.cell 0 _ rfl; have l1 := H6.out.1.lx.cell 1 _ rfl; have l2 := H6.out.1.lx.cell 2 _ rfl; have l3 := H6.out.1.lx.cell 3 _ rfl; have o0 := H6.out.1.lo.cell 0 _ rfl; have o1 := H6.out.1.lo.cell 1 _ rfl; have o2 := H6.out.1.lo.cell 2 _ rfl
  obtain ⟨F, hF⟩ : ∃ F, F = lossF p x := ⟨_, rfl⟩
  obtain ⟨V, hV⟩ : ∃ V, V = lossV p x := ⟨_, rfl⟩
  rw [← hF, ← hV]
  clear hF hV
  go_wp2_with fail
  refine (equal_ints _ _ _ _ _ H6.out.2.1 H6.out.2.2).mono ?_
  rintro e w6 ⟨rfl, hb6⟩
  rw [decide_eq_true rfl]
  have H5 := Lib.hid (H6.out.1.step hb6)
  clear H6 hb6 l0 l1 l2 l3 o0 o1 o2
  have l0 := H5.out.lx.cell 0 _ rfl; have l1 := H5.out.lx.cell 1 _ rfl; have l2 := H5.out.lx.cell 2 _ rfl; have l3 := H5.out.lx.cell 3 _ rfl; have o0 := H5.out.lo.cell 0 _ rfl; have o1 := H5.out.lo.cell 1 _ rfl; have o2 := H5.out.lo.cell 2 _ rfl
  go_wp2_with fail
  refine (text_any _ p _ H5.out.P (HL.out _ H5.out.gro).1).mono ?_
  unfold TextPost
  rintro e w7 ⟨rfl, hb7⟩
  have H7 := Lib.hid (H5.out.step hb7)
  clear H5 hb7 l0 l1 l2 l3 o0 o1 o2
  have l0 := H7.out.lx.cell 0 _ rfl; have l1 := H7.out.lx.cell 1 _ rfl; have l2 := H7.out.lx.cell 2 _ rfl; have l3 := H7.out.lx.cell 3 _ rfl; have o0 := H7.out.lo.cell 0 _ rfl; have o1 := H7.out.lo.cell 1 _ rfl; have o2 := H7.out.lo.cell 2 _ rfl
  obtain ⟨PF, hPF⟩ : ∃ PF, PF = partsFault p := ⟨_, rfl⟩
  have HPF := Lib.hid hPF
  rw [← hPF]
  clear hPF
  by_cases h0 : PF = 0
  · subst h0
    rw [if_pos rfl]
    obtain ⟨T, hT⟩ : ∃ T, T = bA (partsText p) := ⟨_, rfl⟩
    have HT := Lib.hid hT
    rw [← hT]
    clear hT
    go_wp2_with fail
    refine (partLines_any _ p _ H7.out.P (HL.out _ H7.out.gro).1 HPF.out.symm).mono ?_
    rintro e w8 ⟨rfl, hb8⟩
    rw [← HT.out]
    have H8 := Lib.hid (H7.out.step hb8)
    clear H7 hb8 l0 l1 l2 l3 o0 o1 o2
    have H7 := H8
    clear H8
    have l0 := H7.out.lx.cell 0 _ rfl; have l1 := H7.out.lx.cell 1 _ rfl; have l2 := H7.out.lx.cell 2 _ rfl; have l3 := H7.out.lx.cell 3 _ rfl; have o0 := H7.out.lo.cell 0 _ rfl; have o1 := H7.out.lo.cell 1 _ rfl; have o2 := H7.out.lo.cell 2 _ rfl
    (have H8 := Lib.hid (And.intro H7.out.s H7.out.gro); clear H7 l0 l1 l2 l3 o0 o1 o2; go_wp2_with fail; refine (partString_any w.heap.size _ _ H8.out.1 (by omega) (HL.out _ H8.out.2).1 (fun w' hw' => (HL.out _ (grown_trans H8.out.2 hw')).1)).mono ?_; rintro e w9 ⟨v9, rfl, ⟨t, rfl, hts⟩, hs9, hg9⟩; have H9 := Lib.hid (grown_trans H8.out.2 hg9); clear hs9 hg9; go_wp2_with fail; refine (read_any t _ (by omega) (HL.out _ H9.out).2).mono ?_; rintro e w10 ⟨v10, xs, i, er, rfl, hr, hA10, hb10⟩; have hAr := id hA10; obtain ⟨av10, capv10, rfl, -, -, -⟩ := hAr; have H10 := Lib.hid (And.intro (grown_trans H9.out (grown_below (some w.heap.size) hb10)) (And.intro hA10 hr)); clear hA10 hb10 hr; go_wp2_with fail; refine (rread_any t _ (by omega) (HL.out _ H10.out.1).2 (HL.out _ H10.out.1).1).mono ?_; rintro e w11 ⟨v11, xs2, i2, er2, rfl, hr, hA11, hb11⟩; rw [H10.out.2.2] at hr; simp only [Prod.mk.injEq] at hr; obtain ⟨rfl, rfl, rfl⟩ := hr; have hAr := id hA11; obtain ⟨av11, capv11, rfl, -, -, -⟩ := hAr; have H11 := Lib.hid (And.intro (grown_trans H10.out.1 (grown_below (some w.heap.size) hb11)) (And.intro (H10.out.2.1.below hb11) hA11)); clear hA11 hb11; go_wp2_with fail; refine (same_part _ _ xs _ H11.out.2.1 H11.out.2.2).mono ?_; rintro e w12 ⟨rfl, hb12⟩; have H12 := Lib.hid (grown_trans H11.out.1 (grown_below (some w.heap.size) hb12)); clear hb12; go_wp2_with fail; refine (budgeted_any _).mono ?_; rintro e w13 ⟨rfl, hb13⟩; have H13 := Lib.hid (grown_trans H12.out (grown_below (some w.heap.size) hb13)); clear hb13; go_wp2; go_ret; exact ⟨rfl, below_row H13.out⟩)
  · rw [if_neg h0]
    have h1 : (PF == 0) = false := by simpa using h0
    have h2 : (PF != 0) = true := by simpa using h0
    clear h0
    rw [show bA [] = ⟨#[]⟩ from rfl]
    (have H8 := Lib.hid (And.intro H7.out.s H7.out.gro); clear H7 l0 l1 l2 l3 o0 o1 o2; go_wp2_with fail; refine (partString_any w.heap.size _ _ H8.out.1 (by omega) (HL.out _ H8.out.2).1 (fun w' hw' => (HL.out _ (grown_trans H8.out.2 hw')).1)).mono ?_; rintro e w9 ⟨v9, rfl, ⟨t, rfl, hts⟩, hs9, hg9⟩; have H9 := Lib.hid (grown_trans H8.out.2 hg9); clear hs9 hg9; go_wp2_with fail; refine (read_any t _ (by omega) (HL.out _ H9.out).2).mono ?_; rintro e w10 ⟨v10, xs, i, er, rfl, hr, hA10, hb10⟩; have hAr := id hA10; obtain ⟨av10, capv10, rfl, -, -, -⟩ := hAr; have H10 := Lib.hid (And.intro (grown_trans H9.out (grown_below (some w.heap.size) hb10)) (And.intro hA10 hr)); clear hA10 hb10 hr; go_wp2_with fail; refine (rread_any t _ (by omega) (HL.out _ H10.out.1).2 (HL.out _ H10.out.1).1).mono ?_; rintro e w11 ⟨v11, xs2, i2, er2, rfl, hr, hA11, hb11⟩; rw [H10.out.2.2] at hr; simp only [Prod.mk.injEq] at hr; obtain ⟨rfl, rfl, rfl⟩ := hr; have hAr := id hA11; obtain ⟨av11, capv11, rfl, -, -, -⟩ := hAr; have H11 := Lib.hid (And.intro (grown_trans H10.out.1 (grown_below (some w.heap.size) hb11)) (And.intro (H10.out.2.1.below hb11) hA11)); clear hA11 hb11; go_wp2_with fail; refine (same_part _ _ xs _ H11.out.2.1 H11.out.2.2).mono ?_; rintro e w12 ⟨rfl, hb12⟩; have H12 := Lib.hid (grown_trans H11.out.1 (grown_below (some w.heap.size) hb12)); clear hb12; go_wp2_with fail; refine (budgeted_any _).mono ?_; rintro e w13 ⟨rfl, hb13⟩; have H13 := Lib.hid (grown_trans H12.out (grown_below (some w.heap.size) hb13)); clear hb13; go_wp2; go_ret; exact ⟨rfl, below_row H13.out⟩)
end Go.Proofs.YteliiknlpfjlkaaGreatDoor
