/- The walk of TreesAsked: the law's function returns true for every list of integers, and writes nothing that was there. -/
import Derived.Test.YtafjikoeolacgaaDoorLawAskP
set_option linter.unusedVariables false
set_option linter.unusedSimpArgs false
namespace Go.Proofs.YtafjikoeolacgaaDoor
open Go Go.RowKit

set_option maxHeartbeats 16000000 in
set_option maxRecDepth 100000 in
theorem law_ask (a0 : Option Addr) (len0 cap0 : Nat) (z0 : List Int) (w : World) (w0 : IsRow .i64 w a0 len0 cap0 z0) (ht : Tab10 w) :
    Calls Tryd.prog 3 #[.slice a0 len0 cap0] w fun e w' => e = .returned (.bool true) ∧ Below w.heap.size w w' := by
  have hS := strm_start w0
  have HT := Lib.hid ht
  clear w0 ht
  go_enter Tryd.func3, Tryd.ntmps3
  go_wp2_with fail
  refine (atree_any w.heap.size 0 _ hS (by omega)).mono ?_
  rintro e w1 ⟨v, rfl, ⟨v1, v2, l, d, rfl, hl4, hd6, hA1, hA2, lo1, lo2⟩, hs1, hg1⟩
  simp only [World.size_alloc] at lo1 lo2
  have hg01 := grown_trans (World.grownBy_alloc w _ (some w.heap.size)) hg1
  have H1 := Lib.hid (And.intro hA1 (And.intro hA2 (And.intro lo1 (And.intro lo2 hg01))))
  clear hA1 hA2 lo1 lo2 hg01 hg1 hS
  go_wp2_with fail
  refine (asplitter_any w.heap.size _ _ hs1 (by omega)).mono ?_
  rintro e w2 ⟨v, rfl, ⟨key, rfl⟩, hs2, hg2⟩
  have HG2 := Lib.hid hg2
  clear hg2 hs1
  go_wp2_with fail
  refine (acustomer_any w.heap.size _ _ hs2 (by omega)).mono ?_
  rintro e w3 ⟨v, rfl, ⟨who, rfl⟩, hs3, hg3⟩
  have hA1 := (H1.out.1.grownBy HG2.out (fun b off n cap e => by have := H1.out.2.2.1 b off n cap e; omega)).grownBy hg3 (fun b off n cap e => by have := H1.out.2.2.1 b off n cap e; omega)
  have hA2 := (H1.out.2.1.grownBy HG2.out (fun b off n cap e => by have := H1.out.2.2.2.1 b off n cap e; omega)).grownBy hg3 (fun b off n cap e => by have := H1.out.2.2.2.1 b off n cap e; omega)
  have hB3 := below_row (grown_trans H1.out.2.2.2.2 (grown_trans HG2.out hg3))
  have hz3 := hB3.size
  obtain ⟨a1, cap1, rfl, -, -, -⟩ := id hA1
  obtain ⟨a2, cap2, rfl, -, -, -⟩ := id hA2
  have HS3 : Hid (AskSt w (w3.alloc (.cells #[.slice a1 l.length cap1, .slice a2 d.length cap2] 29)) w3.heap.size (.slice a1 l.length cap1) (.slice a2 d.length cap2) l d) := ⟨below_alloc hB3 _ hz3, Blk.new _ _ _, hA1.below (below_alloc (Below.refl _ _) _ (Nat.le_refl _)), hA2.below (below_alloc (Below.refl _ _) _ (Nat.le_refl _))⟩
  have hs4 : w3.heap.size < (w3.alloc (.cells #[.slice a1 l.length cap1, .slice a2 d.length cap2] 29)).heap.size := by simp
  clear hA1 hA2 hB3 hg3 hs3 hs2 H1 HG2
  have t0 := HS3.out.t.cell 0 _ rfl
  have t1 := HS3.out.t.cell 1 _ rfl
  go_wp2_with fail
  generalize w3.alloc (.cells #[.slice a1 l.length cap1, .slice a2 d.length cap2] 29) = w4 at *
  generalize w3.heap.size = tb at *
  generalize hv1 : (Value.slice a1 l.length cap1) = v1 at *
  generalize hv2 : (Value.slice a2 d.length cap2) = v2 at *
  have HV := Lib.hid (And.intro hv1 hv2)
  clear hv1 hv2
  refine (rtreeFault_any _ _ l d _ (by exact HS3.out.a1) (by exact HS3.out.a2)).mono ?_
  rintro e w5 ⟨rfl, hb5⟩
  have hz5 := hb5.size
  have HS5 := Lib.hid (HS3.out.below hb5)
  clear hb5 t0 t1
  have t0 := HS5.out.t.cell 0 _ rfl
  have t1 := HS5.out.t.cell 1 _ rfl
  go_wp2_with fail
  refine (Chain_any _ _ l d who _ (by exact HS5.out.a1) (by exact HS5.out.a2)).mono ?_
  rintro e w6 ⟨vc, rfl, hC, hb6⟩
  have hz6 := hb6.size
  have HS6 := Lib.hid (HS5.out.below hb6)
  obtain ⟨ac, cc, rfl, -, hmc, -⟩ := id hC
  have HC := Lib.hid hC
  clear hb6 t0 t1 hC
  have t0 := HS6.out.t.cell 0 _ rfl
  have t1 := HS6.out.t.cell 1 _ rfl
  go_wp2_with fail
  refine (Ratio_any _ _ l d who _ (by exact HS6.out.a1) (by exact HS6.out.a2)).mono ?_
  rintro e w7 ⟨rfl, hb7⟩
  have hz7 := hb7.size
  have HS7 := Lib.hid (HS6.out.below hb7)
  have HB7 := Lib.hid hb7
  clear hb7 t0 t1
  have t0 := HS7.out.t.cell 0 _ rfl
  have t1 := HS7.out.t.cell 1 _ rfl
  go_wp2_with fail
  refine (ports_any _ _ l d key _ (by exact HS7.out.a1) (by exact HS7.out.a2)).mono ?_
  rintro e w8 ⟨vp, rfl, hP, hb8⟩
  have hz8 := hb8.size
  have HS8 := Lib.hid (HS7.out.below hb8)
  have HB8 := Lib.hid hb8
  obtain ⟨ap, cp, rfl, -, hmp, -⟩ := id hP
  have HP := Lib.hid hP
  clear hb8 t0 t1 hP
  have t0 := HS8.out.t.cell 0 _ rfl
  have t1 := HS8.out.t.cell 1 _ rfl
  go_wp2_with fail
  refine (Free_any _ _ l d _ (by exact HS8.out.a1) (by exact HS8.out.a2) (HT.out.below HS8.out.b)).mono ?_
  rintro e w9 ⟨vf, rfl, hF, hb9⟩
  have hz9 := hb9.size
  have HS9 := Lib.hid (HS8.out.below hb9)
  have HB9 := Lib.hid hb9
  obtain ⟨af, cf, rfl, -, hmf, -⟩ := id hF
  have HF := Lib.hid hF
  clear hb9 t0 t1 hF
  have t0 := HS9.out.t.cell 0 _ rfl
  have t1 := HS9.out.t.cell 1 _ rfl
  go_wp2_with fail
  refine (Below_any _ _ l d key _ (by exact HS9.out.a1) (by exact HS9.out.a2)).mono ?_
  rintro e w10 ⟨vb, rfl, hBe, hb10⟩
  have hz10 := hb10.size
  have HS10 := Lib.hid (HS9.out.below hb10)
  have HB10 := Lib.hid hb10
  obtain ⟨ab, cb, rfl, -, hmb, -⟩ := id hBe
  have HBe := Lib.hid hBe
  clear hb10 t0 t1 hBe
  have t0 := HS10.out.t.cell 0 _ rfl
  have t1 := HS10.out.t.cell 1 _ rfl
  go_wp2_with fail
  refine (IdleA_any _ _ l d _ (by exact HS10.out.a1) (by exact HS10.out.a2)).mono ?_
  rintro e w11 ⟨vi, rfl, hI, hb11⟩
  have hz11 := hb11.size
  have HS11 := Lib.hid (HS10.out.below hb11)
  have HB11 := Lib.hid hb11
  obtain ⟨ai, ci, rfl, -, hmi, -⟩ := id hI
  have HI := Lib.hid hI
  clear hb11 t0 t1 hI
  have t0 := HS11.out.t.cell 0 _ rfl
  have t1 := HS11.out.t.cell 1 _ rfl
  by_cases hf : treeF l d = 0
  rotate_left
  · obtain ⟨e1, e2, e3, e4, e5, e6, e7, e8, e9⟩ := askF_bad hf who key
    have hfb : (treeF l d != 0) = true := by simp [hf]
    rw [e1, e2, e3, e4, e5, e6, e7, e8, e9]
    clear e1 e2 e3 e4 e5 e6 e7 e8 e9 hf HC HP HF HBe HI
    simp only [List.length_nil]
    generalize treeF l d = F at *
    go_wp2_with fail
    refine (grown_any _).mono ?_
    rintro e wy ⟨rfl, hby⟩
    have hBy := below_at HS11.out.b hby HS11.out.b.size
    clear hby
    go_wp2
    go_ret
    exact ⟨rfl, hBy⟩
  obtain ⟨e1, e2, e3⟩ := askF_good hf
  have HF2 : Hid (Arr pairCells 2 w9 (freeK l d l.length) (.slice af (freeP l d).length cf)) := by have := HF.out; rw [e1] at this ⊢; exact this
  have HI2 : Hid (Arr strCells 1 w11 (idleL l d) (.slice ai (idleP l d).length ci)) := by have := HI.out; rw [e3] at this ⊢; exact this
  have HFF := Lib.hid (And.intro hf (tok_of hf))
  have tlt := HS11.out.t.lt
  rw [hf, e2]
  clear e1 e2 e3 hf HF HI
  go_wp2_with fail
  go_region_held3 (fun w' => w'.cell? ⟨tb, 0, none⟩ = some v1 ∧ w'.cell? ⟨tb, 1, none⟩ = some v2) (go_keep)
    (first
      | (go_at_call 16; refine (hasDrop_any _ _ d who _ ?_).mono ?_; (exact HS11.out.a2.below (by (repeat (first | exact Below.refl _ _ | assumption | refine below_draws ?_ _ | refine Below.drew ?_ | refine below_alloc ?_ _ (by first | omega | (simp; done) | (simp; omega)) | refine Below.setCell ?_ (by first | omega | (simp; done) | (simp; omega)) _ | refine below_at ?_ (by assumption) (by first | omega | (simp; done) | (simp; omega)))))); rintro e wa ⟨rfl, hba⟩; have hza := hba.size; (try simp at hza); have hca := bcellAt hba tb (by first | omega | (simp; done) | (simp; omega)))
      | (go_at_call 15; refine (none_any _ _).mono ?_; rintro e w' ⟨rfl, rfl⟩)
      | (go_at_call 17; refine (hasSplitter_any _ _ l key _ ?_).mono ?_; (exact HS11.out.a1.below (by (repeat (first | exact Below.refl _ _ | assumption | refine below_draws ?_ _ | refine Below.drew ?_ | refine below_alloc ?_ _ (by first | omega | (simp; done) | (simp; omega)) | refine Below.setCell ?_ (by first | omega | (simp; done) | (simp; omega)) _ | refine below_at ?_ (by assumption) (by first | omega | (simp; done) | (simp; omega)))))); rintro e wb ⟨rfl, hbb⟩; have hzb := hbb.size; have hcb := bcellAt hbb tb (by first | omega | (simp; done) | (simp; omega))))
  have HB12 : Hid (Below w11.heap.size w11 wb) := by (repeat (first | exact Below.refl _ _ | assumption | refine below_draws ?_ _ | refine Below.drew ?_ | refine below_alloc ?_ _ (by first | omega | (simp; done) | (simp; omega)) | refine Below.setCell ?_ (by first | omega | (simp; done) | (simp; omega)) _ | refine below_at ?_ (by assumption) (by first | omega | (simp; done) | (simp; omega))))
  have hz12 : w11.heap.size ≤ wb.heap.size := HB12.out.size
  have HS12 := Lib.hid (HS11.out.below HB12.out)
  rw [one_is HFF.out.1, two_is HFF.out.1]
  clear hba hbb hca hcb t0 t1
  go_upto_if 146 with fail
  go_cut [23, 26, 27] from 30 to 234 (fun c n t wc => Arr strCells 1 wc (askK l d who) c ∧ n = .int .i64 (askR l d who).1 ∧ t = .int .i64 (askR l d who).2 ∧ Below wb.heap.size wb wc)
  case first =>
    have t0 := HS12.out.t.cell 0 _ rfl
    have t1 := HS12.out.t.cell 1 _ rfl
    rcases hd : dropW d who with _ | x
    · obtain ⟨e1, e2, e3⟩ := ask_none HFF.out.1 hd
      have HE := Lib.hid (And.intro e2 (And.intro e3 e1))
      have hq1 : (askF l d who == 0) = false := by rw [e1]; rfl
      have hq2 : decide (askF l d who = 0) = false := by rw [e1]; rfl
      clear e1 e2 e3 hd
      go_wp2
      go_meet
      exact ⟨by rw [HE.out.1]; exact Arr.nil _ _ _, by rw [HE.out.2.1], by rw [HE.out.2.1, HE.out.2.2], Below.refl _ _⟩
    · obtain ⟨e1, e2, e3, e4⟩ := ask_some HFF.out.1 hd
      have HE := Lib.hid (And.intro e2 (And.intro e3 (And.intro e4 hd)))
      have hq1 : (askF l d who == 0) = true := by rw [e1]; rfl
      have hq2 : decide (askF l d who = 0) = true := by rw [e1]; rfl
      clear e1 e2 e3 e4 hd
      go_wp2_with fail
      refine (chainOfR_any _ _ l d who x _ (by exact HS12.out.a1) (by exact HS12.out.a2) HFF.out.2.s.len HE.out.2.2.2 HE.out.2.2.1).mono ?_
      rintro e wd ⟨vk, rfl, hk, hbd⟩
      have hzd := hbd.size
      have HSd := Lib.hid (HS12.out.below hbd)
      have HK := Lib.hid (And.intro hk hbd)
      clear hk hbd t0 t1
      have t0 := HSd.out.t.cell 0 _ rfl
      have t1 := HSd.out.t.cell 1 _ rfl
      go_wp2_with fail
      refine (ratioOf_any _ _ l d who x _ (by exact HSd.out.a1) (by exact HSd.out.a2) HFF.out.2.s HE.out.2.2.2 HE.out.2.2.1).mono ?_
      rintro e we ⟨rfl, hbe⟩
      go_wp2
      go_meet
      exact ⟨by rw [HE.out.1]; exact HK.out.1.below hbe, by rw [HE.out.2.1], by rw [HE.out.2.1], below_at HK.out.2 hbe hzd⟩
  case rest =>
  obtain ⟨hVC, rfl, rfl, hBc⟩ := hcut
  obtain ⟨wm, rfl⟩ : ∃ wm : World, wm = wc := ⟨_, rfl⟩
  have hzc := hBc.size
  have HVC := Lib.hid hVC
  have HB13 := Lib.hid hBc
  have HS13 := Lib.hid (HS12.out.below hBc)
  clear hVC hBc
  go_upto_if 157 with fail
  go_cut [24, 25] from 30 to 234 (fun p b wc => Arr strCells 1 wc (portsL l d key) p ∧ Arr strCells 1 wc (belowP l d key) b ∧ Below wm.heap.size wm wc)
  case first =>
    have t0 := HS13.out.t.cell 0 _ rfl
    have t1 := HS13.out.t.cell 1 _ rfl
    cases hg : getS l key with
    | none =>
      obtain ⟨e1, e2, e3⟩ := at_none HFF.out.1 hg
      have HE := Lib.hid (And.intro e2 e3)
      have hq1 : (splitterF l d key == 0) = false := by rw [e1]; rfl
      have hq2 : decide (splitterF l d key = 0) = false := by rw [e1]; rfl
      clear e1 e2 e3 hg
      go_wp2
      go_meet
      exact ⟨by rw [HE.out.1]; exact Arr.nil _ _ _, by rw [HE.out.2]; exact Arr.nil _ _ _, Below.refl _ _⟩
    | some s =>
      obtain ⟨e1, e2, e3⟩ := at_some HFF.out.1 hg
      have HE := Lib.hid (And.intro e2 (And.intro e3 hg))
      have hq1 : (splitterF l d key == 0) = true := by rw [e1]; rfl
      have hq2 : decide (splitterF l d key = 0) = true := by rw [e1]; rfl
      have tl2 := HS13.out.t.lt
      clear e1 e2 e3 hg
      go_wp2_with fail
      go_region_held3 (fun w' => w'.cell? ⟨tb, 0, none⟩ = some v1 ∧ w'.cell? ⟨tb, 1, none⟩ = some v2) (go_keep)
        (first
          | (go_at_call 20; refine (portsOf_any _ _ l d key s _ ?_ ?_ HFF.out.2 HE.out.2.2).mono ?_; (exact HS13.out.a1.below (by (repeat (first | exact Below.refl _ _ | assumption | refine below_draws ?_ _ | refine Below.drew ?_ | refine below_alloc ?_ _ (by first | omega | (simp; done) | (simp; omega)) | refine Below.setCell ?_ (by first | omega | (simp; done) | (simp; omega)) _ | refine below_at ?_ (by assumption) (by first | omega | (simp; done) | (simp; omega)))))); (exact HS13.out.a2.below (by (repeat (first | exact Below.refl _ _ | assumption | refine below_draws ?_ _ | refine Below.drew ?_ | refine below_alloc ?_ _ (by first | omega | (simp; done) | (simp; omega)) | refine Below.setCell ?_ (by first | omega | (simp; done) | (simp; omega)) _ | refine below_at ?_ (by assumption) (by first | omega | (simp; done) | (simp; omega)))))); rintro e wa ⟨vq, rfl, hvq, hba⟩; have hza := hba.size; (try simp at hza); have hca := bcellAt hba tb (by first | omega | (simp; done) | (simp; omega)))
          | (go_at_call 21; refine (belowOf_any _ _ l d key _ ?_ ?_ HFF.out.2).mono ?_; (exact HS13.out.a1.below (by (repeat (first | exact Below.refl _ _ | assumption | refine below_draws ?_ _ | refine Below.drew ?_ | refine below_alloc ?_ _ (by first | omega | (simp; done) | (simp; omega)) | refine Below.setCell ?_ (by first | omega | (simp; done) | (simp; omega)) _ | refine below_at ?_ (by assumption) (by first | omega | (simp; done) | (simp; omega)))))); (exact HS13.out.a2.below (by (repeat (first | exact Below.refl _ _ | assumption | refine below_draws ?_ _ | refine Below.drew ?_ | refine below_alloc ?_ _ (by first | omega | (simp; done) | (simp; omega)) | refine Below.setCell ?_ (by first | omega | (simp; done) | (simp; omega)) _ | refine below_at ?_ (by assumption) (by first | omega | (simp; done) | (simp; omega)))))); rintro e wg ⟨vr, rfl, hvr, hbb⟩; have hzb := hbb.size; have hcb := bcellAt hbb tb (by first | omega | (simp; done) | (simp; omega))))
      have HZ := Lib.hid (And.intro hvq (And.intro hvr (And.intro hba hbb)))
      clear hvq hvr hca hcb
      go_wp2
      go_meet
      refine ⟨by rw [HE.out.1]; exact HZ.out.1.below hbb, by rw [HE.out.2.1]; exact HZ.out.2.1, ?_⟩
      (repeat (first | exact Below.refl _ _ | assumption | refine below_draws ?_ _ | refine Below.drew ?_ | refine below_alloc ?_ _ (by first | omega | (simp; done) | (simp; omega)) | refine Below.setCell ?_ (by first | omega | (simp; done) | (simp; omega)) _ | refine below_at ?_ (by assumption) (by first | omega | (simp; done) | (simp; omega))))
  case rest =>
  obtain ⟨hVP, hVB, hBc⟩ := hcut
  obtain ⟨wn, rfl⟩ : ∃ wn : World, wn = wc := ⟨_, rfl⟩
  have hzm := hBc.size
  have HVP := Lib.hid (And.intro hVP hVB)
  have HB14 := Lib.hid hBc
  have HS14 := Lib.hid (HS13.out.below hBc)
  clear hVP hVB hBc
  go_wp2_with fail
  refine (equal_strs _ _ (askK l d who) (askK l d who) _ (by exact HC.out.below (by have b7 := HB7.out; have b8 := HB8.out; have b9 := HB9.out; have b10 := HB10.out; have b11 := HB11.out; have b12 := HB12.out; have b13 := HB13.out; have b14 := HB14.out; (repeat (first | exact Below.refl _ _ | assumption | refine below_draws ?_ _ | refine Below.drew ?_ | refine below_alloc ?_ _ (by first | omega | (simp; done) | (simp; omega)) | refine Below.setCell ?_ (by first | omega | (simp; done) | (simp; omega)) _ | refine below_at ?_ (by assumption) (by first | omega | (simp; done) | (simp; omega)))))) (by exact HVC.out.below HB14.out)).mono ?_
  rintro e w14 ⟨rfl, hb14⟩
  rw [decide_eq_true rfl]
  have hz14 := hb14.size
  have HB15 := Lib.hid hb14
  have HS15 := Lib.hid (HS14.out.below hb14)
  clear hb14
  go_wp2_with fail
  refine (equal_strs _ _ (portsL l d key) (portsL l d key) _ (by exact HP.out.below (by have b9 := HB9.out; have b10 := HB10.out; have b11 := HB11.out; have b12 := HB12.out; have b13 := HB13.out; have b14 := HB14.out; have b15 := HB15.out; (repeat (first | exact Below.refl _ _ | assumption | refine below_draws ?_ _ | refine Below.drew ?_ | refine below_alloc ?_ _ (by first | omega | (simp; done) | (simp; omega)) | refine Below.setCell ?_ (by first | omega | (simp; done) | (simp; omega)) _ | refine below_at ?_ (by assumption) (by first | omega | (simp; done) | (simp; omega)))))) (by exact HVP.out.1.below HB15.out)).mono ?_
  rintro e w15 ⟨rfl, hb15⟩
  rw [decide_eq_true rfl]
  have hz15 := hb15.size
  have HB16 := Lib.hid hb15
  have HS16 := Lib.hid (HS15.out.below hb15)
  clear hb15
  go_wp2_with fail
  refine (equal_strs _ _ (belowP l d key) (belowP l d key) _ (by exact HBe.out.below (by have b11 := HB11.out; have b12 := HB12.out; have b13 := HB13.out; have b14 := HB14.out; have b15 := HB15.out; have b16 := HB16.out; (repeat (first | exact Below.refl _ _ | assumption | refine below_draws ?_ _ | refine Below.drew ?_ | refine below_alloc ?_ _ (by first | omega | (simp; done) | (simp; omega)) | refine Below.setCell ?_ (by first | omega | (simp; done) | (simp; omega)) _ | refine below_at ?_ (by assumption) (by first | omega | (simp; done) | (simp; omega)))))) (by exact HVP.out.2.below (by have b15 := HB15.out; have b16 := HB16.out; (repeat (first | exact Below.refl _ _ | assumption | refine below_draws ?_ _ | refine Below.drew ?_ | refine below_alloc ?_ _ (by first | omega | (simp; done) | (simp; omega)) | refine Below.setCell ?_ (by first | omega | (simp; done) | (simp; omega)) _ | refine below_at ?_ (by assumption) (by first | omega | (simp; done) | (simp; omega))))))).mono ?_
  rintro e w16 ⟨rfl, hb16⟩
  rw [decide_eq_true rfl]
  have hz16 := hb16.size
  have HB17 := Lib.hid hb16
  have HS17 := Lib.hid (HS16.out.below hb16)
  clear hb16
  have t0 := HS17.out.t.cell 0 _ rfl
  have t1 := HS17.out.t.cell 1 _ rfl
  go_wp2_with fail
  refine (freeOf_any _ _ l d _ (by exact HS17.out.a1) (by exact HS17.out.a2) HFF.out.2 (HT.out.below HS17.out.b)).mono ?_
  rintro e w17 ⟨vo, rfl, ho, hb17⟩
  have hz17 := hb17.size
  have HB18 := Lib.hid hb17
  have HS18 := Lib.hid (HS17.out.below hb17)
  have HO := Lib.hid ho
  clear hb17 ho t0 t1
  go_wp2_with fail
  refine (same_pair _ _ (freeK l d l.length) _ (by exact HF2.out.below (by have b10 := HB10.out; have b11 := HB11.out; have b12 := HB12.out; have b13 := HB13.out; have b14 := HB14.out; have b15 := HB15.out; have b16 := HB16.out; have b17 := HB17.out; have b18 := HB18.out; (repeat (first | exact Below.refl _ _ | assumption | refine below_draws ?_ _ | refine Below.drew ?_ | refine below_alloc ?_ _ (by first | omega | (simp; done) | (simp; omega)) | refine Below.setCell ?_ (by first | omega | (simp; done) | (simp; omega)) _ | refine below_at ?_ (by assumption) (by first | omega | (simp; done) | (simp; omega)))))) (by exact HO.out)).mono ?_
  rintro e w18 ⟨rfl, hb18⟩
  have hz18 := hb18.size
  have HB19 := Lib.hid hb18
  have HS19 := Lib.hid (HS18.out.below hb18)
  clear hb18
  have t0 := HS19.out.t.cell 0 _ rfl
  have t1 := HS19.out.t.cell 1 _ rfl
  go_wp2_with fail
  refine (idleOf_any _ _ l d _ (by exact HS19.out.a1) (by exact HS19.out.a2) HFF.out.2).mono ?_
  rintro e w19 ⟨vj, rfl, hj, hb19⟩
  have hz19 := hb19.size
  have HB20 := Lib.hid hb19
  have HS20 := Lib.hid (HS19.out.below hb19)
  have HJ := Lib.hid hj
  clear hb19 hj t0 t1
  go_wp2_with fail
  refine (equal_strs _ _ (idleL l d) (idleL l d) _ (by exact HI2.out.below (by have b12 := HB12.out; have b13 := HB13.out; have b14 := HB14.out; have b15 := HB15.out; have b16 := HB16.out; have b17 := HB17.out; have b18 := HB18.out; have b19 := HB19.out; have b20 := HB20.out; (repeat (first | exact Below.refl _ _ | assumption | refine below_draws ?_ _ | refine Below.drew ?_ | refine below_alloc ?_ _ (by first | omega | (simp; done) | (simp; omega)) | refine Below.setCell ?_ (by first | omega | (simp; done) | (simp; omega)) _ | refine below_at ?_ (by assumption) (by first | omega | (simp; done) | (simp; omega)))))) (by exact HJ.out)).mono ?_
  rintro e w20 ⟨rfl, hb20⟩
  rw [decide_eq_true rfl]
  have hz20 := hb20.size
  have HS21 := Lib.hid (HS20.out.below hb20)
  clear hb20
  go_wp2_with fail
  refine (grown_any _).mono ?_
  rintro e wy ⟨rfl, hby⟩
  have hBy := below_at HS21.out.b hby HS21.out.b.size
  clear hby
  go_wp2
  go_ret
  exact ⟨rfl, hBy⟩
end Go.Proofs.YtafjikoeolacgaaDoor
