/- The walk of ReachIsFarthest: the law's function returns true for every list of integers, and writes nothing that was there. -/
import Derived.Test.YtagpcgnlbgndmaaKeepC
import Derived.Test.YtagpcgnlbgndmaaReady
import Derived.Test.YtagpcgnlbgndmaaStream4
import Derived.Test.YtagpcgnlbgndmaaStream5
import Derived.Test.YtagpcgnlbgndmaaLawHead
set_option linter.unusedVariables false
set_option linter.unusedSimpArgs false
namespace Go.Proofs.Ytagpcgnlbgndmaa
open Go Go.RowKit

theorem fault_more1 {p : List Part} {x : Losses} {o : Optics} {q : Part} (hl : p.length ≤ 999) (h : faultF p x o = 0) (hq : q.Ok) : faultF (p ++ [q]) x o = 0 := by
  obtain ⟨⟨h1, h2⟩, h3, h4⟩ := faultF_zero.1 h
  refine faultF_zero.2 ⟨⟨by simp; omega, fun r hr => ?_⟩, h3, h4⟩
  rcases List.mem_append.1 hr with h | h
  · exact h2 r h
  · simp at h; subst h; exact hq
theorem margin_fibre {p : List Part} {x : Losses} {o : Optics} {n : Int} (hl : p.length ≤ 999) (h : faultF p x o = 0) (h0 : 1 ≤ n) (h1 : n ≤ 200000) : faultF (p ++ [⟨1, n⟩]) x o = 0 ∧ marginV (p ++ [⟨1, n⟩]) x o = marginV p x o - (x.perKm * n + 999) / 1000 := by
  have hq : faultF (p ++ [⟨1, n⟩]) x o = 0 := fault_more1 hl h (.inl ⟨rfl, h0, h1⟩)
  refine ⟨hq, ?_⟩
  unfold marginV
  rw [if_pos hq, if_pos h]
  have : total (p ++ [⟨1, n⟩]) x = total p x + (x.perKm * n + 999) / 1000 := by unfold total; simp [lossOf]
  omega
theorem reach_law {p : List Part} {x : Losses} {o : Optics} {n : Int} (hl : p.length ≤ 999) (h : faultF p x o = 0) (hr : reachV p x o = (n, true)) :
    0 ≤ n ∧ n ≤ 200000 ∧ farV p x o n = true ∧ (n = 200000 ∨ farV p x o (n + 1) = false) := by
  obtain ⟨_, h3, _⟩ := faultF_zero.1 h
  unfold Losses.Ok at h3
  unfold reachV at hr
  split at hr
  · simp at hr
  · rename_i hc
    have hm : 0 ≤ marginV p x o := by omega
    have hm2 := (marginV_bound p x o).2
    split at hr
    · rename_i hk
      simp only [Prod.mk.injEq, and_true] at hr
      subst hr
      refine ⟨by omega, by omega, ?_, .inl rfl⟩
      have hf := margin_fibre (n := 200000) hl h (by omega) (by omega)
      unfold farV
      rw [if_neg (by omega), if_pos hf.1, hf.2, hk]
      simp; omega
    · rename_i hk
      simp only [Prod.mk.injEq, and_true] at hr
      have hk1 : 1 ≤ x.perKm := by omega
      have hd0 : 0 ≤ marginV p x o * 1000 / x.perKm := Int.ediv_nonneg (by omega) (by omega)
      have hd1 : x.perKm * (marginV p x o * 1000 / x.perKm) ≤ marginV p x o * 1000 := Int.mul_ediv_self_le (by omega)
      have hd2 : marginV p x o * 1000 < x.perKm * (marginV p x o * 1000 / x.perKm) + x.perKm := Int.lt_mul_ediv_self_add (by omega)
      generalize marginV p x o * 1000 / x.perKm = d at *
      have hn0 : 0 ≤ n := by omega
      have hnd : n ≤ d := by omega
      have hmul : x.perKm * n ≤ x.perKm * d := Int.mul_le_mul_of_nonneg_left hnd (by omega)
      refine ⟨hn0, by omega, ?_, ?_⟩
      · unfold farV
        by_cases hz : n = 0
        · rw [if_pos hz]
        · have hf := margin_fibre (n := n) hl h (by omega) (by omega)
          rw [if_neg hz, if_pos hf.1, hf.2]
          simp only [decide_eq_true_eq]; omega
      · by_cases hb : n = 200000
        · exact .inl hb
        · right
          have hne : n = d := by omega
          have hf := margin_fibre (n := n + 1) hl h (by omega) (by omega)
          unfold farV
          rw [if_neg (by omega), if_pos hf.1, hf.2]
          have hm3 : x.perKm * (n + 1) = x.perKm * n + x.perKm := by rw [Int.mul_add, Int.mul_one]
          subst hne
          simp only [decide_eq_false_iff_not]; omega
theorem reach_some {p : List Part} {x : Losses} {o : Optics} (h : faultF p x o = 0) : (reachV p x o).2 = decide (0 ≤ marginV p x o) := by
  unfold reachV
  split
  · rename_i hc; simp; omega
  · rename_i hc
    split <;> (simp; omega)
theorem repairs_some {p : List Part} {x : Losses} {o : Optics} {s : Int} (h : faultF p x o = 0) (hs : 1 ≤ s) (hs2 : s ≤ 10000) : repairsF p x o s = 0 ∧ (repairsV p x o s).2 = decide (0 ≤ marginV p x o) ∧
    (0 ≤ marginV p x o → 0 ≤ (repairsV p x o s).1 ∧ (repairsV p x o s).1 ≤ 20000 ∧ (repairsV p x o s).1 * s ≤ marginV p x o ∧ marginV p x o < ((repairsV p x o s).1 + 1) * s) := by
  have hr : repairsF p x o s = 0 := by
    unfold repairsF; rw [if_pos h]
    have : outB s 0 10000 = false := outB_false.2 ⟨by omega, hs2⟩
    rw [this]; rfl
  have hm2 := (marginV_bound p x o).2
  refine ⟨hr, ?_, fun hm => ?_⟩
  · unfold repairsV
    split
    · rename_i hc; simp; omega
    · rename_i hc
      split <;> (simp; omega)
  · unfold repairsV
    rw [if_neg (by omega), if_neg (by omega)]
    have hd0 : 0 ≤ marginV p x o / s := Int.ediv_nonneg hm (by omega)
    have hd1 : s * (marginV p x o / s) ≤ marginV p x o := Int.mul_ediv_self_le (by omega)
    have hd2 : marginV p x o < s * (marginV p x o / s) + s := Int.lt_mul_ediv_self_add (by omega)
    have hd3 : marginV p x o / s ≤ marginV p x o := Int.ediv_le_self _ hm
    generalize marginV p x o / s = d at *
    have he : min 1000000 d = d := by omega
    rw [he]
    simp only
    have hm3 : (d + 1) * s = s * d + s := by rw [Int.add_mul, Int.one_mul, Int.mul_comm]
    rw [hm3, Int.mul_comm d s]
    omega

set_option maxHeartbeats 16000000 in
set_option maxRecDepth 100000 in
theorem law_reach (a0 : Option Addr) (len0 cap0 : Nat) (z0 : List Int) (w : World) (w0 : IsRow .i64 w a0 len0 cap0 z0) :
    Calls Try.prog 10 #[.slice a0 len0 cap0] w fun e w' => e = .returned (.bool true) ∧ Below w.heap.size w w' := by
  have hS := strm_start w0
  clear w0
  go_enter Try.func10, Try.ntmps10
  go_wp2_with fail
  refine (rightParts_any w.heap.size 0 4 _ hS (by omega) (by omega)).mono ?_
  rintro e w1 ⟨v1, rfl, ⟨p, hpm, hpf, hp, hpl⟩, hs1, hg1⟩
  go_wp2_with fail
  refine (lossTable_any w.heap.size _ _ hs1 (by omega)).mono ?_
  rintro e w2 ⟨v2, rfl, ⟨x, rfl⟩, hs2, hg2⟩
  go_wp2_with fail
  refine (opticsOf_any w.heap.size _ _ hs2 (by omega)).mono ?_
  rintro e w3 ⟨v3, rfl, ⟨o, rfl⟩, hs3, hg3⟩
  go_wp2_with fail
  refine (pick_lit w.heap.size _ [5, 10, 100] _ hs3 (by omega) (by simp) (by simp) (by first | rfl | simp) (by rfl) (by rfl)).mono ?_
  rintro e w4 ⟨v4, rfl, ⟨sp, rfl, hsp⟩, hs4, hg4⟩
  have hP := ((hp.grownBy hg2 hpl).grownBy hg3 hpl).grownBy hg4 hpl
  have hB : Below w.heap.size w w4 := below_row (grown_trans (World.grownBy_alloc w _ _) (grown_trans hg1 (grown_trans hg2 (grown_trans hg3 hg4))))
  have hz3 := hB.size
  have hsp1 : 1 ≤ sp ∧ sp ≤ 100 := by simp at hsp; omega
  obtain ⟨sp1, sp2⟩ := hsp1
  obtain ⟨av, capv, rfl, -, -, -⟩ := hp
  have HS := Lib.hid (And.intro hP hB)
  have HPF := Lib.hid hpf
  clear hS hpf hpl hs1 hg1 hs2 hg2 hs3 hg3 hs4 hg4 hsp hP hB
  go_wp2_with fail
  have C0 : Caught p x o (.slice av p.length capv) w4.heap.size (w4.heap.size + 1) (w4.heap.size + 1 + 1) (((w4.alloc (.cells #[.slice av p.length capv] 26)).alloc (.cells #[.int .i64 x.perKm, .int .i64 x.conn, .int .i64 x.dblg, .int .i64 x.exc] 29)).alloc (.cells #[.int .i64 o.launch, .int .i64 o.least, .int .i64 o.most] 32)) :=
    ⟨HS.out.1.below (by (repeat (first | exact Below.refl _ _ | assumption | refine below_draws ?_ _ | refine Below.drew ?_ | refine below_alloc ?_ _ (by first | omega | (simp; done) | (simp; omega)) | refine Below.setCell ?_ (by first | omega | (simp; done) | (simp; omega)) _ | refine below_at ?_ (by assumption) (by first | omega | (simp; done) | (simp; omega))))), ((Blk.new w4 _ _).alloc _).alloc _, (Blk.newAt (by simp)).alloc _, Blk.newAt (by simp)⟩
  have hB0 : Below w.heap.size w (((w4.alloc (.cells #[.slice av p.length capv] 26)).alloc (.cells #[.int .i64 x.perKm, .int .i64 x.conn, .int .i64 x.dblg, .int .i64 x.exc] 29)).alloc (.cells #[.int .i64 o.launch, .int .i64 o.least, .int .i64 o.most] 32)) := by have h3 := HS.out.2; (repeat (first | exact Below.refl _ _ | assumption | refine below_draws ?_ _ | refine Below.drew ?_ | refine below_alloc ?_ _ (by first | omega | (simp; done) | (simp; omega)) | refine Below.setCell ?_ (by first | omega | (simp; done) | (simp; omega)) _ | refine below_at ?_ (by assumption) (by first | omega | (simp; done) | (simp; omega))))
  generalize (((w4.alloc (.cells #[.slice av p.length capv] 26)).alloc (.cells #[.int .i64 x.perKm, .int .i64 x.conn, .int .i64 x.dblg, .int .i64 x.exc] 29)).alloc (.cells #[.int .i64 o.launch, .int .i64 o.least, .int .i64 o.most] 32)) = W0 at *
  generalize w4.heap.size = b at *
  clear HS
  have H0 := Lib.hid (And.intro C0 hB0)
  have hz0 := hB0.size
  clear C0 hB0
  obtain ⟨s0, ⟨s1, s2, s3, s4⟩, s5, s6, s7⟩ := H0.out.1.s; have q0 := H0.out.1.kp.lt; have q1 := H0.out.1.kx.lt; have q2 := H0.out.1.ko.lt
  refine (rlossesFault_any x _).mono ?_
  rintro e w4 ⟨rfl, hb4⟩
  have H4 := Lib.hid (And.intro (H0.out.1.below hb4) (below_at H0.out.2 hb4 hz0))
  have hz4 := hb4.size
  clear hb4 s0 s1 s2 s3 s4 s5 s6 s7 q0 q1 q2
  obtain ⟨s0, ⟨s1, s2, s3, s4⟩, s5, s6, s7⟩ := H4.out.1.s; have q0 := H4.out.1.kp.lt; have q1 := H4.out.1.kx.lt; have q2 := H4.out.1.ko.lt
  by_cases hx0 : lossesFault x = 0
  · have hx1 : (lossesFault x != 0) = false := by simp [hx0]
    have HX := Lib.hid hx0
    clear hx0
    go_wp2_with fail
    refine (ropticsFault_any o _).mono ?_
    rintro e w5 ⟨rfl, hb5⟩
    have H5 := Lib.hid (And.intro (H4.out.1.below hb5) (below_at H4.out.2 hb5 (by omega)))
    have hz5 := hb5.size
    clear hb5 s0 s1 s2 s3 s4 s5 s6 s7 q0 q1 q2
    obtain ⟨s0, ⟨s1, s2, s3, s4⟩, s5, s6, s7⟩ := H5.out.1.s; have q0 := H5.out.1.kp.lt; have q1 := H5.out.1.kx.lt; have q2 := H5.out.1.ko.lt
    by_cases ho0 : opticsFault o = 0
    · have ho1 : (opticsFault o != 0) = false := by simp [ho0]
      have hok := opticsFault_zero.1 ho0
      have HO := Lib.hid (And.intro ho0 hok)
      unfold Optics.Ok at hok
      obtain ⟨k1, k2, k3, k4, k5⟩ := hok
      have hfz : faultF p x o = 0 := by unfold faultF; rw [firstF_zero]; simp [HPF.out, HX.out, ho0]
      have hrs := reach_some hfz
      have hps := repairs_some hfz sp1 (by omega : sp ≤ 10000)
      obtain ⟨hp1, hp2, hp3⟩ := hps
      have hmb := marginV_bound p x o
      obtain ⟨hm1, hm2⟩ := hmb
      have HP3 := Lib.hid hp3
      clear hp3
      have HFZ := Lib.hid hfz
      have hf1 : (faultF p x o != 0) = false := by simp [hfz]
      have hf2 : (faultF p x o == 0) = true := by simp [hfz]
      have hf3 : (repairsF p x o sp != 0) = false := by simp [hp1]
      clear ho0 hfz hp1
      go_wp2_with fail
      refine (reach_any _ p x o _ (by exact H5.out.1.P)).mono ?_
      rintro e w6 ⟨rfl, hb6⟩
      have H6 := Lib.hid (And.intro (H5.out.1.below hb6) (below_at H5.out.2 hb6 (by omega)))
      have hz6 := hb6.size
      clear hb6 s0 s1 s2 s3 s4 s5 s6 s7 q0 q1 q2
      obtain ⟨s0, ⟨s1, s2, s3, s4⟩, s5, s6, s7⟩ := H6.out.1.s; have q0 := H6.out.1.kp.lt; have q1 := H6.out.1.kx.lt; have q2 := H6.out.1.ko.lt
      go_wp2_with fail
      refine (repairs_any _ p x o sp _ (by exact H6.out.1.P)).mono ?_
      rintro e w7 ⟨rfl, hb7⟩
      have H7 := Lib.hid (And.intro (H6.out.1.below hb7) (below_at H6.out.2 hb7 (by omega)))
      have hz7 := hb7.size
      clear hb7 s0 s1 s2 s3 s4 s5 s6 s7 q0 q1 q2
      obtain ⟨s0, ⟨s1, s2, s3, s4⟩, s5, s6, s7⟩ := H7.out.1.s; have q0 := H7.out.1.kp.lt; have q1 := H7.out.1.kx.lt; have q2 := H7.out.1.ko.lt
      go_wp2_with fail
      refine (margin_any _ p x o _ (by exact H7.out.1.P)).mono ?_
      rintro e w8 ⟨rfl, hb8⟩
      have H8 := Lib.hid (And.intro (H7.out.1.below hb8) (below_at H7.out.2 hb8 (by omega)))
      have hz8 := hb8.size
      clear hb8 s0 s1 s2 s3 s4 s5 s6 s7 q0 q1 q2
      obtain ⟨s0, ⟨s1, s2, s3, s4⟩, s5, s6, s7⟩ := H8.out.1.s; have q0 := H8.out.1.kp.lt; have q1 := H8.out.1.kx.lt; have q2 := H8.out.1.ko.lt
      by_cases hneg : marginV p x o < 0
      · have hd0 : decide (0 ≤ marginV p x o) = false := by simp; omega
        have hr0 : (reachV p x o).2 = false := hrs.trans hd0
        have hp0 : (repairsV p x o sp).2 = false := hp2.trans hd0
        clear hrs hp2
        go_wp2_with fail
        refine (ready_any _).mono ?_
        rintro e w9 ⟨rfl, hb9⟩
        have hB9 := below_at H8.out.2 hb9 (by omega)
        clear hb9
        go_wp2
        go_ret
        exact ⟨rfl, hB9⟩
      have hd0 : decide (0 ≤ marginV p x o) = true := by simp; omega
      have hr0 : (reachV p x o).2 = true := hrs.trans hd0
      have hp0 : (repairsV p x o sp).2 = true := hp2.trans hd0
      have hlaw := reach_law (n := (reachV p x o).1) (by omega) HFZ.out (by rw [← hr0])
      obtain ⟨k0, k1', k2', k3'⟩ := HP3.out (by omega)
      clear hrs hp2
      generalize hgn : (reachV p x o).1 = n at *
      generalize hgk : (repairsV p x o sp).1 = k at *
      generalize marginV p x o = m at *
      clear hgn hgk
      obtain ⟨n0, n1, n2, n3⟩ := hlaw
      have hks : 0 ≤ k * sp := Int.mul_nonneg k0 (by omega)
      have hks2 : (k + 1) * sp ≤ m + 100 := by rw [Int.add_mul, Int.one_mul]; omega
      have hks3 : 0 ≤ (k + 1) * sp := Int.mul_nonneg (by omega) (by omega)
      have hw1 : IntKind.i64.wrap (k * sp) = k * sp := IntWalk.i64_in _ (by omega)
      have hw2 : IntKind.i64.wrap (k + 1) = k + 1 := IntWalk.i64_in _ (by omega)
      have hw3 : IntKind.i64.wrap ((k + 1) * sp) = (k + 1) * sp := IntWalk.i64_in _ (by omega)
      have hd1 : decide (k * sp ≤ m) = true := by simpa using k2'
      have hd2 : decide (m < (k + 1) * sp) = true := by simpa using k3'
      have hk1 : (k == 1000000) = false := by simp; omega
      have HN3 := Lib.hid n3
      clear n3
      have HRF : Hid (∀ (args : Array Value) (w : World), (callFunc 67 args).run Try.prog w = .ok (.enter 67 args) w) := run_fn Try.func67 (by kernel_rfl) rfl
      go_wp2_with fail
      refine (farClos_any p x o _ b (b + 1) (b + 1 + 1) n _ (by omega) (by omega) H8.out.1).mono ?_
      rintro e w9 ⟨rfl, hb9⟩
      have H9 := Lib.hid (And.intro (H8.out.1.below hb9) (below_at H8.out.2 hb9 (by omega)))
      have hz9 := hb9.size
      clear hb9 s0 s1 s2 s3 s4 s5 s6 s7 q0 q1 q2
      by_cases hn2 : n = 200000
      · have hn1 : (n == 200000) = true := by simp [hn2]
        clear hn2
        go_wp2_with fail
        refine (ready_any _).mono ?_
        rintro e w10 ⟨rfl, hb10⟩
        have hB10 := below_at H9.out.2 hb10 (by omega)
        clear hb10
        go_wp2
        go_ret
        exact ⟨rfl, hB10⟩
      · have hn1 : (n == 200000) = false := by simp [hn2]
        have n3 : farV p x o (n + 1) = false := by rcases HN3.out with h | h; (· exact absurd h hn2); (· exact h)
        have hwn : IntKind.i64.wrap (n + 1) = n + 1 := IntWalk.i64_in _ (by omega)
        clear hn2
        go_wp2_with fail
        refine (farClos_any p x o _ b (b + 1) (b + 1 + 1) (n + 1) _ (by omega) (by omega) H9.out.1).mono ?_
        rintro e w10 ⟨rfl, hb10⟩
        have H10 := Lib.hid (And.intro (H9.out.1.below hb10) (below_at H9.out.2 hb10 (by omega)))
        have hz10 := hb10.size
        clear hb10
        go_wp2_with fail
        refine (ready_any _).mono ?_
        rintro e w11 ⟨rfl, hb11⟩
        have hB11 := below_at H10.out.2 hb11 (by omega)
        clear hb11
        go_wp2
        go_ret
        exact ⟨rfl, hB11⟩
    · have ho1 : (opticsFault o != 0) = true := by simp [ho0]
      clear ho0
      go_wp2_with fail
      refine (ready_any _).mono ?_
      rintro e w6 ⟨rfl, hb6⟩
      have hB6 := below_at H5.out.2 hb6 (by omega)
      clear hb6
      go_wp2
      go_ret
      exact ⟨rfl, hB6⟩
  · have hx1 : (lossesFault x != 0) = true := by simp [hx0]
    clear hx0
    go_wp2_with fail
    refine (ready_any _).mono ?_
    rintro e w5 ⟨rfl, hb5⟩
    have hB5 := below_at H4.out.2 hb5 (by omega)
    clear hb5
    go_wp2
    go_ret
    exact ⟨rfl, hB5⟩
end Go.Proofs.Ytagpcgnlbgndmaa
