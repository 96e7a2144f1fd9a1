/- The walk of AttenuatedFits: the law's function returns true for every list of integers, and writes nothing that was there. -/
import Derived.Test.YtagpcgnlbgndmaaKeepB
import Derived.Test.YtagpcgnlbgndmaaReady
import Derived.Test.YtagpcgnlbgndmaaStream4
import Derived.Test.YtagpcgnlbgndmaaStream5
import Derived.Test.YtagpcgnlbgndmaaLawHead
import Derived.Deep.RegionHeld3
import Derived.IntWalk
set_option linter.unusedVariables false
set_option linter.unusedSimpArgs false
namespace Go.Proofs.Ytagpcgnlbgndmaa
open Go Go.RowKit

/-- parts with a splice more -/
theorem fault_more {p : List Part} {x : Losses} {o : Optics} {q : Part} (hl : p.length ≤ 999) (h : faultF p x o = 0) (hq : q.Ok) : faultF (p ++ [q]) x o = 0 := by
  obtain ⟨⟨h1, h2⟩, h3, h4⟩ := faultF_zero.1 h
  refine faultF_zero.2 ⟨⟨by simp; omega, fun r hr => ?_⟩, h3, h4⟩
  rcases List.mem_append.1 hr with h | h
  · exact h2 r h
  · simp at h; subst h; exact hq
theorem total_more (p : List Part) (x : Losses) (q : Part) : total (p ++ [q]) x = total p x + lossOf q x := by unfold total; simp
theorem recv_splice {p : List Part} {x : Losses} {o : Optics} {n : Int} (hl : p.length ≤ 999) (h : faultF p x o = 0) (h0 : 0 ≤ n) (h1 : n ≤ 10000) : withV p x o n = recvV p x o - n := by
  have hq : faultF (p ++ [⟨2, n⟩]) x o = 0 := fault_more hl h (.inr (.inl ⟨rfl, h0, h1⟩))
  unfold withV
  rw [if_neg (by omega)]
  unfold recvV
  rw [if_pos hq, if_pos h, total_more]
  simp [lossOf]; omega
theorem att_law {p : List Part} {x : Losses} {o : Optics} {n : Int} (hl : p.length ≤ 999) (h : faultF p x o = 0) (ha : attenV p x o = (n, true)) (hn : n ≤ 10000) :
    0 ≤ n ∧ o.least ≤ withV p x o n ∧ withV p x o n ≤ o.most ∧ (n = 0 ∨ o.most < withV p x o (n - 1)) := by
  obtain ⟨_, _, h4⟩ := faultF_zero.1 h
  unfold Optics.Ok at h4
  unfold attenV at ha
  split at ha
  · simp at ha
  · rename_i hc
    simp only [Prod.mk.injEq, and_true] at ha
    have h1 : 0 ≤ n := by omega
    rw [recv_splice hl h h1 hn]
    refine ⟨h1, by omega, by omega, ?_⟩
    by_cases h0 : n = 0
    · exact .inl h0
    · right
      rw [recv_splice hl h (by omega) (by omega)]; omega
theorem withV_bound (p : List Part) (x : Losses) (o : Optics) (n : Int) (ho : o.Ok) : -300000000 ≤ withV p x o n ∧ withV p x o n ≤ 10001 := by
  unfold withV Optics.Ok at *
  have := recvV_bound (p ++ [⟨2, n⟩]) x o
  split <;> omega
theorem attenV_bound (p : List Part) (x : Losses) (o : Optics) (h : faultF p x o = 0) : 0 ≤ (attenV p x o).1 ∧ (attenV p x o).1 ≤ 20000 := by
  obtain ⟨_, _, h4⟩ := faultF_zero.1 h
  unfold Optics.Ok at h4
  have := recvV_bound p x o
  unfold attenV
  split
  · exact ⟨by decide, by decide⟩
  · simp only; omega

set_option maxHeartbeats 16000000 in
set_option maxRecDepth 100000 in
theorem law_att (a0 : Option Addr) (len0 cap0 : Nat) (z0 : List Int) (w : World) (w0 : IsRow .i64 w a0 len0 cap0 z0) :
    Calls Try.prog 8 #[.slice a0 len0 cap0] w fun e w' => e = .returned (.bool true) ∧ Below w.heap.size w w' := by
  have hS := strm_start w0
  clear w0
  go_enter Try.func8, Try.ntmps8
  go_wp2_with fail
  refine (rightParts_any w.heap.size 0 4 _ hS (by omega) (by omega)).mono ?_
  rintro e w1 ⟨v1, rfl, ⟨p, hpm, hpf, hp, hpl⟩, hs1, hg1⟩
  go_wp2_with fail
  refine (lossTable_any w.heap.size _ _ hs1 (by omega)).mono ?_
  rintro e w2 ⟨v2, rfl, ⟨x, rfl⟩, hs2, hg2⟩
  go_wp2_with fail
  refine (opticsOf_any w.heap.size _ _ hs2 (by omega)).mono ?_
  rintro e w3 ⟨v3, rfl, ⟨o, rfl⟩, hs3, hg3⟩
  have hP := (hp.grownBy hg2 hpl).grownBy hg3 hpl
  have hB : Below w.heap.size w w3 := below_row (grown_trans (World.grownBy_alloc w _ _) (grown_trans hg1 (grown_trans hg2 hg3)))
  have hz3 := hB.size
  obtain ⟨av, capv, rfl, -, -, -⟩ := hp
  have HS := Lib.hid (And.intro hP hB)
  have HPF := Lib.hid hpf
  clear hS hpf hpl hs1 hg1 hs2 hg2 hs3 hg3 hP hB
  go_wp2_with fail
  have C0 : Caught p x o (.slice av p.length capv) w3.heap.size (w3.heap.size + 1) (w3.heap.size + 1 + 1) (((w3.alloc (.cells #[.slice av p.length capv] 26)).alloc (.cells #[.int .i64 x.perKm, .int .i64 x.conn, .int .i64 x.dblg, .int .i64 x.exc] 29)).alloc (.cells #[.int .i64 o.launch, .int .i64 o.least, .int .i64 o.most] 32)) :=
    ⟨HS.out.1.below (by (repeat (first | exact Below.refl _ _ | assumption | refine below_draws ?_ _ | refine Below.drew ?_ | refine below_alloc ?_ _ (by first | omega | (simp; done) | (simp; omega)) | refine Below.setCell ?_ (by first | omega | (simp; done) | (simp; omega)) _ | refine below_at ?_ (by assumption) (by first | omega | (simp; done) | (simp; omega))))), ((Blk.new w3 _ _).alloc _).alloc _, (Blk.newAt (by simp)).alloc _, Blk.newAt (by simp)⟩
  have hB0 : Below w.heap.size w (((w3.alloc (.cells #[.slice av p.length capv] 26)).alloc (.cells #[.int .i64 x.perKm, .int .i64 x.conn, .int .i64 x.dblg, .int .i64 x.exc] 29)).alloc (.cells #[.int .i64 o.launch, .int .i64 o.least, .int .i64 o.most] 32)) := by have h3 := HS.out.2; (repeat (first | exact Below.refl _ _ | assumption | refine below_draws ?_ _ | refine Below.drew ?_ | refine below_alloc ?_ _ (by first | omega | (simp; done) | (simp; omega)) | refine Below.setCell ?_ (by first | omega | (simp; done) | (simp; omega)) _ | refine below_at ?_ (by assumption) (by first | omega | (simp; done) | (simp; omega))))
  generalize (((w3.alloc (.cells #[.slice av p.length capv] 26)).alloc (.cells #[.int .i64 x.perKm, .int .i64 x.conn, .int .i64 x.dblg, .int .i64 x.exc] 29)).alloc (.cells #[.int .i64 o.launch, .int .i64 o.least, .int .i64 o.most] 32)) = W0 at *
  generalize w3.heap.size = b at *
  clear HS
  have H0 := Lib.hid (And.intro C0 hB0)
  have hz0 := hB0.size
  clear C0 hB0
  obtain ⟨s0, ⟨s1, s2, s3, s4⟩, s5, s6, s7⟩ := H0.out.1.s; have q0 := H0.out.1.kp.lt; have q1 := H0.out.1.kx.lt; have q2 := H0.out.1.ko.lt
  refine (rlossesFault_any x _).mono ?_
  rintro e w4 ⟨rfl, hb4⟩
  have H4 := Lib.hid (And.intro (H0.out.1.below hb4) (below_at H0.out.2 hb4 hz0))
  have hz4 := hb4.size
  clear hb4 s0 s1 s2 s3 s4 s5 s6 s7 q0 q1 q2
  obtain ⟨s0, ⟨s1, s2, s3, s4⟩, s5, s6, s7⟩ := H4.out.1.s; have q0 := H4.out.1.kp.lt; have q1 := H4.out.1.kx.lt; have q2 := H4.out.1.ko.lt
  by_cases hx0 : lossesFault x = 0
  · have hx1 : (lossesFault x != 0) = false := by simp [hx0]
    have HX := Lib.hid hx0
    clear hx0
    go_wp2_with fail
    refine (ropticsFault_any o _).mono ?_
    rintro e w5 ⟨rfl, hb5⟩
    have H5 := Lib.hid (And.intro (H4.out.1.below hb5) (below_at H4.out.2 hb5 (by omega)))
    have hz5 := hb5.size
    clear hb5 s0 s1 s2 s3 s4 s5 s6 s7 q0 q1 q2
    obtain ⟨s0, ⟨s1, s2, s3, s4⟩, s5, s6, s7⟩ := H5.out.1.s; have q0 := H5.out.1.kp.lt; have q1 := H5.out.1.kx.lt; have q2 := H5.out.1.ko.lt
    by_cases ho0 : opticsFault o = 0
    · have ho1 : (opticsFault o != 0) = false := by simp [ho0]
      have hok := opticsFault_zero.1 ho0
      have HO := Lib.hid (And.intro ho0 hok)
      unfold Optics.Ok at hok
      obtain ⟨k1, k2, k3, k4, k5⟩ := hok
      have hfz : faultF p x o = 0 := by unfold faultF; rw [firstF_zero]; simp [HPF.out, HX.out, ho0]
      have hab := attenV_bound p x o hfz
      obtain ⟨hab1, hab2⟩ := hab
      have HFZ := Lib.hid hfz
      have hf1 : (faultF p x o != 0) = false := by simp [hfz]
      have hf2 : (faultF p x o == 0) = true := by simp [hfz]
      clear ho0 hfz
      go_wp2_with fail
      refine (attenuator_any _ p x o _ (by exact H5.out.1.P)).mono ?_
      rintro e w6 ⟨rfl, hb6⟩
      have H6 := Lib.hid (And.intro (H5.out.1.below hb6) (below_at H5.out.2 hb6 (by omega)))
      have hz6 := hb6.size
      clear hb6 s0 s1 s2 s3 s4 s5 s6 s7 q0 q1 q2
      obtain ⟨s0, ⟨s1, s2, s3, s4⟩, s5, s6, s7⟩ := H6.out.1.s; have q0 := H6.out.1.kp.lt; have q1 := H6.out.1.kx.lt; have q2 := H6.out.1.ko.lt
      cases his : (attenV p x o).2
      · go_wp2_with fail
        refine (ready_any _).mono ?_
        rintro e w7 ⟨rfl, hb7⟩
        have hB7 := below_at H6.out.2 hb7 (by omega)
        clear hb7
        go_wp2
        go_ret
        exact ⟨rfl, hB7⟩
      by_cases hbig : 10000 < (attenV p x o).1
      · go_wp2_with fail
        refine (ready_any _).mono ?_
        rintro e w7 ⟨rfl, hb7⟩
        have hB7 := below_at H6.out.2 hb7 (by omega)
        clear hb7
        go_wp2
        go_ret
        exact ⟨rfl, hB7⟩
      have hlaw := att_law (n := (attenV p x o).1) (by omega) HFZ.out (by rw [← his]) (by omega)
      generalize (attenV p x o).1 = n at *
      obtain ⟨n0, n1, n2, n3⟩ := hlaw
      have hwb := withV_bound p x o n HO.out.2
      have hwb2 := withV_bound p x o (n - 1) HO.out.2
      have HN3 := Lib.hid n3
      clear n3 his
      have HRF : Hid (∀ (args : Array Value) (w : World), (callFunc 65 args).run Try.prog w = .ok (.enter 65 args) w) := run_fn Try.func65 (by kernel_rfl) rfl
      go_wp2_with fail
      refine (withClos_any p x o _ b (b + 1) (b + 1 + 1) n _ (by omega) ⟨by omega, by omega⟩ ⟨by omega, by omega⟩ H6.out.1).mono ?_
      rintro e w7 ⟨rfl, hb7⟩
      have H7 := Lib.hid (And.intro (H6.out.1.below hb7) (below_at H6.out.2 hb7 (by omega)))
      have hz7 := hb7.size
      clear hb7 s0 s1 s2 s3 s4 s5 s6 s7 q0 q1 q2
      obtain ⟨s0, ⟨s1, s2, s3, s4⟩, s5, s6, s7⟩ := H7.out.1.s; have q0 := H7.out.1.kp.lt; have q1 := H7.out.1.kx.lt; have q2 := H7.out.1.ko.lt
      have d1 : decide (o.least ≤ withV p x o n) = true := by simpa using n1
      have d2 : decide (withV p x o n ≤ o.most) = true := by simpa using n2
      go_wp2_with fail
      have hwd : w.heap.size ≤ w7.heap.size := H7.out.2.size
      by_cases hn0 : n = 0
      · have hn1 : (n == 0) = true := by simp [hn0]
        clear hn0
        refine WalkT.start (fun w' => w'.cell? ⟨b + 1 + 1, 1, none⟩ = some (.int .i64 o.least) ∧ w'.cell? ⟨b + 1 + 1, 2, none⟩ = some (.int .i64 o.most)) [] (by kernel_rfl) ?_
        have HSs : Hid (w7.drew.cell? ⟨b + 1 + 1, 1, none⟩ = some (.int .i64 o.least) ∧ w7.drew.cell? ⟨b + 1 + 1, 2, none⟩ = some (.int .i64 o.most)) := ⟨s6, s7⟩
        refine WalkT.quiet (i := 0) (v := ?_) rfl (by kernel_rfl) (by kernel_rfl) (by kernel_rfl) (fun _ _ _ h => h) (Or.inl ⟨by rfl, ?_⟩) ?_; rotate_left; (· (intro wS hSw; (try dsimp only at hSw); go_simp; try with_reducible rfl)); try simp only [Act.put, List.setIfInBounds_toArray, List.set_cons_zero, List.set_cons_succ, List.getElem_toArray, List.getElem_cons_succ, List.getElem_cons_zero]
        refine WalkT.take (i := 1) (v := ?_) rfl (by kernel_rfl) (by kernel_rfl) (by kernel_rfl) (by kernel_rfl) (fun _ _ _ h => h) (HSs.out) (Or.inl ⟨by rfl, ?_⟩) ?_; rotate_left; (· (intro wS hSw; (try dsimp only at hSw); go_simp; try with_reducible rfl)); try simp only [Act.put, List.setIfInBounds_toArray, List.set_cons_zero, List.set_cons_succ, List.getElem_toArray, List.getElem_cons_succ, List.getElem_cons_zero]
        refine WalkT.quiet (i := 2) (v := ?_) rfl (by kernel_rfl) (by kernel_rfl) (by kernel_rfl) (fun _ _ _ h => h) (Or.inl ⟨by rfl, ?_⟩) ?_; rotate_left; (· (intro wS hSw; (try dsimp only at hSw); go_simp; try with_reducible rfl)); try simp only [Act.put, List.setIfInBounds_toArray, List.set_cons_zero, List.set_cons_succ, List.getElem_toArray, List.getElem_cons_succ, List.getElem_cons_zero]
        refine WalkT.quiet (i := 3) (v := ?_) rfl (by kernel_rfl) (by kernel_rfl) (by kernel_rfl) (fun _ _ _ h => h) (Or.inl ⟨by rfl, ?_⟩) ?_; rotate_left; (· (intro wS hSw; (try dsimp only at hSw); go_simp; try with_reducible rfl)); try simp only [Act.put, List.setIfInBounds_toArray, List.set_cons_zero, List.set_cons_succ, List.getElem_toArray, List.getElem_cons_succ, List.getElem_cons_zero]
        refine WalkT.quiet (i := 4) (v := ?_) rfl (by kernel_rfl) (by kernel_rfl) (by kernel_rfl) (fun _ _ _ h => h) (Or.inl ⟨by rfl, ?_⟩) ?_; rotate_left; (· (intro wS hSw; (try dsimp only at hSw); go_simp; try with_reducible rfl)); try simp only [Act.put, List.setIfInBounds_toArray, List.set_cons_zero, List.set_cons_succ, List.getElem_toArray, List.getElem_cons_succ, List.getElem_cons_zero]
        refine WalkT.quiet (i := 5) (v := ?_) rfl (by kernel_rfl) (by kernel_rfl) (by kernel_rfl) (fun _ _ _ h => h) (Or.inl ⟨by go_simp, ?_⟩) ?_; rotate_left; (· (intro wS hSw; (try dsimp only at hSw); go_simp; try with_reducible rfl)); try simp only [Act.put, List.setIfInBounds_toArray, List.set_cons_zero, List.set_cons_succ, List.getElem_toArray, List.getElem_cons_succ, List.getElem_cons_zero]
        refine WalkT.quiet (i := 6) (v := ?_) rfl (by kernel_rfl) (by kernel_rfl) (by kernel_rfl) (fun _ _ _ h => h) (Or.inl ⟨by go_simp, ?_⟩) ?_; rotate_left; (· (intro wS hSw; (try dsimp only at hSw); go_simp; try with_reducible rfl)); try simp only [Act.put, List.setIfInBounds_toArray, List.set_cons_zero, List.set_cons_succ, List.getElem_toArray, List.getElem_cons_succ, List.getElem_cons_zero]
        refine WalkT.take (i := 7) (v := ?_) rfl (by kernel_rfl) (by kernel_rfl) (by kernel_rfl) (by kernel_rfl) (fun _ _ _ h => h) (HSs.out) (Or.inl ⟨by go_simp, ?_⟩) ?_; rotate_left; (· (intro wS hSw; (try dsimp only at hSw); go_simp; try with_reducible rfl)); try simp only [Act.put, List.setIfInBounds_toArray, List.set_cons_zero, List.set_cons_succ, List.getElem_toArray, List.getElem_cons_succ, List.getElem_cons_zero]
        refine WalkT.quiet (i := 8) (v := ?_) rfl (by kernel_rfl) (by kernel_rfl) (by kernel_rfl) (fun _ _ _ h => h) (Or.inl ⟨by go_simp, ?_⟩) ?_; rotate_left; (· (intro wS hSw; (try dsimp only at hSw); go_simp; try with_reducible rfl)); try simp only [Act.put, List.setIfInBounds_toArray, List.set_cons_zero, List.set_cons_succ, List.getElem_toArray, List.getElem_cons_succ, List.getElem_cons_zero]
        refine WalkT.quiet (i := 9) (v := ?_) rfl (by kernel_rfl) (by kernel_rfl) (by kernel_rfl) (fun _ _ _ h => h) (Or.inl ⟨by rfl, ?_⟩) ?_; rotate_left; (· (intro wS hSw; (try dsimp only at hSw); go_simp; try with_reducible rfl)); try simp only [Act.put, List.setIfInBounds_toArray, List.set_cons_zero, List.set_cons_succ, List.getElem_toArray, List.getElem_cons_succ, List.getElem_cons_zero]
        refine WalkT.quiet (i := 10) (v := ?_) rfl (by kernel_rfl) (by kernel_rfl) (by kernel_rfl) (fun _ _ _ h => h) (Or.inl ⟨by rfl, ?_⟩) ?_; rotate_left; (· (intro wS hSw; (try dsimp only at hSw); go_simp; try with_reducible rfl)); try simp only [Act.put, List.setIfInBounds_toArray, List.set_cons_zero, List.set_cons_succ, List.getElem_toArray, List.getElem_cons_succ, List.getElem_cons_zero]
        refine WalkT.quiet (i := 11) (v := ?_) rfl (by kernel_rfl) (by kernel_rfl) (by kernel_rfl) (fun _ _ _ h => h) (Or.inl ⟨by go_simp, ?_⟩) ?_; rotate_left; (· (intro wS hSw; (try dsimp only at hSw); go_simp; try with_reducible rfl)); try simp only [Act.put, List.setIfInBounds_toArray, List.set_cons_zero, List.set_cons_succ, List.getElem_toArray, List.getElem_cons_succ, List.getElem_cons_zero]
        refine WalkT.quiet (i := 12) (v := ?_) rfl (by kernel_rfl) (by kernel_rfl) (by kernel_rfl) (fun _ _ _ h => h) (Or.inl ⟨by go_simp, ?_⟩) ?_; rotate_left; (· (intro wS hSw; (try dsimp only at hSw); go_simp; try with_reducible rfl)); try simp only [Act.put, List.setIfInBounds_toArray, List.set_cons_zero, List.set_cons_succ, List.getElem_toArray, List.getElem_cons_succ, List.getElem_cons_zero]
        refine WalkT.quiet (i := 13) (v := ?_) rfl (by kernel_rfl) (by kernel_rfl) (by kernel_rfl) (fun _ _ _ h => h) (Or.inl ⟨by go_simp, ?_⟩) ?_; rotate_left; (· (intro wS hSw; (try dsimp only at hSw); go_simp; try with_reducible rfl)); try simp only [Act.put, List.setIfInBounds_toArray, List.set_cons_zero, List.set_cons_succ, List.getElem_toArray, List.getElem_cons_succ, List.getElem_cons_zero]
        refine WalkT.quiet (i := 14) (v := undef) rfl (by kernel_rfl) (by kernel_rfl) (by kernel_rfl) (fun _ _ _ h => h) (Or.inr ⟨by go_simp, rfl⟩) ?_; try simp only [Act.put, List.setIfInBounds_toArray, List.set_cons_zero, List.set_cons_succ, List.getElem_toArray, List.getElem_cons_succ, List.getElem_cons_zero]
        refine WalkT.quiet (i := 15) (v := undef) rfl (by kernel_rfl) (by kernel_rfl) (by kernel_rfl) (fun _ _ _ h => h) (Or.inr ⟨by go_simp, rfl⟩) ?_; try simp only [Act.put, List.setIfInBounds_toArray, List.set_cons_zero, List.set_cons_succ, List.getElem_toArray, List.getElem_cons_succ, List.getElem_cons_zero]
        refine WalkT.quiet (i := 16) (v := undef) rfl (by kernel_rfl) (by kernel_rfl) (by kernel_rfl) (fun _ _ _ h => h) (Or.inr ⟨by go_simp, rfl⟩) ?_; try simp only [Act.put, List.setIfInBounds_toArray, List.set_cons_zero, List.set_cons_succ, List.getElem_toArray, List.getElem_cons_succ, List.getElem_cons_zero]
        refine WalkT.quiet (i := 17) (v := undef) rfl (by kernel_rfl) (by kernel_rfl) (by kernel_rfl) (fun _ _ _ h => h) (Or.inr ⟨by go_simp, rfl⟩) ?_; try simp only [Act.put, List.setIfInBounds_toArray, List.set_cons_zero, List.set_cons_succ, List.getElem_toArray, List.getElem_cons_succ, List.getElem_cons_zero]
        refine WalkT.quiet (i := 18) (v := undef) rfl (by kernel_rfl) (by kernel_rfl) (by kernel_rfl) (fun _ _ _ h => h) (Or.inr ⟨by go_simp, rfl⟩) ?_; try simp only [Act.put, List.setIfInBounds_toArray, List.set_cons_zero, List.set_cons_succ, List.getElem_toArray, List.getElem_cons_succ, List.getElem_cons_zero]
        refine WalkT.quiet (i := 19) (v := undef) rfl (by kernel_rfl) (by kernel_rfl) (by kernel_rfl) (fun _ _ _ h => h) (Or.inr ⟨by go_simp, rfl⟩) ?_; try simp only [Act.put, List.setIfInBounds_toArray, List.set_cons_zero, List.set_cons_succ, List.getElem_toArray, List.getElem_cons_succ, List.getElem_cons_zero]
        refine WalkT.quiet (i := 20) (v := undef) rfl (by kernel_rfl) (by kernel_rfl) (by kernel_rfl) (fun _ _ _ h => h) (Or.inr ⟨by go_simp, rfl⟩) ?_; try simp only [Act.put, List.setIfInBounds_toArray, List.set_cons_zero, List.set_cons_succ, List.getElem_toArray, List.getElem_cons_succ, List.getElem_cons_zero]
        refine WalkT.quiet (i := 21) (v := ?_) rfl (by kernel_rfl) (by kernel_rfl) (by kernel_rfl) (fun _ _ _ h => h) (Or.inl ⟨by go_simp, ?_⟩) ?_; rotate_left; (· (intro wS hSw; (try dsimp only at hSw); go_simp; try with_reducible rfl)); try simp only [Act.put, List.setIfInBounds_toArray, List.set_cons_zero, List.set_cons_succ, List.getElem_toArray, List.getElem_cons_succ, List.getElem_cons_zero]
        refine WalkT.quiet (i := 22) (v := ?_) rfl (by kernel_rfl) (by kernel_rfl) (by kernel_rfl) (fun _ _ _ h => h) (Or.inl ⟨by rfl, ?_⟩) ?_; rotate_left; (· (intro wS hSw; (try dsimp only at hSw); go_simp; try with_reducible rfl)); try simp only [Act.put, List.setIfInBounds_toArray, List.set_cons_zero, List.set_cons_succ, List.getElem_toArray, List.getElem_cons_succ, List.getElem_cons_zero]
        refine WalkT.quiet (i := 23) (v := ?_) rfl (by kernel_rfl) (by kernel_rfl) (by kernel_rfl) (fun _ _ _ h => h) (Or.inl ⟨by rfl, ?_⟩) ?_; rotate_left; (· (intro wS hSw; (try dsimp only at hSw); go_simp; try with_reducible rfl)); try simp only [Act.put, List.setIfInBounds_toArray, List.set_cons_zero, List.set_cons_succ, List.getElem_toArray, List.getElem_cons_succ, List.getElem_cons_zero]
        refine WalkT.ready (rs := [24]) (by kernel_rfl) (by simp) (AllT.cons rfl (fun K hK => ?_) AllT.nil); go_simp
        refine (ready_any _).mono ?_
        rintro e w9 ⟨rfl, hb9⟩
        have hz9 : w7.heap.size ≤ w9.heap.size := hb9.size
        have hB9 : Below w.heap.size w w9 := by have h7 := H7.out.2; (repeat (first | exact Below.refl _ _ | assumption | refine below_draws ?_ _ | refine Below.drew ?_ | refine below_alloc ?_ _ (by first | omega | (simp; done) | (simp; omega)) | refine Below.setCell ?_ (by first | omega | (simp; done) | (simp; omega)) _ | refine below_at ?_ (by assumption) (by first | omega | (simp; done) | (simp; omega))))
        have HB9 := Lib.hid hB9
        refine hK.out _ _ (fun _ _ => ⟨(hb9.cell (p := ⟨_, _, none⟩) (by simp; omega)).trans HSs.out.1, (hb9.cell (p := ⟨_, _, none⟩) (by simp; omega)).trans HSs.out.2⟩) ?_; clear hK K; try simp only [Act.put, List.setIfInBounds_toArray, List.set_cons_zero, List.set_cons_succ, List.getElem_toArray, List.getElem_cons_succ, List.getElem_cons_zero]
        clear hb9 hB9
        refine WalkT.quiet (i := 25) (v := ?_) rfl (by kernel_rfl) (by kernel_rfl) (by kernel_rfl) (fun _ _ _ h => h) (Or.inl ⟨by rfl, ?_⟩) ?_; rotate_left; (· (intro wS hSw; (try dsimp only at hSw); go_simp; try with_reducible rfl)); try simp only [Act.put, List.setIfInBounds_toArray, List.set_cons_zero, List.set_cons_succ, List.getElem_toArray, List.getElem_cons_succ, List.getElem_cons_zero]
        refine WalkT.quiet (i := 26) (v := ?_) rfl (by kernel_rfl) (by kernel_rfl) (by kernel_rfl) (fun _ _ _ h => h) (Or.inl ⟨by rfl, ?_⟩) ?_; rotate_left; (· (intro wS hSw; (try dsimp only at hSw); go_simp; try with_reducible rfl)); try simp only [Act.put, List.setIfInBounds_toArray, List.set_cons_zero, List.set_cons_succ, List.getElem_toArray, List.getElem_cons_succ, List.getElem_cons_zero]
        refine WalkT.done (by kernel_rfl) ?_
        go_wp2
        go_ret
        exact ⟨rfl, HB9.out⟩
      · have hn1 : (n == 0) = false := by simp [hn0]
        have n3 : o.most < withV p x o (n - 1) := by rcases HN3.out with h | h; (· exact absurd h hn0); (· exact h)
        have d3 : decide (o.most < withV p x o (n - 1)) = true := by simpa using n3
        clear hn0
        refine WalkT.start (fun w' => w'.cell? ⟨b + 1 + 1, 1, none⟩ = some (.int .i64 o.least) ∧ w'.cell? ⟨b + 1 + 1, 2, none⟩ = some (.int .i64 o.most)) [] (by kernel_rfl) ?_
        have HSs : Hid (w7.drew.cell? ⟨b + 1 + 1, 1, none⟩ = some (.int .i64 o.least) ∧ w7.drew.cell? ⟨b + 1 + 1, 2, none⟩ = some (.int .i64 o.most)) := ⟨s6, s7⟩
        refine WalkT.quiet (i := 0) (v := ?_) rfl (by kernel_rfl) (by kernel_rfl) (by kernel_rfl) (fun _ _ _ h => h) (Or.inl ⟨by rfl, ?_⟩) ?_; rotate_left; (· (intro wS hSw; (try dsimp only at hSw); go_simp; try with_reducible rfl)); try simp only [Act.put, List.setIfInBounds_toArray, List.set_cons_zero, List.set_cons_succ, List.getElem_toArray, List.getElem_cons_succ, List.getElem_cons_zero]
        refine WalkT.take (i := 1) (v := ?_) rfl (by kernel_rfl) (by kernel_rfl) (by kernel_rfl) (by kernel_rfl) (fun _ _ _ h => h) (HSs.out) (Or.inl ⟨by rfl, ?_⟩) ?_; rotate_left; (· (intro wS hSw; (try dsimp only at hSw); go_simp; try with_reducible rfl)); try simp only [Act.put, List.setIfInBounds_toArray, List.set_cons_zero, List.set_cons_succ, List.getElem_toArray, List.getElem_cons_succ, List.getElem_cons_zero]
        refine WalkT.quiet (i := 2) (v := ?_) rfl (by kernel_rfl) (by kernel_rfl) (by kernel_rfl) (fun _ _ _ h => h) (Or.inl ⟨by rfl, ?_⟩) ?_; rotate_left; (· (intro wS hSw; (try dsimp only at hSw); go_simp; try with_reducible rfl)); try simp only [Act.put, List.setIfInBounds_toArray, List.set_cons_zero, List.set_cons_succ, List.getElem_toArray, List.getElem_cons_succ, List.getElem_cons_zero]
        refine WalkT.quiet (i := 3) (v := ?_) rfl (by kernel_rfl) (by kernel_rfl) (by kernel_rfl) (fun _ _ _ h => h) (Or.inl ⟨by rfl, ?_⟩) ?_; rotate_left; (· (intro wS hSw; (try dsimp only at hSw); go_simp; try with_reducible rfl)); try simp only [Act.put, List.setIfInBounds_toArray, List.set_cons_zero, List.set_cons_succ, List.getElem_toArray, List.getElem_cons_succ, List.getElem_cons_zero]
        refine WalkT.quiet (i := 4) (v := ?_) rfl (by kernel_rfl) (by kernel_rfl) (by kernel_rfl) (fun _ _ _ h => h) (Or.inl ⟨by rfl, ?_⟩) ?_; rotate_left; (· (intro wS hSw; (try dsimp only at hSw); go_simp; try with_reducible rfl)); try simp only [Act.put, List.setIfInBounds_toArray, List.set_cons_zero, List.set_cons_succ, List.getElem_toArray, List.getElem_cons_succ, List.getElem_cons_zero]
        refine WalkT.quiet (i := 5) (v := ?_) rfl (by kernel_rfl) (by kernel_rfl) (by kernel_rfl) (fun _ _ _ h => h) (Or.inl ⟨by go_simp, ?_⟩) ?_; rotate_left; (· (intro wS hSw; (try dsimp only at hSw); go_simp; try with_reducible rfl)); try simp only [Act.put, List.setIfInBounds_toArray, List.set_cons_zero, List.set_cons_succ, List.getElem_toArray, List.getElem_cons_succ, List.getElem_cons_zero]
        refine WalkT.quiet (i := 6) (v := ?_) rfl (by kernel_rfl) (by kernel_rfl) (by kernel_rfl) (fun _ _ _ h => h) (Or.inl ⟨by go_simp, ?_⟩) ?_; rotate_left; (· (intro wS hSw; (try dsimp only at hSw); go_simp; try with_reducible rfl)); try simp only [Act.put, List.setIfInBounds_toArray, List.set_cons_zero, List.set_cons_succ, List.getElem_toArray, List.getElem_cons_succ, List.getElem_cons_zero]
        refine WalkT.take (i := 7) (v := ?_) rfl (by kernel_rfl) (by kernel_rfl) (by kernel_rfl) (by kernel_rfl) (fun _ _ _ h => h) (HSs.out) (Or.inl ⟨by go_simp, ?_⟩) ?_; rotate_left; (· (intro wS hSw; (try dsimp only at hSw); go_simp; try with_reducible rfl)); try simp only [Act.put, List.setIfInBounds_toArray, List.set_cons_zero, List.set_cons_succ, List.getElem_toArray, List.getElem_cons_succ, List.getElem_cons_zero]
        refine WalkT.quiet (i := 8) (v := ?_) rfl (by kernel_rfl) (by kernel_rfl) (by kernel_rfl) (fun _ _ _ h => h) (Or.inl ⟨by go_simp, ?_⟩) ?_; rotate_left; (· (intro wS hSw; (try dsimp only at hSw); go_simp; try with_reducible rfl)); try simp only [Act.put, List.setIfInBounds_toArray, List.set_cons_zero, List.set_cons_succ, List.getElem_toArray, List.getElem_cons_succ, List.getElem_cons_zero]
        refine WalkT.quiet (i := 9) (v := ?_) rfl (by kernel_rfl) (by kernel_rfl) (by kernel_rfl) (fun _ _ _ h => h) (Or.inl ⟨by rfl, ?_⟩) ?_; rotate_left; (· (intro wS hSw; (try dsimp only at hSw); go_simp; try with_reducible rfl)); try simp only [Act.put, List.setIfInBounds_toArray, List.set_cons_zero, List.set_cons_succ, List.getElem_toArray, List.getElem_cons_succ, List.getElem_cons_zero]
        refine WalkT.quiet (i := 10) (v := ?_) rfl (by kernel_rfl) (by kernel_rfl) (by kernel_rfl) (fun _ _ _ h => h) (Or.inl ⟨by rfl, ?_⟩) ?_; rotate_left; (· (intro wS hSw; (try dsimp only at hSw); go_simp; try with_reducible rfl)); try simp only [Act.put, List.setIfInBounds_toArray, List.set_cons_zero, List.set_cons_succ, List.getElem_toArray, List.getElem_cons_succ, List.getElem_cons_zero]
        refine WalkT.quiet (i := 11) (v := ?_) rfl (by kernel_rfl) (by kernel_rfl) (by kernel_rfl) (fun _ _ _ h => h) (Or.inl ⟨by go_simp, ?_⟩) ?_; rotate_left; (· (intro wS hSw; (try dsimp only at hSw); go_simp; try with_reducible rfl)); try simp only [Act.put, List.setIfInBounds_toArray, List.set_cons_zero, List.set_cons_succ, List.getElem_toArray, List.getElem_cons_succ, List.getElem_cons_zero]
        refine WalkT.quiet (i := 12) (v := ?_) rfl (by kernel_rfl) (by kernel_rfl) (by kernel_rfl) (fun _ _ _ h => h) (Or.inl ⟨by go_simp, ?_⟩) ?_; rotate_left; (· (intro wS hSw; (try dsimp only at hSw); go_simp; try with_reducible rfl)); try simp only [Act.put, List.setIfInBounds_toArray, List.set_cons_zero, List.set_cons_succ, List.getElem_toArray, List.getElem_cons_succ, List.getElem_cons_zero]
        refine WalkT.quiet (i := 13) (v := ?_) rfl (by kernel_rfl) (by kernel_rfl) (by kernel_rfl) (fun _ _ _ h => h) (Or.inl ⟨by go_simp, ?_⟩) ?_; rotate_left; (· (intro wS hSw; (try dsimp only at hSw); go_simp; try with_reducible rfl)); try simp only [Act.put, List.setIfInBounds_toArray, List.set_cons_zero, List.set_cons_succ, List.getElem_toArray, List.getElem_cons_succ, List.getElem_cons_zero]
        refine WalkT.quiet (i := 14) (v := ?_) rfl (by kernel_rfl) (by kernel_rfl) (by kernel_rfl) (fun _ _ _ h => h) (Or.inl ⟨by go_simp, ?_⟩) ?_; rotate_left; (· (intro wS hSw; (try dsimp only at hSw); go_simp; try with_reducible rfl)); try simp only [Act.put, List.setIfInBounds_toArray, List.set_cons_zero, List.set_cons_succ, List.getElem_toArray, List.getElem_cons_succ, List.getElem_cons_zero]
        refine WalkT.quiet (i := 15) (v := ?_) rfl (by kernel_rfl) (by kernel_rfl) (by kernel_rfl) (fun _ _ _ h => h) (Or.inl ⟨by go_simp, ?_⟩) ?_; rotate_left; (· (intro wS hSw; (try dsimp only at hSw); go_simp; try with_reducible rfl)); try simp only [Act.put, List.setIfInBounds_toArray, List.set_cons_zero, List.set_cons_succ, List.getElem_toArray, List.getElem_cons_succ, List.getElem_cons_zero]
        refine WalkT.quiet (i := 16) (v := ?_) rfl (by kernel_rfl) (by kernel_rfl) (by kernel_rfl) (fun _ _ _ h => h) (Or.inl ⟨by go_simp, ?_⟩) ?_; rotate_left; (· (intro wS hSw; (try dsimp only at hSw); go_simp; try with_reducible rfl)); try simp only [Act.put, List.setIfInBounds_toArray, List.set_cons_zero, List.set_cons_succ, List.getElem_toArray, List.getElem_cons_succ, List.getElem_cons_zero]
        refine WalkT.quiet (i := 18) (v := ?_) rfl (by kernel_rfl) (by kernel_rfl) (by kernel_rfl) (fun _ _ _ h => h) (Or.inl ⟨by go_simp, ?_⟩) ?_; rotate_left; (· (intro wS hSw; (try dsimp only at hSw); go_simp; try with_reducible rfl)); try simp only [Act.put, List.setIfInBounds_toArray, List.set_cons_zero, List.set_cons_succ, List.getElem_toArray, List.getElem_cons_succ, List.getElem_cons_zero]
        refine WalkT.take (i := 19) (v := ?_) rfl (by kernel_rfl) (by kernel_rfl) (by kernel_rfl) (by kernel_rfl) (fun _ _ _ h => h) (HSs.out) (Or.inl ⟨by go_simp, ?_⟩) ?_; rotate_left; (· (intro wS hSw; (try dsimp only at hSw); go_simp; try with_reducible rfl)); try simp only [Act.put, List.setIfInBounds_toArray, List.set_cons_zero, List.set_cons_succ, List.getElem_toArray, List.getElem_cons_succ, List.getElem_cons_zero]
        refine WalkT.ready (rs := [17]) (by kernel_rfl) (by simp) (AllT.cons rfl (fun K hK => ?_) AllT.nil); go_simp
        rw [show IntKind.i64.wrap (n - 1) = n - 1 from IntWalk.i64_in _ (by omega)]
        refine (withClos_any p x o _ b (b + 1) (b + 1 + 1) (n - 1) _ (by omega) ⟨by omega, by omega⟩ ⟨by omega, by omega⟩ (by exact H7.out.1.below (by (repeat (first | exact Below.refl _ _ | assumption | refine below_draws ?_ _ | refine Below.drew ?_ | refine below_alloc ?_ _ (by first | omega | (simp; done) | (simp; omega)) | refine Below.setCell ?_ (by first | omega | (simp; done) | (simp; omega)) _ | refine below_at ?_ (by assumption) (by first | omega | (simp; done) | (simp; omega))))))).mono ?_
        rintro e w8 ⟨rfl, hb8⟩
        have hz8 : w7.heap.size ≤ w8.heap.size := hb8.size
        have hS8 : w8.cell? ⟨b + 1 + 1, 1, none⟩ = some (.int .i64 o.least) ∧ w8.cell? ⟨b + 1 + 1, 2, none⟩ = some (.int .i64 o.most) := ⟨(hb8.cell (p := ⟨_, _, none⟩) (by simp; omega)).trans HSs.out.1, (hb8.cell (p := ⟨_, _, none⟩) (by simp; omega)).trans HSs.out.2⟩
        have HS8 := Lib.hid hS8
        clear hS8
        refine hK.out _ _ (fun _ _ => HS8.out) ?_; clear hK K; try simp only [Act.put, List.setIfInBounds_toArray, List.set_cons_zero, List.set_cons_succ, List.getElem_toArray, List.getElem_cons_succ, List.getElem_cons_zero]
        refine WalkT.quiet (i := 20) (v := ?_) rfl (by kernel_rfl) (by kernel_rfl) (by kernel_rfl) (fun _ _ _ h => h) (Or.inl ⟨by go_simp, ?_⟩) ?_; rotate_left; (· (intro wS hSw; (try dsimp only at hSw); go_simp; try with_reducible rfl)); try simp only [Act.put, List.setIfInBounds_toArray, List.set_cons_zero, List.set_cons_succ, List.getElem_toArray, List.getElem_cons_succ, List.getElem_cons_zero]
        refine WalkT.quiet (i := 21) (v := ?_) rfl (by kernel_rfl) (by kernel_rfl) (by kernel_rfl) (fun _ _ _ h => h) (Or.inl ⟨by go_simp, ?_⟩) ?_; rotate_left; (· (intro wS hSw; (try dsimp only at hSw); go_simp; try with_reducible rfl)); try simp only [Act.put, List.setIfInBounds_toArray, List.set_cons_zero, List.set_cons_succ, List.getElem_toArray, List.getElem_cons_succ, List.getElem_cons_zero]
        refine WalkT.quiet (i := 22) (v := ?_) rfl (by kernel_rfl) (by kernel_rfl) (by kernel_rfl) (fun _ _ _ h => h) (Or.inl ⟨by rfl, ?_⟩) ?_; rotate_left; (· (intro wS hSw; (try dsimp only at hSw); go_simp; try with_reducible rfl)); try simp only [Act.put, List.setIfInBounds_toArray, List.set_cons_zero, List.set_cons_succ, List.getElem_toArray, List.getElem_cons_succ, List.getElem_cons_zero]
        refine WalkT.quiet (i := 23) (v := ?_) rfl (by kernel_rfl) (by kernel_rfl) (by kernel_rfl) (fun _ _ _ h => h) (Or.inl ⟨by rfl, ?_⟩) ?_; rotate_left; (· (intro wS hSw; (try dsimp only at hSw); go_simp; try with_reducible rfl)); try simp only [Act.put, List.setIfInBounds_toArray, List.set_cons_zero, List.set_cons_succ, List.getElem_toArray, List.getElem_cons_succ, List.getElem_cons_zero]
        refine WalkT.ready (rs := [24]) (by kernel_rfl) (by simp) (AllT.cons rfl (fun K hK => ?_) AllT.nil); go_simp
        refine (ready_any _).mono ?_
        rintro e w9 ⟨rfl, hb9⟩
        have hz9 : w8.heap.size ≤ w9.heap.size := hb9.size
        have hB9 : Below w.heap.size w w9 := by have h7 := H7.out.2; (repeat (first | exact Below.refl _ _ | assumption | refine below_draws ?_ _ | refine Below.drew ?_ | refine below_alloc ?_ _ (by first | omega | (simp; done) | (simp; omega)) | refine Below.setCell ?_ (by first | omega | (simp; done) | (simp; omega)) _ | refine below_at ?_ (by assumption) (by first | omega | (simp; done) | (simp; omega))))
        have HB9 := Lib.hid hB9
        refine hK.out _ _ (fun _ _ => ⟨(hb9.cell (p := ⟨_, _, none⟩) (by simp; omega)).trans HS8.out.1, (hb9.cell (p := ⟨_, _, none⟩) (by simp; omega)).trans HS8.out.2⟩) ?_; clear hK K; try simp only [Act.put, List.setIfInBounds_toArray, List.set_cons_zero, List.set_cons_succ, List.getElem_toArray, List.getElem_cons_succ, List.getElem_cons_zero]
        clear hb9 hB9
        refine WalkT.quiet (i := 25) (v := ?_) rfl (by kernel_rfl) (by kernel_rfl) (by kernel_rfl) (fun _ _ _ h => h) (Or.inl ⟨by rfl, ?_⟩) ?_; rotate_left; (· (intro wS hSw; (try dsimp only at hSw); go_simp; try with_reducible rfl)); try simp only [Act.put, List.setIfInBounds_toArray, List.set_cons_zero, List.set_cons_succ, List.getElem_toArray, List.getElem_cons_succ, List.getElem_cons_zero]
        refine WalkT.quiet (i := 26) (v := ?_) rfl (by kernel_rfl) (by kernel_rfl) (by kernel_rfl) (fun _ _ _ h => h) (Or.inl ⟨by rfl, ?_⟩) ?_; rotate_left; (· (intro wS hSw; (try dsimp only at hSw); go_simp; try with_reducible rfl)); try simp only [Act.put, List.setIfInBounds_toArray, List.set_cons_zero, List.set_cons_succ, List.getElem_toArray, List.getElem_cons_succ, List.getElem_cons_zero]
        refine WalkT.done (by kernel_rfl) ?_
        go_wp2
        go_ret
        exact ⟨rfl, HB9.out⟩
    · have ho1 : (opticsFault o != 0) = true := by simp [ho0]
      clear ho0
      go_wp2_with fail
      refine (ready_any _).mono ?_
      rintro e w6 ⟨rfl, hb6⟩
      have hB6 := below_at H5.out.2 hb6 (by omega)
      clear hb6
      go_wp2
      go_ret
      exact ⟨rfl, hB6⟩
  · have hx1 : (lossesFault x != 0) = true := by simp [hx0]
    clear hx0
    go_wp2_with fail
    refine (ready_any _).mono ?_
    rintro e w5 ⟨rfl, hb5⟩
    have hB5 := below_at H4.out.2 hb5 (by omega)
    clear hb5
    go_wp2
    go_ret
    exact ⟨rfl, hB5⟩
end Go.Proofs.Ytagpcgnlbgndmaa
