/- Walks of package budget: Attenuator, Reach, Repairs, Loss. -/
import Derived.Test.YtagpcgnlbgndmaaWalkB4
set_option linter.unusedVariables false
set_option linter.unusedSimpArgs false
namespace Go.Proofs.Ytagpcgnlbgndmaa
open Go Go.RowKit

theorem ret3 {a a' : Int} {b b' : Bool} {c c' : Int} (h1 : a = a') (h2 : b = b') (h3 : c = c') : Ending.returned (.tuple #[.int .i64 a, .bool b, .int .i64 c]) = .returned (.tuple #[.int .i64 a', .bool b', .int .i64 c']) := by rw [h1, h2, h3]
theorem ret2 {a a' : Int} {c c' : Int} (h1 : a = a') (h3 : c = c') : Ending.returned (.tuple #[.int .i64 a, .int .i64 c]) = .returned (.tuple #[.int .i64 a', .int .i64 c']) := by rw [h1, h3]

set_option maxHeartbeats 1000000 in
theorem attenuator_any (v : Value) (l : List Part) (x : Losses) (o : Optics) (w : World) (h : Arr Part.cells 2 w l v) : Calls Try.prog 25 #[v, .agg #[.int .i64 x.perKm, .int .i64 x.conn, .int .i64 x.dblg, .int .i64 x.exc], .agg #[.int .i64 o.launch, .int .i64 o.least, .int .i64 o.most]] w
    fun e w' => e = .returned (.tuple #[.int .i64 (attenV l x o).1, .bool (attenV l x o).2, .int .i64 (faultF l x o)]) ∧ Below w.heap.size w w' := by
  obtain ⟨r1, r2⟩ := recvV_bound l x o
  by_cases hf : faultF l x o = 0
  · have hf' : (faultF l x o != 0) = false := by simp [hf]
    obtain ⟨_, _, h4⟩ := faultF_zero.1 hf
    unfold Optics.Ok at h4
    obtain ⟨o1, o2, o3, o4, o5⟩ := h4
    by_cases hl : recvV l x o < o.least
    · have HR : Hid (attenV l x o = (0, false)) := by unfold attenV; rw [if_pos (.inr hl)]; exact rfl
      have HF := Lib.hid hf
      clear hf
      go_enter Try.func25, Try.ntmps25
      go_wp2_with (go_at_call 23; refine (received_any _ l x o _ ?_).mono ?_; (exact h.below (by (repeat (first | exact Below.refl _ _ | assumption | refine below_draws ?_ _ | refine Below.drew ?_ | refine below_alloc ?_ _ (by first | omega | (simp; done) | (simp; omega)) | refine Below.setCell ?_ (by first | omega | (simp; done) | (simp; omega)) _ | refine below_at ?_ (by assumption) (by first | omega | (simp; done) | (simp; omega)))))); rintro e w1 ⟨rfl, hb1⟩; have s1 : w.heap.size + 2 ≤ w1.heap.size := (by have := hb1.size; (try simp at this); omega); have hc1 := bcellAt hb1 w.heap.size (by first | omega | (simp; done) | (simp; omega)); have hd1 := bcellAt hb1 (w.heap.size + 1) (by first | omega | (simp; done) | (simp; omega)))
      go_ret3
      exact ⟨ret3 (by rw [HR.out]) (by rw [HR.out]) rfl, by (repeat (first | exact Below.refl _ _ | assumption | refine below_draws ?_ _ | refine Below.drew ?_ | refine below_alloc ?_ _ (by first | omega | (simp; done) | (simp; omega)) | refine Below.setCell ?_ (by first | omega | (simp; done) | (simp; omega)) _ | refine below_at ?_ (by assumption) (by first | omega | (simp; done) | (simp; omega))))⟩
    · have HR : Hid (attenV l x o = (max 0 (recvV l x o - o.most), true)) := by unfold attenV; rw [if_neg (by omega)]; exact rfl
      have HF := Lib.hid hf
      clear hf
      go_enter Try.func25, Try.ntmps25
      go_wp2_with (go_at_call 23; refine (received_any _ l x o _ ?_).mono ?_; (exact h.below (by (repeat (first | exact Below.refl _ _ | assumption | refine below_draws ?_ _ | refine Below.drew ?_ | refine below_alloc ?_ _ (by first | omega | (simp; done) | (simp; omega)) | refine Below.setCell ?_ (by first | omega | (simp; done) | (simp; omega)) _ | refine below_at ?_ (by assumption) (by first | omega | (simp; done) | (simp; omega)))))); rintro e w1 ⟨rfl, hb1⟩; have s1 : w.heap.size + 2 ≤ w1.heap.size := (by have := hb1.size; (try simp at this); omega); have hc1 := bcellAt hb1 w.heap.size (by first | omega | (simp; done) | (simp; omega)); have hd1 := bcellAt hb1 (w.heap.size + 1) (by first | omega | (simp; done) | (simp; omega)))
      all_goals go_ret3
      all_goals exact ⟨ret3 (by rw [HR.out]; simp <;> omega) (by rw [HR.out]) (by rw [HF.out]), by (repeat (first | exact Below.refl _ _ | assumption | refine below_draws ?_ _ | refine Below.drew ?_ | refine below_alloc ?_ _ (by first | omega | (simp; done) | (simp; omega)) | refine Below.setCell ?_ (by first | omega | (simp; done) | (simp; omega)) _ | refine below_at ?_ (by assumption) (by first | omega | (simp; done) | (simp; omega))))⟩
  · have hf' : (faultF l x o != 0) = true := by simp [hf]
    have HR : Hid (attenV l x o = (0, false)) := by unfold attenV; rw [if_pos (.inl hf)]; exact rfl
    clear hf
    go_enter Try.func25, Try.ntmps25
    go_wp2_with (go_at_call 23; refine (received_any _ l x o _ ?_).mono ?_; (exact h.below (by (repeat (first | exact Below.refl _ _ | assumption | refine below_draws ?_ _ | refine Below.drew ?_ | refine below_alloc ?_ _ (by first | omega | (simp; done) | (simp; omega)) | refine Below.setCell ?_ (by first | omega | (simp; done) | (simp; omega)) _ | refine below_at ?_ (by assumption) (by first | omega | (simp; done) | (simp; omega)))))); rintro e w1 ⟨rfl, hb1⟩)
    go_ret3
    exact ⟨ret3 (by rw [HR.out]) (by rw [HR.out]) rfl, by (repeat (first | exact Below.refl _ _ | assumption | refine below_draws ?_ _ | refine Below.drew ?_ | refine below_alloc ?_ _ (by first | omega | (simp; done) | (simp; omega)) | refine Below.setCell ?_ (by first | omega | (simp; done) | (simp; omega)) _ | refine below_at ?_ (by assumption) (by first | omega | (simp; done) | (simp; omega))))⟩

set_option maxHeartbeats 1000000 in
theorem reach_any (v : Value) (l : List Part) (x : Losses) (o : Optics) (w : World) (h : Arr Part.cells 2 w l v) : Calls Try.prog 26 #[v, .agg #[.int .i64 x.perKm, .int .i64 x.conn, .int .i64 x.dblg, .int .i64 x.exc], .agg #[.int .i64 o.launch, .int .i64 o.least, .int .i64 o.most]] w
    fun e w' => e = .returned (.tuple #[.int .i64 (reachV l x o).1, .bool (reachV l x o).2, .int .i64 (faultF l x o)]) ∧ Below w.heap.size w w' := by
  obtain ⟨r1, r2⟩ := marginV_bound l x o
  by_cases hf : faultF l x o = 0
  · have hf' : (faultF l x o != 0) = false := by simp [hf]
    obtain ⟨_, h3, _⟩ := faultF_zero.1 hf
    unfold Losses.Ok at h3
    obtain ⟨o1, o2, _⟩ := h3
    by_cases hl : marginV l x o < 0
    · have HR : Hid (reachV l x o = (0, false)) := by unfold reachV; rw [if_pos (.inr hl)]; exact rfl
      have HF := Lib.hid hf
      clear hf
      go_enter Try.func26, Try.ntmps26
      go_wp2_with (go_at_call 24; refine (margin_any _ l x o _ ?_).mono ?_; (exact h.below (by (repeat (first | exact Below.refl _ _ | assumption | refine below_draws ?_ _ | refine Below.drew ?_ | refine below_alloc ?_ _ (by first | omega | (simp; done) | (simp; omega)) | refine Below.setCell ?_ (by first | omega | (simp; done) | (simp; omega)) _ | refine below_at ?_ (by assumption) (by first | omega | (simp; done) | (simp; omega)))))); rintro e w1 ⟨rfl, hb1⟩; have s1 : w.heap.size + 2 ≤ w1.heap.size := (by have := hb1.size; (try simp at this); omega); have hc1 := bcellAt hb1 w.heap.size (by first | omega | (simp; done) | (simp; omega)); have hd1 := bcellAt hb1 (w.heap.size + 1) (by first | omega | (simp; done) | (simp; omega)))
      go_ret3
      exact ⟨ret3 (by rw [HR.out]) (by rw [HR.out]) rfl, by (repeat (first | exact Below.refl _ _ | assumption | refine below_draws ?_ _ | refine Below.drew ?_ | refine below_alloc ?_ _ (by first | omega | (simp; done) | (simp; omega)) | refine Below.setCell ?_ (by first | omega | (simp; done) | (simp; omega)) _ | refine below_at ?_ (by assumption) (by first | omega | (simp; done) | (simp; omega))))⟩
    · by_cases hp : x.perKm = 0
      · have HR : Hid (reachV l x o = (200000, true)) := by unfold reachV; rw [if_neg (by omega), if_pos hp]; exact rfl
        have HF := Lib.hid hf
        have hp' : (x.perKm == 0) = true := by simp [hp]
        clear hf hp
        go_enter Try.func26, Try.ntmps26
        go_wp2_with (go_at_call 24; refine (margin_any _ l x o _ ?_).mono ?_; (exact h.below (by (repeat (first | exact Below.refl _ _ | assumption | refine below_draws ?_ _ | refine Below.drew ?_ | refine below_alloc ?_ _ (by first | omega | (simp; done) | (simp; omega)) | refine Below.setCell ?_ (by first | omega | (simp; done) | (simp; omega)) _ | refine below_at ?_ (by assumption) (by first | omega | (simp; done) | (simp; omega)))))); rintro e w1 ⟨rfl, hb1⟩; have s1 : w.heap.size + 2 ≤ w1.heap.size := (by have := hb1.size; (try simp at this); omega); have hc1 := bcellAt hb1 w.heap.size (by first | omega | (simp; done) | (simp; omega)); have hd1 := bcellAt hb1 (w.heap.size + 1) (by first | omega | (simp; done) | (simp; omega)))
        go_ret3
        exact ⟨ret3 (by rw [HR.out]) (by rw [HR.out]) (by rw [HF.out]), by (repeat (first | exact Below.refl _ _ | assumption | refine below_draws ?_ _ | refine Below.drew ?_ | refine below_alloc ?_ _ (by first | omega | (simp; done) | (simp; omega)) | refine Below.setCell ?_ (by first | omega | (simp; done) | (simp; omega)) _ | refine below_at ?_ (by assumption) (by first | omega | (simp; done) | (simp; omega))))⟩
      · have HR : Hid (reachV l x o = (min 200000 (marginV l x o * 1000 / x.perKm), true)) := by unfold reachV; rw [if_neg (by omega), if_neg hp]; exact rfl
        have HF := Lib.hid hf
        have hp' : (x.perKm == 0) = false := by simp [hp]
        have hp1 : 1 ≤ x.perKm := by omega
        clear hf hp
        go_enter Try.func26, Try.ntmps26
        go_wp2_with (go_at_call 24; refine (margin_any _ l x o _ ?_).mono ?_; (exact h.below (by (repeat (first | exact Below.refl _ _ | assumption | refine below_draws ?_ _ | refine Below.drew ?_ | refine below_alloc ?_ _ (by first | omega | (simp; done) | (simp; omega)) | refine Below.setCell ?_ (by first | omega | (simp; done) | (simp; omega)) _ | refine below_at ?_ (by assumption) (by first | omega | (simp; done) | (simp; omega)))))); rintro e w1 ⟨rfl, hb1⟩; have s1 : w.heap.size + 2 ≤ w1.heap.size := (by have := hb1.size; (try simp at this); omega); have hc1 := bcellAt hb1 w.heap.size (by first | omega | (simp; done) | (simp; omega)); have hd1 := bcellAt hb1 (w.heap.size + 1) (by first | omega | (simp; done) | (simp; omega)))
        all_goals go_ret3
        all_goals exact ⟨ret3 (by rw [HR.out]; simp <;> omega) (by rw [HR.out]) (by rw [HF.out]), by (repeat (first | exact Below.refl _ _ | assumption | refine below_draws ?_ _ | refine Below.drew ?_ | refine below_alloc ?_ _ (by first | omega | (simp; done) | (simp; omega)) | refine Below.setCell ?_ (by first | omega | (simp; done) | (simp; omega)) _ | refine below_at ?_ (by assumption) (by first | omega | (simp; done) | (simp; omega))))⟩
  · have hf' : (faultF l x o != 0) = true := by simp [hf]
    have HR : Hid (reachV l x o = (0, false)) := by unfold reachV; rw [if_pos (.inl hf)]; exact rfl
    clear hf
    go_enter Try.func26, Try.ntmps26
    go_wp2_with (go_at_call 24; refine (margin_any _ l x o _ ?_).mono ?_; (exact h.below (by (repeat (first | exact Below.refl _ _ | assumption | refine below_draws ?_ _ | refine Below.drew ?_ | refine below_alloc ?_ _ (by first | omega | (simp; done) | (simp; omega)) | refine Below.setCell ?_ (by first | omega | (simp; done) | (simp; omega)) _ | refine below_at ?_ (by assumption) (by first | omega | (simp; done) | (simp; omega)))))); rintro e w1 ⟨rfl, hb1⟩)
    go_ret3
    exact ⟨ret3 (by rw [HR.out]) (by rw [HR.out]) rfl, by (repeat (first | exact Below.refl _ _ | assumption | refine below_draws ?_ _ | refine Below.drew ?_ | refine below_alloc ?_ _ (by first | omega | (simp; done) | (simp; omega)) | refine Below.setCell ?_ (by first | omega | (simp; done) | (simp; omega)) _ | refine below_at ?_ (by assumption) (by first | omega | (simp; done) | (simp; omega))))⟩

set_option maxHeartbeats 1000000 in
theorem repairs_any (v : Value) (l : List Part) (x : Losses) (o : Optics) (s : Int) (w : World) (h : Arr Part.cells 2 w l v) : Calls Try.prog 27 #[v, .agg #[.int .i64 x.perKm, .int .i64 x.conn, .int .i64 x.dblg, .int .i64 x.exc], .agg #[.int .i64 o.launch, .int .i64 o.least, .int .i64 o.most], .int .i64 s] w
    fun e w' => e = .returned (.tuple #[.int .i64 (repairsV l x o s).1, .bool (repairsV l x o s).2, .int .i64 (repairsF l x o s)]) ∧ Below w.heap.size w w' := by
  obtain ⟨r1, r2⟩ := marginV_bound l x o
  by_cases hf : faultF l x o = 0
  · have hf' : (faultF l x o != 0) = false := by simp [hf]
    have hf2 : (faultF l x o == 0) = true := by simp [hf]
    cases hs : outB s 0 10000
    · obtain ⟨s1, s2⟩ := outB_false.1 hs
      have hr : repairsF l x o s = 0 := by unfold repairsF; rw [if_pos hf, hs]; rfl
      by_cases hl : marginV l x o < 0
      · have HR : Hid (repairsV l x o s = (0, false)) := by unfold repairsV; rw [if_pos (.inr hl)]; exact rfl
        have HF := Lib.hid (And.intro hf hr)
        clear hf hr
        go_enter Try.func27, Try.ntmps27
        go_wp2_with (first | (go_at_call 83; refine (out_any _ _ _ _).mono ?_; rintro e w' ⟨rfl, rfl⟩) | (go_at_call 24; refine (margin_any _ l x o _ ?_).mono ?_; (exact h.below (by (repeat (first | exact Below.refl _ _ | assumption | refine below_draws ?_ _ | refine Below.drew ?_ | refine below_alloc ?_ _ (by first | omega | (simp; done) | (simp; omega)) | refine Below.setCell ?_ (by first | omega | (simp; done) | (simp; omega)) _ | refine below_at ?_ (by assumption) (by first | omega | (simp; done) | (simp; omega)))))); rintro e w1 ⟨rfl, hb1⟩; have s1 : w.heap.size + 2 ≤ w1.heap.size := (by have := hb1.size; (try simp at this); omega); have hc1 := bcellAt hb1 w.heap.size (by first | omega | (simp; done) | (simp; omega)); have hd1 := bcellAt hb1 (w.heap.size + 1) (by first | omega | (simp; done) | (simp; omega))))
        go_ret3
        exact ⟨ret3 (by rw [HR.out]) (by rw [HR.out]) (by rw [HF.out.1, HF.out.2]), by (repeat (first | exact Below.refl _ _ | assumption | refine below_draws ?_ _ | refine Below.drew ?_ | refine below_alloc ?_ _ (by first | omega | (simp; done) | (simp; omega)) | refine Below.setCell ?_ (by first | omega | (simp; done) | (simp; omega)) _ | refine below_at ?_ (by assumption) (by first | omega | (simp; done) | (simp; omega))))⟩
      · by_cases hp : s = 0
        · subst hp
          have HR : Hid (repairsV l x o 0 = (1000000, true)) := by unfold repairsV; rw [if_neg (by omega), if_pos rfl]; exact rfl
          have HF := Lib.hid (And.intro hf hr)
          clear hf hr
          go_enter Try.func27, Try.ntmps27
          go_wp2_with (first | (go_at_call 83; refine (out_any _ _ _ _).mono ?_; rintro e w' ⟨rfl, rfl⟩) | (go_at_call 24; refine (margin_any _ l x o _ ?_).mono ?_; (exact h.below (by (repeat (first | exact Below.refl _ _ | assumption | refine below_draws ?_ _ | refine Below.drew ?_ | refine below_alloc ?_ _ (by first | omega | (simp; done) | (simp; omega)) | refine Below.setCell ?_ (by first | omega | (simp; done) | (simp; omega)) _ | refine below_at ?_ (by assumption) (by first | omega | (simp; done) | (simp; omega)))))); rintro e w1 ⟨rfl, hb1⟩; have s1 : w.heap.size + 2 ≤ w1.heap.size := (by have := hb1.size; (try simp at this); omega); have hc1 := bcellAt hb1 w.heap.size (by first | omega | (simp; done) | (simp; omega)); have hd1 := bcellAt hb1 (w.heap.size + 1) (by first | omega | (simp; done) | (simp; omega))))
          go_ret3
          exact ⟨ret3 (by rw [HR.out]) (by rw [HR.out]) (by rw [HF.out.2]), by (repeat (first | exact Below.refl _ _ | assumption | refine below_draws ?_ _ | refine Below.drew ?_ | refine below_alloc ?_ _ (by first | omega | (simp; done) | (simp; omega)) | refine Below.setCell ?_ (by first | omega | (simp; done) | (simp; omega)) _ | refine below_at ?_ (by assumption) (by first | omega | (simp; done) | (simp; omega))))⟩
        · have HR : Hid (repairsV l x o s = (min 1000000 (marginV l x o / s), true)) := by unfold repairsV; rw [if_neg (by omega), if_neg hp]; exact rfl
          have HF := Lib.hid (And.intro hf hr)
          have hp' : (s == 0) = false := by simp [hp]
          have hp1 : 1 ≤ s := by omega
          clear hf hr hp
          go_enter Try.func27, Try.ntmps27
          go_wp2_with (first | (go_at_call 83; refine (out_any _ _ _ _).mono ?_; rintro e w' ⟨rfl, rfl⟩) | (go_at_call 24; refine (margin_any _ l x o _ ?_).mono ?_; (exact h.below (by (repeat (first | exact Below.refl _ _ | assumption | refine below_draws ?_ _ | refine Below.drew ?_ | refine below_alloc ?_ _ (by first | omega | (simp; done) | (simp; omega)) | refine Below.setCell ?_ (by first | omega | (simp; done) | (simp; omega)) _ | refine below_at ?_ (by assumption) (by first | omega | (simp; done) | (simp; omega)))))); rintro e w1 ⟨rfl, hb1⟩; have s1 : w.heap.size + 2 ≤ w1.heap.size := (by have := hb1.size; (try simp at this); omega); have hc1 := bcellAt hb1 w.heap.size (by first | omega | (simp; done) | (simp; omega)); have hd1 := bcellAt hb1 (w.heap.size + 1) (by first | omega | (simp; done) | (simp; omega))))
          all_goals go_ret3
          all_goals exact ⟨ret3 (by rw [HR.out]; simp <;> omega) (by rw [HR.out]) (by rw [HF.out.2]), by (repeat (first | exact Below.refl _ _ | assumption | refine below_draws ?_ _ | refine Below.drew ?_ | refine below_alloc ?_ _ (by first | omega | (simp; done) | (simp; omega)) | refine Below.setCell ?_ (by first | omega | (simp; done) | (simp; omega)) _ | refine below_at ?_ (by assumption) (by first | omega | (simp; done) | (simp; omega))))⟩
    · have hr : repairsF l x o s = 1 := by unfold repairsF; rw [if_pos hf, hs]; rfl
      have HR : Hid (repairsV l x o s = (0, false)) := by unfold repairsV; rw [if_pos (.inl (by omega))]; exact rfl
      have HF := Lib.hid (And.intro hf hr)
      clear hf hr
      go_enter Try.func27, Try.ntmps27
      go_wp2_with (first | (go_at_call 83; refine (out_any _ _ _ _).mono ?_; rintro e w' ⟨rfl, rfl⟩) | (go_at_call 24; refine (margin_any _ l x o _ ?_).mono ?_; (exact h.below (by (repeat (first | exact Below.refl _ _ | assumption | refine below_draws ?_ _ | refine Below.drew ?_ | refine below_alloc ?_ _ (by first | omega | (simp; done) | (simp; omega)) | refine Below.setCell ?_ (by first | omega | (simp; done) | (simp; omega)) _ | refine below_at ?_ (by assumption) (by first | omega | (simp; done) | (simp; omega)))))); rintro e w1 ⟨rfl, hb1⟩; have s1 : w.heap.size + 2 ≤ w1.heap.size := (by have := hb1.size; (try simp at this); omega); have hc1 := bcellAt hb1 w.heap.size (by first | omega | (simp; done) | (simp; omega)); have hd1 := bcellAt hb1 (w.heap.size + 1) (by first | omega | (simp; done) | (simp; omega))))
      go_ret3
      exact ⟨ret3 (by rw [HR.out]) (by rw [HR.out]) (by rw [HF.out.2]), by (repeat (first | exact Below.refl _ _ | assumption | refine below_draws ?_ _ | refine Below.drew ?_ | refine below_alloc ?_ _ (by first | omega | (simp; done) | (simp; omega)) | refine Below.setCell ?_ (by first | omega | (simp; done) | (simp; omega)) _ | refine below_at ?_ (by assumption) (by first | omega | (simp; done) | (simp; omega))))⟩
  · have hf' : (faultF l x o != 0) = true := by simp [hf]
    have hf2 : (faultF l x o == 0) = false := by simp [hf]
    have hr : repairsF l x o s = faultF l x o := by unfold repairsF; rw [if_neg hf]
    have HR : Hid (repairsV l x o s = (0, false)) := by unfold repairsV; rw [if_pos (.inl (by omega))]; exact rfl
    have HF := Lib.hid hr
    clear hf hr
    go_enter Try.func27, Try.ntmps27
    go_wp2_with (go_at_call 24; refine (margin_any _ l x o _ ?_).mono ?_; (exact h.below (by (repeat (first | exact Below.refl _ _ | assumption | refine below_draws ?_ _ | refine Below.drew ?_ | refine below_alloc ?_ _ (by first | omega | (simp; done) | (simp; omega)) | refine Below.setCell ?_ (by first | omega | (simp; done) | (simp; omega)) _ | refine below_at ?_ (by assumption) (by first | omega | (simp; done) | (simp; omega)))))); rintro e w1 ⟨rfl, hb1⟩)
    go_ret3
    exact ⟨ret3 (by rw [HR.out]) (by rw [HR.out]) (by rw [HF.out]), by (repeat (first | exact Below.refl _ _ | assumption | refine below_draws ?_ _ | refine Below.drew ?_ | refine below_alloc ?_ _ (by first | omega | (simp; done) | (simp; omega)) | refine Below.setCell ?_ (by first | omega | (simp; done) | (simp; omega)) _ | refine below_at ?_ (by assumption) (by first | omega | (simp; done) | (simp; omega))))⟩
end Go.Proofs.Ytagpcgnlbgndmaa
