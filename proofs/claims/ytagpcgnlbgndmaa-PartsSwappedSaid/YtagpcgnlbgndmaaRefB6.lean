/- Walks of the reference's functions for chapter 2: the closures of reach and repairs, and what calls them. -/
import Derived.Test.YtagpcgnlbgndmaaRefB5
set_option linter.unusedVariables false
set_option linter.unusedSimpArgs false
namespace Go.Proofs.Ytagpcgnlbgndmaa
open Go Go.RowKit

set_option maxHeartbeats 1000000 in
theorem reachIs_any (m : Int) (N : Int) (x : Losses) (o : Optics) (b1 b2 b3 : Nat) (w : World) (hx : x.Ok) (oo : o.Ok) (hm : 1 ≤ m) (hm2 : m ≤ 200000) (hN : -300000000 ≤ N ∧ N ≤ 10000)
    (k1 : Blk w b1 #[.int .i64 N] 3) (k2 : Blk w b2 #[.int .i64 x.perKm, .int .i64 x.conn, .int .i64 x.dblg, .int .i64 x.exc] 29) (k3 : Blk w b3 #[.int .i64 o.launch, .int .i64 o.least, .int .i64 o.most] 32) :
    Calls Try.prog 99 #[.int .i64 m, .pointer (some ⟨b1, 0, none⟩), .pointer (some ⟨b2, 0, none⟩), .pointer (some ⟨b3, 0, none⟩)] w
    fun e w' => e = .returned (.bool (decide (o.least ≤ N - (x.perKm * m + 999) / 1000))) ∧ Below w.heap.size w w' := by
  have l1 := k1.lt
  have l2 := k2.lt
  have l3 := k3.lt
  have c1 := k1.cell 0 _ rfl
  have d0 := k2.cell 0 _ rfl
  have d1 := k2.cell 1 _ rfl
  have d2 := k2.cell 2 _ rfl
  have d3 := k2.cell 3 _ rfl
  have f1 := k3.cell 1 _ rfl
  have hl : total [⟨1, m⟩] x = (x.perKm * m + 999) / 1000 := by simp [total, lossOf]
  have HL := Lib.hid hl
  have hb := lossOf_bound (p := ⟨1, m⟩) (.inl ⟨rfl, hm, hm2⟩) hx
  have hb' : 0 ≤ (x.perKm * m + 999) / 1000 ∧ (x.perKm * m + 999) / 1000 ≤ 200000 := by simpa [lossOf] using hb
  generalize (x.perKm * m + 999) / 1000 = L at *
  obtain ⟨q1, q2⟩ := hb'
  have HX := Lib.hid hx
  have hw : IntKind.i64.wrap (N - L) = N - L := IntWalk.i64_in _ (by omega)
  clear hl hb hx oo k1 k2 k3
  go_enter Try.func99, Try.ntmps99
  go_wp2
  go_region_held3 (fun w' => w'.cell? ⟨b1, 0, none⟩ = some (.int .i64 N) ∧ w'.cell? ⟨b2, 0, none⟩ = some (.int .i64 x.perKm) ∧ w'.cell? ⟨b2, 1, none⟩ = some (.int .i64 x.conn) ∧ w'.cell? ⟨b2, 2, none⟩ = some (.int .i64 x.dblg) ∧ w'.cell? ⟨b2, 3, none⟩ = some (.int .i64 x.exc) ∧ w'.cell? ⟨b3, 1, none⟩ = some (.int .i64 o.least)) (go_keep)
      ((go_at_call 90; (refine (rlossOf_any _ [⟨1, m⟩] x _ ?_ ?_ ?_ HX.out).mono ?_; (refine Arr.drew ?_; exact Arr.litAt (cells := Part.cells) (sz := 2) Part.cells_len (by first | rfl | simp) (by rfl) (by rfl) (by simp [maxLen])); (simp only [List.mem_singleton, forall_eq]; exact .inl ⟨rfl, hm, hm2⟩); (simp); rintro e w2 ⟨rfl, hb2⟩; have s2 : w.heap.size + 1 ≤ w2.heap.size := (by have := hb2.size; (try simp at this); omega); have e1 := bcellAt hb2 b1 (by first | omega | (simp; done) | (simp; omega)); have e2 := bcellAt hb2 b2 (by first | omega | (simp; done) | (simp; omega)); have e3 := bcellAt hb2 b3 (by first | omega | (simp; done) | (simp; omega))); rw [HL.out]))
  go_wp2
  go_ret
  exact ⟨rfl, by (repeat (first | exact Below.refl _ _ | assumption | refine below_draws ?_ _ | refine Below.drew ?_ | refine below_alloc ?_ _ (by first | omega | (simp; done) | (simp; omega)) | refine Below.setCell ?_ (by first | omega | (simp; done) | (simp; omega)) _ | refine below_at ?_ (by assumption) (by first | omega | (simp; done) | (simp; omega))))⟩

set_option maxHeartbeats 1000000 in
theorem repairsIs_any (m : Int) (N s : Int) (o : Optics) (b1 b2 b3 : Nat) (w : World) (oo : o.Ok) (hs : 0 ≤ s ∧ s ≤ 10000) (hm : 1 ≤ m) (hm2 : m ≤ 1000000) (hN : -300000000 ≤ N ∧ N ≤ 10000)
    (k1 : Blk w b1 #[.int .i64 N] 3) (k2 : Blk w b2 #[.int .i64 s] 3) (k3 : Blk w b3 #[.int .i64 o.launch, .int .i64 o.least, .int .i64 o.most] 32) :
    Calls Try.prog 98 #[.int .i64 m, .pointer (some ⟨b1, 0, none⟩), .pointer (some ⟨b2, 0, none⟩), .pointer (some ⟨b3, 0, none⟩)] w
    fun e w' => e = .returned (.bool (decide (o.least ≤ N - m * s))) ∧ Below w.heap.size w w' := by
  have c1 := k1.cell 0 _ rfl
  have d0 := k2.cell 0 _ rfl
  have f1 := k3.cell 1 _ rfl
  obtain ⟨s1, s2⟩ := hs
  have m1 : 0 ≤ m * s := Int.mul_nonneg (by omega) s1
  have m2 : m * s ≤ 1000000 * 10000 := Int.mul_le_mul hm2 s2 (by omega) (by omega)
  clear k1 k2 k3 oo
  go_enter Try.func98, Try.ntmps98
  go_wp2
  go_ret
  exact ⟨rfl, by (repeat (first | exact Below.refl _ _ | assumption | refine below_draws ?_ _ | refine Below.drew ?_ | refine below_alloc ?_ _ (by first | omega | (simp; done) | (simp; omega)) | refine Below.setCell ?_ (by first | omega | (simp; done) | (simp; omega)) _ | refine below_at ?_ (by assumption) (by first | omega | (simp; done) | (simp; omega))))⟩

theorem reach_iff (pk N m le : Int) (h : 1 ≤ pk) : (le ≤ N - (pk * m + 999) / 1000) ↔ m ≤ (N - le) * 1000 / pk := by
  rw [Int.le_ediv_iff_mul_le (by omega), Int.mul_comm m pk]
  omega
theorem repairs_iff (s N m le : Int) (h : 1 ≤ s) : (le ≤ N - m * s) ↔ m ≤ (N - le) / s := by
  rw [Int.le_ediv_iff_mul_le (by omega)]
  omega

set_option maxHeartbeats 1000000 in
set_option maxRecDepth 100000 in
theorem reachOf_any (v : Value) (l : List Part) (x : Losses) (o : Optics) (w : World) (h : Arr Part.cells 2 w l v) (hf : faultF l x o = 0) : Calls Try.prog 36 #[v, .agg #[.int .i64 x.perKm, .int .i64 x.conn, .int .i64 x.dblg, .int .i64 x.exc], .agg #[.int .i64 o.launch, .int .i64 o.least, .int .i64 o.most]] w
    fun e w' => e = .returned (.tuple #[.int .i64 (reachV l x o).1, .bool (reachV l x o).2]) ∧ Below w.heap.size w w' := by
  obtain ⟨⟨z1, z2⟩, z3, oo⟩ := faultF_zero.1 hf
  have ok : AllOk l x := ⟨z2, z1, z3⟩
  have hb := ok.bound
  have OK := Lib.hid (And.intro ok oo)
  have hM : marginV l x o = o.launch - total l x - o.least := by unfold marginV; rw [if_pos hf]
  have oo' := oo
  unfold Optics.Ok at oo'
  obtain ⟨o1, o2, o3, o4, o5⟩ := oo'
  clear ok z1 z2
  by_cases hl : o.launch - total l x < o.least
  · have HR : Hid (reachV l x o = (0, false)) := by unfold reachV; rw [if_pos (.inr (by omega))]; exact rfl
    clear hf hM
    go_enter Try.func36, Try.ntmps36
    go_wp2_with (go_at_call 34; refine (receivedOf_any _ l x o _ ?_ OK.out.1 OK.out.2).mono ?_; (exact h.below (by (repeat (first | exact Below.refl _ _ | assumption | refine below_draws ?_ _ | refine Below.drew ?_ | refine below_alloc ?_ _ (by first | omega | (simp; done) | (simp; omega)) | refine Below.setCell ?_ (by first | omega | (simp; done) | (simp; omega)) _ | refine below_at ?_ (by assumption) (by first | omega | (simp; done) | (simp; omega)))))); rintro e w1 ⟨rfl, hb1⟩; have s1 : w.heap.size + 2 ≤ w1.heap.size := (by have := hb1.size; (try simp at this); omega); have hc1 := bcellAt hb1 w.heap.size (by first | omega | (simp; done) | (simp; omega)); have hd1 := bcellAt hb1 (w.heap.size + 1) (by first | omega | (simp; done) | (simp; omega)); have t0 : w.heap.size < w1.heap.size := (by omega); have t1 : w.heap.size + 1 < w1.heap.size := (by omega))
    go_ret2
    exact ⟨ret_ib (by rw [HR.out]) (by rw [HR.out]), by (repeat (first | exact Below.refl _ _ | assumption | refine below_draws ?_ _ | refine Below.drew ?_ | refine below_alloc ?_ _ (by first | omega | (simp; done) | (simp; omega)) | refine Below.setCell ?_ (by first | omega | (simp; done) | (simp; omega)) _ | refine below_at ?_ (by assumption) (by first | omega | (simp; done) | (simp; omega))))⟩
  · obtain ⟨N, hN⟩ : ∃ N, N = o.launch - total l x := ⟨_, rfl⟩
    obtain ⟨M, hM0, hMp, hMr⟩ : ∃ M : Int, 0 ≤ M ∧ (∀ n, 1 ≤ n → n ≤ 200000 → decide (n ≤ M) = decide (o.least ≤ N - (x.perKm * n + 999) / 1000)) ∧ reachV l x o = (min 200000 M, true) := by
      by_cases hp : x.perKm = 0
      · refine ⟨200000, by omega, fun n h1 h2 => ?_, ?_⟩
        · rw [hp]; rw [decide_eq_decide]; omega
        · unfold reachV; rw [if_neg (by omega), if_pos hp]; rfl
      · have hp1 : 1 ≤ x.perKm := by unfold Losses.Ok at z3; omega
        refine ⟨(N - o.least) * 1000 / x.perKm, Int.ediv_nonneg (by omega) (by omega), fun n h1 h2 => ?_, ?_⟩
        · rw [decide_eq_decide]; exact (reach_iff _ _ _ _ hp1).symm
        · unfold reachV; rw [if_neg (by omega), if_neg hp, hM, hN]
    have HM := Lib.hid (And.intro hMp hMr)
    have HN := Lib.hid hN
    have hN1 : -300000000 ≤ N ∧ N ≤ 10000 := by omega
    have hN2 : o.least ≤ N := by omega
    have hF := run_fn Try.func99 (by kernel_rfl) rfl
    have HF := Lib.hid hF
    clear hf hM hMp hMr hN hF
    go_enter Try.func36, Try.ntmps36
    go_wp2_with (go_at_call 34; refine (receivedOf_any _ l x o _ ?_ OK.out.1 OK.out.2).mono ?_; (exact h.below (by (repeat (first | exact Below.refl _ _ | assumption | refine below_draws ?_ _ | refine Below.drew ?_ | refine below_alloc ?_ _ (by first | omega | (simp; done) | (simp; omega)) | refine Below.setCell ?_ (by first | omega | (simp; done) | (simp; omega)) _ | refine below_at ?_ (by assumption) (by first | omega | (simp; done) | (simp; omega)))))); rintro e w1 ⟨rfl, hb1⟩; have s1 : w.heap.size + 2 ≤ w1.heap.size := (by have := hb1.size; (try simp at this); omega); have hc1 := bcellAt hb1 w.heap.size (by first | omega | (simp; done) | (simp; omega)); have hd1 := bcellAt hb1 (w.heap.size + 1) (by first | omega | (simp; done) | (simp; omega)); have t0 : w.heap.size < w1.heap.size := (by omega); have t1 : w.heap.size + 1 < w1.heap.size := (by omega); rw [← HN.out])
    refine (greatest_any 99 _ _ _ 200000 M _ (by omega) (by omega) hM0 HF.out ?_).mono ?_
    · intro n w' q1 q2 hB'
      rw [HM.out.1 n q1 q2]
      have b1 : Blk (w1.alloc (.cells #[.int .i64 N] 3)) w1.heap.size #[.int .i64 N] 3 := Blk.new w1 _ _
      have b2 : Blk (w1.alloc (.cells #[.int .i64 N] 3)) w.heap.size #[.int .i64 x.perKm, .int .i64 x.conn, .int .i64 x.dblg, .int .i64 x.exc] 29 := (((Blk.new w _ _).alloc _).below hb1 (by first | omega | (simp; done) | (simp; omega))).alloc _
      have b3 : Blk (w1.alloc (.cells #[.int .i64 N] 3)) (w.heap.size + 1) #[.int .i64 o.launch, .int .i64 o.least, .int .i64 o.most] 32 := ((Blk.newAt (by simp)).below hb1 (by first | omega | (simp; done) | (simp; omega))).alloc _
      exact reachIs_any n N x o _ _ _ w' OK.out.1.2.2 OK.out.2 q1 q2 hN1 (b1.below hB' (by first | omega | (simp; done) | (simp; omega))) (b2.below hB' (by first | omega | (simp; done) | (simp; omega))) (b3.below hB' (by first | omega | (simp; done) | (simp; omega)))
    · rintro e w2 ⟨rfl, hb2⟩
      go_wp2
      go_ret2
      exact ⟨ret_ib (by rw [HM.out.2]) (by rw [HM.out.2]), by (repeat (first | exact Below.refl _ _ | assumption | refine below_draws ?_ _ | refine Below.drew ?_ | refine below_alloc ?_ _ (by first | omega | (simp; done) | (simp; omega)) | refine Below.setCell ?_ (by first | omega | (simp; done) | (simp; omega)) _ | refine below_at ?_ (by assumption) (by first | omega | (simp; done) | (simp; omega))))⟩

set_option maxHeartbeats 1000000 in
set_option maxRecDepth 100000 in
theorem repairsOf_any (v : Value) (l : List Part) (x : Losses) (o : Optics) (s : Int) (w : World) (h : Arr Part.cells 2 w l v) (hf : repairsF l x o s = 0) : Calls Try.prog 32 #[v, .agg #[.int .i64 x.perKm, .int .i64 x.conn, .int .i64 x.dblg, .int .i64 x.exc], .agg #[.int .i64 o.launch, .int .i64 o.least, .int .i64 o.most], .int .i64 s] w
    fun e w' => e = .returned (.tuple #[.int .i64 (repairsV l x o s).1, .bool (repairsV l x o s).2]) ∧ Below w.heap.size w w' := by
  have hf0 : faultF l x o = 0 := by
    unfold repairsF at hf
    split at hf
    · assumption
    · exact hf
  have hs : 0 ≤ s ∧ s ≤ 10000 := by
    unfold repairsF at hf
    rw [if_pos hf0] at hf
    cases h : outB s 0 10000
    · exact outB_false.1 h
    · rw [h] at hf; simp at hf
  obtain ⟨⟨z1, z2⟩, z3, oo⟩ := faultF_zero.1 hf0
  have ok : AllOk l x := ⟨z2, z1, z3⟩
  have hb := ok.bound
  have OK := Lib.hid (And.intro ok (And.intro oo hs))
  have hM : marginV l x o = o.launch - total l x - o.least := by unfold marginV; rw [if_pos hf0]
  have oo' := oo
  unfold Optics.Ok at oo'
  obtain ⟨o1, o2, o3, o4, o5⟩ := oo'
  clear ok z1 z2
  by_cases hl : o.launch - total l x < o.least
  · have HR : Hid (repairsV l x o s = (0, false)) := by unfold repairsV; rw [if_pos (.inr (by omega))]; exact rfl
    clear hf hf0 hM hs
    go_enter Try.func32, Try.ntmps32
    go_wp2_with (go_at_call 34; refine (receivedOf_any _ l x o _ ?_ OK.out.1 OK.out.2.1).mono ?_; (exact h.below (by (repeat (first | exact Below.refl _ _ | assumption | refine below_draws ?_ _ | refine Below.drew ?_ | refine below_alloc ?_ _ (by first | omega | (simp; done) | (simp; omega)) | refine Below.setCell ?_ (by first | omega | (simp; done) | (simp; omega)) _ | refine below_at ?_ (by assumption) (by first | omega | (simp; done) | (simp; omega)))))); rintro e w1 ⟨rfl, hb1⟩; have s1 : w.heap.size + 3 ≤ w1.heap.size := (by have := hb1.size; (try simp at this); omega); have hc1 := bcellAt hb1 w.heap.size (by first | omega | (simp; done) | (simp; omega)); have hd1 := bcellAt hb1 (w.heap.size + 1) (by first | omega | (simp; done) | (simp; omega)); have he1 := bcellAt hb1 (w.heap.size + 2) (by first | omega | (simp; done) | (simp; omega)); have t0 : w.heap.size < w1.heap.size := (by omega); have t1 : w.heap.size + 1 < w1.heap.size := (by omega); have t2 : w.heap.size + 2 < w1.heap.size := (by omega))
    go_ret2
    exact ⟨ret_ib (by rw [HR.out]) (by rw [HR.out]), by (repeat (first | exact Below.refl _ _ | assumption | refine below_draws ?_ _ | refine Below.drew ?_ | refine below_alloc ?_ _ (by first | omega | (simp; done) | (simp; omega)) | refine Below.setCell ?_ (by first | omega | (simp; done) | (simp; omega)) _ | refine below_at ?_ (by assumption) (by first | omega | (simp; done) | (simp; omega))))⟩
  · obtain ⟨N, hN⟩ : ∃ N, N = o.launch - total l x := ⟨_, rfl⟩
    obtain ⟨M, hM0, hMp, hMr⟩ : ∃ M : Int, 0 ≤ M ∧ (∀ n, 1 ≤ n → n ≤ 1000000 → decide (n ≤ M) = decide (o.least ≤ N - n * s)) ∧ repairsV l x o s = (min 1000000 M, true) := by
      by_cases hp : s = 0
      · refine ⟨1000000, by omega, fun n h1 h2 => ?_, ?_⟩
        · rw [hp]; rw [decide_eq_decide]; omega
        · unfold repairsV; rw [if_neg (by omega), if_pos hp]; rfl
      · have hp1 : 1 ≤ s := by omega
        refine ⟨(N - o.least) / s, Int.ediv_nonneg (by omega) (by omega), fun n h1 h2 => ?_, ?_⟩
        · rw [decide_eq_decide]; exact (repairs_iff _ _ _ _ hp1).symm
        · unfold repairsV; rw [if_neg (by omega), if_neg hp, hM, hN]
    have HM := Lib.hid (And.intro hMp hMr)
    have HN := Lib.hid hN
    have hN1 : -300000000 ≤ N ∧ N ≤ 10000 := by omega
    have hN2 : o.least ≤ N := by omega
    have hF := run_fn Try.func98 (by kernel_rfl) rfl
    have HF := Lib.hid hF
    clear hf hf0 hM hMp hMr hN hF hs
    go_enter Try.func32, Try.ntmps32
    go_wp2_with (go_at_call 34; refine (receivedOf_any _ l x o _ ?_ OK.out.1 OK.out.2.1).mono ?_; (exact h.below (by (repeat (first | exact Below.refl _ _ | assumption | refine below_draws ?_ _ | refine Below.drew ?_ | refine below_alloc ?_ _ (by first | omega | (simp; done) | (simp; omega)) | refine Below.setCell ?_ (by first | omega | (simp; done) | (simp; omega)) _ | refine below_at ?_ (by assumption) (by first | omega | (simp; done) | (simp; omega)))))); rintro e w1 ⟨rfl, hb1⟩; have s1 : w.heap.size + 3 ≤ w1.heap.size := (by have := hb1.size; (try simp at this); omega); have hc1 := bcellAt hb1 w.heap.size (by first | omega | (simp; done) | (simp; omega)); have hd1 := bcellAt hb1 (w.heap.size + 1) (by first | omega | (simp; done) | (simp; omega)); have he1 := bcellAt hb1 (w.heap.size + 2) (by first | omega | (simp; done) | (simp; omega)); have t0 : w.heap.size < w1.heap.size := (by omega); have t1 : w.heap.size + 1 < w1.heap.size := (by omega); have t2 : w.heap.size + 2 < w1.heap.size := (by omega); rw [← HN.out])
    refine (greatest_any 98 _ _ _ 1000000 M _ (by omega) (by omega) hM0 HF.out ?_).mono ?_
    · intro n w' q1 q2 hB'
      rw [HM.out.1 n q1 q2]
      have b1 : Blk (w1.alloc (.cells #[.int .i64 N] 3)) w1.heap.size #[.int .i64 N] 3 := Blk.new w1 _ _
      have b2 : Blk (w1.alloc (.cells #[.int .i64 N] 3)) (w.heap.size + 2) #[.int .i64 s] 3 := ((Blk.newAt (by simp)).below hb1 (by first | omega | (simp; done) | (simp; omega))).alloc _
      have b3 : Blk (w1.alloc (.cells #[.int .i64 N] 3)) (w.heap.size + 1) #[.int .i64 o.launch, .int .i64 o.least, .int .i64 o.most] 32 := (((Blk.newAt (by simp)).alloc _).below hb1 (by first | omega | (simp; done) | (simp; omega))).alloc _
      exact repairsIs_any n N s o _ _ _ w' OK.out.2.1 OK.out.2.2 q1 q2 hN1 (b1.below hB' (by first | omega | (simp; done) | (simp; omega))) (b2.below hB' (by first | omega | (simp; done) | (simp; omega))) (b3.below hB' (by first | omega | (simp; done) | (simp; omega)))
    · rintro e w2 ⟨rfl, hb2⟩
      go_wp2
      go_ret2
      exact ⟨ret_ib (by rw [HM.out.2]) (by rw [HM.out.2]), by (repeat (first | exact Below.refl _ _ | assumption | refine below_draws ?_ _ | refine Below.drew ?_ | refine below_alloc ?_ _ (by first | omega | (simp; done) | (simp; omega)) | refine Below.setCell ?_ (by first | omega | (simp; done) | (simp; omega)) _ | refine below_at ?_ (by assumption) (by first | omega | (simp; done) | (simp; omega))))⟩
end Go.Proofs.Ytagpcgnlbgndmaa
