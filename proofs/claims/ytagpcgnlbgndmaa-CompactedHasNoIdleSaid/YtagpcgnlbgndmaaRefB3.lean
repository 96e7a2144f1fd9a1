/- Walks of the reference's functions for chapter 2: faults. -/
import Derived.Test.YtagpcgnlbgndmaaRefB1
import Derived.Test.YtagpcgnlbgndmaaWalkB2
set_option linter.unusedVariables false
set_option linter.unusedSimpArgs false
namespace Go.Proofs.Ytagpcgnlbgndmaa
open Go Go.RowKit

set_option maxHeartbeats 1000000 in
theorem or_any (v : Value) (l : List Int) (w : World) (h : Arr intCells 1 w l v) : Calls Try.prog 19 #[v] w
    fun e w' => e = .returned (.int .i64 (firstF l)) ∧ w = w' := by
  obtain ⟨a, cap, rfl, hcap, hmax, hc⟩ := h
  have hlen : l.length ≤ maxLen := by omega
  unfold maxLen at hlen hmax
  go_enter Try.func19, Try.ntmps19
  go_wp2
  go_loop [8] (fun i => ∃ k : Nat, k ≤ l.length ∧ i = .int .i64 k ∧ firstF (l.take k) = 0) (fun i => l.length - (intOf i).toNat)
  case atStart => exact ⟨0, by omega, rfl, rfl⟩
  case round =>
    obtain ⟨k, hk, rfl, hz⟩ := hrel
    have HZ := Lib.hid hz
    clear hz
    by_cases hlt : k < l.length
    · obtain ⟨b, off, rfl, hb, hcc⟩ := hc k hlt
      have h0 := hcc 0 _ rfl
      simp only [Nat.mul_one, Nat.add_zero] at h0
      clear hc hcc
      by_cases hx : l[k] = 0
      · have hx' : (l[k] != 0) = false := by simp [hx]
        have HX := Lib.hid hx
        clear hx
        go_wp2
        go_round
        case rel => exact ⟨k + 1, by omega, by go_num, by rw [firstF_take_succ l k hlt HZ.out]; exact HX.out⟩
        case measure => simp [intOf]; omega
      · have hx' : (l[k] != 0) = true := by simp [hx]
        have HX := Lib.hid hx
        clear hx
        go_wp2
        go_ret
        exact ⟨ret_int (by rw [firstF_hit l k hlt HZ.out HX.out]), rfl⟩
    · go_wp2
      go_ret
      exact ⟨ret_int (by have := HZ.out; rw [List.take_of_length_le (by omega)] at this; rw [this]), rfl⟩

set_option maxHeartbeats 1000000 in
theorem rpartsFault_any (v : Value) (l : List Part) (w : World) (h : Arr Part.cells 2 w l v) : Calls Try.prog 20 #[v] w
    fun e w' => e = .returned (.int .i64 (partsFault l)) ∧ Below w.heap.size w w' := by
  obtain ⟨a, cap, rfl, hcap, hmax, hc⟩ := h
  have hlen : l.length ≤ maxLen := by omega
  unfold maxLen at hlen hmax
  by_cases hbig : 1000 < l.length
  · go_enter Try.func20, Try.ntmps20
    go_wp2
    go_ret
    exact ⟨ret_int (by simp [partsFault, hbig]), by (repeat (first | exact Below.refl _ _ | assumption | refine below_draws ?_ _ | refine Below.drew ?_ | refine below_alloc ?_ _ (by first | omega | (simp; done) | (simp; omega)) | refine Below.setCell ?_ (by first | omega | (simp; done) | (simp; omega)) _ | refine below_at ?_ (by assumption) (by first | omega | (simp; done) | (simp; omega))))⟩
  go_enter Try.func20, Try.ntmps20
  go_wp2
  go_loopw [11] (fun i wr => ∃ k : Nat, k ≤ l.length ∧ i = .int .i64 k ∧ firstF ((l.map partFault).take k) = 0 ∧ Below w.heap.size w wr) (fun i _ => l.length - (intOf i).toNat)
  case atStart => exact ⟨0, by omega, rfl, rfl, Below.refl _ _⟩
  case round =>
    obtain ⟨k, hk, rfl, hz, hB⟩ := hrel
    have HZ := Lib.hid hz
    clear hz
    have hsz := hB.size
    by_cases hlt : k < l.length
    · obtain ⟨b, off, rfl, hb, hcc⟩ := hc k hlt
      obtain ⟨c0, c1⟩ := part_at hcc
      replace c0 := (hB.cell (p := ⟨b, _, none⟩) hb).trans c0
      replace c1 := (hB.cell (p := ⟨b, _, none⟩) hb).trans c1
      clear hc hcc
      have hlt' : k < (l.map partFault).length := by simpa using hlt
      by_cases hx : partFault l[k] = 0
      · have hx' : (partFault l[k] != 0) = false := by simp [hx]
        have HX := Lib.hid hx
        clear hx
        go_wp2_with (go_at_call 79; refine (rpartFault_any _ _).mono ?_; rintro e w1 ⟨rfl, hb1⟩)
        go_roundw
        case rel => exact ⟨k + 1, by omega, by go_num, by rw [firstF_take_succ _ k hlt' HZ.out]; simpa using HX.out, by (repeat (first | exact Below.refl _ _ | assumption | refine below_draws ?_ _ | refine Below.drew ?_ | refine below_alloc ?_ _ (by first | omega | (simp; done) | (simp; omega)) | refine Below.setCell ?_ (by first | omega | (simp; done) | (simp; omega)) _ | refine below_at ?_ (by assumption) (by first | omega | (simp; done) | (simp; omega))))⟩
        case measure => simp [intOf]; omega
      · have hx' : (partFault l[k] != 0) = true := by simp [hx]
        have HX := Lib.hid hx
        clear hx
        go_wp2_with (go_at_call 79; refine (rpartFault_any _ _).mono ?_; rintro e w1 ⟨rfl, hb1⟩)
        go_ret
        exact ⟨ret_int (by unfold partsFault; rw [if_neg hbig, firstF_hit _ k hlt' HZ.out (by simpa using HX.out)]; simp), by (repeat (first | exact Below.refl _ _ | assumption | refine below_draws ?_ _ | refine Below.drew ?_ | refine below_alloc ?_ _ (by first | omega | (simp; done) | (simp; omega)) | refine Below.setCell ?_ (by first | omega | (simp; done) | (simp; omega)) _ | refine below_at ?_ (by assumption) (by first | omega | (simp; done) | (simp; omega))))⟩
    · go_wp2
      go_ret
      exact ⟨ret_int (by have := HZ.out; rw [List.take_of_length_le (by simp; omega)] at this; unfold partsFault; rw [if_neg hbig, this]), by (repeat (first | exact Below.refl _ _ | assumption | refine below_draws ?_ _ | refine Below.drew ?_ | refine below_alloc ?_ _ (by first | omega | (simp; done) | (simp; omega)) | refine Below.setCell ?_ (by first | omega | (simp; done) | (simp; omega)) _ | refine below_at ?_ (by assumption) (by first | omega | (simp; done) | (simp; omega))))⟩

theorem ropticsEnd (o : Optics) (h : (outB o.launch (-10000) 10000 || outB o.least (-10000) 10000 || outB o.most (-10000) 10000) = false) : spanF o.most o.least 10000 = opticsFault o := by
  unfold opticsFault
  rw [h]
  simp only [Bool.or_eq_false_iff, outB_false] at h
  unfold spanF outB
  simp only [Bool.false_or, decide_eq_true_eq]
  split <;> split <;> omega

set_option maxHeartbeats 1000000 in
theorem ropticsFault_any (o : Optics) (w : World) : Calls Try.prog 22 #[.agg #[.int .i64 o.launch, .int .i64 o.least, .int .i64 o.most]] w
    fun e w' => e = .returned (.int .i64 (opticsFault o)) ∧ Below w.heap.size w w' := by
  have hA := Arr.lit (cells := intCells) (sz := 1) (fun _ => rfl) (w.alloc (.cells #[.int .i64 o.launch, .int .i64 o.least, .int .i64 o.most] 32)) [o.launch, o.least, o.most] #[.int .i64 o.launch, .int .i64 o.least, .int .i64 o.most] 3 3 rfl rfl (by simp [maxLen])
  generalize hl : [o.launch, o.least, o.most] = l at hA
  have hl4 : l.length = 3 := by rw [← hl]; rfl
  have HL := Lib.hid hl
  clear hl
  obtain ⟨a, cap, he, hcap, hmax, hc⟩ := hA
  simp only [World.size_alloc, Value.slice.injEq] at he
  obtain ⟨he1, he2, he3⟩ := he
  have HE := Lib.hid he1
  clear he1 he2 he3
  have H4 := Lib.hid hl4
  have hl5 : l.length ≤ 3 := by omega
  have hl6 : 3 ≤ l.length := by omega
  clear hl4
  go_enter Try.func22, Try.ntmps22
  go_wp2
  go_loopw [13] (fun i wr => ∃ k : Nat, k ≤ 3 ∧ i = .int .i64 k ∧ firstF ((l.map fun n => if outB n (-10000) 10000 then 1 else 0).take k) = 0 ∧
    Below (w.heap.size + 2) ((w.alloc (.cells #[.int .i64 o.launch, .int .i64 o.least, .int .i64 o.most] 32)).alloc (.cells #[.int .i64 o.launch, .int .i64 o.least, .int .i64 o.most] 3)) wr) (fun i _ => 3 - (intOf i).toNat)
  case atStart => exact ⟨0, by omega, rfl, rfl, Below.refl _ _⟩
  case round =>
    obtain ⟨k, hk, rfl, hz, hB⟩ := hrel
    have HZ := Lib.hid hz
    clear hz
    have hB0 : Below w.heap.size w wr := by (repeat (first | exact Below.refl _ _ | assumption | refine below_draws ?_ _ | refine Below.drew ?_ | refine below_alloc ?_ _ (by first | omega | (simp; done) | (simp; omega)) | refine Below.setCell ?_ (by first | omega | (simp; done) | (simp; omega)) _ | refine below_at ?_ (by assumption) (by first | omega | (simp; done) | (simp; omega))))
    by_cases hlt : k < l.length
    · obtain ⟨b, off, ha, hb, hcc⟩ := hc k hlt
      have h1 := HE.out
      rw [ha] at h1
      simp only [Option.some.injEq, Addr.mk.injEq, and_true] at h1
      obtain ⟨rfl, rfl⟩ := h1
      have c0 := hcc 0 _ rfl
      simp only [Nat.mul_one, Nat.add_zero, Nat.zero_add] at c0
      replace c0 := (hB.cell (p := ⟨w.heap.size + 1, _, none⟩) (by simp)).trans c0
      clear hc hcc ha
      have hlt' : k < (l.map fun n => if outB n (-10000) 10000 then (1 : Int) else 0).length := by simpa using hlt
      cases hx : outB l[k] (-10000) 10000
      · go_wp2_with (first | (go_at_call 80; refine (rin_any _ _ _ _).mono ?_; rintro e w' ⟨rfl, rfl⟩) | (go_at_call 31; refine (span_any _ _ _ _).mono ?_; rintro e w' ⟨rfl, rfl⟩))
        go_roundw
        case rel => exact ⟨k + 1, by omega, by go_num, by rw [firstF_take_succ _ k hlt' HZ.out]; simp [hx], by (repeat (first | exact Below.refl _ _ | assumption | refine below_draws ?_ _ | refine Below.drew ?_ | refine below_alloc ?_ _ (by first | omega | (simp; done) | (simp; omega)) | refine Below.setCell ?_ (by first | omega | (simp; done) | (simp; omega)) _ | refine below_at ?_ (by assumption) (by first | omega | (simp; done) | (simp; omega))))⟩
        case measure => simp [intOf]; omega
      · go_wp2_with (first | (go_at_call 80; refine (rin_any _ _ _ _).mono ?_; rintro e w' ⟨rfl, rfl⟩) | (go_at_call 31; refine (span_any _ _ _ _).mono ?_; rintro e w' ⟨rfl, rfl⟩))
        go_ret
        have hf : (outB o.launch (-10000) 10000 || outB o.least (-10000) 10000 || outB o.most (-10000) 10000) = true := by
          have := opticsOut o
          rw [HL.out, firstF_hit _ k hlt' HZ.out (by simp [hx])] at this
          revert this
          cases (outB o.launch (-10000) 10000 || outB o.least (-10000) 10000 || outB o.most (-10000) 10000) <;> simp [hx]
        exact ⟨ret_int (by unfold opticsFault; rw [hf]; simp), by (repeat (first | exact Below.refl _ _ | assumption | refine below_draws ?_ _ | refine Below.drew ?_ | refine below_alloc ?_ _ (by first | omega | (simp; done) | (simp; omega)) | refine Below.setCell ?_ (by first | omega | (simp; done) | (simp; omega)) _ | refine below_at ?_ (by assumption) (by first | omega | (simp; done) | (simp; omega))))⟩
    · have hk3 : k = l.length := by omega
      have HK := Lib.hid hk3
      clear hk3
      have hf : (outB o.launch (-10000) 10000 || outB o.least (-10000) 10000 || outB o.most (-10000) 10000) = false := by
        have e := HZ.out
        rw [List.take_of_length_le (by simp; omega)] at e
        have := opticsOut o
        rw [HL.out, e] at this
        revert this
        cases (outB o.launch (-10000) 10000 || outB o.least (-10000) 10000 || outB o.most (-10000) 10000) <;> simp
      have HF := Lib.hid hf
      clear hf
      have hb2 : Blk wr w.heap.size #[.int .i64 o.launch, .int .i64 o.least, .int .i64 o.most] 32 := ((Blk.new w _ _).alloc _).below hB (by omega)
      have d1 := hb2.cell 1 _ rfl
      have d2 := hb2.cell 2 _ rfl
      go_wp2_with (go_at_call 31; refine (span_any _ _ _ _).mono ?_; rintro e w' ⟨rfl, rfl⟩)
      go_ret
      exact ⟨ret_int (ropticsEnd o HF.out), by (repeat (first | exact Below.refl _ _ | assumption | refine below_draws ?_ _ | refine Below.drew ?_ | refine below_alloc ?_ _ (by first | omega | (simp; done) | (simp; omega)) | refine Below.setCell ?_ (by first | omega | (simp; done) | (simp; omega)) _ | refine below_at ?_ (by assumption) (by first | omega | (simp; done) | (simp; omega))))⟩


set_option maxHeartbeats 1000000 in
theorem rlossesFault_any (x : Losses) (w : World) : Calls Try.prog 21 #[.agg #[.int .i64 x.perKm, .int .i64 x.conn, .int .i64 x.dblg, .int .i64 x.exc]] w
    fun e w' => e = .returned (.int .i64 (lossesFault x)) ∧ Below w.heap.size w w' := by
  have HF := Lib.hid (lossesFault_eq x)
  go_enter Try.func21, Try.ntmps21
  go_wp2
  go_region_held3 (fun w' => w'.cell? ⟨w.heap.size, 0, none⟩ = some (.int .i64 x.perKm) ∧ w'.cell? ⟨w.heap.size, 1, none⟩ = some (.int .i64 x.conn) ∧ w'.cell? ⟨w.heap.size, 2, none⟩ = some (.int .i64 x.dblg) ∧ w'.cell? ⟨w.heap.size, 3, none⟩ = some (.int .i64 x.exc)) (go_keep)
    (first
      | (go_at_call 31; refine (span_any _ _ _ _).mono ?_; rintro e w' ⟨rfl, rfl⟩)
      | (go_at_call 19; refine (or_any _ [spanF x.perKm 0 1000, spanF x.conn 0 1000, spanF x.dblg 0 1000, spanF x.exc 0 1000] _ (by (try refine Arr.drew ?_); exact Arr.litAt (cells := intCells) (sz := 1) (fun _ => rfl) (by first | rfl | simp) (by rfl) (by rfl) (by simp [maxLen]))).mono ?_; rintro e w4 ⟨rfl, rfl⟩))
  go_wp2
  go_ret
  exact ⟨ret_int (by rw [HF.out]; rfl), by (repeat (first | exact Below.refl _ _ | assumption | refine below_draws ?_ _ | refine Below.drew ?_ | refine below_alloc ?_ _ (by first | omega | (simp; done) | (simp; omega)) | refine Below.setCell ?_ (by first | omega | (simp; done) | (simp; omega)) _ | refine below_at ?_ (by assumption) (by first | omega | (simp; done) | (simp; omega))))⟩
end Go.Proofs.Ytagpcgnlbgndmaa
