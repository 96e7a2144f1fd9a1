/- Walks of the checks of losses and optics, of sums of losses, and of the functions of package budget that start from them. -/
import Derived.Test.YtafjikoeolacgaaGreatDoorWalkB1
set_option linter.unusedVariables false
set_option linter.unusedSimpArgs false
namespace Go.Proofs.YtafjikoeolacgaaGreatDoor
open Go Go.RowKit

theorem lossesFault_eq (x : Losses) : lossesFault x = firstF ([x.perKm, x.conn, x.dblg, x.exc].map fun n => if outB n 0 1000 then 1 else 0) := by
  unfold lossesFault
  simp only [List.map_cons, List.map_nil, firstF]
  generalize outB x.perKm 0 1000 = a
  generalize outB x.conn 0 1000 = b
  generalize outB x.dblg 0 1000 = c
  generalize outB x.exc 0 1000 = d
  revert a b c d
  decide

set_option maxHeartbeats 1000000 in
theorem checkLosses_any (x : Losses) (w : World) : Calls Tryz.prog 21 #[.agg #[.int .i64 x.perKm, .int .i64 x.conn, .int .i64 x.dblg, .int .i64 x.exc]] w
    fun e w' => e = .returned (.int .i64 (lossesFault x)) ∧ Below w.heap.size w w' := by
  have hA := Arr.lit (cells := intCells) (sz := 1) (fun _ => rfl) (w.alloc (.cells #[.int .i64 x.perKm, .int .i64 x.conn, .int .i64 x.dblg, .int .i64 x.exc] 48)) [x.perKm, x.conn, x.dblg, x.exc] #[.int .i64 x.perKm, .int .i64 x.conn, .int .i64 x.dblg, .int .i64 x.exc] 3 4 rfl rfl (by simp [maxLen])
  generalize hl : [x.perKm, x.conn, x.dblg, x.exc] = l at hA
  have hl4 : l.length = 4 := by rw [← hl]; rfl
  have HL := Lib.hid hl
  clear hl
  obtain ⟨a, cap, he, hcap, hmax, hc⟩ := hA
  simp only [World.size_alloc, Value.slice.injEq] at he
  obtain ⟨he1, he2, he3⟩ := he
  have HE := Lib.hid he1
  clear he1 he2 he3
  have H4 := Lib.hid hl4
  have hl5 : l.length ≤ 4 := by omega
  have hl6 : 4 ≤ l.length := by omega
  clear hl4
  go_enter Tryz.func21, Tryz.ntmps21
  go_wp2
  go_loopw [15] (fun i wr => ∃ k : Nat, k ≤ 4 ∧ i = .int .i64 k ∧ firstF ((l.map fun n => if outB n 0 1000 then 1 else 0).take k) = 0 ∧
    Below (w.heap.size + 2) ((w.alloc (.cells #[.int .i64 x.perKm, .int .i64 x.conn, .int .i64 x.dblg, .int .i64 x.exc] 48)).alloc (.cells #[.int .i64 x.perKm, .int .i64 x.conn, .int .i64 x.dblg, .int .i64 x.exc] 3)) wr) (fun i _ => 4 - (intOf i).toNat)
  case atStart => exact ⟨0, by omega, rfl, rfl, Below.refl _ _⟩
  case round =>
    obtain ⟨k, hk, rfl, hz, hB⟩ := hrel
    have HZ := Lib.hid hz
    clear hz
    have hB0 : Below w.heap.size w wr := by (repeat (first | exact Below.refl _ _ | assumption | refine below_draws ?_ _ | refine Below.drew ?_ | refine below_alloc ?_ _ (by first | omega | (simp; done) | (simp; omega)) | refine Below.setCell ?_ (by first | omega | (simp; done) | (simp; omega)) _ | refine below_at ?_ (by assumption) (by first | omega | (simp; done) | (simp; omega))))
    by_cases hlt : k < l.length
    · obtain ⟨b, off, ha, hb, hcc⟩ := hc k hlt
      have h1 := HE.out
      rw [ha] at h1
      simp only [Option.some.injEq, Addr.mk.injEq, and_true] at h1
      obtain ⟨rfl, rfl⟩ := h1
      have c0 := hcc 0 _ rfl
      simp only [Nat.mul_one, Nat.add_zero, Nat.zero_add] at c0
      replace c0 := (hB.cell (p := ⟨w.heap.size + 1, _, none⟩) (by simp)).trans c0
      clear hc hcc ha
      have hlt' : k < (l.map fun n => if outB n 0 1000 then (1 : Int) else 0).length := by simpa using hlt
      cases hx : outB l[k] 0 1000
      · go_wp2_with (go_at_call 69; refine (out_any _ _ _ _).mono ?_; rintro e w' ⟨rfl, rfl⟩)
        go_roundw
        case rel => exact ⟨k + 1, by omega, by go_num, by rw [firstF_take_succ _ k hlt' HZ.out]; simp [hx], by (repeat (first | exact Below.refl _ _ | assumption | refine below_draws ?_ _ | refine Below.drew ?_ | refine below_alloc ?_ _ (by first | omega | (simp; done) | (simp; omega)) | refine Below.setCell ?_ (by first | omega | (simp; done) | (simp; omega)) _ | refine below_at ?_ (by assumption) (by first | omega | (simp; done) | (simp; omega))))⟩
        case measure => simp [intOf]; omega
      · go_wp2_with (go_at_call 69; refine (out_any _ _ _ _).mono ?_; rintro e w' ⟨rfl, rfl⟩)
        go_ret
        exact ⟨ret_int (by rw [lossesFault_eq, HL.out, firstF_hit _ k hlt' HZ.out (by simp [hx])]; simp [hx]), by (repeat (first | exact Below.refl _ _ | assumption | refine below_draws ?_ _ | refine Below.drew ?_ | refine below_alloc ?_ _ (by first | omega | (simp; done) | (simp; omega)) | refine Below.setCell ?_ (by first | omega | (simp; done) | (simp; omega)) _ | refine below_at ?_ (by assumption) (by first | omega | (simp; done) | (simp; omega))))⟩
    · go_wp2
      go_ret
      exact ⟨ret_int (by have := HZ.out; rw [List.take_of_length_le (by simp; omega)] at this; rw [lossesFault_eq, HL.out, this]), by (repeat (first | exact Below.refl _ _ | assumption | refine below_draws ?_ _ | refine Below.drew ?_ | refine below_alloc ?_ _ (by first | omega | (simp; done) | (simp; omega)) | refine Below.setCell ?_ (by first | omega | (simp; done) | (simp; omega)) _ | refine below_at ?_ (by assumption) (by first | omega | (simp; done) | (simp; omega))))⟩
theorem opticsOut (o : Optics) : (if (outB o.launch (-10000) 10000 || outB o.least (-10000) 10000 || outB o.most (-10000) 10000) then 1 else 0) = firstF ([o.launch, o.least, o.most].map fun n => if outB n (-10000) 10000 then 1 else 0) := by
  simp only [List.map_cons, List.map_nil, firstF]
  generalize outB o.launch (-10000) 10000 = a
  generalize outB o.least (-10000) 10000 = b
  generalize outB o.most (-10000) 10000 = c
  revert a b c
  decide

set_option maxHeartbeats 1000000 in
theorem checkOptics_any (o : Optics) (w : World) : Calls Tryz.prog 22 #[.agg #[.int .i64 o.launch, .int .i64 o.least, .int .i64 o.most]] w
    fun e w' => e = .returned (.int .i64 (opticsFault o)) ∧ Below w.heap.size w w' := by
  have hA := Arr.lit (cells := intCells) (sz := 1) (fun _ => rfl) (w.alloc (.cells #[.int .i64 o.launch, .int .i64 o.least, .int .i64 o.most] 51)) [o.launch, o.least, o.most] #[.int .i64 o.launch, .int .i64 o.least, .int .i64 o.most] 3 3 rfl rfl (by simp [maxLen])
  generalize hl : [o.launch, o.least, o.most] = l at hA
  have hl4 : l.length = 3 := by rw [← hl]; rfl
  have HL := Lib.hid hl
  clear hl
  obtain ⟨a, cap, he, hcap, hmax, hc⟩ := hA
  simp only [World.size_alloc, Value.slice.injEq] at he
  obtain ⟨he1, he2, he3⟩ := he
  have HE := Lib.hid he1
  clear he1 he2 he3
  have H4 := Lib.hid hl4
  have hl5 : l.length ≤ 3 := by omega
  have hl6 : 3 ≤ l.length := by omega
  clear hl4
  go_enter Tryz.func22, Tryz.ntmps22
  go_wp2
  go_loopw [13] (fun i wr => ∃ k : Nat, k ≤ 3 ∧ i = .int .i64 k ∧ firstF ((l.map fun n => if outB n (-10000) 10000 then 1 else 0).take k) = 0 ∧
    Below (w.heap.size + 2) ((w.alloc (.cells #[.int .i64 o.launch, .int .i64 o.least, .int .i64 o.most] 51)).alloc (.cells #[.int .i64 o.launch, .int .i64 o.least, .int .i64 o.most] 3)) wr) (fun i _ => 3 - (intOf i).toNat)
  case atStart => exact ⟨0, by omega, rfl, rfl, Below.refl _ _⟩
  case round =>
    obtain ⟨k, hk, rfl, hz, hB⟩ := hrel
    have HZ := Lib.hid hz
    clear hz
    have hB0 : Below w.heap.size w wr := by (repeat (first | exact Below.refl _ _ | assumption | refine below_draws ?_ _ | refine Below.drew ?_ | refine below_alloc ?_ _ (by first | omega | (simp; done) | (simp; omega)) | refine Below.setCell ?_ (by first | omega | (simp; done) | (simp; omega)) _ | refine below_at ?_ (by assumption) (by first | omega | (simp; done) | (simp; omega))))
    by_cases hlt : k < l.length
    · obtain ⟨b, off, ha, hb, hcc⟩ := hc k hlt
      have h1 := HE.out
      rw [ha] at h1
      simp only [Option.some.injEq, Addr.mk.injEq, and_true] at h1
      obtain ⟨rfl, rfl⟩ := h1
      have c0 := hcc 0 _ rfl
      simp only [Nat.mul_one, Nat.add_zero, Nat.zero_add] at c0
      replace c0 := (hB.cell (p := ⟨w.heap.size + 1, _, none⟩) (by simp)).trans c0
      clear hc hcc ha
      have hlt' : k < (l.map fun n => if outB n (-10000) 10000 then (1 : Int) else 0).length := by simpa using hlt
      cases hx : outB l[k] (-10000) 10000
      · go_wp2_with (go_at_call 69; refine (out_any _ _ _ _).mono ?_; rintro e w' ⟨rfl, rfl⟩)
        go_roundw
        case rel => exact ⟨k + 1, by omega, by go_num, by rw [firstF_take_succ _ k hlt' HZ.out]; simp [hx], by (repeat (first | exact Below.refl _ _ | assumption | refine below_draws ?_ _ | refine Below.drew ?_ | refine below_alloc ?_ _ (by first | omega | (simp; done) | (simp; omega)) | refine Below.setCell ?_ (by first | omega | (simp; done) | (simp; omega)) _ | refine below_at ?_ (by assumption) (by first | omega | (simp; done) | (simp; omega))))⟩
        case measure => simp [intOf]; omega
      · go_wp2_with (go_at_call 69; refine (out_any _ _ _ _).mono ?_; rintro e w' ⟨rfl, rfl⟩)
        go_ret
        have hf : (outB o.launch (-10000) 10000 || outB o.least (-10000) 10000 || outB o.most (-10000) 10000) = true := by
          have := opticsOut o
          rw [HL.out, firstF_hit _ k hlt' HZ.out (by simp [hx])] at this
          revert this
          cases (outB o.launch (-10000) 10000 || outB o.least (-10000) 10000 || outB o.most (-10000) 10000) <;> simp [hx]
        exact ⟨ret_int (by unfold opticsFault; rw [hf]; simp), by (repeat (first | exact Below.refl _ _ | assumption | refine below_draws ?_ _ | refine Below.drew ?_ | refine below_alloc ?_ _ (by first | omega | (simp; done) | (simp; omega)) | refine Below.setCell ?_ (by first | omega | (simp; done) | (simp; omega)) _ | refine below_at ?_ (by assumption) (by first | omega | (simp; done) | (simp; omega))))⟩
    · have hk3 : k = l.length := by omega
      have HK := Lib.hid hk3
      clear hk3
      have hf : (outB o.launch (-10000) 10000 || outB o.least (-10000) 10000 || outB o.most (-10000) 10000) = false := by
        have e := HZ.out
        rw [List.take_of_length_le (by simp; omega)] at e
        have := opticsOut o
        rw [HL.out, e] at this
        revert this
        cases (outB o.launch (-10000) 10000 || outB o.least (-10000) 10000 || outB o.most (-10000) 10000) <;> simp
      have HF := Lib.hid hf
      clear hf
      have hb2 : Blk wr w.heap.size #[.int .i64 o.launch, .int .i64 o.least, .int .i64 o.most] 51 := ((Blk.new w _ _).alloc _).below hB (by omega)
      have d1 := hb2.cell 1 _ rfl
      have d2 := hb2.cell 2 _ rfl
      go_wp2
      all_goals go_ret
      · exact ⟨ret_int (by unfold opticsFault; rw [HF.out]; simp [*]), by (repeat (first | exact Below.refl _ _ | assumption | refine below_draws ?_ _ | refine Below.drew ?_ | refine below_alloc ?_ _ (by first | omega | (simp; done) | (simp; omega)) | refine Below.setCell ?_ (by first | omega | (simp; done) | (simp; omega)) _ | refine below_at ?_ (by assumption) (by first | omega | (simp; done) | (simp; omega))))⟩
      · exact ⟨ret_int (by unfold opticsFault; rw [HF.out]; simp [*]), by (repeat (first | exact Below.refl _ _ | assumption | refine below_draws ?_ _ | refine Below.drew ?_ | refine below_alloc ?_ _ (by first | omega | (simp; done) | (simp; omega)) | refine Below.setCell ?_ (by first | omega | (simp; done) | (simp; omega)) _ | refine below_at ?_ (by assumption) (by first | omega | (simp; done) | (simp; omega))))⟩

end Go.Proofs.YtafjikoeolacgaaGreatDoor
