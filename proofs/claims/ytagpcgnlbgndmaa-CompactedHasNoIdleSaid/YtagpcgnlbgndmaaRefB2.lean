/- Walks of the reference's functions for chapter 2: sums of losses. -/
import Derived.Test.YtagpcgnlbgndmaaRefB1
set_option linter.unusedVariables false
set_option linter.unusedSimpArgs false
namespace Go.Proofs.Ytagpcgnlbgndmaa
open Go Go.RowKit

theorem infoInt : (Try.prog.info? 3).map (fun i => (i.zero, i.size, i.bytes)) = some (some (.int .i64 0), 1, 8) := by kernel_rfl

def RunIs (l : List Part) (x : Losses) (k : Nat) (w0 W1 wr : World) (v : Value) : Prop :=
  wr.ownsRow (w0.heap.size + 1) 3 1 v k (((running l x 0).take k).map (Value.int .i64)) ∧ Below (w0.heap.size + 1) W1 wr

theorem run_step {l : List Part} {x : Losses} {k : Nat} {w0 W1 wx w1 : World} {v v' : Value} {s : Int} (hgrow : wx.grownBy w1 v.ownBlock)
    (hown1 : w1.ownsRow (w0.heap.size + 1) 3 1 v' (k + 1) (((running l x 0).take k).map (Value.int .i64) ++ [.int .i64 s]))
    (hown : wx.ownsRow (w0.heap.size + 1) 3 1 v k (((running l x 0).take k).map (Value.int .i64))) (hB : Below (w0.heap.size + 1) W1 wx) (hs : w0.heap.size + 1 ≤ wx.heap.size)
    (hr : (running l x 0).take (k + 1) = (running l x 0).take k ++ [s]) : RunIs l x (k + 1) w0 W1 w1 v' :=
  ⟨by rw [hr, List.map_append]; exact hown1, below_grown hB hown hgrow (Nat.le_refl _) hs⟩

set_option maxHeartbeats 1000000 in
set_option maxRecDepth 100000 in
theorem runningOf_any (v : Value) (l : List Part) (x : Losses) (w : World) (h : Arr Part.cells 2 w l v) (hp : ∀ p ∈ l, p.Ok) (hl : l.length ≤ 1000) (hx : x.Ok) : Calls Try.prog 141 #[v, .agg #[.int .i64 x.perKm, .int .i64 x.conn, .int .i64 x.dblg, .int .i64 x.exc]] w
    (Ret (fun v w' => Arr intCells 1 w' (running l x 0) v) w) := by
  obtain ⟨a, cap, rfl, hcap, hmax, hc⟩ := h
  obtain ⟨i0, hi, hz0, hz1, hz2⟩ := info_parts infoInt
  clear hcap hmax
  have HX := Lib.hid hx
  have HP := Lib.hid hp
  clear hx hp
  go_enter Try.func141, Try.ntmps141
  go_wp2
  go_loopw [5, 6, 11] (fun v n i wr => ∃ k : Nat, k ≤ l.length ∧ i = .int .i64 k ∧ n = .int .i64 (total (l.take k) x) ∧ RunIs l x k w (w.alloc (.cells #[.int .i64 x.perKm, .int .i64 x.conn, .int .i64 x.dblg, .int .i64 x.exc] 29)) wr v) (fun _ _ i _ => l.length - (intOf i).toNat)
  case atStart => exact ⟨0, by omega, rfl, rfl, World.ownsRow_nil _ _ _ _, Below.refl _ _⟩
  case round =>
    obtain ⟨k, hk, rfl, rfl, hown, hB⟩ := hrel
    have HO := Lib.hid hown
    clear hown
    have hsz : w.heap.size < wr.heap.size := by have := hB.size; simp at this; omega
    have hB0 : Below w.heap.size w wr := by (repeat (first | exact Below.refl _ _ | assumption | refine below_draws ?_ _ | refine Below.drew ?_ | refine below_alloc ?_ _ (by first | omega | (simp; done) | (simp; omega)) | refine Below.setCell ?_ (by first | omega | (simp; done) | (simp; omega)) _ | refine below_at ?_ (by assumption) (by first | omega | (simp; done) | (simp; omega))))
    by_cases hlt : k < l.length
    · obtain ⟨b, off, rfl, hb, hcc⟩ := hc k hlt
      obtain ⟨c0, c1⟩ := part_at hcc
      replace c0 := (hB0.cell (p := ⟨b, _, none⟩) hb).trans c0
      replace c1 := (hB0.cell (p := ⟨b, _, none⟩) hb).trans c1
      clear hc hcc
      have hbx : Blk wr w.heap.size #[.int .i64 x.perKm, .int .i64 x.conn, .int .i64 x.dblg, .int .i64 x.exc] 29 := (Blk.new w _ _).below hB (by omega)
      have d0 := hbx.cell 0 _ rfl
      have d1 := hbx.cell 1 _ rfl
      have d2 := hbx.cell 2 _ rfl
      have d3 := hbx.cell 3 _ rfl
      have hlb := lossOf_bound (HP.out l[k] (List.getElem_mem _)) HX.out
      have htb := total_bound HX.out (l := l.take k) (fun p hp => HP.out p (List.mem_of_mem_take hp))
      have hlk : (l.take k).length ≤ 1000 := by rw [List.length_take]; omega
      obtain ⟨lb1, lb2⟩ := hlb
      obtain ⟨tb1, tb2⟩ := htb
      have tb3 : total (l.take k) x ≤ 200000000 := by omega
      clear tb2 hlk
      have HT := Lib.hid (total_take_succ l x k hlt)
      have HR := Lib.hid (running_take_succ x l k hlt)
      have hpk := HP.out l[k] (List.getElem_mem _)
      have hxx := HX.out
      unfold Losses.Ok at hxx
      obtain ⟨a1, a2, e1, e2, f1, f2, g1, g2⟩ := hxx
      generalize l[k] = p at *
      obtain ⟨kd, am⟩ := p
      generalize hT : total (l.take k) x = T at *
      have HTT := Lib.hid hT
      clear hT
      simp only at c0 c1
      rcases hpk with ⟨hk1, h1, h2⟩ | ⟨hk1, h1, h2⟩ | ⟨hk1, h1, h2⟩ | ⟨hk1, h1⟩ <;> simp only at hk1 h1 <;> subst hk1
      · simp only at h2
        have m1 : 0 ≤ x.perKm * am := Int.mul_nonneg a1 (by omega)
        have m2 : x.perKm * am ≤ 1000 * 200000 := Int.mul_le_mul a2 h2 (by omega) (by omega)
        clear lb1 lb2
        by_cases hr : 0 < x.perKm * am % 1000
        · have HL : Hid (lossOf ⟨1, am⟩ x = x.perKm * am / 1000 + 1) := by unfold lossOf; show (if (1 : Int) = 1 then _ else _) = _; rw [if_pos rfl]; simp only; omega
          have HTA : Hid (T + (x.perKm * am / 1000 + 1) = T + x.perKm * am / 1000 + 1) := by unfold Hid; omega
          go_wp2_with ((at_builtin; go_must (refine wpList_append_own _ rfl _ _ 22 rfl _ 3 _ (.int .i64 0) 1 8 Try.underlying22 hi hz0 hz1 hz2 rfl (by decide) _ _ _ rfl (own_below HO.out (by (repeat (first | exact Below.refl _ _ | assumption | refine below_draws ?_ _ | refine Below.drew ?_ | refine below_alloc ?_ _ (by first | omega | (simp; done) | (simp; omega)) | refine Below.setCell ?_ (by first | omega | (simp; done) | (simp; omega)) _ | refine below_at ?_ (by assumption) (by first | omega | (simp; done) | (simp; omega)))))) ⟨wr.heap.size + 1, 0, none⟩ 1 1 [.int .i64 (T + x.perKm * am / 1000 + 1)] rfl rfl (by exact news_at (by first | rfl | simp) (by rfl)) (by simp [Value.oneCell']) (by unfold maxLen; omega) (by omega) (by first | omega | (simp; done) | (simp; omega)) ?_)); intro v' w1 hown1 hgrow _)
          exact ⟨⟨k + 1, by omega, by go_num, by rw [HT.out, HL.out, HTA.out], run_step hgrow hown1 (own_below HO.out (by (repeat (first | exact Below.refl _ _ | assumption | refine below_draws ?_ _ | refine Below.drew ?_ | refine below_alloc ?_ _ (by first | omega | (simp; done) | (simp; omega)) | refine Below.setCell ?_ (by first | omega | (simp; done) | (simp; omega)) _ | refine below_at ?_ (by assumption) (by first | omega | (simp; done) | (simp; omega)))))) (by (repeat (first | exact Below.refl _ _ | assumption | refine below_draws ?_ _ | refine Below.drew ?_ | refine below_alloc ?_ _ (by first | omega | (simp; done) | (simp; omega)) | refine Below.setCell ?_ (by first | omega | (simp; done) | (simp; omega)) _ | refine below_at ?_ (by assumption) (by first | omega | (simp; done) | (simp; omega))))) (by first | omega | (simp; done) | (simp; omega)) (by rw [HR.out, HL.out, HTA.out])⟩, by simp [intOf]; omega⟩
        · have HL : Hid (lossOf ⟨1, am⟩ x = x.perKm * am / 1000) := by unfold lossOf; show (if (1 : Int) = 1 then _ else _) = _; rw [if_pos rfl]; simp only; omega
          go_wp2_with ((at_builtin; go_must (refine wpList_append_own _ rfl _ _ 22 rfl _ 3 _ (.int .i64 0) 1 8 Try.underlying22 hi hz0 hz1 hz2 rfl (by decide) _ _ _ rfl (own_below HO.out (by (repeat (first | exact Below.refl _ _ | assumption | refine below_draws ?_ _ | refine Below.drew ?_ | refine below_alloc ?_ _ (by first | omega | (simp; done) | (simp; omega)) | refine Below.setCell ?_ (by first | omega | (simp; done) | (simp; omega)) _ | refine below_at ?_ (by assumption) (by first | omega | (simp; done) | (simp; omega)))))) ⟨wr.heap.size + 1, 0, none⟩ 1 1 [.int .i64 (T + x.perKm * am / 1000)] rfl rfl (by exact news_at (by first | rfl | simp) (by rfl)) (by simp [Value.oneCell']) (by unfold maxLen; omega) (by omega) (by first | omega | (simp; done) | (simp; omega)) ?_)); intro v' w1 hown1 hgrow _)
          exact ⟨⟨k + 1, by omega, by go_num, by rw [HT.out, HL.out], run_step hgrow hown1 (own_below HO.out (by (repeat (first | exact Below.refl _ _ | assumption | refine below_draws ?_ _ | refine Below.drew ?_ | refine below_alloc ?_ _ (by first | omega | (simp; done) | (simp; omega)) | refine Below.setCell ?_ (by first | omega | (simp; done) | (simp; omega)) _ | refine below_at ?_ (by assumption) (by first | omega | (simp; done) | (simp; omega)))))) (by (repeat (first | exact Below.refl _ _ | assumption | refine below_draws ?_ _ | refine Below.drew ?_ | refine below_alloc ?_ _ (by first | omega | (simp; done) | (simp; omega)) | refine Below.setCell ?_ (by first | omega | (simp; done) | (simp; omega)) _ | refine below_at ?_ (by assumption) (by first | omega | (simp; done) | (simp; omega))))) (by first | omega | (simp; done) | (simp; omega)) (by rw [HR.out, HL.out])⟩, by simp [intOf]; omega⟩
      · have HL : Hid (lossOf ⟨2, am⟩ x = am) := by unfold lossOf; exact rfl
        simp only at h2
        clear lb1 lb2
        go_wp2_with ((at_builtin; go_must (refine wpList_append_own _ rfl _ _ 22 rfl _ 3 _ (.int .i64 0) 1 8 Try.underlying22 hi hz0 hz1 hz2 rfl (by decide) _ _ _ rfl (own_below HO.out (by (repeat (first | exact Below.refl _ _ | assumption | refine below_draws ?_ _ | refine Below.drew ?_ | refine below_alloc ?_ _ (by first | omega | (simp; done) | (simp; omega)) | refine Below.setCell ?_ (by first | omega | (simp; done) | (simp; omega)) _ | refine below_at ?_ (by assumption) (by first | omega | (simp; done) | (simp; omega)))))) ⟨wr.heap.size + 1, 0, none⟩ 1 1 [.int .i64 (T + am)] rfl rfl (by exact news_at (by first | rfl | simp) (by rfl)) (by simp [Value.oneCell']) (by unfold maxLen; omega) (by omega) (by first | omega | (simp; done) | (simp; omega)) ?_)); intro v' w1 hown1 hgrow _)
        exact ⟨⟨k + 1, by omega, by go_num, by rw [HT.out, HL.out], run_step hgrow hown1 (own_below HO.out (by (repeat (first | exact Below.refl _ _ | assumption | refine below_draws ?_ _ | refine Below.drew ?_ | refine below_alloc ?_ _ (by first | omega | (simp; done) | (simp; omega)) | refine Below.setCell ?_ (by first | omega | (simp; done) | (simp; omega)) _ | refine below_at ?_ (by assumption) (by first | omega | (simp; done) | (simp; omega)))))) (by (repeat (first | exact Below.refl _ _ | assumption | refine below_draws ?_ _ | refine Below.drew ?_ | refine below_alloc ?_ _ (by first | omega | (simp; done) | (simp; omega)) | refine Below.setCell ?_ (by first | omega | (simp; done) | (simp; omega)) _ | refine below_at ?_ (by assumption) (by first | omega | (simp; done) | (simp; omega))))) (by first | omega | (simp; done) | (simp; omega)) (by rw [HR.out, HL.out])⟩, by simp [intOf]; omega⟩
      · have HL : Hid (lossOf ⟨3, am⟩ x = x.conn * am) := by unfold lossOf; exact rfl
        simp only at h2
        have m1 : 0 ≤ x.conn * am := Int.mul_nonneg e1 (by omega)
        have m2 : x.conn * am ≤ 1000 * 100 := Int.mul_le_mul e2 h2 (by omega) (by omega)
        clear lb1 lb2
        go_wp2_with ((at_builtin; go_must (refine wpList_append_own _ rfl _ _ 22 rfl _ 3 _ (.int .i64 0) 1 8 Try.underlying22 hi hz0 hz1 hz2 rfl (by decide) _ _ _ rfl (own_below HO.out (by (repeat (first | exact Below.refl _ _ | assumption | refine below_draws ?_ _ | refine Below.drew ?_ | refine below_alloc ?_ _ (by first | omega | (simp; done) | (simp; omega)) | refine Below.setCell ?_ (by first | omega | (simp; done) | (simp; omega)) _ | refine below_at ?_ (by assumption) (by first | omega | (simp; done) | (simp; omega)))))) ⟨wr.heap.size + 1, 0, none⟩ 1 1 [.int .i64 (T + x.conn * am)] rfl rfl (by exact news_at (by first | rfl | simp) (by rfl)) (by simp [Value.oneCell']) (by unfold maxLen; omega) (by omega) (by first | omega | (simp; done) | (simp; omega)) ?_)); intro v' w1 hown1 hgrow _)
        exact ⟨⟨k + 1, by omega, by go_num, by rw [HT.out, HL.out], run_step hgrow hown1 (own_below HO.out (by (repeat (first | exact Below.refl _ _ | assumption | refine below_draws ?_ _ | refine Below.drew ?_ | refine below_alloc ?_ _ (by first | omega | (simp; done) | (simp; omega)) | refine Below.setCell ?_ (by first | omega | (simp; done) | (simp; omega)) _ | refine below_at ?_ (by assumption) (by first | omega | (simp; done) | (simp; omega)))))) (by (repeat (first | exact Below.refl _ _ | assumption | refine below_draws ?_ _ | refine Below.drew ?_ | refine below_alloc ?_ _ (by first | omega | (simp; done) | (simp; omega)) | refine Below.setCell ?_ (by first | omega | (simp; done) | (simp; omega)) _ | refine below_at ?_ (by assumption) (by first | omega | (simp; done) | (simp; omega))))) (by first | omega | (simp; done) | (simp; omega)) (by rw [HR.out, HL.out])⟩, by simp [intOf]; omega⟩
      · have HL : Hid (lossOf ⟨4, am⟩ x = x.dblg * dbl am + x.exc) := by unfold lossOf; exact rfl
        have h3 := (dbl_le am).2
        have m1 : 0 ≤ x.dblg * dbl am := Int.mul_nonneg f1 (by omega)
        have m2 : x.dblg * dbl am ≤ 1000 * 7 := Int.mul_le_mul f2 h3 (by omega) (by omega)
        clear lb1 lb2
        have w1' : IntKind.i64.wrap (x.dblg * dbl am) = x.dblg * dbl am := IntWalk.i64_in _ (by omega)
        have w2' : IntKind.i64.wrap (x.dblg * dbl am + x.exc) = x.dblg * dbl am + x.exc := IntWalk.i64_in _ (by omega)
        have w3' : IntKind.i64.wrap (T + (x.dblg * dbl am + x.exc)) = T + (x.dblg * dbl am + x.exc) := IntWalk.i64_in _ (by omega)
        go_wp2_with fail
        go_region_held3 (fun w' => w'.cell? ⟨w.heap.size, 2, none⟩ = some (.int .i64 x.dblg) ∧ w'.cell? ⟨w.heap.size, 3, none⟩ = some (.int .i64 x.exc) ∧ w'.cell? ⟨wr.heap.size, 1, none⟩ = some (.int .i64 am)) (go_keep)
          ((go_at_call 102; refine (doublings_any _ _).mono ?_; rintro e w2 ⟨rfl, hb2⟩; have s2 : wr.heap.size + 1 ≤ w2.heap.size := (by have := hb2.size; (try simp at this); omega); have hc2 := bcellAt hb2 w.heap.size (by first | omega | (simp; done) | (simp; omega)); have hd2 := bcellAt hb2 wr.heap.size (by first | omega | (simp; done) | (simp; omega))))
        go_wp2_with ((at_builtin; go_must (refine wpList_append_own _ rfl _ _ 22 rfl _ 3 _ (.int .i64 0) 1 8 Try.underlying22 hi hz0 hz1 hz2 rfl (by decide) _ _ _ rfl (own_below HO.out (by (repeat (first | exact Below.refl _ _ | assumption | refine below_draws ?_ _ | refine Below.drew ?_ | refine below_alloc ?_ _ (by first | omega | (simp; done) | (simp; omega)) | refine Below.setCell ?_ (by first | omega | (simp; done) | (simp; omega)) _ | refine below_at ?_ (by assumption) (by first | omega | (simp; done) | (simp; omega)))))) ⟨w2.heap.size, 0, none⟩ 1 1 [.int .i64 (T + (x.dblg * dbl am + x.exc))] rfl rfl (by exact news_at (by first | rfl | simp) (by rfl)) (by simp [Value.oneCell']) (by unfold maxLen; omega) (by omega) (by first | omega | (simp; done) | (simp; omega)) ?_)); intro v' w1 hown1 hgrow _)
        exact ⟨⟨k + 1, by omega, by go_num, by rw [HT.out, HL.out], run_step hgrow hown1 (own_below HO.out (by (repeat (first | exact Below.refl _ _ | assumption | refine below_draws ?_ _ | refine Below.drew ?_ | refine below_alloc ?_ _ (by first | omega | (simp; done) | (simp; omega)) | refine Below.setCell ?_ (by first | omega | (simp; done) | (simp; omega)) _ | refine below_at ?_ (by assumption) (by first | omega | (simp; done) | (simp; omega)))))) (by (repeat (first | exact Below.refl _ _ | assumption | refine below_draws ?_ _ | refine Below.drew ?_ | refine below_alloc ?_ _ (by first | omega | (simp; done) | (simp; omega)) | refine Below.setCell ?_ (by first | omega | (simp; done) | (simp; omega)) _ | refine below_at ?_ (by assumption) (by first | omega | (simp; done) | (simp; omega))))) (by first | omega | (simp; done) | (simp; omega)) (by rw [HR.out, HL.out])⟩, by simp [intOf]; omega⟩
    · go_wp2
      go_ret
      refine ⟨_, rfl, ?_, hB0⟩
      have := HO.out
      rw [List.take_of_length_le (by rw [running_len]; omega)] at this
      exact Arr.of_ints this
end Go.Proofs.Ytagpcgnlbgndmaa
