/- Texts of one subject in one: RefB1, RefB2, RefB3, RefB4, RefB5; what each shows stands at its head. No condition. -/
import Derived.Test.YteliiknlpfjlkaaGreatDoorWalkAll
import Derived.Test.YteliiknlpfjlkaaGreatDoorKeysAll
/- Walks of the reference's small functions for chapter 2. -/
set_option linter.unusedVariables false
set_option linter.unusedSimpArgs false
namespace Go.Proofs.YteliiknlpfjlkaaGreatDoor
open Go Go.RowKit

theorem rin_any (n lo hi : Int) (w : World) : Calls Tryz.prog 51 #[.int .i64 n, .int .i64 lo, .int .i64 hi] w
    fun e w' => e = .returned (.bool (!outB n lo hi)) ∧ w = w' := by
  by_cases h1 : lo ≤ n
  · by_cases h2 : n ≤ hi
    · go_enter Tryz.func51, Tryz.ntmps51
      go_wp2
      go_ret
      exact ⟨ret_bool (by simp [outB]; omega), rfl⟩
    · go_enter Tryz.func51, Tryz.ntmps51
      go_wp2
      go_ret
      exact ⟨ret_bool (by simp [outB]; omega), rfl⟩
  · go_enter Tryz.func51, Tryz.ntmps51
    go_wp2
    go_ret
    exact ⟨ret_bool (by simp [outB]; omega), rfl⟩

def spanF (n lo hi : Int) : Int := if outB n lo hi then 1 else 0
set_option maxHeartbeats 1000000 in
theorem span_any (n lo hi : Int) (w : World) : Calls Tryz.prog 48 #[.int .i64 n, .int .i64 lo, .int .i64 hi] w
    fun e w' => e = .returned (.int .i64 (spanF n lo hi)) ∧ w = w' := by
  cases h : outB n lo hi
  all_goals
    go_enter Tryz.func48, Tryz.ntmps48
    go_wp2_with (go_at_call 51; refine (rin_any _ _ _ _).mono ?_; rintro e w' ⟨rfl, rfl⟩)
    go_ret
    exact ⟨ret_int (by simp [spanF, h]), rfl⟩

set_option maxHeartbeats 1000000 in
theorem index_int_any (v : Value) (l : List Int) (n : Int) (w : World) (h : Arr intCells 1 w l v) : Calls Tryz.prog 96 #[v, .int .i64 n] w
    fun e w' => e = .returned (.int .i64 (idxF (fun y => n == y) l)) ∧ w = w' := by
  obtain ⟨a, cap, rfl, hcap, hmax, hc⟩ := h
  have hlen : l.length ≤ maxLen := by omega
  unfold maxLen at hlen hmax
  go_enter Tryz.func96, Tryz.ntmps96
  go_wp2
  go_loop [8] (fun i => ∃ k : Nat, k ≤ l.length ∧ i = .int .i64 k ∧ (l.take k).any (fun y => n == y) = false) (fun i => l.length - (intOf i).toNat)
  case atStart => exact ⟨0, by omega, rfl, rfl⟩
  case round =>
    obtain ⟨k, hk, rfl, hz⟩ := hrel
    have HZ := Lib.hid hz
    clear hz
    by_cases hlt : k < l.length
    · obtain ⟨b, off, rfl, hb, hcc⟩ := hc k hlt
      have h0 := hcc 0 _ rfl
      simp only [Nat.mul_one, Nat.add_zero] at h0
      clear hc hcc
      cases hx : (n == l[k])
      · have HT := Lib.hid (any_take_succ _ l k hlt HZ.out)
        have HX := Lib.hid hx
        go_wp2
        exact ⟨⟨k + 1, by omega, by go_num, by rw [HT.out]; exact HX.out⟩, by simp [intOf]; omega⟩
      · have HX := Lib.hid (idxF_hit hlt HZ.out hx)
        go_wp2
        go_ret
        exact ⟨ret_int (by rw [HX.out]), rfl⟩
    · go_wp2
      go_ret
      exact ⟨ret_int (by rw [idxF_none (any_take_all (by omega) HZ.out)]), rfl⟩

theorem dbl_idx (n : Int) : dbl n = idxF (fun y => n == y) [1, 2, 4, 8, 16, 32, 64, 128] := by
  simp only [idxF, beq_iff_eq]
  unfold dbl
  repeat' split
  all_goals omega

set_option maxHeartbeats 1000000 in
theorem doublings_any (n : Int) (w : World) : Calls Tryz.prog 55 #[.int .i64 n] w
    fun e w' => e = .returned (.int .i64 (dbl n)) ∧ Below w.heap.size w w' := by
  go_enter Tryz.func55, Tryz.ntmps55
  go_wp2_with (go_at_call 96; refine (index_int_any _ [1, 2, 4, 8, 16, 32, 64, 128] n _ (by exact Arr.lit (cells := intCells) (sz := 1) (fun _ => rfl) _ [1, 2, 4, 8, 16, 32, 64, 128] _ _ 8 (by rfl) rfl (by simp [maxLen]))).mono ?_; rintro e w' ⟨rfl, rfl⟩)
  go_ret
  exact ⟨ret_int (dbl_idx n).symm, by (repeat (first | exact Below.refl _ _ | assumption | refine below_draws ?_ _ | refine Below.drew ?_ | refine below_alloc ?_ _ (by first | omega | (simp; done) | (simp; omega)) | refine Below.setCell ?_ (by first | omega | (simp; done) | (simp; omega)) _ | refine below_at ?_ (by assumption) (by first | omega | (simp; done) | (simp; omega))))⟩

set_option maxHeartbeats 1000000 in
theorem rpartFault_any (p : Part) (w : World) : Calls Tryz.prog 47 #[.agg #[.int .i64 p.kind, .int .i64 p.amt]] w
    fun e w' => e = .returned (.int .i64 (partFault p)) ∧ Below w.heap.size w w' := by
  obtain ⟨k, a⟩ := p
  by_cases h1 : k = 1
  · subst h1
    go_enter Tryz.func47, Tryz.ntmps47
    go_wp2_with (go_at_call 48; refine (span_any _ _ _ _).mono ?_; rintro e w' ⟨rfl, rfl⟩)
    go_ret
    exact ⟨ret_int (by simp [partFault, spanF]), by (repeat (first | exact Below.refl _ _ | assumption | refine below_draws ?_ _ | refine Below.drew ?_ | refine below_alloc ?_ _ (by first | omega | (simp; done) | (simp; omega)) | refine Below.setCell ?_ (by first | omega | (simp; done) | (simp; omega)) _ | refine below_at ?_ (by assumption) (by first | omega | (simp; done) | (simp; omega))))⟩
  by_cases h2 : k = 2
  · subst h2
    go_enter Tryz.func47, Tryz.ntmps47
    go_wp2_with (go_at_call 48; refine (span_any _ _ _ _).mono ?_; rintro e w' ⟨rfl, rfl⟩)
    go_ret
    exact ⟨ret_int (by simp [partFault, spanF]), by (repeat (first | exact Below.refl _ _ | assumption | refine below_draws ?_ _ | refine Below.drew ?_ | refine below_alloc ?_ _ (by first | omega | (simp; done) | (simp; omega)) | refine Below.setCell ?_ (by first | omega | (simp; done) | (simp; omega)) _ | refine below_at ?_ (by assumption) (by first | omega | (simp; done) | (simp; omega))))⟩
  by_cases h3 : k = 3
  · subst h3
    go_enter Tryz.func47, Tryz.ntmps47
    go_wp2_with (go_at_call 48; refine (span_any _ _ _ _).mono ?_; rintro e w' ⟨rfl, rfl⟩)
    go_ret
    exact ⟨ret_int (by simp [partFault, spanF]), by (repeat (first | exact Below.refl _ _ | assumption | refine below_draws ?_ _ | refine Below.drew ?_ | refine below_alloc ?_ _ (by first | omega | (simp; done) | (simp; omega)) | refine Below.setCell ?_ (by first | omega | (simp; done) | (simp; omega)) _ | refine below_at ?_ (by assumption) (by first | omega | (simp; done) | (simp; omega))))⟩
  by_cases h4 : k = 4
  · subst h4
    go_enter Tryz.func47, Tryz.ntmps47
    go_wp2_with (first | (go_at_call 48; refine (span_any _ _ _ _).mono ?_; rintro e w' ⟨rfl, rfl⟩) | (go_at_call 55; refine (doublings_any _ _).mono ?_; rintro e w1 ⟨rfl, hb1⟩))
    go_ret
    have := dbl_le a
    exact ⟨ret_int (by simp [partFault, spanF, waysB, outB]; split <;> split <;> omega), by (repeat (first | exact Below.refl _ _ | assumption | refine below_draws ?_ _ | refine Below.drew ?_ | refine below_alloc ?_ _ (by first | omega | (simp; done) | (simp; omega)) | refine Below.setCell ?_ (by first | omega | (simp; done) | (simp; omega)) _ | refine below_at ?_ (by assumption) (by first | omega | (simp; done) | (simp; omega))))⟩
  have e1 : (k == 1) = false := by simp [h1]
  have e2 : (k == 2) = false := by simp [h2]
  have e3 : (k == 3) = false := by simp [h3]
  have e4 : (k == 4) = false := by simp [h4]
  have H := Lib.hid (And.intro h1 (And.intro h2 (And.intro h3 h4)))
  clear h1 h2 h3 h4
  go_enter Tryz.func47, Tryz.ntmps47
  go_wp2
  go_ret
  obtain ⟨h1, h2, h3, h4⟩ := H.out
  exact ⟨ret_int (by simp [partFault, h1, h2, h3, h4]), by (repeat (first | exact Below.refl _ _ | assumption | refine below_draws ?_ _ | refine Below.drew ?_ | refine below_alloc ?_ _ (by first | omega | (simp; done) | (simp; omega)) | refine Below.setCell ?_ (by first | omega | (simp; done) | (simp; omega)) _ | refine below_at ?_ (by assumption) (by first | omega | (simp; done) | (simp; omega))))⟩
end Go.Proofs.YteliiknlpfjlkaaGreatDoor
/- Walks of the reference's functions for chapter 2: sums of losses. -/
set_option linter.unusedVariables false
set_option linter.unusedSimpArgs false
namespace Go.Proofs.YteliiknlpfjlkaaGreatDoor
open Go Go.RowKit

theorem infoInt : (Tryz.prog.info? 3).map (fun i => (i.zero, i.size, i.bytes)) = some (some (.int .i64 0), 1, 8) := by kernel_rfl

def RunIs (l : List Part) (x : Losses) (k : Nat) (w0 W1 wr : World) (v : Value) : Prop :=
  wr.ownsRow (w0.heap.size + 1) 3 1 v k (((running l x 0).take k).map (Value.int .i64)) ∧ Below (w0.heap.size + 1) W1 wr

theorem run_step {l : List Part} {x : Losses} {k : Nat} {w0 W1 wx w1 : World} {v v' : Value} {s : Int} (hgrow : wx.grownBy w1 v.ownBlock)
    (hown1 : w1.ownsRow (w0.heap.size + 1) 3 1 v' (k + 1) (((running l x 0).take k).map (Value.int .i64) ++ [.int .i64 s]))
    (hown : wx.ownsRow (w0.heap.size + 1) 3 1 v k (((running l x 0).take k).map (Value.int .i64))) (hB : Below (w0.heap.size + 1) W1 wx) (hs : w0.heap.size + 1 ≤ wx.heap.size)
    (hr : (running l x 0).take (k + 1) = (running l x 0).take k ++ [s]) : RunIs l x (k + 1) w0 W1 w1 v' :=
  ⟨by rw [hr, List.map_append]; exact hown1, below_grown hB hown hgrow (Nat.le_refl _) hs⟩

set_option maxHeartbeats 1000000 in
set_option maxRecDepth 100000 in
theorem runningOf_any (v : Value) (l : List Part) (x : Losses) (w : World) (h : Arr Part.cells 2 w l v) (hp : ∀ p ∈ l, p.Ok) (hl : l.length ≤ 1000) (hx : x.Ok) : Calls Tryz.prog 20 #[v, .agg #[.int .i64 x.perKm, .int .i64 x.conn, .int .i64 x.dblg, .int .i64 x.exc]] w
    (Ret (fun v w' => Arr intCells 1 w' (running l x 0) v) w) := by
  obtain ⟨a, cap, rfl, hcap, hmax, hc⟩ := h
  obtain ⟨i0, hi, hz0, hz1, hz2⟩ := info_parts infoInt
  clear hcap hmax
  have HX := Lib.hid hx
  have HP := Lib.hid hp
  clear hx hp
  go_enter Tryz.func20, Tryz.ntmps20
  go_wp2
  go_loopw [5, 6, 11] (fun v n i wr => ∃ k : Nat, k ≤ l.length ∧ i = .int .i64 k ∧ n = .int .i64 (total (l.take k) x) ∧ RunIs l x k w (w.alloc (.cells #[.int .i64 x.perKm, .int .i64 x.conn, .int .i64 x.dblg, .int .i64 x.exc] 29)) wr v) (fun _ _ i _ => l.length - (intOf i).toNat)
  case atStart => exact ⟨0, by omega, rfl, rfl, World.ownsRow_nil _ _ _ _, Below.refl _ _⟩
  case round =>
    obtain ⟨k, hk, rfl, rfl, hown, hB⟩ := hrel
    have HO := Lib.hid hown
    clear hown
    have hsz : w.heap.size < wr.heap.size := by have := hB.size; simp at this; omega
    have hB0 : Below w.heap.size w wr := by (repeat (first | exact Below.refl _ _ | assumption | refine below_draws ?_ _ | refine Below.drew ?_ | refine below_alloc ?_ _ (by first | omega | (simp; done) | (simp; omega)) | refine Below.setCell ?_ (by first | omega | (simp; done) | (simp; omega)) _ | refine below_at ?_ (by assumption) (by first | omega | (simp; done) | (simp; omega))))
    by_cases hlt : k < l.length
    · obtain ⟨b, off, rfl, hb, hcc⟩ := hc k hlt
      obtain ⟨c0, c1⟩ := part_at hcc
      replace c0 := (hB0.cell (p := ⟨b, _, none⟩) hb).trans c0
      replace c1 := (hB0.cell (p := ⟨b, _, none⟩) hb).trans c1
      clear hc hcc
      have hbx : Blk wr w.heap.size #[.int .i64 x.perKm, .int .i64 x.conn, .int .i64 x.dblg, .int .i64 x.exc] 29 := (Blk.new w _ _).below hB (by omega)
      have d0 := hbx.cell 0 _ rfl
      have d1 := hbx.cell 1 _ rfl
      have d2 := hbx.cell 2 _ rfl
      have d3 := hbx.cell 3 _ rfl
      have hlb := lossOf_bound (HP.out l[k] (List.getElem_mem _)) HX.out
      have htb := total_bound HX.out (l := l.take k) (fun p hp => HP.out p (List.mem_of_mem_take hp))
      have hlk : (l.take k).length ≤ 1000 := by rw [List.length_take]; omega
      obtain ⟨lb1, lb2⟩ := hlb
      obtain ⟨tb1, tb2⟩ := htb
      have tb3 : total (l.take k) x ≤ 200000000 := by omega
      clear tb2 hlk
      have HT := Lib.hid (total_take_succ l x k hlt)
      have HR := Lib.hid (running_take_succ x l k hlt)
      have hpk := HP.out l[k] (List.getElem_mem _)
      have hxx := HX.out
      unfold Losses.Ok at hxx
      obtain ⟨a1, a2, e1, e2, f1, f2, g1, g2⟩ := hxx
      generalize l[k] = p at *
      obtain ⟨kd, am⟩ := p
      generalize hT : total (l.take k) x = T at *
      have HTT := Lib.hid hT
      clear hT
      simp only at c0 c1
      rcases hpk with ⟨hk1, h1, h2⟩ | ⟨hk1, h1, h2⟩ | ⟨hk1, h1, h2⟩ | ⟨hk1, h1⟩ <;> simp only at hk1 h1 <;> subst hk1
      · simp only at h2
        have m1 : 0 ≤ x.perKm * am := Int.mul_nonneg a1 (by omega)
        have m2 : x.perKm * am ≤ 1000 * 200000 := Int.mul_le_mul a2 h2 (by omega) (by omega)
        clear lb1 lb2
        by_cases hr : 0 < x.perKm * am % 1000
        · have HL : Hid (lossOf ⟨1, am⟩ x = x.perKm * am / 1000 + 1) := by unfold lossOf; show (if (1 : Int) = 1 then _ else _) = _; rw [if_pos rfl]; simp only; omega
          have HTA : Hid (T + (x.perKm * am / 1000 + 1) = T + x.perKm * am / 1000 + 1) := by unfold Hid; omega
          go_wp2_with ((at_builtin; go_must (refine wpList_append_own _ rfl _ _ 22 rfl _ 3 _ (.int .i64 0) 1 8 Tryz.underlying22 hi hz0 hz1 hz2 rfl (by decide) _ _ _ rfl (own_below HO.out (by (repeat (first | exact Below.refl _ _ | assumption | refine below_draws ?_ _ | refine Below.drew ?_ | refine below_alloc ?_ _ (by first | omega | (simp; done) | (simp; omega)) | refine Below.setCell ?_ (by first | omega | (simp; done) | (simp; omega)) _ | refine below_at ?_ (by assumption) (by first | omega | (simp; done) | (simp; omega)))))) ⟨wr.heap.size + 1, 0, none⟩ 1 1 [.int .i64 (T + x.perKm * am / 1000 + 1)] rfl rfl (by exact news_at (by first | rfl | simp) (by rfl)) (by simp [Value.oneCell']) (by unfold maxLen; omega) (by omega) (by first | omega | (simp; done) | (simp; omega)) ?_)); intro v' w1 hown1 hgrow _)
          exact ⟨⟨k + 1, by omega, by go_num, by rw [HT.out, HL.out, HTA.out], run_step hgrow hown1 (own_below HO.out (by (repeat (first | exact Below.refl _ _ | assumption | refine below_draws ?_ _ | refine Below.drew ?_ | refine below_alloc ?_ _ (by first | omega | (simp; done) | (simp; omega)) | refine Below.setCell ?_ (by first | omega | (simp; done) | (simp; omega)) _ | refine below_at ?_ (by assumption) (by first | omega | (simp; done) | (simp; omega)))))) (by (repeat (first | exact Below.refl _ _ | assumption | refine below_draws ?_ _ | refine Below.drew ?_ | refine below_alloc ?_ _ (by first | omega | (simp; done) | (simp; omega)) | refine Below.setCell ?_ (by first | omega | (simp; done) | (simp; omega)) _ | refine below_at ?_ (by assumption) (by first | omega | (simp; done) | (simp; omega))))) (by first | omega | (simp; done) | (simp; omega)) (by rw [HR.out, HL.out, HTA.out])⟩, by simp [intOf]; omega⟩
        · have HL : Hid (lossOf ⟨1, am⟩ x = x.perKm * am / 1000) := by unfold lossOf; show (if (1 : Int) = 1 then _ else _) = _; rw [if_pos rfl]; simp only; omega
          go_wp2_with ((at_builtin; go_must (refine wpList_append_own _ rfl _ _ 22 rfl _ 3 _ (.int .i64 0) 1 8 Tryz.underlying22 hi hz0 hz1 hz2 rfl (by decide) _ _ _ rfl (own_below HO.out (by (repeat (first | exact Below.refl _ _ | assumption | refine below_draws ?_ _ | refine Below.drew ?_ | refine below_alloc ?_ _ (by first | omega | (simp; done) | (simp; omega)) | refine Below.setCell ?_ (by first | omega | (simp; done) | (simp; omega)) _ | refine below_at ?_ (by assumption) (by first | omega | (simp; done) | (simp; omega)))))) ⟨wr.heap.size + 1, 0, none⟩ 1 1 [.int .i64 (T + x.perKm * am / 1000)] rfl rfl (by exact news_at (by first | rfl | simp) (by rfl)) (by simp [Value.oneCell']) (by unfold maxLen; omega) (by omega) (by first | omega | (simp; done) | (simp; omega)) ?_)); intro v' w1 hown1 hgrow _)
          exact ⟨⟨k + 1, by omega, by go_num, by rw [HT.out, HL.out], run_step hgrow hown1 (own_below HO.out (by (repeat (first | exact Below.refl _ _ | assumption | refine below_draws ?_ _ | refine Below.drew ?_ | refine below_alloc ?_ _ (by first | omega | (simp; done) | (simp; omega)) | refine Below.setCell ?_ (by first | omega | (simp; done) | (simp; omega)) _ | refine below_at ?_ (by assumption) (by first | omega | (simp; done) | (simp; omega)))))) (by (repeat (first | exact Below.refl _ _ | assumption | refine below_draws ?_ _ | refine Below.drew ?_ | refine below_alloc ?_ _ (by first | omega | (simp; done) | (simp; omega)) | refine Below.setCell ?_ (by first | omega | (simp; done) | (simp; omega)) _ | refine below_at ?_ (by assumption) (by first | omega | (simp; done) | (simp; omega))))) (by first | omega | (simp; done) | (simp; omega)) (by rw [HR.out, HL.out])⟩, by simp [intOf]; omega⟩
      · have HL : Hid (lossOf ⟨2, am⟩ x = am) := by unfold lossOf; exact rfl
        simp only at h2
        clear lb1 lb2
        go_wp2_with ((at_builtin; go_must (refine wpList_append_own _ rfl _ _ 22 rfl _ 3 _ (.int .i64 0) 1 8 Tryz.underlying22 hi hz0 hz1 hz2 rfl (by decide) _ _ _ rfl (own_below HO.out (by (repeat (first | exact Below.refl _ _ | assumption | refine below_draws ?_ _ | refine Below.drew ?_ | refine below_alloc ?_ _ (by first | omega | (simp; done) | (simp; omega)) | refine Below.setCell ?_ (by first | omega | (simp; done) | (simp; omega)) _ | refine below_at ?_ (by assumption) (by first | omega | (simp; done) | (simp; omega)))))) ⟨wr.heap.size + 1, 0, none⟩ 1 1 [.int .i64 (T + am)] rfl rfl (by exact news_at (by first | rfl | simp) (by rfl)) (by simp [Value.oneCell']) (by unfold maxLen; omega) (by omega) (by first | omega | (simp; done) | (simp; omega)) ?_)); intro v' w1 hown1 hgrow _)
        exact ⟨⟨k + 1, by omega, by go_num, by rw [HT.out, HL.out], run_step hgrow hown1 (own_below HO.out (by (repeat (first | exact Below.refl _ _ | assumption | refine below_draws ?_ _ | refine Below.drew ?_ | refine below_alloc ?_ _ (by first | omega | (simp; done) | (simp; omega)) | refine Below.setCell ?_ (by first | omega | (simp; done) | (simp; omega)) _ | refine below_at ?_ (by assumption) (by first | omega | (simp; done) | (simp; omega)))))) (by (repeat (first | exact Below.refl _ _ | assumption | refine below_draws ?_ _ | refine Below.drew ?_ | refine below_alloc ?_ _ (by first | omega | (simp; done) | (simp; omega)) | refine Below.setCell ?_ (by first | omega | (simp; done) | (simp; omega)) _ | refine below_at ?_ (by assumption) (by first | omega | (simp; done) | (simp; omega))))) (by first | omega | (simp; done) | (simp; omega)) (by rw [HR.out, HL.out])⟩, by simp [intOf]; omega⟩
      · have HL : Hid (lossOf ⟨3, am⟩ x = x.conn * am) := by unfold lossOf; exact rfl
        simp only at h2
        have m1 : 0 ≤ x.conn * am := Int.mul_nonneg e1 (by omega)
        have m2 : x.conn * am ≤ 1000 * 100 := Int.mul_le_mul e2 h2 (by omega) (by omega)
        clear lb1 lb2
        go_wp2_with ((at_builtin; go_must (refine wpList_append_own _ rfl _ _ 22 rfl _ 3 _ (.int .i64 0) 1 8 Tryz.underlying22 hi hz0 hz1 hz2 rfl (by decide) _ _ _ rfl (own_below HO.out (by (repeat (first | exact Below.refl _ _ | assumption | refine below_draws ?_ _ | refine Below.drew ?_ | refine below_alloc ?_ _ (by first | omega | (simp; done) | (simp; omega)) | refine Below.setCell ?_ (by first | omega | (simp; done) | (simp; omega)) _ | refine below_at ?_ (by assumption) (by first | omega | (simp; done) | (simp; omega)))))) ⟨wr.heap.size + 1, 0, none⟩ 1 1 [.int .i64 (T + x.conn * am)] rfl rfl (by exact news_at (by first | rfl | simp) (by rfl)) (by simp [Value.oneCell']) (by unfold maxLen; omega) (by omega) (by first | omega | (simp; done) | (simp; omega)) ?_)); intro v' w1 hown1 hgrow _)
        exact ⟨⟨k + 1, by omega, by go_num, by rw [HT.out, HL.out], run_step hgrow hown1 (own_below HO.out (by (repeat (first | exact Below.refl _ _ | assumption | refine below_draws ?_ _ | refine Below.drew ?_ | refine below_alloc ?_ _ (by first | omega | (simp; done) | (simp; omega)) | refine Below.setCell ?_ (by first | omega | (simp; done) | (simp; omega)) _ | refine below_at ?_ (by assumption) (by first | omega | (simp; done) | (simp; omega)))))) (by (repeat (first | exact Below.refl _ _ | assumption | refine below_draws ?_ _ | refine Below.drew ?_ | refine below_alloc ?_ _ (by first | omega | (simp; done) | (simp; omega)) | refine Below.setCell ?_ (by first | omega | (simp; done) | (simp; omega)) _ | refine below_at ?_ (by assumption) (by first | omega | (simp; done) | (simp; omega))))) (by first | omega | (simp; done) | (simp; omega)) (by rw [HR.out, HL.out])⟩, by simp [intOf]; omega⟩
      · have HL : Hid (lossOf ⟨4, am⟩ x = x.dblg * dbl am + x.exc) := by unfold lossOf; exact rfl
        have h3 := (dbl_le am).2
        have m1 : 0 ≤ x.dblg * dbl am := Int.mul_nonneg f1 (by omega)
        have m2 : x.dblg * dbl am ≤ 1000 * 7 := Int.mul_le_mul f2 h3 (by omega) (by omega)
        clear lb1 lb2
        have w1' : IntKind.i64.wrap (x.dblg * dbl am) = x.dblg * dbl am := IntWalk.i64_in _ (by omega)
        have w2' : IntKind.i64.wrap (x.dblg * dbl am + x.exc) = x.dblg * dbl am + x.exc := IntWalk.i64_in _ (by omega)
        have w3' : IntKind.i64.wrap (T + (x.dblg * dbl am + x.exc)) = T + (x.dblg * dbl am + x.exc) := IntWalk.i64_in _ (by omega)
        go_wp2_with fail
        go_region_held3 (fun w' => w'.cell? ⟨w.heap.size, 2, none⟩ = some (.int .i64 x.dblg) ∧ w'.cell? ⟨w.heap.size, 3, none⟩ = some (.int .i64 x.exc) ∧ w'.cell? ⟨wr.heap.size, 1, none⟩ = some (.int .i64 am)) (go_keep)
          ((go_at_call 55; refine (doublings_any _ _).mono ?_; rintro e w2 ⟨rfl, hb2⟩; have s2 : wr.heap.size + 1 ≤ w2.heap.size := (by have := hb2.size; (try simp at this); omega); have hc2 := bcellAt hb2 w.heap.size (by first | omega | (simp; done) | (simp; omega)); have hd2 := bcellAt hb2 wr.heap.size (by first | omega | (simp; done) | (simp; omega))))
        go_wp2_with ((at_builtin; go_must (refine wpList_append_own _ rfl _ _ 22 rfl _ 3 _ (.int .i64 0) 1 8 Tryz.underlying22 hi hz0 hz1 hz2 rfl (by decide) _ _ _ rfl (own_below HO.out (by (repeat (first | exact Below.refl _ _ | assumption | refine below_draws ?_ _ | refine Below.drew ?_ | refine below_alloc ?_ _ (by first | omega | (simp; done) | (simp; omega)) | refine Below.setCell ?_ (by first | omega | (simp; done) | (simp; omega)) _ | refine below_at ?_ (by assumption) (by first | omega | (simp; done) | (simp; omega)))))) ⟨w2.heap.size, 0, none⟩ 1 1 [.int .i64 (T + (x.dblg * dbl am + x.exc))] rfl rfl (by exact news_at (by first | rfl | simp) (by rfl)) (by simp [Value.oneCell']) (by unfold maxLen; omega) (by omega) (by first | omega | (simp; done) | (simp; omega)) ?_)); intro v' w1 hown1 hgrow _)
        exact ⟨⟨k + 1, by omega, by go_num, by rw [HT.out, HL.out], run_step hgrow hown1 (own_below HO.out (by (repeat (first | exact Below.refl _ _ | assumption | refine below_draws ?_ _ | refine Below.drew ?_ | refine below_alloc ?_ _ (by first | omega | (simp; done) | (simp; omega)) | refine Below.setCell ?_ (by first | omega | (simp; done) | (simp; omega)) _ | refine below_at ?_ (by assumption) (by first | omega | (simp; done) | (simp; omega)))))) (by (repeat (first | exact Below.refl _ _ | assumption | refine below_draws ?_ _ | refine Below.drew ?_ | refine below_alloc ?_ _ (by first | omega | (simp; done) | (simp; omega)) | refine Below.setCell ?_ (by first | omega | (simp; done) | (simp; omega)) _ | refine below_at ?_ (by assumption) (by first | omega | (simp; done) | (simp; omega))))) (by first | omega | (simp; done) | (simp; omega)) (by rw [HR.out, HL.out])⟩, by simp [intOf]; omega⟩
    · go_wp2
      go_ret
      refine ⟨_, rfl, ?_, hB0⟩
      have := HO.out
      rw [List.take_of_length_le (by rw [running_len]; omega)] at this
      exact Arr.of_ints this
end Go.Proofs.YteliiknlpfjlkaaGreatDoor
/- Walks of the reference's functions for chapter 2: faults. -/
set_option linter.unusedVariables false
set_option linter.unusedSimpArgs false
namespace Go.Proofs.YteliiknlpfjlkaaGreatDoor
open Go Go.RowKit

set_option maxHeartbeats 1000000 in
theorem or_any (v : Value) (l : List Int) (w : World) (h : Arr intCells 1 w l v) : Calls Tryz.prog 18 #[v] w
    fun e w' => e = .returned (.int .i64 (firstF l)) ∧ w = w' := by
  obtain ⟨a, cap, rfl, hcap, hmax, hc⟩ := h
  have hlen : l.length ≤ maxLen := by omega
  unfold maxLen at hlen hmax
  go_enter Tryz.func18, Tryz.ntmps18
  go_wp2
  go_loop [8] (fun i => ∃ k : Nat, k ≤ l.length ∧ i = .int .i64 k ∧ firstF (l.take k) = 0) (fun i => l.length - (intOf i).toNat)
  case atStart => exact ⟨0, by omega, rfl, rfl⟩
  case round =>
    obtain ⟨k, hk, rfl, hz⟩ := hrel
    have HZ := Lib.hid hz
    clear hz
    by_cases hlt : k < l.length
    · obtain ⟨b, off, rfl, hb, hcc⟩ := hc k hlt
      have h0 := hcc 0 _ rfl
      simp only [Nat.mul_one, Nat.add_zero] at h0
      clear hc hcc
      by_cases hx : l[k] = 0
      · have hx' : (l[k] != 0) = false := by simp [hx]
        have HX := Lib.hid hx
        clear hx
        go_wp2
        go_round
        case rel => exact ⟨k + 1, by omega, by go_num, by rw [firstF_take_succ l k hlt HZ.out]; exact HX.out⟩
        case measure => simp [intOf]; omega
      · have hx' : (l[k] != 0) = true := by simp [hx]
        have HX := Lib.hid hx
        clear hx
        go_wp2
        go_ret
        exact ⟨ret_int (by rw [firstF_hit l k hlt HZ.out HX.out]), rfl⟩
    · go_wp2
      go_ret
      exact ⟨ret_int (by have := HZ.out; rw [List.take_of_length_le (by omega)] at this; rw [this]), rfl⟩

set_option maxHeartbeats 1000000 in
theorem rpartsFault_any (v : Value) (l : List Part) (w : World) (h : Arr Part.cells 2 w l v) : Calls Tryz.prog 10 #[v] w
    fun e w' => e = .returned (.int .i64 (partsFault l)) ∧ Below w.heap.size w w' := by
  obtain ⟨a, cap, rfl, hcap, hmax, hc⟩ := h
  have hlen : l.length ≤ maxLen := by omega
  unfold maxLen at hlen hmax
  by_cases hbig : 1000 < l.length
  · go_enter Tryz.func10, Tryz.ntmps10
    go_wp2
    go_ret
    exact ⟨ret_int (by simp [partsFault, hbig]), by (repeat (first | exact Below.refl _ _ | assumption | refine below_draws ?_ _ | refine Below.drew ?_ | refine below_alloc ?_ _ (by first | omega | (simp; done) | (simp; omega)) | refine Below.setCell ?_ (by first | omega | (simp; done) | (simp; omega)) _ | refine below_at ?_ (by assumption) (by first | omega | (simp; done) | (simp; omega))))⟩
  go_enter Tryz.func10, Tryz.ntmps10
  go_wp2
  go_loopw [11] (fun i wr => ∃ k : Nat, k ≤ l.length ∧ i = .int .i64 k ∧ firstF ((l.map partFault).take k) = 0 ∧ Below w.heap.size w wr) (fun i _ => l.length - (intOf i).toNat)
  case atStart => exact ⟨0, by omega, rfl, rfl, Below.refl _ _⟩
  case round =>
    obtain ⟨k, hk, rfl, hz, hB⟩ := hrel
    have HZ := Lib.hid hz
    clear hz
    have hsz := hB.size
    by_cases hlt : k < l.length
    · obtain ⟨b, off, rfl, hb, hcc⟩ := hc k hlt
      obtain ⟨c0, c1⟩ := part_at hcc
      replace c0 := (hB.cell (p := ⟨b, _, none⟩) hb).trans c0
      replace c1 := (hB.cell (p := ⟨b, _, none⟩) hb).trans c1
      clear hc hcc
      have hlt' : k < (l.map partFault).length := by simpa using hlt
      by_cases hx : partFault l[k] = 0
      · have hx' : (partFault l[k] != 0) = false := by simp [hx]
        have HX := Lib.hid hx
        clear hx
        go_wp2_with (go_at_call 47; refine (rpartFault_any _ _).mono ?_; rintro e w1 ⟨rfl, hb1⟩)
        go_roundw
        case rel => exact ⟨k + 1, by omega, by go_num, by rw [firstF_take_succ _ k hlt' HZ.out]; simpa using HX.out, by (repeat (first | exact Below.refl _ _ | assumption | refine below_draws ?_ _ | refine Below.drew ?_ | refine below_alloc ?_ _ (by first | omega | (simp; done) | (simp; omega)) | refine Below.setCell ?_ (by first | omega | (simp; done) | (simp; omega)) _ | refine below_at ?_ (by assumption) (by first | omega | (simp; done) | (simp; omega))))⟩
        case measure => simp [intOf]; omega
      · have hx' : (partFault l[k] != 0) = true := by simp [hx]
        have HX := Lib.hid hx
        clear hx
        go_wp2_with (go_at_call 47; refine (rpartFault_any _ _).mono ?_; rintro e w1 ⟨rfl, hb1⟩)
        go_ret
        exact ⟨ret_int (by unfold partsFault; rw [if_neg hbig, firstF_hit _ k hlt' HZ.out (by simpa using HX.out)]; simp), by (repeat (first | exact Below.refl _ _ | assumption | refine below_draws ?_ _ | refine Below.drew ?_ | refine below_alloc ?_ _ (by first | omega | (simp; done) | (simp; omega)) | refine Below.setCell ?_ (by first | omega | (simp; done) | (simp; omega)) _ | refine below_at ?_ (by assumption) (by first | omega | (simp; done) | (simp; omega))))⟩
    · go_wp2
      go_ret
      exact ⟨ret_int (by have := HZ.out; rw [List.take_of_length_le (by simp; omega)] at this; unfold partsFault; rw [if_neg hbig, this]), by (repeat (first | exact Below.refl _ _ | assumption | refine below_draws ?_ _ | refine Below.drew ?_ | refine below_alloc ?_ _ (by first | omega | (simp; done) | (simp; omega)) | refine Below.setCell ?_ (by first | omega | (simp; done) | (simp; omega)) _ | refine below_at ?_ (by assumption) (by first | omega | (simp; done) | (simp; omega))))⟩

theorem ropticsEnd (o : Optics) (h : (outB o.launch (-10000) 10000 || outB o.least (-10000) 10000 || outB o.most (-10000) 10000) = false) : spanF o.most o.least 10000 = opticsFault o := by
  unfold opticsFault
  rw [h]
  simp only [Bool.or_eq_false_iff, outB_false] at h
  unfold spanF outB
  simp only [Bool.false_or, decide_eq_true_eq]
  split <;> split <;> omega

set_option maxHeartbeats 1000000 in
theorem ropticsFault_any (o : Optics) (w : World) : Calls Tryz.prog 15 #[.agg #[.int .i64 o.launch, .int .i64 o.least, .int .i64 o.most]] w
    fun e w' => e = .returned (.int .i64 (opticsFault o)) ∧ Below w.heap.size w w' := by
  have hA := Arr.lit (cells := intCells) (sz := 1) (fun _ => rfl) (w.alloc (.cells #[.int .i64 o.launch, .int .i64 o.least, .int .i64 o.most] 32)) [o.launch, o.least, o.most] #[.int .i64 o.launch, .int .i64 o.least, .int .i64 o.most] 3 3 rfl rfl (by simp [maxLen])
  generalize hl : [o.launch, o.least, o.most] = l at hA
  have hl4 : l.length = 3 := by rw [← hl]; rfl
  have HL := Lib.hid hl
  clear hl
  obtain ⟨a, cap, he, hcap, hmax, hc⟩ := hA
  simp only [World.size_alloc, Value.slice.injEq] at he
  obtain ⟨he1, he2, he3⟩ := he
  have HE := Lib.hid he1
  clear he1 he2 he3
  have H4 := Lib.hid hl4
  have hl5 : l.length ≤ 3 := by omega
  have hl6 : 3 ≤ l.length := by omega
  clear hl4
  go_enter Tryz.func15, Tryz.ntmps15
  go_wp2
  go_loopw [13] (fun i wr => ∃ k : Nat, k ≤ 3 ∧ i = .int .i64 k ∧ firstF ((l.map fun n => if outB n (-10000) 10000 then 1 else 0).take k) = 0 ∧
    Below (w.heap.size + 2) ((w.alloc (.cells #[.int .i64 o.launch, .int .i64 o.least, .int .i64 o.most] 32)).alloc (.cells #[.int .i64 o.launch, .int .i64 o.least, .int .i64 o.most] 3)) wr) (fun i _ => 3 - (intOf i).toNat)
  case atStart => exact ⟨0, by omega, rfl, rfl, Below.refl _ _⟩
  case round =>
    obtain ⟨k, hk, rfl, hz, hB⟩ := hrel
    have HZ := Lib.hid hz
    clear hz
    have hB0 : Below w.heap.size w wr := by (repeat (first | exact Below.refl _ _ | assumption | refine below_draws ?_ _ | refine Below.drew ?_ | refine below_alloc ?_ _ (by first | omega | (simp; done) | (simp; omega)) | refine Below.setCell ?_ (by first | omega | (simp; done) | (simp; omega)) _ | refine below_at ?_ (by assumption) (by first | omega | (simp; done) | (simp; omega))))
    by_cases hlt : k < l.length
    · obtain ⟨b, off, ha, hb, hcc⟩ := hc k hlt
      have h1 := HE.out
      rw [ha] at h1
      simp only [Option.some.injEq, Addr.mk.injEq, and_true] at h1
      obtain ⟨rfl, rfl⟩ := h1
      have c0 := hcc 0 _ rfl
      simp only [Nat.mul_one, Nat.add_zero, Nat.zero_add] at c0
      replace c0 := (hB.cell (p := ⟨w.heap.size + 1, _, none⟩) (by simp)).trans c0
      clear hc hcc ha
      have hlt' : k < (l.map fun n => if outB n (-10000) 10000 then (1 : Int) else 0).length := by simpa using hlt
      cases hx : outB l[k] (-10000) 10000
      · go_wp2_with (first | (go_at_call 51; refine (rin_any _ _ _ _).mono ?_; rintro e w' ⟨rfl, rfl⟩) | (go_at_call 48; refine (span_any _ _ _ _).mono ?_; rintro e w' ⟨rfl, rfl⟩))
        go_roundw
        case rel => exact ⟨k + 1, by omega, by go_num, by rw [firstF_take_succ _ k hlt' HZ.out]; simp [hx], by (repeat (first | exact Below.refl _ _ | assumption | refine below_draws ?_ _ | refine Below.drew ?_ | refine below_alloc ?_ _ (by first | omega | (simp; done) | (simp; omega)) | refine Below.setCell ?_ (by first | omega | (simp; done) | (simp; omega)) _ | refine below_at ?_ (by assumption) (by first | omega | (simp; done) | (simp; omega))))⟩
        case measure => simp [intOf]; omega
      · go_wp2_with (first | (go_at_call 51; refine (rin_any _ _ _ _).mono ?_; rintro e w' ⟨rfl, rfl⟩) | (go_at_call 48; refine (span_any _ _ _ _).mono ?_; rintro e w' ⟨rfl, rfl⟩))
        go_ret
        have hf : (outB o.launch (-10000) 10000 || outB o.least (-10000) 10000 || outB o.most (-10000) 10000) = true := by
          have := opticsOut o
          rw [HL.out, firstF_hit _ k hlt' HZ.out (by simp [hx])] at this
          revert this
          cases (outB o.launch (-10000) 10000 || outB o.least (-10000) 10000 || outB o.most (-10000) 10000) <;> simp [hx]
        exact ⟨ret_int (by unfold opticsFault; rw [hf]; simp), by (repeat (first | exact Below.refl _ _ | assumption | refine below_draws ?_ _ | refine Below.drew ?_ | refine below_alloc ?_ _ (by first | omega | (simp; done) | (simp; omega)) | refine Below.setCell ?_ (by first | omega | (simp; done) | (simp; omega)) _ | refine below_at ?_ (by assumption) (by first | omega | (simp; done) | (simp; omega))))⟩
    · have hk3 : k = l.length := by omega
      have HK := Lib.hid hk3
      clear hk3
      have hf : (outB o.launch (-10000) 10000 || outB o.least (-10000) 10000 || outB o.most (-10000) 10000) = false := by
        have e := HZ.out
        rw [List.take_of_length_le (by simp; omega)] at e
        have := opticsOut o
        rw [HL.out, e] at this
        revert this
        cases (outB o.launch (-10000) 10000 || outB o.least (-10000) 10000 || outB o.most (-10000) 10000) <;> simp
      have HF := Lib.hid hf
      clear hf
      have hb2 : Blk wr w.heap.size #[.int .i64 o.launch, .int .i64 o.least, .int .i64 o.most] 32 := ((Blk.new w _ _).alloc _).below hB (by omega)
      have d1 := hb2.cell 1 _ rfl
      have d2 := hb2.cell 2 _ rfl
      go_wp2_with (go_at_call 48; refine (span_any _ _ _ _).mono ?_; rintro e w' ⟨rfl, rfl⟩)
      go_ret
      exact ⟨ret_int (ropticsEnd o HF.out), by (repeat (first | exact Below.refl _ _ | assumption | refine below_draws ?_ _ | refine Below.drew ?_ | refine below_alloc ?_ _ (by first | omega | (simp; done) | (simp; omega)) | refine Below.setCell ?_ (by first | omega | (simp; done) | (simp; omega)) _ | refine below_at ?_ (by assumption) (by first | omega | (simp; done) | (simp; omega))))⟩


set_option maxHeartbeats 1000000 in
theorem rlossesFault_any (x : Losses) (w : World) : Calls Tryz.prog 11 #[.agg #[.int .i64 x.perKm, .int .i64 x.conn, .int .i64 x.dblg, .int .i64 x.exc]] w
    fun e w' => e = .returned (.int .i64 (lossesFault x)) ∧ Below w.heap.size w w' := by
  have HF := Lib.hid (lossesFault_eq x)
  go_enter Tryz.func11, Tryz.ntmps11
  go_wp2
  go_region_held3 (fun w' => w'.cell? ⟨w.heap.size, 0, none⟩ = some (.int .i64 x.perKm) ∧ w'.cell? ⟨w.heap.size, 1, none⟩ = some (.int .i64 x.conn) ∧ w'.cell? ⟨w.heap.size, 2, none⟩ = some (.int .i64 x.dblg) ∧ w'.cell? ⟨w.heap.size, 3, none⟩ = some (.int .i64 x.exc)) (go_keep)
    (first
      | (go_at_call 48; refine (span_any _ _ _ _).mono ?_; rintro e w' ⟨rfl, rfl⟩)
      | (go_at_call 18; refine (or_any _ [spanF x.perKm 0 1000, spanF x.conn 0 1000, spanF x.dblg 0 1000, spanF x.exc 0 1000] _ (by (try refine Arr.drew ?_); exact Arr.litAt (cells := intCells) (sz := 1) (fun _ => rfl) (by first | rfl | simp) (by rfl) (by rfl) (by simp [maxLen]))).mono ?_; rintro e w4 ⟨rfl, rfl⟩))
  go_wp2
  go_ret
  exact ⟨ret_int (by rw [HF.out]; rfl), by (repeat (first | exact Below.refl _ _ | assumption | refine below_draws ?_ _ | refine Below.drew ?_ | refine below_alloc ?_ _ (by first | omega | (simp; done) | (simp; omega)) | refine Below.setCell ?_ (by first | omega | (simp; done) | (simp; omega)) _ | refine below_at ?_ (by assumption) (by first | omega | (simp; done) | (simp; omega))))⟩
end Go.Proofs.YteliiknlpfjlkaaGreatDoor
/- Walks of the reference's functions for chapter 2: losses, powers, the greatest number. -/
set_option linter.unusedVariables false
set_option linter.unusedSimpArgs false
namespace Go.Proofs.YteliiknlpfjlkaaGreatDoor
open Go Go.RowKit

theorem total_last (l : List Part) (x : Losses) (k : Nat) (hk : l.length = k + 1) (h : k < (running l x 0).length) : (running l x 0)[k] = total l x := by
  rw [running_at, List.take_of_length_le (by omega)]; simp

set_option maxHeartbeats 1000000 in
theorem rlossOf_any (v : Value) (l : List Part) (x : Losses) (w : World) (h : Arr Part.cells 2 w l v) (hp : ∀ p ∈ l, p.Ok) (hl : l.length ≤ 1000) (hx : x.Ok) : Calls Tryz.prog 19 #[v, .agg #[.int .i64 x.perKm, .int .i64 x.conn, .int .i64 x.dblg, .int .i64 x.exc]] w
    fun e w' => e = .returned (.int .i64 (total l x)) ∧ Below w.heap.size w w' := by
  have h' := h
  obtain ⟨a, cap, rfl, hcap, hmax, hc⟩ := h
  by_cases h0 : l = []
  · subst h0
    go_enter Tryz.func19, Tryz.ntmps19
    go_wp2
    go_ret
    exact ⟨rfl, by (repeat (first | exact Below.refl _ _ | assumption | refine below_draws ?_ _ | refine Below.drew ?_ | refine below_alloc ?_ _ (by first | omega | (simp; done) | (simp; omega)) | refine Below.setCell ?_ (by first | omega | (simp; done) | (simp; omega)) _ | refine below_at ?_ (by assumption) (by first | omega | (simp; done) | (simp; omega))))⟩
  · obtain ⟨k, hk⟩ : ∃ k, l.length = k + 1 := ⟨l.length - 1, by have := List.length_pos_iff.2 h0; omega⟩
    have hne : ((l.length : Int) == 0) = false := by simp [h0]
    have hpos : 0 < l.length := by omega
    have HP := Lib.hid (And.intro hp (And.intro hl hx))
    have HK := Lib.hid hk
    clear hc hp hx hk h0
    go_enter Tryz.func19, Tryz.ntmps19
    go_wp2_with (go_at_call 20; refine (runningOf_any _ l x _ ?_ HP.out.1 HP.out.2.1 HP.out.2.2).mono ?_; (exact h'.below (by (repeat (first | exact Below.refl _ _ | assumption | refine below_draws ?_ _ | refine Below.drew ?_ | refine below_alloc ?_ _ (by first | omega | (simp; done) | (simp; omega)) | refine Below.setCell ?_ (by first | omega | (simp; done) | (simp; omega)) _ | refine below_at ?_ (by assumption) (by first | omega | (simp; done) | (simp; omega)))))); rintro e w1 ⟨v1, rfl, hA, hb1⟩; obtain ⟨a1, cap1, rfl, q1, q2, q3⟩ := hA; obtain ⟨b1, off1, rfl, hb, hcc⟩ := q3 (l.length - 1) (by rw [running_len]; omega); have c0 := hcc 0 _ rfl; simp only [Nat.mul_one, Nat.add_zero] at c0; rw [running_len] at q1 ⊢; clear hcc q3)
    go_ret
    exact ⟨ret_int (total_last l x _ (by omega) _), by (repeat (first | exact Below.refl _ _ | assumption | refine below_draws ?_ _ | refine Below.drew ?_ | refine below_alloc ?_ _ (by first | omega | (simp; done) | (simp; omega)) | refine Below.setCell ?_ (by first | omega | (simp; done) | (simp; omega)) _ | refine below_at ?_ (by assumption) (by first | omega | (simp; done) | (simp; omega))))⟩
end Go.Proofs.YteliiknlpfjlkaaGreatDoor
/- Walks of the reference's functions for chapter 2: powers, attenuators, the greatest number. -/
set_option linter.unusedVariables false
set_option linter.unusedSimpArgs false
namespace Go.Proofs.YteliiknlpfjlkaaGreatDoor
open Go Go.RowKit

def AllOk (l : List Part) (x : Losses) : Prop := (∀ p ∈ l, p.Ok) ∧ l.length ≤ 1000 ∧ x.Ok
theorem AllOk.bound {l : List Part} {x : Losses} (h : AllOk l x) : 0 ≤ total l x ∧ total l x ≤ 200000000 := by
  have := total_bound h.2.2 h.1
  have := h.2.1
  omega

theorem ret_ib {a a' : Int} {b b' : Bool} (h1 : a = a') (h2 : b = b') : Ending.returned (.tuple #[.int .i64 a, .bool b]) = .returned (.tuple #[.int .i64 a', .bool b']) := by rw [h1, h2]
theorem run_fn {f : FuncId} {fn : Func} {c : Code} (hf : Tryz.prog.funcs[f]? = some fn) (hname : (fn.name == "runtime.NumGoroutine") = false) (hb : fn.body = some c) :
    ∀ (args : Array Value) (w : World), (callFunc f args).run Tryz.prog w = .ok (.enter f args) w := fun args w => by
  have h1 : fn.name ≠ "runtime.NumGoroutine" := by simpa using hname
  simp [callFunc, hf, h1, hb]

end Go.Proofs.YteliiknlpfjlkaaGreatDoor
