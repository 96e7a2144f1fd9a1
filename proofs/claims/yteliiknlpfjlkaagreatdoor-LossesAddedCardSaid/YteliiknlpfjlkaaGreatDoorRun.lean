/- Walk: budget.Running, at right parts and right losses. -/
import Derived.Test.YteliiknlpfjlkaaGreatDoorLoss
import Derived.Test.YteliiknlpfjlkaaGreatDoorRefBAll
set_option linter.unusedVariables false
set_option linter.unusedSimpArgs false
namespace Go.Proofs.YteliiknlpfjlkaaGreatDoor
open Go Go.RowKit

def RunB (l : List Part) (x : Losses) (k : Nat) (w0 wr : World) (v : Value) : Prop :=
  wr.ownsRow (w0.heap.size + 1) 3 1 v k (((running l x 0).take k).map (Value.int .i64)) ∧ Below w0.heap.size w0 wr ∧ Blk wr w0.heap.size #[.int .i64 x.perKm, .int .i64 x.conn, .int .i64 x.dblg, .int .i64 x.exc] 29

theorem runB_step {l : List Part} {x : Losses} {k : Nat} {w0 wx w1 : World} {v v' : Value} {s : Int} (hgrow : wx.grownBy w1 v.ownBlock)
    (hown1 : w1.ownsRow (w0.heap.size + 1) 3 1 v' (k + 1) (((running l x 0).take k).map (Value.int .i64) ++ [.int .i64 s]))
    (hown : wx.ownsRow (w0.heap.size + 1) 3 1 v k (((running l x 0).take k).map (Value.int .i64))) (hB : Below w0.heap.size w0 wx)
    (hbx : Blk wx w0.heap.size #[.int .i64 x.perKm, .int .i64 x.conn, .int .i64 x.dblg, .int .i64 x.exc] 29)
    (hs : w0.heap.size + 1 ≤ wx.heap.size) (hr : (running l x 0).take (k + 1) = (running l x 0).take k ++ [s]) : RunB l x (k + 1) w0 w1 v' := by
  have hb : Below (w0.heap.size + 1) wx w1 := below_grown (Below.refl _ _) hown hgrow (Nat.le_refl _) hs
  exact ⟨by rw [hr, List.map_append]; exact hown1, hB.trans (hb.mono (by omega)), hbx.below hb (by omega)⟩

set_option maxHeartbeats 1000000 in
set_option maxRecDepth 100000 in
theorem running_any (v : Value) (l : List Part) (x : Losses) (w : World) (h : Arr Part.cells 2 w l v) (hf : lossF l x = 0) : Calls Tryz.prog 17 #[v, .agg #[.int .i64 x.perKm, .int .i64 x.conn, .int .i64 x.dblg, .int .i64 x.exc]] w
    fun e w' => ∃ v', e = .returned (.tuple #[v', .int .i64 0]) ∧ w'.ownsRow (w.heap.size + 1) 3 1 v' l.length ((running l x 0).map (Value.int .i64)) ∧ Below w.heap.size w w' := by
  obtain ⟨p1, p2⟩ := lossF_zero.1 hf
  have hf' : (firstF [partsFault l, lossesFault x] != 0) = false := by have : firstF [partsFault l, lossesFault x] = 0 := hf; simp [this]
  have HF := Lib.hid hf
  obtain ⟨i0, hi, hz0, hz1, hz2⟩ := info_parts infoInt
  have hpl := (partsFault_zero.1 p1).1
  have HP := Lib.hid (partsFault_zero.1 p1).2
  have HX := Lib.hid (lossesFault_zero.1 p2)
  clear hf p1 p2
  have HA := Lib.hid h
  go_enter Tryz.func17, Tryz.ntmps17
  go_wp2
  go_region_held3 (fun w' => w'.cell? ⟨w.heap.size, 0, none⟩ = some (.int .i64 x.perKm) ∧ w'.cell? ⟨w.heap.size, 1, none⟩ = some (.int .i64 x.conn) ∧ w'.cell? ⟨w.heap.size, 2, none⟩ = some (.int .i64 x.dblg) ∧ w'.cell? ⟨w.heap.size, 3, none⟩ = some (.int .i64 x.exc)) (go_keep)
    (first
      | (go_at_call 12; refine (checkParts_any _ l _ ?_).mono ?_; (exact h.below (by (repeat (first | exact Below.refl _ _ | assumption | refine below_draws ?_ _ | refine Below.drew ?_ | refine below_alloc ?_ _ (by first | omega | (simp; done) | (simp; omega)) | refine Below.setCell ?_ (by first | omega | (simp; done) | (simp; omega)) _ | refine below_at ?_ (by assumption) (by first | omega | (simp; done) | (simp; omega)))))); rintro e w1 ⟨rfl, hb1⟩; have s1 : w.heap.size + 1 ≤ w1.heap.size := (by have := hb1.size; (try simp at this); omega); have hc1 := bcellAt hb1 w.heap.size (by first | omega | (simp; done) | (simp; omega)))
      | (go_at_call 13; refine (checkLosses_any x _).mono ?_; rintro e w2 ⟨rfl, hb2⟩; have s2 : w.heap.size + 1 ≤ w2.heap.size := (by have := hb2.size; (try simp at this); omega); have hc2 := bcellAt hb2 w.heap.size (by first | omega | (simp; done) | (simp; omega)))
      | (go_at_call 52; refine (first_any _ [partsFault l, lossesFault x] _ (by exact Arr.lit (cells := intCells) (sz := 1) (fun _ => rfl) _ [partsFault l, lossesFault x] _ _ 2 (by rfl) rfl (by simp [maxLen]))).mono ?_; rintro e w4 ⟨rfl, rfl⟩))
  obtain ⟨a, cap, rfl, hcap, hmax, hc⟩ := h
  clear hcap hmax
  go_wp2_with fail
  go_loopw [7, 8, 22] (fun v n i wr => ∃ k : Nat, k ≤ l.length ∧ i = .int .i64 k ∧ n = .int .i64 (total (l.take k) x) ∧ RunB l x k w wr v) (fun _ _ i _ => l.length - (intOf i).toNat)
  case atStart => exact ⟨0, by omega, rfl, rfl, World.ownsRow_nil _ _ _ _, by (repeat (first | exact Below.refl _ _ | assumption | refine below_draws ?_ _ | refine Below.drew ?_ | refine below_alloc ?_ _ (by first | omega | (simp; done) | (simp; omega)) | refine Below.setCell ?_ (by first | omega | (simp; done) | (simp; omega)) _ | refine below_at ?_ (by assumption) (by first | omega | (simp; done) | (simp; omega)))), (Blk.new w _ _).below (B := w.heap.size + 1) (by (repeat (first | exact Below.refl _ _ | assumption | refine below_draws ?_ _ | refine Below.drew ?_ | refine below_alloc ?_ _ (by first | omega | (simp; done) | (simp; omega)) | refine Below.setCell ?_ (by first | omega | (simp; done) | (simp; omega)) _ | refine below_at ?_ (by assumption) (by first | omega | (simp; done) | (simp; omega))))) (by omega)⟩
  case round =>
    obtain ⟨k, hk, rfl, rfl, hown, hB0, hbx⟩ := hrel
    have HO := Lib.hid hown
    clear hown
    have hsz : w.heap.size < wr.heap.size := hbx.lt
    by_cases hlt : k < l.length
    · obtain ⟨b, off, rfl, hb, hcc⟩ := hc k hlt
      obtain ⟨c0, c1⟩ := part_at hcc
      replace c0 := (hB0.cell (p := ⟨b, _, none⟩) hb).trans c0
      replace c1 := (hB0.cell (p := ⟨b, _, none⟩) hb).trans c1
      clear hc hcc
      have d0 := hbx.cell 0 _ rfl
      have d1 := hbx.cell 1 _ rfl
      have d2 := hbx.cell 2 _ rfl
      have d3 := hbx.cell 3 _ rfl
      have HB := Lib.hid hbx
      clear hbx
      have hlb := lossOf_bound (HP.out l[k] (List.getElem_mem _)) HX.out
      have htb := total_bound HX.out (l := l.take k) (fun p hp => HP.out p (List.mem_of_mem_take hp))
      have hlk : (l.take k).length ≤ 1000 := by rw [List.length_take]; omega
      obtain ⟨lb1, lb2⟩ := hlb
      obtain ⟨tb1, tb2⟩ := htb
      have tb3 : total (l.take k) x ≤ 200000000 := by omega
      clear tb2 hlk
      have HT := Lib.hid (total_take_succ l x k hlt)
      have HR := Lib.hid (running_take_succ x l k hlt)
      go_wp2_with fail
      refine (lossOf_any l[k] x _ (HP.out l[k] (List.getElem_mem _)) HX.out).mono ?_
      rintro e w1 ⟨rfl, hb1⟩
      have hz1' : wr.heap.size + 1 ≤ w1.heap.size := by have := hb1.size; (try simp at this); omega
      go_wp2_with ((at_builtin; go_must (refine wpList_append_own _ rfl _ _ 22 rfl _ 3 _ (.int .i64 0) 1 8 Tryz.underlying22 hi hz0 hz1 hz2 rfl (by decide) _ _ _ rfl (own_below HO.out (by (repeat (first | exact Below.refl _ _ | assumption | refine below_draws ?_ _ | refine Below.drew ?_ | refine below_alloc ?_ _ (by first | omega | (simp; done) | (simp; omega)) | refine Below.setCell ?_ (by first | omega | (simp; done) | (simp; omega)) _ | refine below_at ?_ (by assumption) (by first | omega | (simp; done) | (simp; omega)))))) ⟨w1.heap.size, 0, none⟩ 1 1 [.int .i64 (total (l.take k) x + lossOf l[k] x)] rfl rfl (by exact news_at (by first | rfl | simp) (by rfl)) (by simp [Value.oneCell']) (by unfold maxLen; omega) (by omega) (by first | omega | (simp; done) | (simp; omega)) ?_)); intro v' w3 hown1 hgrow _)
      exact ⟨⟨k + 1, by omega, by go_num, by rw [HT.out], runB_step hgrow hown1 (own_below HO.out (by (repeat (first | exact Below.refl _ _ | assumption | refine below_draws ?_ _ | refine Below.drew ?_ | refine below_alloc ?_ _ (by first | omega | (simp; done) | (simp; omega)) | refine Below.setCell ?_ (by first | omega | (simp; done) | (simp; omega)) _ | refine below_at ?_ (by assumption) (by first | omega | (simp; done) | (simp; omega)))))) (by (repeat (first | exact Below.refl _ _ | assumption | refine below_draws ?_ _ | refine Below.drew ?_ | refine below_alloc ?_ _ (by first | omega | (simp; done) | (simp; omega)) | refine Below.setCell ?_ (by first | omega | (simp; done) | (simp; omega)) _ | refine below_at ?_ (by assumption) (by first | omega | (simp; done) | (simp; omega))))) (HB.out.below (B := wr.heap.size) (by (repeat (first | exact Below.refl _ _ | assumption | refine below_draws ?_ _ | refine Below.drew ?_ | refine below_alloc ?_ _ (by first | omega | (simp; done) | (simp; omega)) | refine Below.setCell ?_ (by first | omega | (simp; done) | (simp; omega)) _ | refine below_at ?_ (by assumption) (by first | omega | (simp; done) | (simp; omega))))) (by omega)) (by first | omega | (simp; done) | (simp; omega)) HR.out⟩, by simp [intOf]; omega⟩
    · go_wp2
      go_ret2
      refine ⟨_, rfl, ?_, hB0⟩
      have := HO.out
      rw [List.take_of_length_le (by rw [running_len]; omega), show k = l.length by omega] at this
      exact this
end Go.Proofs.YteliiknlpfjlkaaGreatDoor
