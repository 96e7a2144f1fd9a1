/- Walks of package budget: total, Loss, Received, Margin, Attenuator, Reach, Repairs. -/
import Derived.Test.YtafjikoeolacgaaGreatDoorWalkB3
set_option linter.unusedVariables false
set_option linter.unusedSimpArgs false
namespace Go.Proofs.YtafjikoeolacgaaGreatDoor
open Go Go.RowKit

set_option maxHeartbeats 1000000 in
theorem total_any (v : Value) (l : List Part) (x : Losses) (w : World) (h : Arr Part.cells 2 w l v) (hp : ∀ p ∈ l, p.Ok) (hl : l.length ≤ 1000) (hx : x.Ok) : Calls Tryz.prog 72 #[v, .agg #[.int .i64 x.perKm, .int .i64 x.conn, .int .i64 x.dblg, .int .i64 x.exc]] w
    fun e w' => e = .returned (.int .i64 (total l x)) ∧ Below w.heap.size w w' := by
  obtain ⟨a, cap, rfl, hcap, hmax, hc⟩ := h
  clear hcap hmax
  have HX := Lib.hid hx
  have HP := Lib.hid hp
  clear hx hp
  go_enter Tryz.func72, Tryz.ntmps72
  go_wp2
  go_loopw [5, 10] (fun n i wr => ∃ k : Nat, k ≤ l.length ∧ i = .int .i64 k ∧ n = .int .i64 (total (l.take k) x) ∧ Below (w.heap.size + 1) (w.alloc (.cells #[.int .i64 x.perKm, .int .i64 x.conn, .int .i64 x.dblg, .int .i64 x.exc] 48)) wr) (fun _ i _ => l.length - (intOf i).toNat)
  case atStart => exact ⟨0, by omega, rfl, rfl, Below.refl _ _⟩
  case round =>
    obtain ⟨k, hk, rfl, rfl, hB⟩ := hrel
    have hsz : w.heap.size < wr.heap.size := by have := hB.size; simp at this; omega
    have hB0 : Below w.heap.size w wr := by (repeat (first | exact Below.refl _ _ | assumption | refine below_draws ?_ _ | refine Below.drew ?_ | refine below_alloc ?_ _ (by first | omega | (simp; done) | (simp; omega)) | refine Below.setCell ?_ (by first | omega | (simp; done) | (simp; omega)) _ | refine below_at ?_ (by assumption) (by first | omega | (simp; done) | (simp; omega))))
    by_cases hlt : k < l.length
    · obtain ⟨b, off, rfl, hb, hcc⟩ := hc k hlt
      obtain ⟨c0, c1⟩ := part_at hcc
      replace c0 := (hB0.cell (p := ⟨b, _, none⟩) hb).trans c0
      replace c1 := (hB0.cell (p := ⟨b, _, none⟩) hb).trans c1
      clear hc hcc
      have hbx : Blk wr w.heap.size #[.int .i64 x.perKm, .int .i64 x.conn, .int .i64 x.dblg, .int .i64 x.exc] 48 := (Blk.new w _ _).below hB (by omega)
      have d0 := hbx.cell 0 _ rfl
      have d1 := hbx.cell 1 _ rfl
      have d2 := hbx.cell 2 _ rfl
      have d3 := hbx.cell 3 _ rfl
      have hlb := lossOf_bound (HP.out l[k] (List.getElem_mem _)) HX.out
      have htb := total_bound HX.out (l := l.take k) (fun p hp => HP.out p (List.mem_of_mem_take hp))
      have hlk : (l.take k).length ≤ 1000 := by rw [List.length_take]; omega
      obtain ⟨lb1, lb2⟩ := hlb
      obtain ⟨tb1, tb2⟩ := htb
      have tb3 : total (l.take k) x ≤ 200000000 := by omega
      clear tb2 hlk
      have HT := Lib.hid (total_take_succ l x k hlt)
      go_wp2_with (go_at_call 73; refine (lossOf_any l[k] x _ (HP.out l[k] (List.getElem_mem _)) HX.out).mono ?_; rintro e w1 ⟨rfl, hb1⟩)
      go_roundw
      case rel => exact ⟨k + 1, by omega, by go_num, by rw [HT.out], by (repeat (first | exact Below.refl _ _ | assumption | refine below_draws ?_ _ | refine Below.drew ?_ | refine below_alloc ?_ _ (by first | omega | (simp; done) | (simp; omega)) | refine Below.setCell ?_ (by first | omega | (simp; done) | (simp; omega)) _ | refine below_at ?_ (by assumption) (by first | omega | (simp; done) | (simp; omega))))⟩
      case measure => simp [intOf]; omega
    · go_wp2
      go_ret
      exact ⟨ret_int (by rw [List.take_of_length_le (by omega)]), hB0⟩

end Go.Proofs.YtafjikoeolacgaaGreatDoor
