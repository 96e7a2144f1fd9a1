/- Walks of package budget: total, Loss, Received, Margin, Attenuator, Reach, Repairs. -/
import Derived.Test.YtagpcgnlbgndmaaWalkB3
set_option linter.unusedVariables false
set_option linter.unusedSimpArgs false
namespace Go.Proofs.Ytagpcgnlbgndmaa
open Go Go.RowKit

set_option maxHeartbeats 1000000 in
theorem total_any (v : Value) (l : List Part) (x : Losses) (w : World) (h : Arr Part.cells 2 w l v) (hp : ∀ p ∈ l, p.Ok) (hl : l.length ≤ 1000) (hx : x.Ok) : Calls Try.prog 82 #[v, .agg #[.int .i64 x.perKm, .int .i64 x.conn, .int .i64 x.dblg, .int .i64 x.exc]] w
    fun e w' => e = .returned (.int .i64 (total l x)) ∧ Below w.heap.size w w' := by
  obtain ⟨a, cap, rfl, hcap, hmax, hc⟩ := h
  clear hcap hmax
  have HX := Lib.hid hx
  have HP := Lib.hid hp
  clear hx hp
  go_enter Try.func82, Try.ntmps82
  go_wp2
  go_loopw [5, 10] (fun n i wr => ∃ k : Nat, k ≤ l.length ∧ i = .int .i64 k ∧ n = .int .i64 (total (l.take k) x) ∧ Below (w.heap.size + 1) (w.alloc (.cells #[.int .i64 x.perKm, .int .i64 x.conn, .int .i64 x.dblg, .int .i64 x.exc] 29)) wr) (fun _ i _ => l.length - (intOf i).toNat)
  case atStart => exact ⟨0, by omega, rfl, rfl, Below.refl _ _⟩
  case round =>
    obtain ⟨k, hk, rfl, rfl, hB⟩ := hrel
    have hsz : w.heap.size < wr.heap.size := by have := hB.size; simp at this; omega
    have hB0 : Below w.heap.size w wr := by (repeat (first | exact Below.refl _ _ | assumption | refine below_draws ?_ _ | refine Below.drew ?_ | refine below_alloc ?_ _ (by first | omega | (simp; done) | (simp; omega)) | refine Below.setCell ?_ (by first | omega | (simp; done) | (simp; omega)) _ | refine below_at ?_ (by assumption) (by first | omega | (simp; done) | (simp; omega))))
    by_cases hlt : k < l.length
    · obtain ⟨b, off, rfl, hb, hcc⟩ := hc k hlt
      obtain ⟨c0, c1⟩ := part_at hcc
      replace c0 := (hB0.cell (p := ⟨b, _, none⟩) hb).trans c0
      replace c1 := (hB0.cell (p := ⟨b, _, none⟩) hb).trans c1
      clear hc hcc
      have hbx : Blk wr w.heap.size #[.int .i64 x.perKm, .int .i64 x.conn, .int .i64 x.dblg, .int .i64 x.exc] 29 := (Blk.new w _ _).below hB (by omega)
      have d0 := hbx.cell 0 _ rfl
      have d1 := hbx.cell 1 _ rfl
      have d2 := hbx.cell 2 _ rfl
      have d3 := hbx.cell 3 _ rfl
      have hlb := lossOf_bound (HP.out l[k] (List.getElem_mem _)) HX.out
      have htb := total_bound HX.out (l := l.take k) (fun p hp => HP.out p (List.mem_of_mem_take hp))
      have hlk : (l.take k).length ≤ 1000 := by rw [List.length_take]; omega
      obtain ⟨lb1, lb2⟩ := hlb
      obtain ⟨tb1, tb2⟩ := htb
      have tb3 : total (l.take k) x ≤ 200000000 := by omega
      clear tb2 hlk
      have HT := Lib.hid (total_take_succ l x k hlt)
      go_wp2_with (go_at_call 119; refine (lossOf_any l[k] x _ (HP.out l[k] (List.getElem_mem _)) HX.out).mono ?_; rintro e w1 ⟨rfl, hb1⟩)
      go_roundw
      case rel => exact ⟨k + 1, by omega, by go_num, by rw [HT.out], by (repeat (first | exact Below.refl _ _ | assumption | refine below_draws ?_ _ | refine Below.drew ?_ | refine below_alloc ?_ _ (by first | omega | (simp; done) | (simp; omega)) | refine Below.setCell ?_ (by first | omega | (simp; done) | (simp; omega)) _ | refine below_at ?_ (by assumption) (by first | omega | (simp; done) | (simp; omega))))⟩
      case measure => simp [intOf]; omega
    · go_wp2
      go_ret
      exact ⟨ret_int (by rw [List.take_of_length_le (by omega)]), hB0⟩

set_option maxHeartbeats 1000000 in
theorem received_any (v : Value) (l : List Part) (x : Losses) (o : Optics) (w : World) (h : Arr Part.cells 2 w l v) : Calls Try.prog 23 #[v, .agg #[.int .i64 x.perKm, .int .i64 x.conn, .int .i64 x.dblg, .int .i64 x.exc], .agg #[.int .i64 o.launch, .int .i64 o.least, .int .i64 o.most]] w
    fun e w' => e = .returned (.tuple #[.int .i64 (recvV l x o), .int .i64 (faultF l x o)]) ∧ Below w.heap.size w w' := by
  by_cases hf : faultF l x o = 0
  · have hf' : (faultF l x o != 0) = false := by simp [hf]
    obtain ⟨⟨h1, h2⟩, h3, h4⟩ := faultF_zero.1 hf
    obtain ⟨t1, t2⟩ := total_bound h3 h2
    have t3 : total l x ≤ 200000000 := by omega
    clear t2
    have HR : Hid (recvV l x o = o.launch - total l x) := by unfold recvV; rw [if_pos hf]; exact rfl
    have HF := Lib.hid hf
    have H2 := Lib.hid (And.intro h1 (And.intro h2 h3))
    unfold Optics.Ok at h4
    obtain ⟨o1, o2, o3, o4, o5⟩ := h4
    clear hf h1 h2 h3
    have hw : IntKind.i64.wrap (o.launch - total l x) = o.launch - total l x := IntWalk.i64_in _ (by omega)
    go_enter Try.func23, Try.ntmps23
    go_wp2_with (go_at_call 81; refine (fault_any _ l x o _ ?_).mono ?_; (exact h.below (by (repeat (first | exact Below.refl _ _ | assumption | refine below_draws ?_ _ | refine Below.drew ?_ | refine below_alloc ?_ _ (by first | omega | (simp; done) | (simp; omega)) | refine Below.setCell ?_ (by first | omega | (simp; done) | (simp; omega)) _ | refine below_at ?_ (by assumption) (by first | omega | (simp; done) | (simp; omega)))))); rintro e w1 ⟨rfl, hb1⟩; have s1 : w.heap.size + 2 ≤ w1.heap.size := (by have := hb1.size; (try simp at this); omega); have hc1 := bcellAt hb1 w.heap.size (by first | omega | (simp; done) | (simp; omega)); have hd1 := bcellAt hb1 (w.heap.size + 1) (by first | omega | (simp; done) | (simp; omega)))
    go_region_held3 (fun w' => w'.cell? ⟨w.heap.size, 0, none⟩ = some (.int .i64 x.perKm) ∧ w'.cell? ⟨w.heap.size, 1, none⟩ = some (.int .i64 x.conn) ∧ w'.cell? ⟨w.heap.size, 2, none⟩ = some (.int .i64 x.dblg) ∧ w'.cell? ⟨w.heap.size, 3, none⟩ = some (.int .i64 x.exc) ∧ w'.cell? ⟨w.heap.size + 1, 0, none⟩ = some (.int .i64 o.launch) ∧ w'.cell? ⟨w.heap.size + 1, 1, none⟩ = some (.int .i64 o.least) ∧ w'.cell? ⟨w.heap.size + 1, 2, none⟩ = some (.int .i64 o.most)) (go_keep)
      ((go_at_call 82; refine (total_any _ l x _ ?_ H2.out.2.1 H2.out.1 H2.out.2.2).mono ?_; (exact h.below (by (repeat (first | exact Below.refl _ _ | assumption | refine below_draws ?_ _ | refine Below.drew ?_ | refine below_alloc ?_ _ (by first | omega | (simp; done) | (simp; omega)) | refine Below.setCell ?_ (by first | omega | (simp; done) | (simp; omega)) _ | refine below_at ?_ (by assumption) (by first | omega | (simp; done) | (simp; omega)))))); rintro e w2 ⟨rfl, hb2⟩; have s2 : w.heap.size + 2 ≤ w2.heap.size := (by have := hb2.size; (try simp at this); omega); have hc2 := bcellAt hb2 w.heap.size (by first | omega | (simp; done) | (simp; omega)); have hd2 := bcellAt hb2 (w.heap.size + 1) (by first | omega | (simp; done) | (simp; omega))))
    go_wp2
    go_ret2
    exact ⟨by rw [HR.out, HF.out]; rfl, by (repeat (first | exact Below.refl _ _ | assumption | refine below_draws ?_ _ | refine Below.drew ?_ | refine below_alloc ?_ _ (by first | omega | (simp; done) | (simp; omega)) | refine Below.setCell ?_ (by first | omega | (simp; done) | (simp; omega)) _ | refine below_at ?_ (by assumption) (by first | omega | (simp; done) | (simp; omega))))⟩
  · have hf' : (faultF l x o != 0) = true := by simp [hf]
    have HR : Hid (recvV l x o = 0) := by unfold recvV; rw [if_neg hf]; exact rfl
    clear hf
    go_enter Try.func23, Try.ntmps23
    go_wp2_with (go_at_call 81; refine (fault_any _ l x o _ ?_).mono ?_; (exact h.below (by (repeat (first | exact Below.refl _ _ | assumption | refine below_draws ?_ _ | refine Below.drew ?_ | refine below_alloc ?_ _ (by first | omega | (simp; done) | (simp; omega)) | refine Below.setCell ?_ (by first | omega | (simp; done) | (simp; omega)) _ | refine below_at ?_ (by assumption) (by first | omega | (simp; done) | (simp; omega)))))); rintro e w1 ⟨rfl, hb1⟩)
    go_ret2
    exact ⟨by rw [HR.out]; rfl, by (repeat (first | exact Below.refl _ _ | assumption | refine below_draws ?_ _ | refine Below.drew ?_ | refine below_alloc ?_ _ (by first | omega | (simp; done) | (simp; omega)) | refine Below.setCell ?_ (by first | omega | (simp; done) | (simp; omega)) _ | refine below_at ?_ (by assumption) (by first | omega | (simp; done) | (simp; omega))))⟩

set_option maxHeartbeats 1000000 in
theorem margin_any (v : Value) (l : List Part) (x : Losses) (o : Optics) (w : World) (h : Arr Part.cells 2 w l v) : Calls Try.prog 24 #[v, .agg #[.int .i64 x.perKm, .int .i64 x.conn, .int .i64 x.dblg, .int .i64 x.exc], .agg #[.int .i64 o.launch, .int .i64 o.least, .int .i64 o.most]] w
    fun e w' => e = .returned (.tuple #[.int .i64 (marginV l x o), .int .i64 (faultF l x o)]) ∧ Below w.heap.size w w' := by
  obtain ⟨r1, r2⟩ := recvV_bound l x o
  by_cases hf : faultF l x o = 0
  · have hf' : (faultF l x o != 0) = false := by simp [hf]
    obtain ⟨⟨h1, h2⟩, h3, h4⟩ := faultF_zero.1 hf
    have HR := Lib.hid (marginV_eq hf)
    have HF := Lib.hid hf
    unfold Optics.Ok at h4
    obtain ⟨o1, o2, o3, o4, o5⟩ := h4
    clear hf h1 h2 h3
    go_enter Try.func24, Try.ntmps24
    go_wp2_with (go_at_call 23; refine (received_any _ l x o _ ?_).mono ?_; (exact h.below (by (repeat (first | exact Below.refl _ _ | assumption | refine below_draws ?_ _ | refine Below.drew ?_ | refine below_alloc ?_ _ (by first | omega | (simp; done) | (simp; omega)) | refine Below.setCell ?_ (by first | omega | (simp; done) | (simp; omega)) _ | refine below_at ?_ (by assumption) (by first | omega | (simp; done) | (simp; omega)))))); rintro e w1 ⟨rfl, hb1⟩; have s1 : w.heap.size + 2 ≤ w1.heap.size := (by have := hb1.size; (try simp at this); omega); have hc1 := bcellAt hb1 w.heap.size (by first | omega | (simp; done) | (simp; omega)); have hd1 := bcellAt hb1 (w.heap.size + 1) (by first | omega | (simp; done) | (simp; omega)))
    go_ret2
    exact ⟨by rw [HR.out, HF.out]; rfl, by (repeat (first | exact Below.refl _ _ | assumption | refine below_draws ?_ _ | refine Below.drew ?_ | refine below_alloc ?_ _ (by first | omega | (simp; done) | (simp; omega)) | refine Below.setCell ?_ (by first | omega | (simp; done) | (simp; omega)) _ | refine below_at ?_ (by assumption) (by first | omega | (simp; done) | (simp; omega))))⟩
  · have hf' : (faultF l x o != 0) = true := by simp [hf]
    have HR : Hid (marginV l x o = 0) := by unfold marginV; rw [if_neg hf]; exact rfl
    clear hf
    go_enter Try.func24, Try.ntmps24
    go_wp2_with (go_at_call 23; refine (received_any _ l x o _ ?_).mono ?_; (exact h.below (by (repeat (first | exact Below.refl _ _ | assumption | refine below_draws ?_ _ | refine Below.drew ?_ | refine below_alloc ?_ _ (by first | omega | (simp; done) | (simp; omega)) | refine Below.setCell ?_ (by first | omega | (simp; done) | (simp; omega)) _ | refine below_at ?_ (by assumption) (by first | omega | (simp; done) | (simp; omega)))))); rintro e w1 ⟨rfl, hb1⟩)
    go_ret2
    exact ⟨by rw [HR.out]; rfl, by (repeat (first | exact Below.refl _ _ | assumption | refine below_draws ?_ _ | refine Below.drew ?_ | refine below_alloc ?_ _ (by first | omega | (simp; done) | (simp; omega)) | refine Below.setCell ?_ (by first | omega | (simp; done) | (simp; omega)) _ | refine below_at ?_ (by assumption) (by first | omega | (simp; done) | (simp; omega))))⟩
end Go.Proofs.Ytagpcgnlbgndmaa
