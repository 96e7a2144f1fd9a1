/- Texts of one subject in one: CatS, CatD, Own; what each shows stands at its head. No condition. -/
import Derived.Test.YtcecpodbmjghhaaGreatMemAll
import Derived.Test.YtcecpodbmjghhaaGreatPlainT
import Derived.Test.YtcecpodbmjghhaaGreatAppA
import Derived.Test.YtcecpodbmjghhaaGreatOrders
import Derived.Test.YtcecpodbmjghhaaGreatProg
import Derived.Shelf.Spec.SlicesInsertGrow
/- Walk: slices.Grow of no slice, slices.Concat of two. -/
set_option linter.unusedVariables false
set_option linter.unusedSimpArgs false
namespace Go.Proofs.YtcecpodbmjghhaaGreat
open Go Go.RowKit
theorem infoC_splt : (Tryz.prog.info? 58).map (fun i => (i.zero, i.size, i.bytes)) = some (some (.agg #[.string ⟨#[]⟩, .int .i64 0, .string ⟨#[]⟩, .int .i64 0]), 4, 48) := by kernel_rfl
theorem oneC_splt (l : List Splt) : ∀ u ∈ l.flatMap Splt.cells, u.oneCell' = true := by
  intro u hu
  obtain ⟨c, _, hc⟩ := List.mem_flatMap.1 hu
  simp [Splt.cells] at hc
  rcases hc with rfl | rfl | rfl | rfl <;> rfl
set_option maxHeartbeats 4000000 in
set_option maxRecDepth 100000 in
theorem grow_splt (n : Nat) (w : World) (hn : n ≤ 10000) : Calls Tryz.prog 113 #[.slice none 0 0, .int .i64 n] w
    fun e w' => ∃ v', e = .returned v' ∧ w'.ownsRow w.heap.size 58 4 v' 0 [] ∧ Below w.heap.size w w' := by
  rcases Nat.eq_zero_or_pos n with rfl | hp
  · go_enter Tryz.func113, Tryz.ntmps113
    go_wp2
    go_ret
    exact ⟨_, rfl, World.ownsRow_nil _ _ _ _, Below.refl _ _⟩
  · obtain ⟨i0, hi0, hz0, hz1, hz2⟩ := info_parts infoC_splt
    have hold : (Builtin.firstCells i0.size 0 (.slice none 0 0)).run Tryz.prog w.drew = .ok #[] w.drew := by
      rw [hz1]; exact run_firstCells_none _ _ _ _ _
    have hrz : ∀ ty, ∃ ROW : Array Value, ROW.size = grownCap w n 0 58 * 4 ∧ (Builtin.append_ #[26, 3] ty #[.slice none 0 0, .int .i64 n]).run Tryz.prog w = .ok (.slice (some ⟨w.heap.size, 0, none⟩) n (grownCap w n 0 58)) (w.drew.alloc (.cells ROW 58)) := fun ty => by
      have h := Lib.run_append_grow_zeros (P := Tryz.prog) w 26 3 ty 58 i0 _ .i64 .i64 Tryz.underlying26 Tryz.underlying3 hi0 hz0 none 0 0 _ hold n (by omega) (by omega) (by omega) (by omega) (by rw [hz2]; omega) (by rw [hz2]; exact growslice_fits (by omega) (by omega))
      rw [Nat.zero_add] at h
      have hge : n ≤ grownCap w n 0 58 := grownCap_ge w _ _ _
      exact ⟨_, by simp [Builtin.zeroCells, Value.cells]; omega, h⟩
    have hge : n ≤ grownCap w n 0 58 := grownCap_ge w _ _ _
    have hgm : grownCap w n 0 58 ≤ maxLen := grownCap_le_maxLen w _ _ _ (by unfold maxLen; omega)
    obtain ⟨ROW, hRs, hR⟩ := hrz 26
    generalize grownCap w n 0 58 = G at *
    have HR := Lib.hid (And.intro hRs (And.intro hR hgm))
    unfold maxLen at hgm
    clear hrz hold hRs hR
    have e1 : (0 : Int) < (n : Int) := by omega
    go_enter Tryz.func113, Tryz.ntmps113
    go_wp2_with (at_builtin; refine Lib.wpList_append_run _ rfl _ _ _ _ rfl _ _ rfl rfl _ _ HR.out.2.1 ?_)
    go_ret
    have hb : Blk (w.drew.alloc (.cells ROW 58)) w.heap.size ROW 58 := Blk.new w.drew ROW _
    exact ⟨_, rfl, ⟨rfl, .inr ⟨w.heap.size, G, ROW, rfl, Nat.le_refl _, hb, by omega, HR.out.2.2, HR.out.1, by simp⟩⟩, below_alloc (Below.drew (Below.refl _ _)) _ (Nat.le_refl _)⟩
--ONCE
theorem own_grownC {W W' : World} {B sz n : Nat} {e : TypeId} {v : Value} {xs : List Value} (h : W.ownsRow B e sz v n xs) (hg : W.grownBy W' v.ownBlock) (hB : B ≤ W.heap.size) : Below B W W' :=
  ⟨hg.os, hg.tape, hg.output, hg.size, fun k hk => hg.block k (by omega) (fun e => by have := (h.lt k e.symm).1; omega)⟩
--ONCE END
/-- of the first k of two -/
def catN_splt (a b : Nat) : Nat → Nat | 0 => 0 | 1 => a | _ => a + b
def catL_splt (a b : List Splt) : Nat → List Splt | 0 => [] | 1 => a | _ => a ++ b
set_option maxHeartbeats 4000000 in
set_option maxRecDepth 100000 in
theorem concat_splt (vb : Nat) (t : TypeId) (v1 v2 : Value) (l1 l2 : List Splt) (w : World) (hb : Blk w vb #[v1, v2] t) (h1 : Arr Splt.cells 4 w l1 v1) (h2 : Arr Splt.cells 4 w l2 v2) (hl : l1.length + l2.length ≤ 10000) :
    Calls Tryz.prog 76 #[.slice (some ⟨vb, 0, none⟩) 2 2] w
    fun e w' => ∃ v', e = .returned v' ∧ w'.ownsRow w.heap.size 58 4 v' (l1.length + l2.length) ((l1 ++ l2).flatMap Splt.cells) ∧ Below w.heap.size w w' := by
  obtain ⟨i0, hi0, hz0, hz1, hz2⟩ := info_parts infoC_splt
  have HA := Lib.hid (And.intro h1 h2)
  obtain ⟨a1, cap1, rfl, -, hm1, -⟩ := id h1
  obtain ⟨a2, cap2, rfl, -, hm2, -⟩ := id h2
  have p0 := hb.cell 0 _ rfl
  have p1 := hb.cell 1 _ rfl
  have hvb := hb.lt
  clear h1 h2 hb
  go_enter Tryz.func76, Tryz.ntmps76
  go_wp2
  go_loopw [3, 11] (fun sv i wr => ∃ k : Nat, k ≤ 2 ∧ i = .int .i64 k ∧ sv = .int .i64 (catN_splt l1.length l2.length k : Nat) ∧ wr = w) (fun _ i _ => 2 - (intOf i).toNat)
  case atStart => exact ⟨0, by omega, rfl, rfl, rfl⟩
  case round =>
    obtain ⟨k, hk, rfl, rfl, hw⟩ := hrel
    have hw := hw.symm
    subst hw
    rcases (show k = 0 ∨ k = 1 ∨ k = 2 by omega) with rfl | rfl | rfl
    · simp only [catN_splt]
      go_wp2
      exact ⟨⟨1, by omega, by go_num, by (try simp only [catN_splt]); (try go_num), by first | rfl | trivial⟩, by simp [intOf]⟩
    · simp only [catN_splt]
      go_wp2
      exact ⟨⟨2, by omega, by go_num, by (try simp only [catN_splt]); (try go_num), by first | rfl | trivial⟩, by simp [intOf]⟩
    · simp only [catN_splt]
      go_wp2_with fail
      refine (grow_splt _ _ hl).mono ?_
      rintro e w1 ⟨v', rfl, ho, hb1⟩
      have hz := hb1.size
      have HO := Lib.hid (And.intro ho hb1)
      clear ho hb1
      go_wp2
      go_loopw [6, 27] (fun nv i wr => ∃ k : Nat, k ≤ 2 ∧ i = .int .i64 k ∧ wr.ownsRow w.heap.size 58 4 nv (catN_splt l1.length l2.length k) ((catL_splt l1 l2 k).flatMap Splt.cells) ∧ Below w.heap.size w wr) (fun _ i _ => 2 - (intOf i).toNat)
      case atStart => exact ⟨0, by omega, rfl, HO.out.1, HO.out.2⟩
      case round =>
        obtain ⟨k, hk, rfl, ho, hB⟩ := hrel
        have hsz := hB.size
        have q0 := (hB.cell (p := ⟨vb, 0, none⟩) hvb).trans p0
        have q1 := (hB.cell (p := ⟨vb, 1, none⟩) hvb).trans p1
        have HW := Lib.hid (And.intro ho hB)
        rcases (show k = 0 ∨ k = 1 ∨ k = 2 by omega) with rfl | rfl | rfl
        · obtain ⟨v2, w2, hr, ho2, hg2⟩ := run_append_arr (P := Tryz.prog) Splt.cells_len (HA.out.1.below hB) 26 26 _ 58 i0 _ 48 Tryz.underlying26 hi0 hz0 hz1 hz2 rfl (by decide) _ _ _ ho (oneC_splt _) (by simp only [catN_splt]; unfold maxLen; omega) (by simp only [catN_splt]; omega) hsz
          have HF := Lib.hid (And.intro ho2 (below_at hB (own_grownC ho hg2 hsz) (Nat.le_refl _)))
          clear ho2 hg2 ho hB
          go_wp2_with (at_builtin; refine Lib.wpList_append_run _ rfl _ _ _ _ rfl _ _ rfl rfl _ _ hr ?_)
          exact ⟨⟨1, by omega, by go_num, by simpa [catN_splt, catL_splt] using HF.out.1, HF.out.2⟩, by simp [intOf]⟩
        · obtain ⟨v2, w2, hr, ho2, hg2⟩ := run_append_arr (P := Tryz.prog) Splt.cells_len (HA.out.2.below hB) 26 26 _ 58 i0 _ 48 Tryz.underlying26 hi0 hz0 hz1 hz2 rfl (by decide) _ _ _ ho (oneC_splt _) (by simp only [catN_splt]; unfold maxLen; omega) (by simp only [catN_splt]; omega) hsz
          have HF := Lib.hid (And.intro ho2 (below_at hB (own_grownC ho hg2 hsz) (Nat.le_refl _)))
          clear ho2 hg2 ho hB
          go_wp2_with (at_builtin; refine Lib.wpList_append_run _ rfl _ _ _ _ rfl _ _ rfl rfl _ _ hr ?_)
          exact ⟨⟨2, by omega, by go_num, by simpa [catN_splt, catL_splt] using HF.out.1, HF.out.2⟩, by simp [intOf]⟩
        · go_wp2
          go_ret
          exact ⟨_, rfl, HW.out.1, HW.out.2⟩
end Go.Proofs.YtcecpodbmjghhaaGreat
/- Walk: slices.Grow of no slice, slices.Concat of two. -/
namespace Go.Proofs.YtcecpodbmjghhaaGreat
open Go Go.RowKit
theorem infoC_drp : (Tryz.prog.info? 36).map (fun i => (i.zero, i.size, i.bytes)) = some (some (.agg #[.string ⟨#[]⟩, .string ⟨#[]⟩, .int .i64 0]), 3, 40) := by kernel_rfl
theorem oneC_drp (l : List Drp) : ∀ u ∈ l.flatMap Drp.cells, u.oneCell' = true := by
  intro u hu
  obtain ⟨c, _, hc⟩ := List.mem_flatMap.1 hu
  simp [Drp.cells] at hc
  rcases hc with rfl | rfl | rfl <;> rfl
set_option maxHeartbeats 4000000 in
set_option maxRecDepth 100000 in
theorem grow_drp (n : Nat) (w : World) (hn : n ≤ 10000) : Calls Tryz.prog 114 #[.slice none 0 0, .int .i64 n] w
    fun e w' => ∃ v', e = .returned v' ∧ w'.ownsRow w.heap.size 36 3 v' 0 [] ∧ Below w.heap.size w w' := by
  rcases Nat.eq_zero_or_pos n with rfl | hp
  · go_enter Tryz.func114, Tryz.ntmps114
    go_wp2
    go_ret
    exact ⟨_, rfl, World.ownsRow_nil _ _ _ _, Below.refl _ _⟩
  · obtain ⟨i0, hi0, hz0, hz1, hz2⟩ := info_parts infoC_drp
    have hold : (Builtin.firstCells i0.size 0 (.slice none 0 0)).run Tryz.prog w.drew = .ok #[] w.drew := by
      rw [hz1]; exact run_firstCells_none _ _ _ _ _
    have hrz : ∀ ty, ∃ ROW : Array Value, ROW.size = grownCap w n 0 36 * 3 ∧ (Builtin.append_ #[27, 3] ty #[.slice none 0 0, .int .i64 n]).run Tryz.prog w = .ok (.slice (some ⟨w.heap.size, 0, none⟩) n (grownCap w n 0 36)) (w.drew.alloc (.cells ROW 36)) := fun ty => by
      have h := Lib.run_append_grow_zeros (P := Tryz.prog) w 27 3 ty 36 i0 _ .i64 .i64 Tryz.underlying27 Tryz.underlying3 hi0 hz0 none 0 0 _ hold n (by omega) (by omega) (by omega) (by omega) (by rw [hz2]; omega) (by rw [hz2]; exact growslice_fits (by omega) (by omega))
      rw [Nat.zero_add] at h
      have hge : n ≤ grownCap w n 0 36 := grownCap_ge w _ _ _
      exact ⟨_, by simp [Builtin.zeroCells, Value.cells]; omega, h⟩
    have hge : n ≤ grownCap w n 0 36 := grownCap_ge w _ _ _
    have hgm : grownCap w n 0 36 ≤ maxLen := grownCap_le_maxLen w _ _ _ (by unfold maxLen; omega)
    obtain ⟨ROW, hRs, hR⟩ := hrz 27
    generalize grownCap w n 0 36 = G at *
    have HR := Lib.hid (And.intro hRs (And.intro hR hgm))
    unfold maxLen at hgm
    clear hrz hold hRs hR
    have e1 : (0 : Int) < (n : Int) := by omega
    go_enter Tryz.func114, Tryz.ntmps114
    go_wp2_with (at_builtin; refine Lib.wpList_append_run _ rfl _ _ _ _ rfl _ _ rfl rfl _ _ HR.out.2.1 ?_)
    go_ret
    have hb : Blk (w.drew.alloc (.cells ROW 36)) w.heap.size ROW 36 := Blk.new w.drew ROW _
    exact ⟨_, rfl, ⟨rfl, .inr ⟨w.heap.size, G, ROW, rfl, Nat.le_refl _, hb, by omega, HR.out.2.2, HR.out.1, by simp⟩⟩, below_alloc (Below.drew (Below.refl _ _)) _ (Nat.le_refl _)⟩
/-- of the first k of two -/
def catN_drp (a b : Nat) : Nat → Nat | 0 => 0 | 1 => a | _ => a + b
def catL_drp (a b : List Drp) : Nat → List Drp | 0 => [] | 1 => a | _ => a ++ b
set_option maxHeartbeats 4000000 in
set_option maxRecDepth 100000 in
theorem concat_drp (vb : Nat) (t : TypeId) (v1 v2 : Value) (l1 l2 : List Drp) (w : World) (hb : Blk w vb #[v1, v2] t) (h1 : Arr Drp.cells 3 w l1 v1) (h2 : Arr Drp.cells 3 w l2 v2) (hl : l1.length + l2.length ≤ 10000) :
    Calls Tryz.prog 77 #[.slice (some ⟨vb, 0, none⟩) 2 2] w
    fun e w' => ∃ v', e = .returned v' ∧ w'.ownsRow w.heap.size 36 3 v' (l1.length + l2.length) ((l1 ++ l2).flatMap Drp.cells) ∧ Below w.heap.size w w' := by
  obtain ⟨i0, hi0, hz0, hz1, hz2⟩ := info_parts infoC_drp
  have HA := Lib.hid (And.intro h1 h2)
  obtain ⟨a1, cap1, rfl, -, hm1, -⟩ := id h1
  obtain ⟨a2, cap2, rfl, -, hm2, -⟩ := id h2
  have p0 := hb.cell 0 _ rfl
  have p1 := hb.cell 1 _ rfl
  have hvb := hb.lt
  clear h1 h2 hb
  go_enter Tryz.func77, Tryz.ntmps77
  go_wp2
  go_loopw [3, 11] (fun sv i wr => ∃ k : Nat, k ≤ 2 ∧ i = .int .i64 k ∧ sv = .int .i64 (catN_drp l1.length l2.length k : Nat) ∧ wr = w) (fun _ i _ => 2 - (intOf i).toNat)
  case atStart => exact ⟨0, by omega, rfl, rfl, rfl⟩
  case round =>
    obtain ⟨k, hk, rfl, rfl, hw⟩ := hrel
    have hw := hw.symm
    subst hw
    rcases (show k = 0 ∨ k = 1 ∨ k = 2 by omega) with rfl | rfl | rfl
    · simp only [catN_drp]
      go_wp2
      exact ⟨⟨1, by omega, by go_num, by (try simp only [catN_drp]); (try go_num), by first | rfl | trivial⟩, by simp [intOf]⟩
    · simp only [catN_drp]
      go_wp2
      exact ⟨⟨2, by omega, by go_num, by (try simp only [catN_drp]); (try go_num), by first | rfl | trivial⟩, by simp [intOf]⟩
    · simp only [catN_drp]
      go_wp2_with fail
      refine (grow_drp _ _ hl).mono ?_
      rintro e w1 ⟨v', rfl, ho, hb1⟩
      have hz := hb1.size
      have HO := Lib.hid (And.intro ho hb1)
      clear ho hb1
      go_wp2
      go_loopw [6, 27] (fun nv i wr => ∃ k : Nat, k ≤ 2 ∧ i = .int .i64 k ∧ wr.ownsRow w.heap.size 36 3 nv (catN_drp l1.length l2.length k) ((catL_drp l1 l2 k).flatMap Drp.cells) ∧ Below w.heap.size w wr) (fun _ i _ => 2 - (intOf i).toNat)
      case atStart => exact ⟨0, by omega, rfl, HO.out.1, HO.out.2⟩
      case round =>
        obtain ⟨k, hk, rfl, ho, hB⟩ := hrel
        have hsz := hB.size
        have q0 := (hB.cell (p := ⟨vb, 0, none⟩) hvb).trans p0
        have q1 := (hB.cell (p := ⟨vb, 1, none⟩) hvb).trans p1
        have HW := Lib.hid (And.intro ho hB)
        rcases (show k = 0 ∨ k = 1 ∨ k = 2 by omega) with rfl | rfl | rfl
        · obtain ⟨v2, w2, hr, ho2, hg2⟩ := run_append_arr (P := Tryz.prog) Drp.cells_len (HA.out.1.below hB) 27 27 _ 36 i0 _ 40 Tryz.underlying27 hi0 hz0 hz1 hz2 rfl (by decide) _ _ _ ho (oneC_drp _) (by simp only [catN_drp]; unfold maxLen; omega) (by simp only [catN_drp]; omega) hsz
          have HF := Lib.hid (And.intro ho2 (below_at hB (own_grownC ho hg2 hsz) (Nat.le_refl _)))
          clear ho2 hg2 ho hB
          go_wp2_with (at_builtin; refine Lib.wpList_append_run _ rfl _ _ _ _ rfl _ _ rfl rfl _ _ hr ?_)
          exact ⟨⟨1, by omega, by go_num, by simpa [catN_drp, catL_drp] using HF.out.1, HF.out.2⟩, by simp [intOf]⟩
        · obtain ⟨v2, w2, hr, ho2, hg2⟩ := run_append_arr (P := Tryz.prog) Drp.cells_len (HA.out.2.below hB) 27 27 _ 36 i0 _ 40 Tryz.underlying27 hi0 hz0 hz1 hz2 rfl (by decide) _ _ _ ho (oneC_drp _) (by simp only [catN_drp]; unfold maxLen; omega) (by simp only [catN_drp]; omega) hsz
          have HF := Lib.hid (And.intro ho2 (below_at hB (own_grownC ho hg2 hsz) (Nat.le_refl _)))
          clear ho2 hg2 ho hB
          go_wp2_with (at_builtin; refine Lib.wpList_append_run _ rfl _ _ _ _ rfl _ _ rfl rfl _ _ hr ?_)
          exact ⟨⟨2, by omega, by go_num, by simpa [catN_drp, catL_drp] using HF.out.1, HF.out.2⟩, by simp [intOf]⟩
        · go_wp2
          go_ret
          exact ⟨_, rfl, HW.out.1, HW.out.2⟩
end Go.Proofs.YtcecpodbmjghhaaGreat
/- Rows of different element types never share a block. No program. -/
namespace Go.Proofs.YtcecpodbmjghhaaGreat
open Go Go.RowKit
theorem own_neM {W : World} {B sz n c : Nat} {e t : TypeId} {v : Value} {xs : List Value} {cs : Array Value} (h : W.ownsRow B e sz v n xs) (hb : Blk W c cs t) (ht : e ≠ t) : v.ownBlock ≠ some c := by
  intro hc
  rcases h.2 with ⟨rfl, _⟩ | ⟨g, cap, cur, rfl, _, hh, _⟩
  · cases hc
  · simp only [Value.ownBlock, Option.some.injEq] at hc
    subst hc
    unfold Blk at hb
    rw [hb] at hh
    have hh := hh
    simp at hh; exact ht (by first | exact hh.2 | exact hh.2.symm | (obtain ⟨_, h9⟩ := hh; first | exact h9 | exact h9.symm))
theorem own_apart {W : World} {B B' sz sz' n n' : Nat} {e e' : TypeId} {v v' : Value} {xs xs' : List Value} (h : W.ownsRow B e sz v n xs) (h' : W.ownsRow B' e' sz' v' n' xs') (ht : e ≠ e') : ∀ k, v.ownBlock = some k → v'.ownBlock = some k → False := by
  intro k h1 h2
  rcases h.2 with ⟨rfl, _⟩ | ⟨g, cap, cur, rfl, _, hh, _⟩
  · cases h1
  · simp only [Value.ownBlock, Option.some.injEq] at h1
    subst h1
    exact own_neM h' (show Blk W g cur e from hh) (fun e => ht e.symm) h2
end Go.Proofs.YtcecpodbmjghhaaGreat
