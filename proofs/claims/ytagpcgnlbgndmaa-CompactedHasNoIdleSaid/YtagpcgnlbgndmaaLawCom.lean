/- The walk of CompactedHasNoIdle: the law's function returns true for every list of integers, and writes nothing that was there. -/
import Derived.Test.YtagpcgnlbgndmaaStreamZ
import Derived.Test.YtagpcgnlbgndmaaComAll
import Derived.Test.YtagpcgnlbgndmaaReady
import Derived.Test.YtagpcgnlbgndmaaLawHead
set_option linter.unusedVariables false
set_option linter.unusedSimpArgs false
namespace Go.Proofs.Ytagpcgnlbgndmaa
open Go Go.RowKit

set_option maxHeartbeats 16000000 in
set_option maxRecDepth 100000 in
theorem law_com (a0 : Option Addr) (len0 cap0 : Nat) (z0 : List Int) (w : World) (w0 : IsRow .i64 w a0 len0 cap0 z0) :
    Calls Try.prog 11 #[.slice a0 len0 cap0] w fun e w' => e = .returned (.bool true) ∧ Below w.heap.size w w' := by
  have hS := strm_start w0
  clear w0
  go_enter Try.func11, Try.ntmps11
  go_wp2_with fail
  refine (rightTree_any w.heap.size 0 _ hS (by omega)).mono ?_
  rintro e w1 ⟨v, rfl, ⟨v1, v2, l, d, rfl, hl4, hd6, hF, hA1, hA2, lo1, lo2⟩, hs1, hg1⟩
  obtain ⟨a1, cap1, rfl, -, hcm, -⟩ := id hA1
  obtain ⟨a2, cap2, rfl, -, -, -⟩ := id hA2
  unfold maxLen at hcm
  have hg01 := grown_trans (World.grownBy_alloc w _ (some w.heap.size)) hg1
  have hz1 := hg1.size
  simp only [World.size_alloc] at hz1
  have hB1 := below_row hg01
  have hT1 := Blk.new w1 #[.slice a1 l.length cap1, .slice a2 d.length cap2] 89
  have hb2 := below_alloc (Below.refl w1.heap.size w1) (.cells #[.slice a1 l.length cap1, .slice a2 d.length cap2] 89) (Nat.le_refl _)
  have hB2 := below_at hB1 hb2 (by omega)
  have A1 := hA1.below hb2
  have A2 := hA2.below hb2
  have HP := Lib.hid (And.intro (comp_F hF) (And.intro (comp_idle (tok_of hF)) (compL_len (d := d) (tok_of hF).s)))
  have H1 := Lib.hid (And.intro hB2 (And.intro hT1 (And.intro A1 A2)))
  have HF := Lib.hid hF
  have hs2 : w1.heap.size < (w1.alloc (.cells #[.slice a1 l.length cap1, .slice a2 d.length cap2] 89)).heap.size := by simp
  clear hA1 hA2 hg01 hs1 hg1 lo1 lo2 hF hS hB1 hb2 hB2 A1 A2
  have t0 := hT1.cell 0 _ rfl
  have t1 := hT1.cell 1 _ rfl
  clear hT1
  go_wp2_with fail
  generalize w1.alloc (.cells #[.slice a1 l.length cap1, .slice a2 d.length cap2] 89) = w2 at *
  generalize w1.heap.size = tb at *
  refine (compact_any _ _ l d _ (by exact H1.out.2.2.1) (by exact H1.out.2.2.2) HF.out).mono ?_
  rintro e w3 ⟨c1, c2, rfl, B1, B2, hb3⟩
  have hz3 := hb3.size
  have hB3 := below_at H1.out.1 hb3 (by omega)
  have hT3 := H1.out.2.1.below hb3 (by omega)
  have A1 := H1.out.2.2.1.below hb3
  have A2 := H1.out.2.2.2.below hb3
  obtain ⟨ac1, cp1, rfl, -, hcm1, -⟩ := id B1
  obtain ⟨ac2, cp2, rfl, -, -, -⟩ := id B2
  generalize hcl : compL l d = l' at *
  have hU := Blk.new w3 #[.slice ac1 l'.length cp1, .slice ac2 d.length cp2] 89
  have hb4 := below_alloc (Below.refl w3.heap.size w3) (.cells #[.slice ac1 l'.length cp1, .slice ac2 d.length cp2] 89) (Nat.le_refl _)
  have H3 := Lib.hid (And.intro (below_at hB3 hb4 (by omega)) (And.intro (hT3.below hb4 hT3.lt) (And.intro (A1.below hb4) (And.intro (A2.below hb4) (And.intro (B1.below hb4) (And.intro (B2.below hb4) hU))))))
  have hs4 : w3.heap.size < (w3.alloc (.cells #[.slice ac1 l'.length cp1, .slice ac2 d.length cp2] 89)).heap.size := by simp
  clear hb3 hB3 hT3 A1 A2 B1 B2 hU hb4 t0 t1
  have t0 := H3.out.2.1.cell 0 _ rfl
  have t1 := H3.out.2.1.cell 1 _ rfl
  have u0 := H3.out.2.2.2.2.2.2.cell 0 _ rfl
  have u1 := H3.out.2.2.2.2.2.2.cell 1 _ rfl
  go_wp2_with fail
  generalize hW4 : w3.alloc (.cells #[.slice ac1 l'.length cp1, .slice ac2 d.length cp2] 89) = w4 at *
  generalize w3.heap.size = cb at *
  refine (checkTree_any _ _ l' d _ (by exact H3.out.2.2.2.2.1) (by exact H3.out.2.2.2.2.2.1)).mono ?_
  rw [HP.out.1]
  rintro e w5 ⟨rfl, hb5⟩
  have hz5 := hb5.size
  have h3 := H3.out
  have H5 := Lib.hid (And.intro (below_at h3.1 hb5 (by have := h3.1.size; omega)) (And.intro (h3.2.1.below hb5 h3.2.1.lt) (And.intro (h3.2.2.1.below hb5) (And.intro (h3.2.2.2.1.below hb5) (And.intro (h3.2.2.2.2.1.below hb5) (And.intro (h3.2.2.2.2.2.1.below hb5) (h3.2.2.2.2.2.2.below hb5 h3.2.2.2.2.2.2.lt)))))))
  clear h3 H3 hb5 t0 t1 u0 u1
  have t0 := H5.out.2.1.cell 0 _ rfl
  have t1 := H5.out.2.1.cell 1 _ rfl
  have u0 := H5.out.2.2.2.2.2.2.cell 0 _ rfl
  have u1 := H5.out.2.2.2.2.2.2.cell 1 _ rfl
  go_wp2_with fail
  refine (same_drp _ _ d _ (by exact H5.out.2.2.2.2.2.1) (by exact H5.out.2.2.2.1)).mono ?_
  rintro e w6 ⟨rfl, hb6⟩
  have hz6 := hb6.size
  have h3 := H5.out
  have H6 := Lib.hid (And.intro (below_at h3.1 hb6 (by have := h3.1.size; omega)) (And.intro (h3.2.1.below hb6 h3.2.1.lt) (And.intro (h3.2.2.1.below hb6) (And.intro (h3.2.2.2.1.below hb6) (And.intro (h3.2.2.2.2.1.below hb6) (And.intro (h3.2.2.2.2.2.1.below hb6) (h3.2.2.2.2.2.2.below hb6 h3.2.2.2.2.2.2.lt)))))))
  clear h3 H5 hb6 t0 t1 u0 u1
  have t0 := H6.out.2.1.cell 0 _ rfl
  have t1 := H6.out.2.1.cell 1 _ rfl
  have u0 := H6.out.2.2.2.2.2.2.cell 0 _ rfl
  have u1 := H6.out.2.2.2.2.2.2.cell 1 _ rfl
  have hln := HP.out.2.2
  have hsum : (((l'.length : Int) + ((idleL l d).length : Int)) != (l.length : Int)) = false := by simp; omega
  go_wp2_with fail
  refine (Idle_any _ _ l' d _ (by exact H6.out.2.2.2.2.1) (by exact H6.out.2.2.2.2.2.1) HP.out.1).mono ?_
  rintro e w7 ⟨vi, rfl, oi, hb7⟩
  have hz7 := hb7.size
  have hB7 := Lib.hid (below_at H6.out.1 hb7 (by have := H6.out.1.size; omega))
  unfold IdlePost at oi
  rw [HP.out.2.1] at oi
  obtain ⟨ai, ci, rfl⟩ := own_sliceB oi
  simp only [List.length_nil] at *
  have hzz := hB7.out.size
  clear oi hb7
  go_wp2_with fail
  have hB := hB7.out
  (refine (ready_any _).mono ?_; rintro e wy ⟨rfl, hby⟩; have hBy := below_at hB hby (by omega); clear hby; go_wp2; go_ret; exact ⟨rfl, hBy⟩)
end Go.Proofs.Ytagpcgnlbgndmaa
