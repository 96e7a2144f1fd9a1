/- The walk of TreesStay: the law's function returns true for every list of integers, and writes nothing that was there. (Written by ordg.py from XLawTre.gen.) -/
import Derived.Test.YtcecpodbmjghhaaGreatStreamYZ
import Derived.Test.YtcecpodbmjghhaaGreatMerge
import Derived.Test.YtcecpodbmjghhaaGreatComAll
import Derived.Test.YtcecpodbmjghhaaGreatConAll
import Derived.Test.YtcecpodbmjghhaaGreatAskAll
import Derived.Test.YtcecpodbmjghhaaGreatMemAll
import Derived.Test.YtcecpodbmjghhaaGreatReady
import Derived.Test.YtcecpodbmjghhaaGreatLawHead
set_option linter.unusedVariables false
set_option linter.unusedSimpArgs false
namespace Go.Proofs.YtcecpodbmjghhaaGreat
open Go Go.RowKit

set_option maxHeartbeats 4000000 in
set_option maxRecDepth 100000 in
theorem spoilNames_any (v : Value) (n base top : Nat) (w : World) (h : SpoV 1 base top n w v) (hb : base ≤ w.heap.size) (hn : n ≤ 100000) : Calls Tryz.prog 30 #[v] w fun e w' => e = .returned (.tuple #[]) ∧ Below base w w' := by
  obtain ⟨a, cap, rfl⟩ := h.slice
  have HV := Lib.hid h
  clear h
  go_enter Tryz.func30, Tryz.ntmps30
  go_wp2
  go_loopw [5] (fun i wr => ∃ k : Nat, k ≤ n ∧ i = .int .i64 k ∧ SpoV 1 base top n wr (.slice a n cap) ∧ Below base w wr) (fun i _ => n - (intOf i).toNat)
  case atStart => exact ⟨0, by omega, rfl, HV.out, ⟨rfl, rfl, rfl, Nat.le_refl _, fun _ _ => rfl⟩⟩
  case round =>
    obtain ⟨k, hk, rfl, hs, hB⟩ := hrel
    have HB := Lib.hid (And.intro hs hB)
    by_cases hlt : k < n
    · obtain ⟨g, cap', hv, hg1, hg2, hcm, hnc, hc, hf⟩ := hs.at k 0 hlt (by omega)
      simp only [Value.slice.injEq, true_and] at hv
      obtain ⟨rfl, rfl⟩ := hv
      unfold maxLen at hcm
      simp only [Nat.mul_one, Nat.add_zero] at hc hf
      obtain ⟨x, hx⟩ := Option.isSome_iff_exists.1 hc
      clear hs hB hc
      go_wp2
      exact ⟨⟨k + 1, by omega, by go_num, HB.out.1.set _ _, Below.setCell HB.out.2 hg1 _⟩, by simp [intOf]; omega⟩
    · obtain rfl : k = n := by omega
      clear hs hB
      go_wp2
      ((try simp only [Exit.inBlock, Exit.then]); refine bodyPost_end (results_none rfl _ _ _) rfl ?_)
      exact ⟨rfl, HB.out.2⟩
/-- the law's two trees -/
structure TwoSt (w W : World) (tb sb : Nat) (v1 v2 s1 s2 : Value) (l : List Splt) (d : List Drp) : Prop where
  be : Below w.heap.size w W
  t : Blk W tb #[v1, v2] 29
  s : Blk W sb #[s1, s2] 29
  a1 : Arr Splt.cells 4 W l v1
  a2 : Arr Drp.cells 3 W d v2
  c1 : Arr Splt.cells 4 W l s1
  c2 : Arr Drp.cells 3 W d s2
theorem TwoSt.below {w W W' : World} {tb sb : Nat} {v1 v2 s1 s2 : Value} {l : List Splt} {d : List Drp} (h : TwoSt w W tb sb v1 v2 s1 s2 l d) (hb : Below W.heap.size W W') : TwoSt w W' tb sb v1 v2 s1 s2 l d :=
  ⟨below_at h.be hb h.be.size, h.t.below hb h.t.lt, h.s.below hb h.s.lt, h.a1.below hb, h.a2.below hb, h.c1.below hb, h.c2.below hb⟩
/-- a tree that was answered: its box and its two rows, which may be written over -/
structure AnsT (N : Nat) (W : World) (b : Nat) (x1 x2 : Value) (n1 n2 : Nat) : Prop where
  b : Blk W b #[x1, x2] 29
  r1 : SpoV 4 N W.heap.size n1 W x1
  r2 : SpoV 3 N W.heap.size n2 W x2
theorem AnsT.below {N : Nat} {W W' : World} {b : Nat} {x1 x2 : Value} {n1 n2 : Nat} (h : AnsT N W b x1 x2 n1 n2) (hb : Below W.heap.size W W') : AnsT N W' b x1 x2 n1 n2 :=
  ⟨h.b.below hb h.b.lt, (h.r1.below hb (Nat.le_refl _)).low (Nat.le_refl _) hb.size, (h.r2.below hb (Nat.le_refl _)).low (Nat.le_refl _) hb.size⟩
/-- the rows that are written over: x and y of three trees, v of strings -/
structure SpoSt (N T : Nat) (W0 W : World) (mb : Nat) (x1 x2 y1 y2 z1 z2 v : Value) (n1 n2 m1 m2 k1 k2 n : Nat) : Prop where
  be : Below N W0 W
  m : Blk W mb #[x1, x2, y1, y2, z1, z2] 29
  h1 : SpoV 4 N T n1 W x1
  h2 : SpoV 3 N T n2 W x2
  h3 : SpoV 4 N T m1 W y1
  h4 : SpoV 3 N T m2 W y2
  h5 : SpoV 4 N T k1 W z1
  h6 : SpoV 3 N T k2 W z2
  h7 : SpoV 1 N T n W v
  hT : T ≤ mb
  hN : N ≤ T
section
variable {N T : Nat} {W0 W W' : World} {mb : Nat} {x1 x2 y1 y2 z1 z2 v : Value} {n1 n2 m1 m2 k1 k2 n : Nat}
theorem SpoSt.below (h : SpoSt N T W0 W mb x1 x2 y1 y2 z1 z2 v n1 n2 m1 m2 k1 k2 n) (hb : Below W.heap.size W W') : SpoSt N T W0 W' mb x1 x2 y1 y2 z1 z2 v n1 n2 m1 m2 k1 k2 n := by
  have hl := h.m.lt
  have hT := h.hT
  have hN := h.hN
  exact ⟨below_at h.be hb (by omega), h.m.below hb hl, h.h1.below hb (by omega), h.h2.below hb (by omega), h.h3.below hb (by omega), h.h4.below hb (by omega), h.h5.below hb (by omega), h.h6.below hb (by omega), h.h7.below hb (by omega), hT, hN⟩
theorem SpoSt.set (h : SpoSt N T W0 W mb x1 x2 y1 y2 z1 z2 v n1 n2 m1 m2 k1 k2 n) {g : Nat} (hg : N ≤ g) (hg2 : g < T) (o : Nat) (u : Value) : SpoSt N T W0 (W.setCell ⟨g, o, none⟩ u) mb x1 x2 y1 y2 z1 z2 v n1 n2 m1 m2 k1 k2 n := by
  have hT := h.hT
  exact ⟨Below.setCell h.be hg _, h.m.setOther (by omega) _ _, h.h1.set _ _, h.h2.set _ _, h.h3.set _ _, h.h4.set _ _, h.h5.set _ _, h.h6.set _ _, h.h7.set _ _, hT, h.hN⟩
/-- the k-th tree -/
theorem SpoSt.at (h : SpoSt N T W0 W mb x1 x2 y1 y2 z1 z2 v n1 n2 m1 m2 k1 k2 n) (hb : n1 ≤ 100 ∧ n2 ≤ 100 ∧ m1 ≤ 100 ∧ m2 ≤ 100 ∧ k1 ≤ 100 ∧ k2 ≤ 100) (k : Nat) (hk : k < 3) : ∃ a1 p1 c1 a2 p2 c2, W.cell? ⟨mb, k * 2, none⟩ = some (.slice a1 p1 c1) ∧ W.cell? ⟨mb, k * 2 + 1, none⟩ = some (.slice a2 p2 c2) ∧ p1 ≤ 100 ∧ p2 ≤ 100 ∧ SpoV 4 N T p1 W (.slice a1 p1 c1) ∧ SpoV 3 N T p2 W (.slice a2 p2 c2) := by
  rcases (show k = 0 ∨ k = 1 ∨ k = 2 by omega) with rfl | rfl | rfl
  · obtain ⟨a1, c1, e1⟩ := h.h1.slice
    obtain ⟨a2, c2, e2⟩ := h.h2.slice
    exact ⟨a1, n1, c1, a2, n2, c2, by rw [h.m.cell 0 x1 rfl, e1], by rw [h.m.cell 1 x2 rfl, e2], hb.1, hb.2.1, e1 ▸ h.h1, e2 ▸ h.h2⟩
  · obtain ⟨a1, c1, e1⟩ := h.h3.slice
    obtain ⟨a2, c2, e2⟩ := h.h4.slice
    exact ⟨a1, m1, c1, a2, m2, c2, by rw [h.m.cell 2 y1 rfl, e1], by rw [h.m.cell 3 y2 rfl, e2], hb.2.2.1, hb.2.2.2.1, e1 ▸ h.h3, e2 ▸ h.h4⟩
  · obtain ⟨a1, c1, e1⟩ := h.h5.slice
    obtain ⟨a2, c2, e2⟩ := h.h6.slice
    exact ⟨a1, k1, c1, a2, k2, c2, by rw [h.m.cell 4 z1 rfl, e1], by rw [h.m.cell 5 z2 rfl, e2], hb.2.2.2.2.1, hb.2.2.2.2.2, e1 ▸ h.h5, e2 ▸ h.h6⟩
end
theorem con_len (l : List Splt) (d : List Drp) (c : ByteArray) : (conS l d c).length ≤ l.length ∧ (conD l d c).length ≤ d.length + 1 := by
  refine ⟨?_, ?_⟩
  · unfold conS; split <;> simp
  · unfold conD; split
    · have := posD_le d c; simp; omega
    · simp
set_option maxHeartbeats 4000000 in
set_option maxRecDepth 100000 in
theorem law_tre (a0 : Option Addr) (len0 cap0 : Nat) (z0 : List Int) (w : World) (w0 : IsRow .i64 w a0 len0 cap0 z0) :
    Calls Tryz.prog 4 #[.slice a0 len0 cap0] w fun e w' => e = .returned (.bool true) ∧ Below w.heap.size w w' := by
  have hS := strm_start w0
  clear w0
  go_enter Tryz.func4, Tryz.ntmps4
  go_wp2_with fail
  refine (rightTreeK_any w.heap.size 0 _ hS (by omega)).mono ?_
  rintro e w1 ⟨v, rfl, ⟨v1, v2, l, d, rfl, hl4, hd6, hF, hA1, hA2, lo1, lo2, hcu⟩, hs1, hg1⟩
  have hB1 := below_row (grown_trans (World.grownBy_alloc w _ (some w.heap.size)) hg1)
  obtain ⟨a1, cap1, rfl, -, -, -⟩ := id hA1
  obtain ⟨a2, cap2, rfl, -, -, -⟩ := id hA2
  have HFF := Lib.hid (And.intro hF hcu)
  have HM : Hid (AskSt w (w1.alloc (.cells #[.slice a1 l.length cap1, .slice a2 d.length cap2] 29)) w1.heap.size (.slice a1 l.length cap1) (.slice a2 d.length cap2) l d) := ⟨below_alloc hB1 _ hB1.size, Blk.new _ _ _, hA1.below (below_alloc (Below.refl _ _) _ (Nat.le_refl _)), hA2.below (below_alloc (Below.refl _ _) _ (Nat.le_refl _))⟩
  clear hF hcu hA1 hA2 lo1 lo2 hs1 hg1 hB1 hS
  go_upto_region 3 with fail
  generalize w1.alloc (.cells #[.slice a1 l.length cap1, .slice a2 d.length cap2] 29) = w2 at *
  generalize w1.heap.size = tb at *
  go_cut [5] from 25 to 31 (fun t wc => ∃ sb s1 k1 s2 k2, t = .pointer (some ⟨sb, 0, none⟩) ∧ Blk wc sb #[.slice s1 l.length k1, .slice s2 d.length k2] 29 ∧ Arr Splt.cells 4 wc l (.slice s1 l.length k1) ∧ Arr Drp.cells 3 wc d (.slice s2 d.length k2) ∧ AskSt w wc tb (.slice a1 l.length cap1) (.slice a2 d.length cap2) l d)
  case first =>
    go_wp2_with fail
    refine WalkT.start (fun w' => w'.cell? ⟨tb, 0, none⟩ = some (.slice a1 l.length cap1) ∧ w'.cell? ⟨tb, 1, none⟩ = some (.slice a2 d.length cap2)) [8] (by kernel_rfl) ?_
    have HM0 : Hid (AskSt w w2.drew tb (.slice a1 l.length cap1) (.slice a2 d.length cap2) l d) := HM.out.below (Below.drew (Below.refl _ _))
    clear HM
    generalize w2.drew = W0 at *
    have BB : Below W0.heap.size W0 W0 := Below.refl _ _
    have hS2 := And.intro (HM0.out.t.cell 0 _ rfl) (HM0.out.t.cell 1 _ rfl)
    have hS2' := HM0.out.t.lt
    have HT := fun W (h : Below W0.heap.size W0 W) => And.intro ((HM0.out.t.below h hS2').cell 0 _ rfl) ((HM0.out.t.below h hS2').cell 1 _ rfl)
    (refine WalkT.quiet (i := 0) (v := ?_) rfl (by kernel_rfl) (by kernel_rfl) (by kernel_rfl) (fun _ _ _ h => h) (Or.inl ⟨by rfl, ?_⟩) ?_; rotate_left; (· (intro wS hSw; (try dsimp only at hSw); go_simp; try with_reducible rfl)); try simp only [Act.put, List.setIfInBounds_toArray, List.set_cons_zero, List.set_cons_succ, List.getElem_toArray, List.getElem_cons_succ, List.getElem_cons_zero])
    (refine WalkT.take (i := 1) (v := ?_) rfl (by kernel_rfl) (by kernel_rfl) (by kernel_rfl) (by kernel_rfl) (fun _ _ _ h => h) (hS2) (Or.inl ⟨by rfl, ?_⟩) ?_; rotate_left; (· (intro wS hSw; (try dsimp only at hSw); obtain ⟨t0, t1⟩ := hSw; go_simp; try with_reducible rfl)); try simp only [Act.put, List.setIfInBounds_toArray, List.set_cons_zero, List.set_cons_succ, List.getElem_toArray, List.getElem_cons_succ, List.getElem_cons_zero])
    (refine WalkT.quiet (i := 3) (v := ?_) rfl (by kernel_rfl) (by kernel_rfl) (by kernel_rfl) (fun _ _ _ h => h) (Or.inl ⟨by rfl, ?_⟩) ?_; rotate_left; (· (intro wS hSw; (try dsimp only at hSw); go_simp; try with_reducible rfl)); try simp only [Act.put, List.setIfInBounds_toArray, List.set_cons_zero, List.set_cons_succ, List.getElem_toArray, List.getElem_cons_succ, List.getElem_cons_zero])
    (refine WalkT.take (i := 4) (v := ?_) rfl (by kernel_rfl) (by kernel_rfl) (by kernel_rfl) (by kernel_rfl) (fun _ _ _ h => h) (hS2) (Or.inl ⟨by rfl, ?_⟩) ?_; rotate_left; (· (intro wS hSw; (try dsimp only at hSw); obtain ⟨t0, t1⟩ := hSw; go_simp; try with_reducible rfl)); try simp only [Act.put, List.setIfInBounds_toArray, List.set_cons_zero, List.set_cons_succ, List.getElem_toArray, List.getElem_cons_succ, List.getElem_cons_zero])
    clear hS2 hS2'
    have HH := Lib.hid HT
    clear HT
    refine WalkT.ready (rs := [2, 7]) (by kernel_rfl) (by simp) ?_
    refine AllT.cons rfl (fun K hK => ?_) ?_
    · go_simp
      refine (clone_splt _ l _ (HM0.out.a1.below BB) (by omega)).mono ?_
      rintro e W1 ⟨u1, rfl, hc1, hB⟩
      obtain ⟨s1, k1, hv1⟩ := own_sliceH hc1.1
      subst hv1
      replace BB := below_at BB hB BB.size
      have C1 := hc1.1
      refine hK.out _ _ (fun _ _ => HH.out _ BB) ?_
      clear hK K hB
      try simp only [Act.put, List.setIfInBounds_toArray, List.set_cons_zero, List.set_cons_succ, List.getElem_toArray, List.getElem_cons_succ, List.getElem_cons_zero]
      refine WalkT.ready (rs := [5, 7]) (by kernel_rfl) (by simp) ?_
      refine AllT.cons rfl (fun K hK => ?_) ?_
      · go_simp
        refine (clone_drp _ d _ (HM0.out.a2.below BB) (by omega)).mono ?_
        rintro e W2 ⟨u2, rfl, hc2, hB⟩
        obtain ⟨s2, k2, hv2⟩ := own_sliceH hc2.1
        subst hv2
        replace BB := below_at BB hB BB.size
        replace C1 := own_below C1 hB
        have C2 := hc2.1
        refine hK.out _ _ (fun _ _ => HH.out _ BB) ?_
        clear hK K hB
        try simp only [Act.put, List.setIfInBounds_toArray, List.set_cons_zero, List.set_cons_succ, List.getElem_toArray, List.getElem_cons_succ, List.getElem_cons_zero]
        (refine WalkT.quiet (i := 6) (v := ?_) rfl (by kernel_rfl) (by kernel_rfl) (by kernel_rfl) (fun _ _ _ h => h) (Or.inl ⟨by rfl, ?_⟩) ?_; rotate_left; (· (intro wS hSw; (try dsimp only at hSw); go_simp; try with_reducible rfl)); try simp only [Act.put, List.setIfInBounds_toArray, List.set_cons_zero, List.set_cons_succ, List.getElem_toArray, List.getElem_cons_succ, List.getElem_cons_zero])
        refine WalkT.ready (rs := [7]) (by kernel_rfl) (by simp) ?_
        refine AllT.cons rfl (fun K hK => ?_) ?_
        · go_simp
          have hb7 := BB.size
          have hB : Below W2.heap.size W2 (W2.alloc (.cells #[.slice none 0 0, .slice none 0 0] 29)) := below_alloc (Below.refl _ _) _ (Nat.le_refl _)
          replace BB := below_at BB hB BB.size
          replace C1 := own_below C1 hB
          replace C2 := own_below C2 hB
          have K7 := Blk.new W2 #[.slice none 0 0, .slice none 0 0] 29
          refine hK.out _ _ (fun _ _ => HH.out _ BB) ?_
          clear hK K hB
          generalize W2.alloc (.cells #[.slice none 0 0, .slice none 0 0] 29) = W3 at *
          try simp only [Act.put, List.setIfInBounds_toArray, List.set_cons_zero, List.set_cons_succ, List.getElem_toArray, List.getElem_cons_succ, List.getElem_cons_zero]
          (have hn1 := own_ne C1 K7 (by decide); have hn2 := own_ne C2 K7 (by decide); have k0 := K7.cell 0 _ rfl; have k1' := K7.cell 1 _ rfl; have kf := fun o => K7.free o; have HN := Lib.hid (And.intro C1 (And.intro C2 (And.intro K7 BB))); clear C1 C2 K7 BB; (refine WalkT.ready (rs := [8]) (by kernel_rfl) (by simp) (AllT.cons rfl (fun K hK => ?_) AllT.nil); go_simp); (refine hK.out _ _ (fun h => absurd h (by decide)) ?_; clear hK K; try simp only [Act.put, List.setIfInBounds_toArray, List.set_cons_zero, List.set_cons_succ, List.getElem_toArray, List.getElem_cons_succ, List.getElem_cons_zero]); refine WalkT.done (by kernel_rfl) ?_; have hB2 := Below.setCell (Below.setCell HN.out.2.2.2 hb7 (p := ⟨_, 0, none⟩) (.slice s1 l.length k1)) hb7 (p := ⟨_, 1, none⟩) (.slice s2 d.length k2); have HZ := Lib.hid (And.intro ((HN.out.2.2.1.set 0 (.slice s1 l.length k1)).set 1 (.slice s2 d.length k2)) (And.intro (Arr.of_own Splt.cells_len (own_setNe (own_setNe HN.out.1 hn1 0 (.slice s1 l.length k1)) hn1 1 (.slice s2 d.length k2))) (And.intro (Arr.of_own Drp.cells_len (own_setNe (own_setNe HN.out.2.1 hn2 0 (.slice s1 l.length k1)) hn2 1 (.slice s2 d.length k2))) (HM0.out.below hB2)))); clear k0 k1' kf hB2 HN hn1 hn2; go_wp2; go_meet; exact ⟨_, s1, k1, s2, k2, rfl, HZ.out⟩)
        exact AllT.nil
      refine AllT.cons rfl (fun K hK => ?_) ?_
      · go_simp
        have hb7 := BB.size
        have hB : Below W1.heap.size W1 (W1.alloc (.cells #[.slice none 0 0, .slice none 0 0] 29)) := below_alloc (Below.refl _ _) _ (Nat.le_refl _)
        replace BB := below_at BB hB BB.size
        replace C1 := own_below C1 hB
        have K7 := Blk.new W1 #[.slice none 0 0, .slice none 0 0] 29
        refine hK.out _ _ (fun _ _ => HH.out _ BB) ?_
        clear hK K hB
        generalize W1.alloc (.cells #[.slice none 0 0, .slice none 0 0] 29) = W4 at *
        try simp only [Act.put, List.setIfInBounds_toArray, List.set_cons_zero, List.set_cons_succ, List.getElem_toArray, List.getElem_cons_succ, List.getElem_cons_zero]
        refine WalkT.ready (rs := [5]) (by kernel_rfl) (by simp) ?_
        refine AllT.cons rfl (fun K hK => ?_) ?_
        · go_simp
          refine (clone_drp _ d _ (HM0.out.a2.below BB) (by omega)).mono ?_
          rintro e W5 ⟨u2, rfl, hc2, hB⟩
          obtain ⟨s2, k2, hv2⟩ := own_sliceH hc2.1
          subst hv2
          replace BB := below_at BB hB BB.size
          replace C1 := own_below C1 hB
          replace K7 := K7.below hB K7.lt
          have C2 := hc2.1
          refine hK.out _ _ (fun _ _ => HH.out _ BB) ?_
          clear hK K hB
          try simp only [Act.put, List.setIfInBounds_toArray, List.set_cons_zero, List.set_cons_succ, List.getElem_toArray, List.getElem_cons_succ, List.getElem_cons_zero]
          (refine WalkT.quiet (i := 6) (v := ?_) rfl (by kernel_rfl) (by kernel_rfl) (by kernel_rfl) (fun _ _ _ h => h) (Or.inl ⟨by rfl, ?_⟩) ?_; rotate_left; (· (intro wS hSw; (try dsimp only at hSw); go_simp; try with_reducible rfl)); try simp only [Act.put, List.setIfInBounds_toArray, List.set_cons_zero, List.set_cons_succ, List.getElem_toArray, List.getElem_cons_succ, List.getElem_cons_zero])
          (have hn1 := own_ne C1 K7 (by decide); have hn2 := own_ne C2 K7 (by decide); have k0 := K7.cell 0 _ rfl; have k1' := K7.cell 1 _ rfl; have kf := fun o => K7.free o; have HN := Lib.hid (And.intro C1 (And.intro C2 (And.intro K7 BB))); clear C1 C2 K7 BB; (refine WalkT.ready (rs := [8]) (by kernel_rfl) (by simp) (AllT.cons rfl (fun K hK => ?_) AllT.nil); go_simp); (refine hK.out _ _ (fun h => absurd h (by decide)) ?_; clear hK K; try simp only [Act.put, List.setIfInBounds_toArray, List.set_cons_zero, List.set_cons_succ, List.getElem_toArray, List.getElem_cons_succ, List.getElem_cons_zero]); refine WalkT.done (by kernel_rfl) ?_; have hB2 := Below.setCell (Below.setCell HN.out.2.2.2 hb7 (p := ⟨_, 0, none⟩) (.slice s1 l.length k1)) hb7 (p := ⟨_, 1, none⟩) (.slice s2 d.length k2); have HZ := Lib.hid (And.intro ((HN.out.2.2.1.set 0 (.slice s1 l.length k1)).set 1 (.slice s2 d.length k2)) (And.intro (Arr.of_own Splt.cells_len (own_setNe (own_setNe HN.out.1 hn1 0 (.slice s1 l.length k1)) hn1 1 (.slice s2 d.length k2))) (And.intro (Arr.of_own Drp.cells_len (own_setNe (own_setNe HN.out.2.1 hn2 0 (.slice s1 l.length k1)) hn2 1 (.slice s2 d.length k2))) (HM0.out.below hB2)))); clear k0 k1' kf hB2 HN hn1 hn2; go_wp2; go_meet; exact ⟨_, s1, k1, s2, k2, rfl, HZ.out⟩)
        exact AllT.nil
      exact AllT.nil
    refine AllT.cons rfl (fun K hK => ?_) ?_
    · go_simp
      have hb7 := BB.size
      have hB : Below W0.heap.size W0 (W0.alloc (.cells #[.slice none 0 0, .slice none 0 0] 29)) := below_alloc (Below.refl _ _) _ (Nat.le_refl _)
      replace BB := below_at BB hB BB.size
      have K7 := Blk.new W0 #[.slice none 0 0, .slice none 0 0] 29
      refine hK.out _ _ (fun _ _ => HH.out _ BB) ?_
      clear hK K hB
      generalize W0.alloc (.cells #[.slice none 0 0, .slice none 0 0] 29) = W6 at *
      try simp only [Act.put, List.setIfInBounds_toArray, List.set_cons_zero, List.set_cons_succ, List.getElem_toArray, List.getElem_cons_succ, List.getElem_cons_zero]
      refine WalkT.ready (rs := [2]) (by kernel_rfl) (by simp) ?_
      refine AllT.cons rfl (fun K hK => ?_) ?_
      · go_simp
        refine (clone_splt _ l _ (HM0.out.a1.below BB) (by omega)).mono ?_
        rintro e W7 ⟨u1, rfl, hc1, hB⟩
        obtain ⟨s1, k1, hv1⟩ := own_sliceH hc1.1
        subst hv1
        replace BB := below_at BB hB BB.size
        replace K7 := K7.below hB K7.lt
        have C1 := hc1.1
        refine hK.out _ _ (fun _ _ => HH.out _ BB) ?_
        clear hK K hB
        try simp only [Act.put, List.setIfInBounds_toArray, List.set_cons_zero, List.set_cons_succ, List.getElem_toArray, List.getElem_cons_succ, List.getElem_cons_zero]
        refine WalkT.ready (rs := [5]) (by kernel_rfl) (by simp) ?_
        refine AllT.cons rfl (fun K hK => ?_) ?_
        · go_simp
          refine (clone_drp _ d _ (HM0.out.a2.below BB) (by omega)).mono ?_
          rintro e W8 ⟨u2, rfl, hc2, hB⟩
          obtain ⟨s2, k2, hv2⟩ := own_sliceH hc2.1
          subst hv2
          replace BB := below_at BB hB BB.size
          replace K7 := K7.below hB K7.lt
          replace C1 := own_below C1 hB
          have C2 := hc2.1
          refine hK.out _ _ (fun _ _ => HH.out _ BB) ?_
          clear hK K hB
          try simp only [Act.put, List.setIfInBounds_toArray, List.set_cons_zero, List.set_cons_succ, List.getElem_toArray, List.getElem_cons_succ, List.getElem_cons_zero]
          (refine WalkT.quiet (i := 6) (v := ?_) rfl (by kernel_rfl) (by kernel_rfl) (by kernel_rfl) (fun _ _ _ h => h) (Or.inl ⟨by rfl, ?_⟩) ?_; rotate_left; (· (intro wS hSw; (try dsimp only at hSw); go_simp; try with_reducible rfl)); try simp only [Act.put, List.setIfInBounds_toArray, List.set_cons_zero, List.set_cons_succ, List.getElem_toArray, List.getElem_cons_succ, List.getElem_cons_zero])
          (have hn1 := own_ne C1 K7 (by decide); have hn2 := own_ne C2 K7 (by decide); have k0 := K7.cell 0 _ rfl; have k1' := K7.cell 1 _ rfl; have kf := fun o => K7.free o; have HN := Lib.hid (And.intro C1 (And.intro C2 (And.intro K7 BB))); clear C1 C2 K7 BB; (refine WalkT.ready (rs := [8]) (by kernel_rfl) (by simp) (AllT.cons rfl (fun K hK => ?_) AllT.nil); go_simp); (refine hK.out _ _ (fun h => absurd h (by decide)) ?_; clear hK K; try simp only [Act.put, List.setIfInBounds_toArray, List.set_cons_zero, List.set_cons_succ, List.getElem_toArray, List.getElem_cons_succ, List.getElem_cons_zero]); refine WalkT.done (by kernel_rfl) ?_; have hB2 := Below.setCell (Below.setCell HN.out.2.2.2 hb7 (p := ⟨_, 0, none⟩) (.slice s1 l.length k1)) hb7 (p := ⟨_, 1, none⟩) (.slice s2 d.length k2); have HZ := Lib.hid (And.intro ((HN.out.2.2.1.set 0 (.slice s1 l.length k1)).set 1 (.slice s2 d.length k2)) (And.intro (Arr.of_own Splt.cells_len (own_setNe (own_setNe HN.out.1 hn1 0 (.slice s1 l.length k1)) hn1 1 (.slice s2 d.length k2))) (And.intro (Arr.of_own Drp.cells_len (own_setNe (own_setNe HN.out.2.1 hn2 0 (.slice s1 l.length k1)) hn2 1 (.slice s2 d.length k2))) (HM0.out.below hB2)))); clear k0 k1' kf hB2 HN hn1 hn2; go_wp2; go_meet; exact ⟨_, s1, k1, s2, k2, rfl, HZ.out⟩)
        exact AllT.nil
      exact AllT.nil
    exact AllT.nil
  case rest =>
  obtain ⟨sb, s1, k1, s2, k2, rfl, hs, hc1, hc2, hM⟩ := hcut
  have HM3 : Hid (TwoSt w wc tb sb (.slice a1 l.length cap1) (.slice a2 d.length cap2) (.slice s1 l.length k1) (.slice s2 d.length k2) l d) := ⟨hM.b, hM.t, hs, hM.a1, hM.a2, hc1, hc2⟩
  clear hs hc1 hc2 hM HM
  have t0 := HM3.out.t.cell 0 _ rfl
  have t1 := HM3.out.t.cell 1 _ rfl
  have hCF : conF l d ⟨#[107, 57]⟩ = 0 ∨ conF l d ⟨#[107, 57]⟩ = 12 := by
    rcases con_cases (c := ⟨#[107, 57]⟩) HFF.out.1 (by decide +kernel) (show d.length < 5000 by omega) with h | ⟨h, h2⟩ | h
    · exact .inl h
    · rcases findD_get d ⟨#[107, 57]⟩ with ⟨h3, _⟩ | ⟨k, hk, _, _, h4⟩
      · omega
      · exact absurd h4 (HFF.out.2 _ (List.getElem_mem hk))
    · exact .inr h
  have HCF := Lib.hid hCF
  have HCL := Lib.hid (con_len l d ⟨#[107, 57]⟩)
  clear hCF
  go_wp2_with fail
  refine (connect_any _ _ l d ⟨#[107, 57]⟩ _ (by exact HM3.out.a1) (by exact HM3.out.a2)).mono ?_
  rintro e w4 ⟨x1, x2, rfl, ho1, ho2, hb4⟩
  have r1 := SpoV.of_row Splt.cells_len (by decide) (RowV.of_own Splt.cells_len ho1)
  have r2 := SpoV.of_row Drp.cells_len (by decide) (RowV.of_own Drp.cells_len ho2)
  obtain ⟨xa1, xc1, rfl⟩ := own_sliceH ho1
  obtain ⟨xa2, xc2, rfl⟩ := own_sliceH ho2
  clear ho1 ho2 t0 t1
  generalize (conS l d ⟨#[107, 57]⟩).length = n1 at *
  generalize (conD l d ⟨#[107, 57]⟩).length = n2 at *
  generalize conB l d ⟨#[107, 57]⟩ = B at *
  obtain ⟨F, hF⟩ : ∃ F, F = conF l d ⟨#[107, 57]⟩ := ⟨_, rfl⟩
  rw [← hF] at HCF
  rw [← hF]
  clear hF
  have hl1 := HCL.out
  obtain ⟨hn1, hn2⟩ := hl1
  have hz4 := hb4.size
  have HM4 := Lib.hid (HM3.out.below hb4)
  have t0 := HM4.out.t.cell 0 _ rfl
  have t1 := HM4.out.t.cell 1 _ rfl
  have htb4 := HM4.out.t.lt
  go_wp2_with fail
  have hBa : Below w4.heap.size w4 ((w4.alloc (.cells #[.slice xa1 n1 xc1, .slice xa2 n2 xc2] 29)).alloc (.cells #[.string B.cust, .string B.spl, .int .i64 B.port] 36)) := by (repeat (first | exact Below.refl _ _ | assumption | refine below_draws ?_ _ | refine Below.drew ?_ | refine below_alloc ?_ _ (by first | omega | (simp; done) | (simp; omega)) | refine Below.setCell ?_ (by first | omega | (simp; done) | (simp; omega)) _ | refine below_at ?_ (by assumption) (by first | omega | (simp; done) | (simp; omega))))
  have HA5 : Hid (AnsT wc.heap.size ((w4.alloc (.cells #[.slice xa1 n1 xc1, .slice xa2 n2 xc2] 29)).alloc (.cells #[.string B.cust, .string B.spl, .int .i64 B.port] 36)) w4.heap.size (.slice xa1 n1 xc1) (.slice xa2 n2 xc2) n1 n2) := ⟨(Blk.new w4 _ _).alloc _, (r1.below hBa (Nat.le_refl _)).low (Nat.le_refl _) hBa.size, (r2.below hBa (Nat.le_refl _)).low (Nat.le_refl _) hBa.size⟩
  have HB5 := Lib.hid (below_at hb4 hBa hz4)
  have HM5 := Lib.hid (HM4.out.below hBa)
  clear r1 r2 hBa hb4 HM4 t0 t1 htb4 hz4 HCL
  generalize (w4.alloc (.cells #[.slice xa1 n1 xc1, .slice xa2 n2 xc2] 29)).alloc (.cells #[.string B.cust, .string B.spl, .int .i64 B.port] 36) = w5 at *
  generalize w4.heap.size = ab at *
  refine (compactV_any _ _ l d _ (by exact HM5.out.a1) (by exact HM5.out.a2) HFF.out.1).mono ?_
  rintro e w6 ⟨y1, y2, rfl, ry1, ry2, hb6⟩
  have hz5 := HB5.out.size
  have hz6 := hb6.size
  have r1 := (SpoV.of_row Splt.cells_len (by decide) ry1).low hz5 (Nat.le_refl _)
  have r2 := (SpoV.of_row Drp.cells_len (by decide) ry2).low hz5 (Nat.le_refl _)
  obtain ⟨ya1, yc1, rfl⟩ := ry1.slice
  obtain ⟨ya2, yc2, rfl⟩ := ry2.slice
  have hm1 : (compL l d).length ≤ 4 := Nat.le_trans (List.length_filter_le _ _) hl4
  clear ry1 ry2
  generalize (compL l d).length = m1 at *
  have HM6 := Lib.hid (HM5.out.below hb6)
  have t0 := HM6.out.t.cell 0 _ rfl
  have t1 := HM6.out.t.cell 1 _ rfl
  have htb6 := HM6.out.t.lt
  have HA6 := Lib.hid (HA5.out.below hb6)
  have HB6 := Lib.hid (below_at HB5.out hb6 hz5)
  clear hb6 HM5 HA5 HB5
  go_wp2_with fail
  have hBa : Below w6.heap.size w6 (w6.alloc (.cells #[.slice ya1 m1 yc1, .slice ya2 d.length yc2] 29)) := below_alloc (Below.refl _ _) _ (Nat.le_refl _)
  have HC7 : Hid (AnsT wc.heap.size (w6.alloc (.cells #[.slice ya1 m1 yc1, .slice ya2 d.length yc2] 29)) w6.heap.size (.slice ya1 m1 yc1) (.slice ya2 d.length yc2) m1 d.length) := ⟨Blk.new w6 _ _, (r1.below hBa (Nat.le_refl _)).low (Nat.le_refl _) hBa.size, (r2.below hBa (Nat.le_refl _)).low (Nat.le_refl _) hBa.size⟩
  have HA7 := Lib.hid (HA6.out.below hBa)
  have HB7 := Lib.hid (below_at HB6.out hBa HB6.out.size)
  have HM7 := Lib.hid (HM6.out.below hBa)
  clear r1 r2 hBa HM6 HA6 HB6 t0 t1 htb6 hz5 hz6
  generalize w6.alloc (.cells #[.slice ya1 m1 yc1, .slice ya2 d.length yc2] 29) = w7 at *
  generalize w6.heap.size = cb at *
  refine (merge_any _ _ _ _ l d l d _ (by exact HM7.out.a1) (by exact HM7.out.a2) (by exact HM7.out.a1) (by exact HM7.out.a2) (by omega) (by omega)).mono ?_
  rintro e w8 ⟨z1, z2, n, S, D, rfl, his, hb8, -, hzz⟩
  obtain ⟨e1, e2, e3⟩ := merge_self_is HFF.out.1 his
  rw [e2, e3] at hzz
  obtain ⟨rz1, rz2, -⟩ := hzz e1
  rw [e1]
  have hz7 := HB7.out.size
  have hz8 := hb8.size
  have r1 := (SpoV.of_row Splt.cells_len (by decide) rz1).low hz7 (Nat.le_refl _)
  have r2 := (SpoV.of_row Drp.cells_len (by decide) rz2).low hz7 (Nat.le_refl _)
  obtain ⟨za1, zc1, rfl⟩ := rz1.slice
  obtain ⟨za2, zc2, rfl⟩ := rz2.slice
  clear rz1 rz2 his hzz e1 e2 e3
  have HM8 := Lib.hid (HM7.out.below hb8)
  have t0 := HM8.out.t.cell 0 _ rfl
  have t1 := HM8.out.t.cell 1 _ rfl
  have htb8 := HM8.out.t.lt
  have HA8 := Lib.hid (HA7.out.below hb8)
  have HC8 := Lib.hid (HC7.out.below hb8)
  have HB8 := Lib.hid (below_at HB7.out hb8 hz7)
  clear hb8 HM7 HA7 HB7 HC7
  go_wp2_with fail
  have hBa : Below w8.heap.size w8 (w8.alloc (.cells #[.slice za1 l.length zc1, .slice za2 d.length zc2] 29)) := below_alloc (Below.refl _ _) _ (Nat.le_refl _)
  have HD9 : Hid (AnsT wc.heap.size (w8.alloc (.cells #[.slice za1 l.length zc1, .slice za2 d.length zc2] 29)) w8.heap.size (.slice za1 l.length zc1) (.slice za2 d.length zc2) l.length d.length) := ⟨Blk.new w8 _ _, (r1.below hBa (Nat.le_refl _)).low (Nat.le_refl _) hBa.size, (r2.below hBa (Nat.le_refl _)).low (Nat.le_refl _) hBa.size⟩
  have HA9 := Lib.hid (HA8.out.below hBa)
  have HC9 := Lib.hid (HC8.out.below hBa)
  have HB9 := Lib.hid (below_at HB8.out hBa HB8.out.size)
  have HM9 := Lib.hid (HM8.out.below hBa)
  clear r1 r2 hBa HM8 HA8 HC8 HB8 t0 t1 htb8 hz7 hz8
  generalize w8.alloc (.cells #[.slice za1 l.length zc1, .slice za2 d.length zc2] 29) = w9 at *
  generalize w8.heap.size = db at *
  refine (Idle_any _ _ l d _ (by exact HM9.out.a1) (by exact HM9.out.a2) HFF.out.1).mono ?_
  rintro e w10 ⟨vi, rfl, hi, hb10⟩
  have hz9 := HB9.out.size
  have ri := (SpoV.of_row (cells := strCells) (fun _ => rfl) (by decide) (RowV.of_own (cells := strCells) (fun _ => rfl) (by rw [show (idleL l d).flatMap strCells = (idleL l d).map Value.string from flat_one _ _]; exact hi))).low hz9 (Nat.le_refl _)
  obtain ⟨ia, ic, rfl⟩ := own_sliceB hi
  have hil := idleL_len l d
  clear hi
  generalize (idleL l d).length = nI at *
  have HA := Lib.hid (HA9.out.below hb10)
  have HC := Lib.hid (HC9.out.below hb10)
  have HD := Lib.hid (HD9.out.below hb10)
  have HB := Lib.hid (below_at HB9.out hb10 hz9)
  clear hb10 HM9 HA9 HC9 HD9 HB9
  go_upto_region 8 with fail
  go_cut [72] from 55 to 72 (fun t wx => t = .bool false ∧ wx = w10)
  case first =>
    rcases HCF.out with h | h
    · subst h
      clear HCF
      go_wp2
      go_meet
      exact ⟨rfl, rfl⟩
    · subst h
      clear HCF
      go_wp2
      go_meet
      exact ⟨rfl, rfl⟩
  case rest =>
  obtain ⟨rfl, hw⟩ := hcut
  have hw := hw.symm
  subst hw
  have p0 := HA.out.b.cell 0 _ rfl
  have p1 := HA.out.b.cell 1 _ rfl
  have p2 := HC.out.b.cell 0 _ rfl
  have p3 := HC.out.b.cell 1 _ rfl
  have p4 := HD.out.b.cell 0 _ rfl
  have p5 := HD.out.b.cell 1 _ rfl
  have hBa : Below w10.heap.size w10 (w10.alloc (.cells #[.slice xa1 n1 xc1, .slice xa2 n2 xc2, .slice ya1 m1 yc1, .slice ya2 d.length yc2, .slice za1 l.length zc1, .slice za2 d.length zc2] 29)) := below_alloc (Below.refl _ _) _ (Nat.le_refl _)
  have HS0 : Hid (SpoSt wc.heap.size w10.heap.size wc (w10.alloc (.cells #[.slice xa1 n1 xc1, .slice xa2 n2 xc2, .slice ya1 m1 yc1, .slice ya2 d.length yc2, .slice za1 l.length zc1, .slice za2 d.length zc2] 29)) w10.heap.size (.slice xa1 n1 xc1) (.slice xa2 n2 xc2) (.slice ya1 m1 yc1) (.slice ya2 d.length yc2) (.slice za1 l.length zc1) (.slice za2 d.length zc2) (.slice ia nI ic) n1 n2 m1 d.length l.length d.length nI) :=
    ⟨below_at HB.out hBa HB.out.size, Blk.new w10 _ _, HA.out.r1.below hBa (Nat.le_refl _), HA.out.r2.below hBa (Nat.le_refl _), HC.out.r1.below hBa (Nat.le_refl _), HC.out.r2.below hBa (Nat.le_refl _), HD.out.r1.below hBa (Nat.le_refl _), HD.out.r2.below hBa (Nat.le_refl _), ri.below hBa (Nat.le_refl _), Nat.le_refl _, HB.out.size⟩
  have hBND : n1 ≤ 100 ∧ n2 ≤ 100 ∧ m1 ≤ 100 ∧ d.length ≤ 100 ∧ l.length ≤ 100 ∧ d.length ≤ 100 := ⟨by omega, by omega, by omega, by omega, by omega, by omega⟩
  have HBND := Lib.hid hBND
  clear hBa ri HA HC HD HB hBND HCF
  go_wp2_with fail
  clear p0 p1 p2 p3 p4 p5
  generalize w10.alloc (.cells #[.slice xa1 n1 xc1, .slice xa2 n2 xc2, .slice ya1 m1 yc1, .slice ya2 d.length yc2, .slice za1 l.length zc1, .slice za2 d.length zc2] 29) = w11 at *
  generalize w10.heap.size = mb at *
  go_loopw [78] (fun i wr => ∃ k : Nat, k ≤ 3 ∧ i = .int .i64 k ∧ SpoSt wc.heap.size mb wc wr mb (.slice xa1 n1 xc1) (.slice xa2 n2 xc2) (.slice ya1 m1 yc1) (.slice ya2 d.length yc2) (.slice za1 l.length zc1) (.slice za2 d.length zc2) (.slice ia nI ic) n1 n2 m1 d.length l.length d.length nI) (fun i _ => 3 - (intOf i).toNat)
  case atStart => exact ⟨0, by omega, rfl, HS0.out⟩
  case round =>
    obtain ⟨k, hk, rfl, hS⟩ := hrel
    have HS := Lib.hid hS
    by_cases hlt : k < 3
    · obtain ⟨g1, q1, c1, g2, q2, c2, e0, e1, hq1, hq2, u1, u2⟩ := hS.at HBND.out k hlt
      have hml := hS.m.lt
      have HU := Lib.hid (And.intro u1 u2)
      have hlt' : (k : Int) < 3 := by omega
      clear hS u1 u2
      go_wp2_with fail
      have hBa : Below wr.heap.size wr (wr.alloc (.cells #[.slice g1 q1 c1, .slice g2 q2 c2] 29)) := below_alloc (Below.refl _ _) _ (Nat.le_refl _)
      have HX : Hid (SpoSt wc.heap.size mb wc (wr.alloc (.cells #[.slice g1 q1 c1, .slice g2 q2 c2] 29)) mb (.slice xa1 n1 xc1) (.slice xa2 n2 xc2) (.slice ya1 m1 yc1) (.slice ya2 d.length yc2) (.slice za1 l.length zc1) (.slice za2 d.length zc2) (.slice ia nI ic) n1 n2 m1 d.length l.length d.length nI ∧ SpoV 4 wc.heap.size mb q1 (wr.alloc (.cells #[.slice g1 q1 c1, .slice g2 q2 c2] 29)) (.slice g1 q1 c1) ∧ SpoV 3 wc.heap.size mb q2 (wr.alloc (.cells #[.slice g1 q1 c1, .slice g2 q2 c2] 29)) (.slice g2 q2 c2) ∧ Blk (wr.alloc (.cells #[.slice g1 q1 c1, .slice g2 q2 c2] 29)) wr.heap.size #[.slice g1 q1 c1, .slice g2 q2 c2] 29) :=
        ⟨HS.out.below hBa, HU.out.1.below hBa (by omega), HU.out.2.below hBa (by omega), Blk.new _ _ _⟩
      clear hBa HS HU e0 e1
      generalize wr.alloc (.cells #[.slice g1 q1 c1, .slice g2 q2 c2] 29) = wy at *
      generalize wr.heap.size = xb at *
      go_loopw [85] (fun j wx => ∃ q : Nat, q ≤ q1 ∧ j = .int .i64 q ∧ SpoSt wc.heap.size mb wc wx mb (.slice xa1 n1 xc1) (.slice xa2 n2 xc2) (.slice ya1 m1 yc1) (.slice ya2 d.length yc2) (.slice za1 l.length zc1) (.slice za2 d.length zc2) (.slice ia nI ic) n1 n2 m1 d.length l.length d.length nI ∧ SpoV 4 wc.heap.size mb q1 wx (.slice g1 q1 c1) ∧ SpoV 3 wc.heap.size mb q2 wx (.slice g2 q2 c2) ∧ Blk wx xb #[.slice g1 q1 c1, .slice g2 q2 c2] 29) (fun j _ => q1 - (intOf j).toNat)
      case atStart => exact ⟨0, by omega, rfl, HX.out⟩
      case round =>
        obtain ⟨q, hq, rfl, hS, hu1, hu2, hbx⟩ := hrel
        have HY := Lib.hid (And.intro hS (And.intro hu1 (And.intro hu2 hbx)))
        have b0 := hbx.cell 0 _ rfl
        have b1 := hbx.cell 1 _ rfl
        by_cases hlq : q < q1
        · obtain ⟨g, cap', hv, hg1, hg2, hcm, hnc, hc, hf⟩ := hu1.at q 0 hlq (by omega)
          simp only [Value.slice.injEq, true_and] at hv
          obtain ⟨rfl, rfl⟩ := hv
          unfold maxLen at hcm
          simp only [Nat.add_zero] at hc hf
          obtain ⟨x, hx⟩ := Option.isSome_iff_exists.1 hc
          clear hS hu1 hu2 hbx hc
          go_wp2
          exact ⟨⟨q + 1, by omega, by go_num, HY.out.1.set hg1 hg2 _ _, HY.out.2.1.set _ _, HY.out.2.2.1.set _ _, HY.out.2.2.2.setOther (by omega) _ _⟩, by simp [intOf]; omega⟩
        · obtain rfl : q = q1 := by omega
          clear hS hu1 hu2 hbx
          go_wp2
          go_loopw [97] (fun j wx => ∃ r : Nat, r ≤ q2 ∧ j = .int .i64 r ∧ SpoSt wc.heap.size mb wc wx mb (.slice xa1 n1 xc1) (.slice xa2 n2 xc2) (.slice ya1 m1 yc1) (.slice ya2 d.length yc2) (.slice za1 l.length zc1) (.slice za2 d.length zc2) (.slice ia nI ic) n1 n2 m1 d.length l.length d.length nI ∧ SpoV 3 wc.heap.size mb q2 wx (.slice g2 q2 c2) ∧ Blk wx xb #[.slice g1 q c1, .slice g2 q2 c2] 29) (fun j _ => q2 - (intOf j).toNat)
          case atStart => exact ⟨0, by omega, rfl, HY.out.1, HY.out.2.2.1, HY.out.2.2.2⟩
          case round =>
            obtain ⟨r, hr, rfl, hS, hu2, hbx⟩ := hrel
            have HZ := Lib.hid (And.intro hS (And.intro hu2 hbx))
            clear b0 b1
            have b0 := hbx.cell 0 _ rfl
            have b1 := hbx.cell 1 _ rfl
            by_cases hlr : r < q2
            · obtain ⟨g, cap', hv, hg1, hg2, hcm, hnc, hc, hf⟩ := hu2.at r 0 hlr (by omega)
              simp only [Value.slice.injEq, true_and] at hv
              obtain ⟨rfl, rfl⟩ := hv
              unfold maxLen at hcm
              simp only [Nat.add_zero] at hc hf
              obtain ⟨x, hx⟩ := Option.isSome_iff_exists.1 hc
              clear hS hu2 hbx hc
              go_wp2
              exact ⟨⟨r + 1, by omega, by go_num, HZ.out.1.set hg1 hg2 _ _, HZ.out.2.1.set _ _, HZ.out.2.2.setOther (by omega) _ _⟩, by simp [intOf]; omega⟩
            · obtain rfl : r = q2 := by omega
              clear hS hu2 hbx
              go_wp2
              exact ⟨⟨k + 1, by omega, by go_num, HZ.out.1⟩, by simp [intOf]; omega⟩
    · obtain rfl : k = 3 := by omega
      clear hS
      go_wp2_with fail
      refine (spoilNames_any _ nI wc.heap.size mb _ HS.out.h7 HS.out.be.size (by omega)).mono ?_
      rintro e w12 ⟨rfl, hb12⟩
      have hBB : Below wc.heap.size wc w12 := HS.out.be.trans hb12
      have HM12 := Lib.hid (HM3.out.below hBB)
      have t0 := HM12.out.t.cell 0 _ rfl
      have t1 := HM12.out.t.cell 1 _ rfl
      have o0 := HM12.out.s.cell 0 _ rfl
      have o1 := HM12.out.s.cell 1 _ rfl
      clear hb12 hBB HS HM3
      go_wp2_with fail
      refine (sameTree_any _ _ _ _ l d _ (by exact HM12.out.a1) (by exact HM12.out.a2) (by exact HM12.out.c1) (by exact HM12.out.c2)).mono ?_
      rintro e w13 ⟨rfl, hb13⟩
      have HBF := Lib.hid (below_at HM12.out.be hb13 HM12.out.be.size)
      clear hb13 t0 t1 o0 o1 HM12
      go_wp2_with fail
      refine (ready_any _).mono ?_
      rintro e wy ⟨rfl, hby⟩
      have hBy := below_at HBF.out hby HBF.out.size
      clear hby
      go_wp2
      go_ret
      exact ⟨rfl, hBy⟩
end Go.Proofs.YtcecpodbmjghhaaGreat
