/- Walk of package tree: two trees are merged. (Written by ordg.py from XMerge.gen.) -/
import Derived.Test.YtcecpodbmjghhaaGreatTreeGH
import Derived.Test.YtcecpodbmjghhaaGreatCatAll
import Derived.Test.YtcecpodbmjghhaaGreatSortAll
import Derived.Test.YtcecpodbmjghhaaGreatCmpAll
import Derived.Test.YtcecpodbmjghhaaGreatChAll
import Derived.Deep.CutRange
set_option linter.unusedVariables false
set_option linter.unusedSimpArgs false
namespace Go.Proofs.YtcecpodbmjghhaaGreat
open Go Go.RowKit
/-- Merge's boxes -/
structure MerSt (w W : World) (v1 v2 u1 u2 : Value) (l : List Splt) (d : List Drp) (l' : List Splt) (d' : List Drp) : Prop where
  be : Below w.heap.size w W
  b1 : Blk W w.heap.size #[v1, v2] 29
  b2 : Blk W (w.heap.size + 1) #[u1, u2] 29
  br : Blk W (w.heap.size + 2) #[.slice none 0 0, .slice none 0 0] 29
  a1 : Arr Splt.cells 4 W l v1
  a2 : Arr Drp.cells 3 W d v2
  a3 : Arr Splt.cells 4 W l' u1
  a4 : Arr Drp.cells 3 W d' u2
theorem MerSt.below {w W W' : World} {v1 v2 u1 u2 : Value} {l : List Splt} {d : List Drp} {l' : List Splt} {d' : List Drp} (h : MerSt w W v1 v2 u1 u2 l d l' d') (hb : Below W.heap.size W W') : MerSt w W' v1 v2 u1 u2 l d l' d' :=
  ⟨below_at h.be hb h.be.size, h.b1.below hb h.b1.lt, h.b2.below hb h.b2.lt, h.br.below hb h.br.lt, h.a1.below hb, h.a2.below hb, h.a3.below hb, h.a4.below hb⟩
theorem MerSt.four {w W : World} {v1 v2 u1 u2 : Value} {l : List Splt} {d : List Drp} {l' : List Splt} {d' : List Drp} (h : MerSt w W v1 v2 u1 u2 l d l' d') : W.cell? ⟨w.heap.size, 0, none⟩ = some v1 ∧ W.cell? ⟨w.heap.size, 1, none⟩ = some v2 ∧ W.cell? ⟨w.heap.size + 1, 0, none⟩ = some u1 ∧ W.cell? ⟨w.heap.size + 1, 1, none⟩ = some u2 :=
  ⟨h.b1.cell 0 _ rfl, h.b1.cell 1 _ rfl, h.b2.cell 0 _ rfl, h.b2.cell 1 _ rfl⟩
/-- the tree that is being merged: its box and its two rows -/
structure MerMid (w W : World) (b : Nat) (x1 x2 v1 v2 : Value) (L : List Splt) (M : List Drp) : Prop where
  be : Below w.heap.size w W
  br : Blk W (w.heap.size + 2) #[.slice none 0 0, .slice none 0 0] 29
  bx : Blk W b #[x1, x2] 29
  r1 : RowV Splt.cells 4 w.heap.size W v1 L
  r2 : RowV Drp.cells 3 w.heap.size W v2 M
  n1 : v1.ownBlock ≠ some b ∧ v1.ownBlock ≠ some (w.heap.size + 2)
  n2 : v2.ownBlock ≠ some b ∧ v2.ownBlock ≠ some (w.heap.size + 2)
  ap : ∀ k, v1.ownBlock = some k → v2.ownBlock ≠ some k
  hb : w.heap.size + 2 < b
theorem RowV.row {α : Type} {cells : α → List Value} {sz base : Nat} {w : World} {v : Value} {l : List α} (h : RowV cells sz base w v l) (hl : 0 < l.length) : ∃ g cap, v = .slice (some ⟨g, 0, none⟩) l.length cap ∧ l.length ≤ cap ∧ cap ≤ maxLen ∧ Row cells sz w g l := by
  rcases h with ⟨rfl, rfl⟩ | ⟨g, cap, rfl, hg, hc, hm, hr⟩
  · simp at hl
  · exact ⟨g, cap, rfl, hc, hm, hr⟩
theorem row_cat {α : Type} {cells : α → List Value} {sz base : Nat} {w : World} {v : Value} {e : TypeId} {a b : List α} (hlen : ∀ x, (cells x).length = sz) (ho : w.ownsRow base e sz v (a.length + b.length) ((a ++ b).flatMap cells)) : RowV cells sz base w v (a ++ b) := by
  rw [← List.length_append] at ho
  exact RowV.of_own hlen ho
section
variable {w W W' : World} {b : Nat} {x1 x2 v1 v2 : Value} {L : List Splt} {M : List Drp}
theorem MerMid.below (h : MerMid w W b x1 x2 v1 v2 L M) (hb : Below W.heap.size W W') : MerMid w W' b x1 x2 v1 v2 L M :=
  ⟨below_at h.be hb h.be.size, h.br.below hb h.br.lt, h.bx.below hb h.bx.lt, h.r1.below hb, h.r2.below hb, h.n1, h.n2, h.ap, h.hb⟩
theorem MerMid.one {v1' : Value} {L' : List Splt} (h : MerMid w W b x1 x2 v1 v2 L M) (hg : W.grownBy W' v1.ownBlock) (hr : RowV Splt.cells 4 w.heap.size W' v1' L') (ho : v1'.ownBlock = v1.ownBlock) : MerMid w W' b x1 x2 v1' v2 L' M :=
  ⟨below_at h.be (h.r1.bel hg h.be.size) (Nat.le_refl _), h.br.grown hg (fun e => h.n1.2 e.symm), h.bx.grown hg (fun e => h.n1.1 e.symm), hr, h.r2.grown hg (fun k hk e => h.ap k e hk), by rw [ho]; exact h.n1, h.n2, by rw [ho]; exact h.ap, h.hb⟩
theorem MerMid.two {v2' : Value} {M' : List Drp} (h : MerMid w W b x1 x2 v1 v2 L M) (hg : W.grownBy W' v2.ownBlock) (hr : RowV Drp.cells 3 w.heap.size W' v2' M') (ho : v2'.ownBlock = v2.ownBlock) : MerMid w W' b x1 x2 v1 v2' L M' :=
  ⟨below_at h.be (h.r2.bel hg h.be.size) (Nat.le_refl _), h.br.grown hg (fun e => h.n2.2 e.symm), h.bx.grown hg (fun e => h.n2.1 e.symm), h.r1.grown hg (fun k hk e => h.ap k hk e), hr, h.n1, by rw [ho]; exact h.n2, by rw [ho]; exact h.ap, h.hb⟩
theorem MerMid.put1 (h : MerMid w W b x1 x2 v1 v2 L M) (u : Value) : MerMid w (W.setCell ⟨b, 0, none⟩ u) b u x2 v1 v2 L M := by
  have := h.hb
  exact ⟨Below.setCell h.be (by simp; omega) _, h.br.setOther (by omega) _ _, h.bx.set 0 u, h.r1.setNe h.n1.1 _ _, h.r2.setNe h.n2.1 _ _, h.n1, h.n2, h.ap, h.hb⟩
theorem MerMid.put2 (h : MerMid w W b x1 x2 v1 v2 L M) (u : Value) : MerMid w (W.setCell ⟨b, 1, none⟩ u) b x1 u v1 v2 L M := by
  have := h.hb
  exact ⟨Below.setCell h.be (by simp; omega) _, h.br.setOther (by omega) _ _, h.bx.set 1 u, h.r1.setNe h.n1.1 _ _, h.r2.setNe h.n2.1 _ _, h.n1, h.n2, h.ap, h.hb⟩
end
/-- what Merge answers -/
def MergePost (l : List Splt) (d : List Drp) (l' : List Splt) (d' : List Drp) (w : World) (e : Ending) (w' : World) : Prop := ∃ v1 v2 n S D, e = .returned (.tuple #[.agg #[v1, v2], .int .i64 n]) ∧ MergeIs l d l' d' n S D ∧ Below w.heap.size w w' ∧
  (n ≠ 0 → v1 = .slice none 0 0 ∧ v2 = .slice none 0 0) ∧ (n = 0 → RowV Splt.cells 4 w.heap.size w' v1 S ∧ RowV Drp.cells 3 w.heap.size w' v2 D ∧ ∀ k, v1.ownBlock = some k → v2.ownBlock ≠ some k)
set_option maxHeartbeats 2000000 in
set_option maxRecDepth 100000 in
theorem merge_any (v1 v2 u1 u2 : Value) (l : List Splt) (d : List Drp) (l' : List Splt) (d' : List Drp) (w : World) (h1 : Arr Splt.cells 4 w l v1) (h2 : Arr Drp.cells 3 w d v2) (h3 : Arr Splt.cells 4 w l' u1) (h4 : Arr Drp.cells 3 w d' u2) (hl : l.length + l'.length < 20) (hd : d.length + d'.length < 20) :
    Calls Tryz.prog 24 #[.agg #[v1, v2], .agg #[u1, u2]] w (MergePost l d l' d' w) := by
  obtain ⟨a1, cap1, rfl, -, -, -⟩ := id h1
  obtain ⟨a2, cap2, rfl, -, -, -⟩ := id h2
  obtain ⟨a3, cap3, rfl, -, -, -⟩ := id h3
  obtain ⟨a4, cap4, rfl, -, -, -⟩ := id h4
  have hb1 := ((Blk.new w #[.slice a1 l.length cap1, .slice a2 d.length cap2] 29).alloc (.cells #[.slice a3 l'.length cap3, .slice a4 d'.length cap4] 29)).alloc (.cells #[.slice none 0 0, .slice none 0 0] 29)
  have hb2 : Blk (((w.alloc (.cells #[.slice a1 l.length cap1, .slice a2 d.length cap2] 29)).alloc (.cells #[.slice a3 l'.length cap3, .slice a4 d'.length cap4] 29)).alloc (.cells #[.slice none 0 0, .slice none 0 0] 29)) (w.heap.size + 1) #[.slice a3 l'.length cap3, .slice a4 d'.length cap4] 29 := (Blk.newAt (by simp)).alloc _
  have hbr : Blk (((w.alloc (.cells #[.slice a1 l.length cap1, .slice a2 d.length cap2] 29)).alloc (.cells #[.slice a3 l'.length cap3, .slice a4 d'.length cap4] 29)).alloc (.cells #[.slice none 0 0, .slice none 0 0] 29)) (w.heap.size + 2) #[.slice none 0 0, .slice none 0 0] 29 := Blk.newAt (by simp)
  have hBe : Below w.heap.size w (((w.alloc (.cells #[.slice a1 l.length cap1, .slice a2 d.length cap2] 29)).alloc (.cells #[.slice a3 l'.length cap3, .slice a4 d'.length cap4] 29)).alloc (.cells #[.slice none 0 0, .slice none 0 0] 29)) := by (repeat (first | exact Below.refl _ _ | assumption | refine below_draws ?_ _ | refine Below.drew ?_ | refine below_alloc ?_ _ (by first | omega | (simp; done) | (simp; omega)) | refine Below.setCell ?_ (by first | omega | (simp; done) | (simp; omega)) _ | refine below_at ?_ (by assumption) (by first | omega | (simp; done) | (simp; omega))))
  have HS0 : Hid (MerSt w (((w.alloc (.cells #[.slice a1 l.length cap1, .slice a2 d.length cap2] 29)).alloc (.cells #[.slice a3 l'.length cap3, .slice a4 d'.length cap4] 29)).alloc (.cells #[.slice none 0 0, .slice none 0 0] 29)) (.slice a1 l.length cap1) (.slice a2 d.length cap2) (.slice a3 l'.length cap3) (.slice a4 d'.length cap4) l d l' d') := ⟨hBe, hb1, hb2, hbr, h1.below hBe, h2.below hBe, h3.below hBe, h4.below hBe⟩
  clear h1 h2 h3 h4 hb1 hb2 hbr hBe
  obtain ⟨F, hF⟩ : ∃ F, firstF [treeF l d, treeF l' d'] = F := ⟨_, rfl⟩
  have HF := Lib.hid hF
  clear hF
  go_enter Tryz.func24, Tryz.ntmps24
  go_wp2_with fail
  go_region_held3 (fun w' => w'.cell? ⟨w.heap.size, 0, none⟩ = some (.slice a1 l.length cap1) ∧ w'.cell? ⟨w.heap.size, 1, none⟩ = some (.slice a2 d.length cap2) ∧ w'.cell? ⟨w.heap.size + 1, 0, none⟩ = some (.slice a3 l'.length cap3) ∧ w'.cell? ⟨w.heap.size + 1, 1, none⟩ = some (.slice a4 d'.length cap4)) (go_keep)
    (first
      | (go_at_call 44; refine (checkTree_any _ _ l d _ (by exact HS0.out.a1.drew) (by exact HS0.out.a2.drew)).mono ?_; rintro e w1 ⟨rfl, hb1⟩; have HS1 := Lib.hid (HS0.out.below (below_at (Below.drew (Below.refl _ _)) hb1 (Nat.le_refl _))); have hz1 := hb1.size; have t0 := HS1.out.b1.cell 0 _ rfl; have t1 := HS1.out.b1.cell 1 _ rfl; have t2 := HS1.out.b2.cell 0 _ rfl; have t3 := HS1.out.b2.cell 1 _ rfl)
      | (go_at_call 44; refine (checkTree_any _ _ l' d' _ (by exact HS1.out.a3) (by exact HS1.out.a4)).mono ?_; rintro e w2 ⟨rfl, hb2⟩; have HS2 := Lib.hid (HS1.out.below hb2); have hz2 := hb2.size; have t4 := HS2.out.b1.cell 0 _ rfl; have t5 := HS2.out.b1.cell 1 _ rfl; have t6 := HS2.out.b2.cell 0 _ rfl; have t7 := HS2.out.b2.cell 1 _ rfl)
      | (go_at_call 75; refine (first_any _ [treeF l d, treeF l' d'] _ (by exact Arr.lit (cells := intCells) (sz := 1) (fun _ => rfl) _ [treeF l d, treeF l' d'] _ _ 2 (by rfl) rfl (by simp [maxLen]))).mono ?_; rintro e w4 ⟨rfl, rfl⟩; rw [HF.out]))
  have HS3 : Hid (MerSt w (w2.alloc (.cells #[.int .i64 (treeF l d), .int .i64 (treeF l' d')] 33)) (.slice a1 l.length cap1) (.slice a2 d.length cap2) (.slice a3 l'.length cap3) (.slice a4 d'.length cap4) l d l' d') := HS2.out.below (below_alloc (Below.refl _ _) _ (Nat.le_refl _))
  clear HS1 HS2 HS0 t0 t1 t2 t3 t4 t5 t6 t7 hb1 hb2 hz1 hz2
  generalize w2.alloc (.cells #[.int .i64 (treeF l d), .int .i64 (treeF l' d')] 33) = w3 at *
  have z0 := HS3.out.br.cell 0 _ rfl
  have z1 := HS3.out.br.cell 1 _ rfl
  have zf := fun o => HS3.out.br.free o
  by_cases hF0 : F = 0
  rotate_left
  · have hF1 : (F != 0) = true := by simpa using hF0
    have HIS : Hid (∀ S D, MergeIs l d l' d' F S D) := fun S D => by
      have h := HF.out
      by_cases h1 : treeF l d = 0
      · by_cases h2 : treeF l' d' = 0
        · simp [firstF, h1, h2] at h; exact absurd h.symm hF0
        · simp [firstF, h1, h2] at h; exact .inr (.inl ⟨h1, h2, h.symm⟩)
      · simp [firstF, h1] at h; exact .inl ⟨h1, h.symm⟩
    have HN := Lib.hid hF0
    clear hF0
    go_wp2
    have hF0 := HN.out
    refine bodyPost_ret (v := .tuple #[.agg #[.slice none 0 0, .slice none 0 0], .int .i64 (F)]) ?_ rfl ⟨_, _, _, _, _, rfl, HIS.out [] [], ?_, fun _ => ⟨rfl, rfl⟩, fun h => absurd h (by first | decide | assumption)⟩; (· simp [results, go_sem, z0, z1]); (· have hh := HS3.out.be; (repeat (first | exact Below.refl _ _ | assumption | refine below_draws ?_ _ | refine Below.drew ?_ | refine below_alloc ?_ _ (by first | omega | (simp; done) | (simp; omega)) | refine Below.setCell ?_ (by first | omega | (simp; done) | (simp; omega)) _ | refine below_at ?_ (by assumption) (by first | omega | (simp; done) | (simp; omega)))))
  · have hff : treeF l d = 0 ∧ treeF l' d' = 0 := by
      have h := HF.out
      rw [hF0] at h
      by_cases h1 : treeF l d = 0
      · refine ⟨h1, ?_⟩
        by_cases h2 : treeF l' d' = 0
        · exact h2
        · simp [firstF, h1, h2] at h
      · simp [firstF, h1] at h
    have HFF := Lib.hid hff
    subst hF0
    clear hff HF
    go_upto_region 4 with fail
    go_cut [7] from 21 to 33 (fun t wc => ∃ b s1 c1 s2 c2, t = .pointer (some ⟨b, 0, none⟩) ∧ MerMid w wc b (.slice s1 (l.length + l'.length) c1) (.slice s2 (d.length + d'.length) c2) (.slice s1 (l.length + l'.length) c1) (.slice s2 (d.length + d'.length) c2) (l ++ l') (d ++ d'))
    case first =>
      clear z0 z1 zf
      go_wp2_with fail
      refine WalkT.start (fun w' => w'.cell? ⟨w.heap.size, 0, none⟩ = some (.slice a1 l.length cap1) ∧ w'.cell? ⟨w.heap.size, 1, none⟩ = some (.slice a2 d.length cap2) ∧ w'.cell? ⟨w.heap.size + 1, 0, none⟩ = some (.slice a3 l'.length cap3) ∧ w'.cell? ⟨w.heap.size + 1, 1, none⟩ = some (.slice a4 d'.length cap4)) [14] (by kernel_rfl) ?_
      have M0 : MerSt w w3.drew (.slice a1 l.length cap1) (.slice a2 d.length cap2) (.slice a3 l'.length cap3) (.slice a4 d'.length cap4) l d l' d' := HS3.out.below (Below.drew (Below.refl _ _))
      clear HS3
      generalize w3.drew = W0 at *
      have hS0 := M0.four
      (refine WalkT.quiet (i := 0) (v := ?_) rfl (by kernel_rfl) (by kernel_rfl) (by kernel_rfl) (fun _ _ _ h => h) (Or.inl ⟨by rfl, ?_⟩) ?_; rotate_left; (· (intro wS hSw; (try dsimp only at hSw); go_simp; try with_reducible rfl)); try simp only [Act.put, pu1, pu2, pu3, pu4, pu5, pu6])
      (refine WalkT.take (i := 1) (v := ?_) rfl (by kernel_rfl) (by kernel_rfl) (by kernel_rfl) (by kernel_rfl) (fun _ _ _ h => h) hS0 (Or.inl ⟨by rfl, ?_⟩) ?_; rotate_left; (· (intro wS hSw; (try dsimp only at hSw); obtain ⟨t0, t1, t2, t3⟩ := hSw; go_simp; try with_reducible rfl)); try simp only [Act.put, pu1, pu2, pu3, pu4, pu5, pu6])
      (refine WalkT.quiet (i := 2) (v := ?_) rfl (by kernel_rfl) (by kernel_rfl) (by kernel_rfl) (fun _ _ _ h => h) (Or.inl ⟨by rfl, ?_⟩) ?_; rotate_left; (· (intro wS hSw; (try dsimp only at hSw); go_simp; try with_reducible rfl)); try simp only [Act.put, pu1, pu2, pu3, pu4, pu5, pu6])
      (refine WalkT.take (i := 3) (v := ?_) rfl (by kernel_rfl) (by kernel_rfl) (by kernel_rfl) (by kernel_rfl) (fun _ _ _ h => h) hS0 (Or.inl ⟨by rfl, ?_⟩) ?_; rotate_left; (· (intro wS hSw; (try dsimp only at hSw); obtain ⟨t0, t1, t2, t3⟩ := hSw; go_simp; try with_reducible rfl)); try simp only [Act.put, pu1, pu2, pu3, pu4, pu5, pu6])
      (refine WalkT.quiet (i := 6) (v := ?_) rfl (by kernel_rfl) (by kernel_rfl) (by kernel_rfl) (fun _ _ _ h => h) (Or.inl ⟨by rfl, ?_⟩) ?_; rotate_left; (· (intro wS hSw; (try dsimp only at hSw); go_simp; try with_reducible rfl)); try simp only [Act.put, pu1, pu2, pu3, pu4, pu5, pu6])
      (refine WalkT.take (i := 7) (v := ?_) rfl (by kernel_rfl) (by kernel_rfl) (by kernel_rfl) (by kernel_rfl) (fun _ _ _ h => h) hS0 (Or.inl ⟨by rfl, ?_⟩) ?_; rotate_left; (· (intro wS hSw; (try dsimp only at hSw); obtain ⟨t0, t1, t2, t3⟩ := hSw; go_simp; try with_reducible rfl)); try simp only [Act.put, pu1, pu2, pu3, pu4, pu5, pu6])
      (refine WalkT.quiet (i := 8) (v := ?_) rfl (by kernel_rfl) (by kernel_rfl) (by kernel_rfl) (fun _ _ _ h => h) (Or.inl ⟨by rfl, ?_⟩) ?_; rotate_left; (· (intro wS hSw; (try dsimp only at hSw); go_simp; try with_reducible rfl)); try simp only [Act.put, pu1, pu2, pu3, pu4, pu5, pu6])
      (refine WalkT.take (i := 9) (v := ?_) rfl (by kernel_rfl) (by kernel_rfl) (by kernel_rfl) (by kernel_rfl) (fun _ _ _ h => h) hS0 (Or.inl ⟨by rfl, ?_⟩) ?_; rotate_left; (· (intro wS hSw; (try dsimp only at hSw); obtain ⟨t0, t1, t2, t3⟩ := hSw; go_simp; try with_reducible rfl)); try simp only [Act.put, pu1, pu2, pu3, pu4, pu5, pu6])
      clear hS0
      refine WalkT.ready (rs := [4, 10, 13]) (by kernel_rfl) (by simp) ?_
      refine AllT.cons rfl (fun K hK => ?_) ?_
      · go_simp
        have hB : Below W0.heap.size W0 (W0.alloc (.cells #[.slice a1 l.length cap1, .slice a3 l'.length cap3] 26)) := below_alloc (Below.refl _ _) _ (Nat.le_refl _)
        replace M0 := M0.below hB
        have K4 := Blk.new W0 #[.slice a1 l.length cap1, .slice a3 l'.length cap3] 26
        refine hK.out _ _ (fun _ _ => M0.four) ?_
        clear hK K hB
        generalize W0.alloc (.cells #[.slice a1 l.length cap1, .slice a3 l'.length cap3] 26) = W1 at *
        try simp only [Act.put, pu1, pu2, pu3, pu4, pu5, pu6]
        refine WalkT.ready (rs := [5, 10, 13]) (by kernel_rfl) (by simp) ?_
        refine AllT.cons rfl (fun K hK => ?_) ?_
        · go_simp
          have hW := M0.be.size
          refine (concat_splt _ _ _ _ l l' _ K4 (by exact M0.a1) (by exact M0.a3) (by omega)).mono ?_
          rintro e W2 ⟨v5, rfl, o5, hB⟩
          obtain ⟨s5, c5, hv5⟩ := own_sliceH o5
          subst hv5
          replace M0 := M0.below hB
          replace K4 := K4.below hB K4.lt
          have O5 := own_baseH o5 hW
          refine hK.out _ _ (fun _ _ => M0.four) ?_
          clear hK K hB
          try simp only [Act.put, pu1, pu2, pu3, pu4, pu5, pu6]
          refine WalkT.ready (rs := [10, 13]) (by kernel_rfl) (by simp) ?_
          refine AllT.cons rfl (fun K hK => ?_) ?_
          · go_simp
            have hB : Below W2.heap.size W2 (W2.alloc (.cells #[.slice a2 d.length cap2, .slice a4 d'.length cap4] 27)) := below_alloc (Below.refl _ _) _ (Nat.le_refl _)
            replace M0 := M0.below hB
            replace K4 := K4.below hB K4.lt
            replace O5 := own_below O5 hB
            have K10 := Blk.new W2 #[.slice a2 d.length cap2, .slice a4 d'.length cap4] 27
            refine hK.out _ _ (fun _ _ => M0.four) ?_
            clear hK K hB
            generalize W2.alloc (.cells #[.slice a2 d.length cap2, .slice a4 d'.length cap4] 27) = W3 at *
            try simp only [Act.put, pu1, pu2, pu3, pu4, pu5, pu6]
            refine WalkT.ready (rs := [11, 13]) (by kernel_rfl) (by simp) ?_
            refine AllT.cons rfl (fun K hK => ?_) ?_
            · go_simp
              have hW := M0.be.size
              refine (concat_drp _ _ _ _ d d' _ K10 (by exact M0.a2) (by exact M0.a4) (by omega)).mono ?_
              rintro e W4 ⟨v11, rfl, o11, hB⟩
              obtain ⟨s11, c11, hv11⟩ := own_sliceH o11
              subst hv11
              replace M0 := M0.below hB
              replace K4 := K4.below hB K4.lt
              replace O5 := own_below O5 hB
              replace K10 := K10.below hB K10.lt
              have O11 := own_baseH o11 hW
              refine hK.out _ _ (fun _ _ => M0.four) ?_
              clear hK K hB
              try simp only [Act.put, pu1, pu2, pu3, pu4, pu5, pu6]
              (refine WalkT.quiet (i := 12) (v := ?_) rfl (by kernel_rfl) (by kernel_rfl) (by kernel_rfl) (fun _ _ _ h => h) (Or.inl ⟨by rfl, ?_⟩) ?_; rotate_left; (· (intro wS hSw; (try dsimp only at hSw); go_simp; try with_reducible rfl)); try simp only [Act.put, pu1, pu2, pu3, pu4, pu5, pu6])
              refine WalkT.ready (rs := [13]) (by kernel_rfl) (by simp) ?_
              refine AllT.cons rfl (fun K hK => ?_) ?_
              · go_simp
                have hb13 := M0.br.lt
                have hB : Below W4.heap.size W4 (W4.alloc (.cells #[.slice none 0 0, .slice none 0 0] 29)) := below_alloc (Below.refl _ _) _ (Nat.le_refl _)
                replace M0 := M0.below hB
                replace K4 := K4.below hB K4.lt
                replace O5 := own_below O5 hB
                replace K10 := K10.below hB K10.lt
                replace O11 := own_below O11 hB
                have K13 := Blk.new W4 #[.slice none 0 0, .slice none 0 0] 29
                refine hK.out _ _ (fun _ _ => M0.four) ?_
                clear hK K hB
                generalize W4.alloc (.cells #[.slice none 0 0, .slice none 0 0] 29) = W5 at *
                try simp only [Act.put, pu1, pu2, pu3, pu4, pu5, pu6]
                (have ne1 := own_neM O5 K13 (by decide); have ne2 := own_neM O11 K13 (by decide); have nr1 := own_neM O5 M0.br (by decide); have nr2 := own_neM O11 M0.br (by decide); have R1 := row_cat Splt.cells_len O5; have R2 := row_cat Drp.cells_len O11; have k0 := K13.cell 0 _ rfl; have k1 := K13.cell 1 _ rfl; have kf := fun o => K13.free o; have MM := MerMid.mk M0.be M0.br K13 R1 R2 ⟨ne1, nr1⟩ ⟨ne2, nr2⟩ (own_apart O5 O11 (by decide)) hb13; clear O5 O11 M0 K13 R1 R2 ne1 ne2 nr1 nr2; (refine WalkT.ready (rs := [14]) (by kernel_rfl) (by simp) (AllT.cons rfl (fun K hK => ?_) AllT.nil); go_simp); (refine hK.out _ _ (fun h => absurd h (by decide)) ?_; clear hK K; try simp only [Act.put, pu1, pu2, pu3, pu4, pu5, pu6]); refine WalkT.done (by kernel_rfl) ?_; have HMM := Lib.hid ((MM.put1 (.slice s5 (l.length + l'.length) c5)).put2 (.slice s11 (d.length + d'.length) c11)); clear MM k0 k1 kf; go_wp2; go_meet; exact ⟨_, _, _, _, _, rfl, HMM.out⟩)
              exact AllT.nil
            refine AllT.cons rfl (fun K hK => ?_) ?_
            · go_simp
              have hb13 := M0.br.lt
              have hB : Below W3.heap.size W3 (W3.alloc (.cells #[.slice none 0 0, .slice none 0 0] 29)) := below_alloc (Below.refl _ _) _ (Nat.le_refl _)
              replace M0 := M0.below hB
              replace K4 := K4.below hB K4.lt
              replace O5 := own_below O5 hB
              replace K10 := K10.below hB K10.lt
              have K13 := Blk.new W3 #[.slice none 0 0, .slice none 0 0] 29
              refine hK.out _ _ (fun _ _ => M0.four) ?_
              clear hK K hB
              generalize W3.alloc (.cells #[.slice none 0 0, .slice none 0 0] 29) = W6 at *
              try simp only [Act.put, pu1, pu2, pu3, pu4, pu5, pu6]
              refine WalkT.ready (rs := [11]) (by kernel_rfl) (by simp) ?_
              refine AllT.cons rfl (fun K hK => ?_) ?_
              · go_simp
                have hW := M0.be.size
                refine (concat_drp _ _ _ _ d d' _ K10 (by exact M0.a2) (by exact M0.a4) (by omega)).mono ?_
                rintro e W7 ⟨v11, rfl, o11, hB⟩
                obtain ⟨s11, c11, hv11⟩ := own_sliceH o11
                subst hv11
                replace M0 := M0.below hB
                replace K4 := K4.below hB K4.lt
                replace O5 := own_below O5 hB
                replace K10 := K10.below hB K10.lt
                replace K13 := K13.below hB K13.lt
                have O11 := own_baseH o11 hW
                refine hK.out _ _ (fun _ _ => M0.four) ?_
                clear hK K hB
                try simp only [Act.put, pu1, pu2, pu3, pu4, pu5, pu6]
                (refine WalkT.quiet (i := 12) (v := ?_) rfl (by kernel_rfl) (by kernel_rfl) (by kernel_rfl) (fun _ _ _ h => h) (Or.inl ⟨by rfl, ?_⟩) ?_; rotate_left; (· (intro wS hSw; (try dsimp only at hSw); go_simp; try with_reducible rfl)); try simp only [Act.put, pu1, pu2, pu3, pu4, pu5, pu6])
                (have ne1 := own_neM O5 K13 (by decide); have ne2 := own_neM O11 K13 (by decide); have nr1 := own_neM O5 M0.br (by decide); have nr2 := own_neM O11 M0.br (by decide); have R1 := row_cat Splt.cells_len O5; have R2 := row_cat Drp.cells_len O11; have k0 := K13.cell 0 _ rfl; have k1 := K13.cell 1 _ rfl; have kf := fun o => K13.free o; have MM := MerMid.mk M0.be M0.br K13 R1 R2 ⟨ne1, nr1⟩ ⟨ne2, nr2⟩ (own_apart O5 O11 (by decide)) hb13; clear O5 O11 M0 K13 R1 R2 ne1 ne2 nr1 nr2; (refine WalkT.ready (rs := [14]) (by kernel_rfl) (by simp) (AllT.cons rfl (fun K hK => ?_) AllT.nil); go_simp); (refine hK.out _ _ (fun h => absurd h (by decide)) ?_; clear hK K; try simp only [Act.put, pu1, pu2, pu3, pu4, pu5, pu6]); refine WalkT.done (by kernel_rfl) ?_; have HMM := Lib.hid ((MM.put1 (.slice s5 (l.length + l'.length) c5)).put2 (.slice s11 (d.length + d'.length) c11)); clear MM k0 k1 kf; go_wp2; go_meet; exact ⟨_, _, _, _, _, rfl, HMM.out⟩)
              exact AllT.nil
            exact AllT.nil
          refine AllT.cons rfl (fun K hK => ?_) ?_
          · go_simp
            have hb13 := M0.br.lt
            have hB : Below W2.heap.size W2 (W2.alloc (.cells #[.slice none 0 0, .slice none 0 0] 29)) := below_alloc (Below.refl _ _) _ (Nat.le_refl _)
            replace M0 := M0.below hB
            replace K4 := K4.below hB K4.lt
            replace O5 := own_below O5 hB
            have K13 := Blk.new W2 #[.slice none 0 0, .slice none 0 0] 29
            refine hK.out _ _ (fun _ _ => M0.four) ?_
            clear hK K hB
            generalize W2.alloc (.cells #[.slice none 0 0, .slice none 0 0] 29) = W8 at *
            try simp only [Act.put, pu1, pu2, pu3, pu4, pu5, pu6]
            refine WalkT.ready (rs := [10]) (by kernel_rfl) (by simp) ?_
            refine AllT.cons rfl (fun K hK => ?_) ?_
            · go_simp
              have hB : Below W8.heap.size W8 (W8.alloc (.cells #[.slice a2 d.length cap2, .slice a4 d'.length cap4] 27)) := below_alloc (Below.refl _ _) _ (Nat.le_refl _)
              replace M0 := M0.below hB
              replace K4 := K4.below hB K4.lt
              replace O5 := own_below O5 hB
              replace K13 := K13.below hB K13.lt
              have K10 := Blk.new W8 #[.slice a2 d.length cap2, .slice a4 d'.length cap4] 27
              refine hK.out _ _ (fun _ _ => M0.four) ?_
              clear hK K hB
              generalize W8.alloc (.cells #[.slice a2 d.length cap2, .slice a4 d'.length cap4] 27) = W9 at *
              try simp only [Act.put, pu1, pu2, pu3, pu4, pu5, pu6]
              refine WalkT.ready (rs := [11]) (by kernel_rfl) (by simp) ?_
              refine AllT.cons rfl (fun K hK => ?_) ?_
              · go_simp
                have hW := M0.be.size
                refine (concat_drp _ _ _ _ d d' _ K10 (by exact M0.a2) (by exact M0.a4) (by omega)).mono ?_
                rintro e W10 ⟨v11, rfl, o11, hB⟩
                obtain ⟨s11, c11, hv11⟩ := own_sliceH o11
                subst hv11
                replace M0 := M0.below hB
                replace K4 := K4.below hB K4.lt
                replace O5 := own_below O5 hB
                replace K13 := K13.below hB K13.lt
                replace K10 := K10.below hB K10.lt
                have O11 := own_baseH o11 hW
                refine hK.out _ _ (fun _ _ => M0.four) ?_
                clear hK K hB
                try simp only [Act.put, pu1, pu2, pu3, pu4, pu5, pu6]
                (refine WalkT.quiet (i := 12) (v := ?_) rfl (by kernel_rfl) (by kernel_rfl) (by kernel_rfl) (fun _ _ _ h => h) (Or.inl ⟨by rfl, ?_⟩) ?_; rotate_left; (· (intro wS hSw; (try dsimp only at hSw); go_simp; try with_reducible rfl)); try simp only [Act.put, pu1, pu2, pu3, pu4, pu5, pu6])
                (have ne1 := own_neM O5 K13 (by decide); have ne2 := own_neM O11 K13 (by decide); have nr1 := own_neM O5 M0.br (by decide); have nr2 := own_neM O11 M0.br (by decide); have R1 := row_cat Splt.cells_len O5; have R2 := row_cat Drp.cells_len O11; have k0 := K13.cell 0 _ rfl; have k1 := K13.cell 1 _ rfl; have kf := fun o => K13.free o; have MM := MerMid.mk M0.be M0.br K13 R1 R2 ⟨ne1, nr1⟩ ⟨ne2, nr2⟩ (own_apart O5 O11 (by decide)) hb13; clear O5 O11 M0 K13 R1 R2 ne1 ne2 nr1 nr2; (refine WalkT.ready (rs := [14]) (by kernel_rfl) (by simp) (AllT.cons rfl (fun K hK => ?_) AllT.nil); go_simp); (refine hK.out _ _ (fun h => absurd h (by decide)) ?_; clear hK K; try simp only [Act.put, pu1, pu2, pu3, pu4, pu5, pu6]); refine WalkT.done (by kernel_rfl) ?_; have HMM := Lib.hid ((MM.put1 (.slice s5 (l.length + l'.length) c5)).put2 (.slice s11 (d.length + d'.length) c11)); clear MM k0 k1 kf; go_wp2; go_meet; exact ⟨_, _, _, _, _, rfl, HMM.out⟩)
              exact AllT.nil
            exact AllT.nil
          exact AllT.nil
        refine AllT.cons rfl (fun K hK => ?_) ?_
        · go_simp
          have hB : Below W1.heap.size W1 (W1.alloc (.cells #[.slice a2 d.length cap2, .slice a4 d'.length cap4] 27)) := below_alloc (Below.refl _ _) _ (Nat.le_refl _)
          replace M0 := M0.below hB
          replace K4 := K4.below hB K4.lt
          have K10 := Blk.new W1 #[.slice a2 d.length cap2, .slice a4 d'.length cap4] 27
          refine hK.out _ _ (fun _ _ => M0.four) ?_
          clear hK K hB
          generalize W1.alloc (.cells #[.slice a2 d.length cap2, .slice a4 d'.length cap4] 27) = W11 at *
          try simp only [Act.put, pu1, pu2, pu3, pu4, pu5, pu6]
          refine WalkT.ready (rs := [5, 13]) (by kernel_rfl) (by simp) ?_
          refine AllT.cons rfl (fun K hK => ?_) ?_
          · go_simp
            have hW := M0.be.size
            refine (concat_splt _ _ _ _ l l' _ K4 (by exact M0.a1) (by exact M0.a3) (by omega)).mono ?_
            rintro e W12 ⟨v5, rfl, o5, hB⟩
            obtain ⟨s5, c5, hv5⟩ := own_sliceH o5
            subst hv5
            replace M0 := M0.below hB
            replace K4 := K4.below hB K4.lt
            replace K10 := K10.below hB K10.lt
            have O5 := own_baseH o5 hW
            refine hK.out _ _ (fun _ _ => M0.four) ?_
            clear hK K hB
            try simp only [Act.put, pu1, pu2, pu3, pu4, pu5, pu6]
            refine WalkT.ready (rs := [11, 13]) (by kernel_rfl) (by simp) ?_
            refine AllT.cons rfl (fun K hK => ?_) ?_
            · go_simp
              have hW := M0.be.size
              refine (concat_drp _ _ _ _ d d' _ K10 (by exact M0.a2) (by exact M0.a4) (by omega)).mono ?_
              rintro e W13 ⟨v11, rfl, o11, hB⟩
              obtain ⟨s11, c11, hv11⟩ := own_sliceH o11
              subst hv11
              replace M0 := M0.below hB
              replace K4 := K4.below hB K4.lt
              replace K10 := K10.below hB K10.lt
              replace O5 := own_below O5 hB
              have O11 := own_baseH o11 hW
              refine hK.out _ _ (fun _ _ => M0.four) ?_
              clear hK K hB
              try simp only [Act.put, pu1, pu2, pu3, pu4, pu5, pu6]
              (refine WalkT.quiet (i := 12) (v := ?_) rfl (by kernel_rfl) (by kernel_rfl) (by kernel_rfl) (fun _ _ _ h => h) (Or.inl ⟨by rfl, ?_⟩) ?_; rotate_left; (· (intro wS hSw; (try dsimp only at hSw); go_simp; try with_reducible rfl)); try simp only [Act.put, pu1, pu2, pu3, pu4, pu5, pu6])
              refine WalkT.ready (rs := [13]) (by kernel_rfl) (by simp) ?_
              refine AllT.cons rfl (fun K hK => ?_) ?_
              · go_simp
                have hb13 := M0.br.lt
                have hB : Below W13.heap.size W13 (W13.alloc (.cells #[.slice none 0 0, .slice none 0 0] 29)) := below_alloc (Below.refl _ _) _ (Nat.le_refl _)
                replace M0 := M0.below hB
                replace K4 := K4.below hB K4.lt
                replace K10 := K10.below hB K10.lt
                replace O5 := own_below O5 hB
                replace O11 := own_below O11 hB
                have K13 := Blk.new W13 #[.slice none 0 0, .slice none 0 0] 29
                refine hK.out _ _ (fun _ _ => M0.four) ?_
                clear hK K hB
                generalize W13.alloc (.cells #[.slice none 0 0, .slice none 0 0] 29) = W14 at *
                try simp only [Act.put, pu1, pu2, pu3, pu4, pu5, pu6]
                (have ne1 := own_neM O5 K13 (by decide); have ne2 := own_neM O11 K13 (by decide); have nr1 := own_neM O5 M0.br (by decide); have nr2 := own_neM O11 M0.br (by decide); have R1 := row_cat Splt.cells_len O5; have R2 := row_cat Drp.cells_len O11; have k0 := K13.cell 0 _ rfl; have k1 := K13.cell 1 _ rfl; have kf := fun o => K13.free o; have MM := MerMid.mk M0.be M0.br K13 R1 R2 ⟨ne1, nr1⟩ ⟨ne2, nr2⟩ (own_apart O5 O11 (by decide)) hb13; clear O5 O11 M0 K13 R1 R2 ne1 ne2 nr1 nr2; (refine WalkT.ready (rs := [14]) (by kernel_rfl) (by simp) (AllT.cons rfl (fun K hK => ?_) AllT.nil); go_simp); (refine hK.out _ _ (fun h => absurd h (by decide)) ?_; clear hK K; try simp only [Act.put, pu1, pu2, pu3, pu4, pu5, pu6]); refine WalkT.done (by kernel_rfl) ?_; have HMM := Lib.hid ((MM.put1 (.slice s5 (l.length + l'.length) c5)).put2 (.slice s11 (d.length + d'.length) c11)); clear MM k0 k1 kf; go_wp2; go_meet; exact ⟨_, _, _, _, _, rfl, HMM.out⟩)
              exact AllT.nil
            refine AllT.cons rfl (fun K hK => ?_) ?_
            · go_simp
              have hb13 := M0.br.lt
              have hB : Below W12.heap.size W12 (W12.alloc (.cells #[.slice none 0 0, .slice none 0 0] 29)) := below_alloc (Below.refl _ _) _ (Nat.le_refl _)
              replace M0 := M0.below hB
              replace K4 := K4.below hB K4.lt
              replace K10 := K10.below hB K10.lt
              replace O5 := own_below O5 hB
              have K13 := Blk.new W12 #[.slice none 0 0, .slice none 0 0] 29
              refine hK.out _ _ (fun _ _ => M0.four) ?_
              clear hK K hB
              generalize W12.alloc (.cells #[.slice none 0 0, .slice none 0 0] 29) = W15 at *
              try simp only [Act.put, pu1, pu2, pu3, pu4, pu5, pu6]
              refine WalkT.ready (rs := [11]) (by kernel_rfl) (by simp) ?_
              refine AllT.cons rfl (fun K hK => ?_) ?_
              · go_simp
                have hW := M0.be.size
                refine (concat_drp _ _ _ _ d d' _ K10 (by exact M0.a2) (by exact M0.a4) (by omega)).mono ?_
                rintro e W16 ⟨v11, rfl, o11, hB⟩
                obtain ⟨s11, c11, hv11⟩ := own_sliceH o11
                subst hv11
                replace M0 := M0.below hB
                replace K4 := K4.below hB K4.lt
                replace K10 := K10.below hB K10.lt
                replace O5 := own_below O5 hB
                replace K13 := K13.below hB K13.lt
                have O11 := own_baseH o11 hW
                refine hK.out _ _ (fun _ _ => M0.four) ?_
                clear hK K hB
                try simp only [Act.put, pu1, pu2, pu3, pu4, pu5, pu6]
                (refine WalkT.quiet (i := 12) (v := ?_) rfl (by kernel_rfl) (by kernel_rfl) (by kernel_rfl) (fun _ _ _ h => h) (Or.inl ⟨by rfl, ?_⟩) ?_; rotate_left; (· (intro wS hSw; (try dsimp only at hSw); go_simp; try with_reducible rfl)); try simp only [Act.put, pu1, pu2, pu3, pu4, pu5, pu6])
                (have ne1 := own_neM O5 K13 (by decide); have ne2 := own_neM O11 K13 (by decide); have nr1 := own_neM O5 M0.br (by decide); have nr2 := own_neM O11 M0.br (by decide); have R1 := row_cat Splt.cells_len O5; have R2 := row_cat Drp.cells_len O11; have k0 := K13.cell 0 _ rfl; have k1 := K13.cell 1 _ rfl; have kf := fun o => K13.free o; have MM := MerMid.mk M0.be M0.br K13 R1 R2 ⟨ne1, nr1⟩ ⟨ne2, nr2⟩ (own_apart O5 O11 (by decide)) hb13; clear O5 O11 M0 K13 R1 R2 ne1 ne2 nr1 nr2; (refine WalkT.ready (rs := [14]) (by kernel_rfl) (by simp) (AllT.cons rfl (fun K hK => ?_) AllT.nil); go_simp); (refine hK.out _ _ (fun h => absurd h (by decide)) ?_; clear hK K; try simp only [Act.put, pu1, pu2, pu3, pu4, pu5, pu6]); refine WalkT.done (by kernel_rfl) ?_; have HMM := Lib.hid ((MM.put1 (.slice s5 (l.length + l'.length) c5)).put2 (.slice s11 (d.length + d'.length) c11)); clear MM k0 k1 kf; go_wp2; go_meet; exact ⟨_, _, _, _, _, rfl, HMM.out⟩)
              exact AllT.nil
            exact AllT.nil
          refine AllT.cons rfl (fun K hK => ?_) ?_
          · go_simp
            have hb13 := M0.br.lt
            have hB : Below W11.heap.size W11 (W11.alloc (.cells #[.slice none 0 0, .slice none 0 0] 29)) := below_alloc (Below.refl _ _) _ (Nat.le_refl _)
            replace M0 := M0.below hB
            replace K4 := K4.below hB K4.lt
            replace K10 := K10.below hB K10.lt
            have K13 := Blk.new W11 #[.slice none 0 0, .slice none 0 0] 29
            refine hK.out _ _ (fun _ _ => M0.four) ?_
            clear hK K hB
            generalize W11.alloc (.cells #[.slice none 0 0, .slice none 0 0] 29) = W17 at *
            try simp only [Act.put, pu1, pu2, pu3, pu4, pu5, pu6]
            refine WalkT.ready (rs := [5]) (by kernel_rfl) (by simp) ?_
            refine AllT.cons rfl (fun K hK => ?_) ?_
            · go_simp
              have hW := M0.be.size
              refine (concat_splt _ _ _ _ l l' _ K4 (by exact M0.a1) (by exact M0.a3) (by omega)).mono ?_
              rintro e W18 ⟨v5, rfl, o5, hB⟩
              obtain ⟨s5, c5, hv5⟩ := own_sliceH o5
              subst hv5
              replace M0 := M0.below hB
              replace K4 := K4.below hB K4.lt
              replace K10 := K10.below hB K10.lt
              replace K13 := K13.below hB K13.lt
              have O5 := own_baseH o5 hW
              refine hK.out _ _ (fun _ _ => M0.four) ?_
              clear hK K hB
              try simp only [Act.put, pu1, pu2, pu3, pu4, pu5, pu6]
              refine WalkT.ready (rs := [11]) (by kernel_rfl) (by simp) ?_
              refine AllT.cons rfl (fun K hK => ?_) ?_
              · go_simp
                have hW := M0.be.size
                refine (concat_drp _ _ _ _ d d' _ K10 (by exact M0.a2) (by exact M0.a4) (by omega)).mono ?_
                rintro e W19 ⟨v11, rfl, o11, hB⟩
                obtain ⟨s11, c11, hv11⟩ := own_sliceH o11
                subst hv11
                replace M0 := M0.below hB
                replace K4 := K4.below hB K4.lt
                replace K10 := K10.below hB K10.lt
                replace K13 := K13.below hB K13.lt
                replace O5 := own_below O5 hB
                have O11 := own_baseH o11 hW
                refine hK.out _ _ (fun _ _ => M0.four) ?_
                clear hK K hB
                try simp only [Act.put, pu1, pu2, pu3, pu4, pu5, pu6]
                (refine WalkT.quiet (i := 12) (v := ?_) rfl (by kernel_rfl) (by kernel_rfl) (by kernel_rfl) (fun _ _ _ h => h) (Or.inl ⟨by rfl, ?_⟩) ?_; rotate_left; (· (intro wS hSw; (try dsimp only at hSw); go_simp; try with_reducible rfl)); try simp only [Act.put, pu1, pu2, pu3, pu4, pu5, pu6])
                (have ne1 := own_neM O5 K13 (by decide); have ne2 := own_neM O11 K13 (by decide); have nr1 := own_neM O5 M0.br (by decide); have nr2 := own_neM O11 M0.br (by decide); have R1 := row_cat Splt.cells_len O5; have R2 := row_cat Drp.cells_len O11; have k0 := K13.cell 0 _ rfl; have k1 := K13.cell 1 _ rfl; have kf := fun o => K13.free o; have MM := MerMid.mk M0.be M0.br K13 R1 R2 ⟨ne1, nr1⟩ ⟨ne2, nr2⟩ (own_apart O5 O11 (by decide)) hb13; clear O5 O11 M0 K13 R1 R2 ne1 ne2 nr1 nr2; (refine WalkT.ready (rs := [14]) (by kernel_rfl) (by simp) (AllT.cons rfl (fun K hK => ?_) AllT.nil); go_simp); (refine hK.out _ _ (fun h => absurd h (by decide)) ?_; clear hK K; try simp only [Act.put, pu1, pu2, pu3, pu4, pu5, pu6]); refine WalkT.done (by kernel_rfl) ?_; have HMM := Lib.hid ((MM.put1 (.slice s5 (l.length + l'.length) c5)).put2 (.slice s11 (d.length + d'.length) c11)); clear MM k0 k1 kf; go_wp2; go_meet; exact ⟨_, _, _, _, _, rfl, HMM.out⟩)
              exact AllT.nil
            exact AllT.nil
          exact AllT.nil
        refine AllT.cons rfl (fun K hK => ?_) ?_
        · go_simp
          have hb13 := M0.br.lt
          have hB : Below W1.heap.size W1 (W1.alloc (.cells #[.slice none 0 0, .slice none 0 0] 29)) := below_alloc (Below.refl _ _) _ (Nat.le_refl _)
          replace M0 := M0.below hB
          replace K4 := K4.below hB K4.lt
          have K13 := Blk.new W1 #[.slice none 0 0, .slice none 0 0] 29
          refine hK.out _ _ (fun _ _ => M0.four) ?_
          clear hK K hB
          generalize W1.alloc (.cells #[.slice none 0 0, .slice none 0 0] 29) = W20 at *
          try simp only [Act.put, pu1, pu2, pu3, pu4, pu5, pu6]
          refine WalkT.ready (rs := [5, 10]) (by kernel_rfl) (by simp) ?_
          refine AllT.cons rfl (fun K hK => ?_) ?_
          · go_simp
            have hW := M0.be.size
            refine (concat_splt _ _ _ _ l l' _ K4 (by exact M0.a1) (by exact M0.a3) (by omega)).mono ?_
            rintro e W21 ⟨v5, rfl, o5, hB⟩
            obtain ⟨s5, c5, hv5⟩ := own_sliceH o5
            subst hv5
            replace M0 := M0.below hB
            replace K4 := K4.below hB K4.lt
            replace K13 := K13.below hB K13.lt
            have O5 := own_baseH o5 hW
            refine hK.out _ _ (fun _ _ => M0.four) ?_
            clear hK K hB
            try simp only [Act.put, pu1, pu2, pu3, pu4, pu5, pu6]
            refine WalkT.ready (rs := [10]) (by kernel_rfl) (by simp) ?_
            refine AllT.cons rfl (fun K hK => ?_) ?_
            · go_simp
              have hB : Below W21.heap.size W21 (W21.alloc (.cells #[.slice a2 d.length cap2, .slice a4 d'.length cap4] 27)) := below_alloc (Below.refl _ _) _ (Nat.le_refl _)
              replace M0 := M0.below hB
              replace K4 := K4.below hB K4.lt
              replace K13 := K13.below hB K13.lt
              replace O5 := own_below O5 hB
              have K10 := Blk.new W21 #[.slice a2 d.length cap2, .slice a4 d'.length cap4] 27
              refine hK.out _ _ (fun _ _ => M0.four) ?_
              clear hK K hB
              generalize W21.alloc (.cells #[.slice a2 d.length cap2, .slice a4 d'.length cap4] 27) = W22 at *
              try simp only [Act.put, pu1, pu2, pu3, pu4, pu5, pu6]
              refine WalkT.ready (rs := [11]) (by kernel_rfl) (by simp) ?_
              refine AllT.cons rfl (fun K hK => ?_) ?_
              · go_simp
                have hW := M0.be.size
                refine (concat_drp _ _ _ _ d d' _ K10 (by exact M0.a2) (by exact M0.a4) (by omega)).mono ?_
                rintro e W23 ⟨v11, rfl, o11, hB⟩
                obtain ⟨s11, c11, hv11⟩ := own_sliceH o11
                subst hv11
                replace M0 := M0.below hB
                replace K4 := K4.below hB K4.lt
                replace K13 := K13.below hB K13.lt
                replace O5 := own_below O5 hB
                replace K10 := K10.below hB K10.lt
                have O11 := own_baseH o11 hW
                refine hK.out _ _ (fun _ _ => M0.four) ?_
                clear hK K hB
                try simp only [Act.put, pu1, pu2, pu3, pu4, pu5, pu6]
                (refine WalkT.quiet (i := 12) (v := ?_) rfl (by kernel_rfl) (by kernel_rfl) (by kernel_rfl) (fun _ _ _ h => h) (Or.inl ⟨by rfl, ?_⟩) ?_; rotate_left; (· (intro wS hSw; (try dsimp only at hSw); go_simp; try with_reducible rfl)); try simp only [Act.put, pu1, pu2, pu3, pu4, pu5, pu6])
                (have ne1 := own_neM O5 K13 (by decide); have ne2 := own_neM O11 K13 (by decide); have nr1 := own_neM O5 M0.br (by decide); have nr2 := own_neM O11 M0.br (by decide); have R1 := row_cat Splt.cells_len O5; have R2 := row_cat Drp.cells_len O11; have k0 := K13.cell 0 _ rfl; have k1 := K13.cell 1 _ rfl; have kf := fun o => K13.free o; have MM := MerMid.mk M0.be M0.br K13 R1 R2 ⟨ne1, nr1⟩ ⟨ne2, nr2⟩ (own_apart O5 O11 (by decide)) hb13; clear O5 O11 M0 K13 R1 R2 ne1 ne2 nr1 nr2; (refine WalkT.ready (rs := [14]) (by kernel_rfl) (by simp) (AllT.cons rfl (fun K hK => ?_) AllT.nil); go_simp); (refine hK.out _ _ (fun h => absurd h (by decide)) ?_; clear hK K; try simp only [Act.put, pu1, pu2, pu3, pu4, pu5, pu6]); refine WalkT.done (by kernel_rfl) ?_; have HMM := Lib.hid ((MM.put1 (.slice s5 (l.length + l'.length) c5)).put2 (.slice s11 (d.length + d'.length) c11)); clear MM k0 k1 kf; go_wp2; go_meet; exact ⟨_, _, _, _, _, rfl, HMM.out⟩)
              exact AllT.nil
            exact AllT.nil
          refine AllT.cons rfl (fun K hK => ?_) ?_
          · go_simp
            have hB : Below W20.heap.size W20 (W20.alloc (.cells #[.slice a2 d.length cap2, .slice a4 d'.length cap4] 27)) := below_alloc (Below.refl _ _) _ (Nat.le_refl _)
            replace M0 := M0.below hB
            replace K4 := K4.below hB K4.lt
            replace K13 := K13.below hB K13.lt
            have K10 := Blk.new W20 #[.slice a2 d.length cap2, .slice a4 d'.length cap4] 27
            refine hK.out _ _ (fun _ _ => M0.four) ?_
            clear hK K hB
            generalize W20.alloc (.cells #[.slice a2 d.length cap2, .slice a4 d'.length cap4] 27) = W24 at *
            try simp only [Act.put, pu1, pu2, pu3, pu4, pu5, pu6]
            refine WalkT.ready (rs := [5]) (by kernel_rfl) (by simp) ?_
            refine AllT.cons rfl (fun K hK => ?_) ?_
            · go_simp
              have hW := M0.be.size
              refine (concat_splt _ _ _ _ l l' _ K4 (by exact M0.a1) (by exact M0.a3) (by omega)).mono ?_
              rintro e W25 ⟨v5, rfl, o5, hB⟩
              obtain ⟨s5, c5, hv5⟩ := own_sliceH o5
              subst hv5
              replace M0 := M0.below hB
              replace K4 := K4.below hB K4.lt
              replace K13 := K13.below hB K13.lt
              replace K10 := K10.below hB K10.lt
              have O5 := own_baseH o5 hW
              refine hK.out _ _ (fun _ _ => M0.four) ?_
              clear hK K hB
              try simp only [Act.put, pu1, pu2, pu3, pu4, pu5, pu6]
              refine WalkT.ready (rs := [11]) (by kernel_rfl) (by simp) ?_
              refine AllT.cons rfl (fun K hK => ?_) ?_
              · go_simp
                have hW := M0.be.size
                refine (concat_drp _ _ _ _ d d' _ K10 (by exact M0.a2) (by exact M0.a4) (by omega)).mono ?_
                rintro e W26 ⟨v11, rfl, o11, hB⟩
                obtain ⟨s11, c11, hv11⟩ := own_sliceH o11
                subst hv11
                replace M0 := M0.below hB
                replace K4 := K4.below hB K4.lt
                replace K13 := K13.below hB K13.lt
                replace K10 := K10.below hB K10.lt
                replace O5 := own_below O5 hB
                have O11 := own_baseH o11 hW
                refine hK.out _ _ (fun _ _ => M0.four) ?_
                clear hK K hB
                try simp only [Act.put, pu1, pu2, pu3, pu4, pu5, pu6]
                (refine WalkT.quiet (i := 12) (v := ?_) rfl (by kernel_rfl) (by kernel_rfl) (by kernel_rfl) (fun _ _ _ h => h) (Or.inl ⟨by rfl, ?_⟩) ?_; rotate_left; (· (intro wS hSw; (try dsimp only at hSw); go_simp; try with_reducible rfl)); try simp only [Act.put, pu1, pu2, pu3, pu4, pu5, pu6])
                (have ne1 := own_neM O5 K13 (by decide); have ne2 := own_neM O11 K13 (by decide); have nr1 := own_neM O5 M0.br (by decide); have nr2 := own_neM O11 M0.br (by decide); have R1 := row_cat Splt.cells_len O5; have R2 := row_cat Drp.cells_len O11; have k0 := K13.cell 0 _ rfl; have k1 := K13.cell 1 _ rfl; have kf := fun o => K13.free o; have MM := MerMid.mk M0.be M0.br K13 R1 R2 ⟨ne1, nr1⟩ ⟨ne2, nr2⟩ (own_apart O5 O11 (by decide)) hb13; clear O5 O11 M0 K13 R1 R2 ne1 ne2 nr1 nr2; (refine WalkT.ready (rs := [14]) (by kernel_rfl) (by simp) (AllT.cons rfl (fun K hK => ?_) AllT.nil); go_simp); (refine hK.out _ _ (fun h => absurd h (by decide)) ?_; clear hK K; try simp only [Act.put, pu1, pu2, pu3, pu4, pu5, pu6]); refine WalkT.done (by kernel_rfl) ?_; have HMM := Lib.hid ((MM.put1 (.slice s5 (l.length + l'.length) c5)).put2 (.slice s11 (d.length + d'.length) c11)); clear MM k0 k1 kf; go_wp2; go_meet; exact ⟨_, _, _, _, _, rfl, HMM.out⟩)
              exact AllT.nil
            exact AllT.nil
          exact AllT.nil
        exact AllT.nil
      refine AllT.cons rfl (fun K hK => ?_) ?_
      · go_simp
        have hB : Below W0.heap.size W0 (W0.alloc (.cells #[.slice a2 d.length cap2, .slice a4 d'.length cap4] 27)) := below_alloc (Below.refl _ _) _ (Nat.le_refl _)
        replace M0 := M0.below hB
        have K10 := Blk.new W0 #[.slice a2 d.length cap2, .slice a4 d'.length cap4] 27
        refine hK.out _ _ (fun _ _ => M0.four) ?_
        clear hK K hB
        generalize W0.alloc (.cells #[.slice a2 d.length cap2, .slice a4 d'.length cap4] 27) = W27 at *
        try simp only [Act.put, pu1, pu2, pu3, pu4, pu5, pu6]
        refine WalkT.ready (rs := [4, 13]) (by kernel_rfl) (by simp) ?_
        refine AllT.cons rfl (fun K hK => ?_) ?_
        · go_simp
          have hB : Below W27.heap.size W27 (W27.alloc (.cells #[.slice a1 l.length cap1, .slice a3 l'.length cap3] 26)) := below_alloc (Below.refl _ _) _ (Nat.le_refl _)
          replace M0 := M0.below hB
          replace K10 := K10.below hB K10.lt
          have K4 := Blk.new W27 #[.slice a1 l.length cap1, .slice a3 l'.length cap3] 26
          refine hK.out _ _ (fun _ _ => M0.four) ?_
          clear hK K hB
          generalize W27.alloc (.cells #[.slice a1 l.length cap1, .slice a3 l'.length cap3] 26) = W28 at *
          try simp only [Act.put, pu1, pu2, pu3, pu4, pu5, pu6]
          refine WalkT.ready (rs := [5, 13]) (by kernel_rfl) (by simp) ?_
          refine AllT.cons rfl (fun K hK => ?_) ?_
          · go_simp
            have hW := M0.be.size
            refine (concat_splt _ _ _ _ l l' _ K4 (by exact M0.a1) (by exact M0.a3) (by omega)).mono ?_
            rintro e W29 ⟨v5, rfl, o5, hB⟩
            obtain ⟨s5, c5, hv5⟩ := own_sliceH o5
            subst hv5
            replace M0 := M0.below hB
            replace K10 := K10.below hB K10.lt
            replace K4 := K4.below hB K4.lt
            have O5 := own_baseH o5 hW
            refine hK.out _ _ (fun _ _ => M0.four) ?_
            clear hK K hB
            try simp only [Act.put, pu1, pu2, pu3, pu4, pu5, pu6]
            refine WalkT.ready (rs := [11, 13]) (by kernel_rfl) (by simp) ?_
            refine AllT.cons rfl (fun K hK => ?_) ?_
            · go_simp
              have hW := M0.be.size
              refine (concat_drp _ _ _ _ d d' _ K10 (by exact M0.a2) (by exact M0.a4) (by omega)).mono ?_
              rintro e W30 ⟨v11, rfl, o11, hB⟩
              obtain ⟨s11, c11, hv11⟩ := own_sliceH o11
              subst hv11
              replace M0 := M0.below hB
              replace K10 := K10.below hB K10.lt
              replace K4 := K4.below hB K4.lt
              replace O5 := own_below O5 hB
              have O11 := own_baseH o11 hW
              refine hK.out _ _ (fun _ _ => M0.four) ?_
              clear hK K hB
              try simp only [Act.put, pu1, pu2, pu3, pu4, pu5, pu6]
              (refine WalkT.quiet (i := 12) (v := ?_) rfl (by kernel_rfl) (by kernel_rfl) (by kernel_rfl) (fun _ _ _ h => h) (Or.inl ⟨by rfl, ?_⟩) ?_; rotate_left; (· (intro wS hSw; (try dsimp only at hSw); go_simp; try with_reducible rfl)); try simp only [Act.put, pu1, pu2, pu3, pu4, pu5, pu6])
              refine WalkT.ready (rs := [13]) (by kernel_rfl) (by simp) ?_
              refine AllT.cons rfl (fun K hK => ?_) ?_
              · go_simp
                have hb13 := M0.br.lt
                have hB : Below W30.heap.size W30 (W30.alloc (.cells #[.slice none 0 0, .slice none 0 0] 29)) := below_alloc (Below.refl _ _) _ (Nat.le_refl _)
                replace M0 := M0.below hB
                replace K10 := K10.below hB K10.lt
                replace K4 := K4.below hB K4.lt
                replace O5 := own_below O5 hB
                replace O11 := own_below O11 hB
                have K13 := Blk.new W30 #[.slice none 0 0, .slice none 0 0] 29
                refine hK.out _ _ (fun _ _ => M0.four) ?_
                clear hK K hB
                generalize W30.alloc (.cells #[.slice none 0 0, .slice none 0 0] 29) = W31 at *
                try simp only [Act.put, pu1, pu2, pu3, pu4, pu5, pu6]
                (have ne1 := own_neM O5 K13 (by decide); have ne2 := own_neM O11 K13 (by decide); have nr1 := own_neM O5 M0.br (by decide); have nr2 := own_neM O11 M0.br (by decide); have R1 := row_cat Splt.cells_len O5; have R2 := row_cat Drp.cells_len O11; have k0 := K13.cell 0 _ rfl; have k1 := K13.cell 1 _ rfl; have kf := fun o => K13.free o; have MM := MerMid.mk M0.be M0.br K13 R1 R2 ⟨ne1, nr1⟩ ⟨ne2, nr2⟩ (own_apart O5 O11 (by decide)) hb13; clear O5 O11 M0 K13 R1 R2 ne1 ne2 nr1 nr2; (refine WalkT.ready (rs := [14]) (by kernel_rfl) (by simp) (AllT.cons rfl (fun K hK => ?_) AllT.nil); go_simp); (refine hK.out _ _ (fun h => absurd h (by decide)) ?_; clear hK K; try simp only [Act.put, pu1, pu2, pu3, pu4, pu5, pu6]); refine WalkT.done (by kernel_rfl) ?_; have HMM := Lib.hid ((MM.put1 (.slice s5 (l.length + l'.length) c5)).put2 (.slice s11 (d.length + d'.length) c11)); clear MM k0 k1 kf; go_wp2; go_meet; exact ⟨_, _, _, _, _, rfl, HMM.out⟩)
              exact AllT.nil
            refine AllT.cons rfl (fun K hK => ?_) ?_
            · go_simp
              have hb13 := M0.br.lt
              have hB : Below W29.heap.size W29 (W29.alloc (.cells #[.slice none 0 0, .slice none 0 0] 29)) := below_alloc (Below.refl _ _) _ (Nat.le_refl _)
              replace M0 := M0.below hB
              replace K10 := K10.below hB K10.lt
              replace K4 := K4.below hB K4.lt
              replace O5 := own_below O5 hB
              have K13 := Blk.new W29 #[.slice none 0 0, .slice none 0 0] 29
              refine hK.out _ _ (fun _ _ => M0.four) ?_
              clear hK K hB
              generalize W29.alloc (.cells #[.slice none 0 0, .slice none 0 0] 29) = W32 at *
              try simp only [Act.put, pu1, pu2, pu3, pu4, pu5, pu6]
              refine WalkT.ready (rs := [11]) (by kernel_rfl) (by simp) ?_
              refine AllT.cons rfl (fun K hK => ?_) ?_
              · go_simp
                have hW := M0.be.size
                refine (concat_drp _ _ _ _ d d' _ K10 (by exact M0.a2) (by exact M0.a4) (by omega)).mono ?_
                rintro e W33 ⟨v11, rfl, o11, hB⟩
                obtain ⟨s11, c11, hv11⟩ := own_sliceH o11
                subst hv11
                replace M0 := M0.below hB
                replace K10 := K10.below hB K10.lt
                replace K4 := K4.below hB K4.lt
                replace O5 := own_below O5 hB
                replace K13 := K13.below hB K13.lt
                have O11 := own_baseH o11 hW
                refine hK.out _ _ (fun _ _ => M0.four) ?_
                clear hK K hB
                try simp only [Act.put, pu1, pu2, pu3, pu4, pu5, pu6]
                (refine WalkT.quiet (i := 12) (v := ?_) rfl (by kernel_rfl) (by kernel_rfl) (by kernel_rfl) (fun _ _ _ h => h) (Or.inl ⟨by rfl, ?_⟩) ?_; rotate_left; (· (intro wS hSw; (try dsimp only at hSw); go_simp; try with_reducible rfl)); try simp only [Act.put, pu1, pu2, pu3, pu4, pu5, pu6])
                (have ne1 := own_neM O5 K13 (by decide); have ne2 := own_neM O11 K13 (by decide); have nr1 := own_neM O5 M0.br (by decide); have nr2 := own_neM O11 M0.br (by decide); have R1 := row_cat Splt.cells_len O5; have R2 := row_cat Drp.cells_len O11; have k0 := K13.cell 0 _ rfl; have k1 := K13.cell 1 _ rfl; have kf := fun o => K13.free o; have MM := MerMid.mk M0.be M0.br K13 R1 R2 ⟨ne1, nr1⟩ ⟨ne2, nr2⟩ (own_apart O5 O11 (by decide)) hb13; clear O5 O11 M0 K13 R1 R2 ne1 ne2 nr1 nr2; (refine WalkT.ready (rs := [14]) (by kernel_rfl) (by simp) (AllT.cons rfl (fun K hK => ?_) AllT.nil); go_simp); (refine hK.out _ _ (fun h => absurd h (by decide)) ?_; clear hK K; try simp only [Act.put, pu1, pu2, pu3, pu4, pu5, pu6]); refine WalkT.done (by kernel_rfl) ?_; have HMM := Lib.hid ((MM.put1 (.slice s5 (l.length + l'.length) c5)).put2 (.slice s11 (d.length + d'.length) c11)); clear MM k0 k1 kf; go_wp2; go_meet; exact ⟨_, _, _, _, _, rfl, HMM.out⟩)
              exact AllT.nil
            exact AllT.nil
          refine AllT.cons rfl (fun K hK => ?_) ?_
          · go_simp
            have hb13 := M0.br.lt
            have hB : Below W28.heap.size W28 (W28.alloc (.cells #[.slice none 0 0, .slice none 0 0] 29)) := below_alloc (Below.refl _ _) _ (Nat.le_refl _)
            replace M0 := M0.below hB
            replace K10 := K10.below hB K10.lt
            replace K4 := K4.below hB K4.lt
            have K13 := Blk.new W28 #[.slice none 0 0, .slice none 0 0] 29
            refine hK.out _ _ (fun _ _ => M0.four) ?_
            clear hK K hB
            generalize W28.alloc (.cells #[.slice none 0 0, .slice none 0 0] 29) = W34 at *
            try simp only [Act.put, pu1, pu2, pu3, pu4, pu5, pu6]
            refine WalkT.ready (rs := [5]) (by kernel_rfl) (by simp) ?_
            refine AllT.cons rfl (fun K hK => ?_) ?_
            · go_simp
              have hW := M0.be.size
              refine (concat_splt _ _ _ _ l l' _ K4 (by exact M0.a1) (by exact M0.a3) (by omega)).mono ?_
              rintro e W35 ⟨v5, rfl, o5, hB⟩
              obtain ⟨s5, c5, hv5⟩ := own_sliceH o5
              subst hv5
              replace M0 := M0.below hB
              replace K10 := K10.below hB K10.lt
              replace K4 := K4.below hB K4.lt
              replace K13 := K13.below hB K13.lt
              have O5 := own_baseH o5 hW
              refine hK.out _ _ (fun _ _ => M0.four) ?_
              clear hK K hB
              try simp only [Act.put, pu1, pu2, pu3, pu4, pu5, pu6]
              refine WalkT.ready (rs := [11]) (by kernel_rfl) (by simp) ?_
              refine AllT.cons rfl (fun K hK => ?_) ?_
              · go_simp
                have hW := M0.be.size
                refine (concat_drp _ _ _ _ d d' _ K10 (by exact M0.a2) (by exact M0.a4) (by omega)).mono ?_
                rintro e W36 ⟨v11, rfl, o11, hB⟩
                obtain ⟨s11, c11, hv11⟩ := own_sliceH o11
                subst hv11
                replace M0 := M0.below hB
                replace K10 := K10.below hB K10.lt
                replace K4 := K4.below hB K4.lt
                replace K13 := K13.below hB K13.lt
                replace O5 := own_below O5 hB
                have O11 := own_baseH o11 hW
                refine hK.out _ _ (fun _ _ => M0.four) ?_
                clear hK K hB
                try simp only [Act.put, pu1, pu2, pu3, pu4, pu5, pu6]
                (refine WalkT.quiet (i := 12) (v := ?_) rfl (by kernel_rfl) (by kernel_rfl) (by kernel_rfl) (fun _ _ _ h => h) (Or.inl ⟨by rfl, ?_⟩) ?_; rotate_left; (· (intro wS hSw; (try dsimp only at hSw); go_simp; try with_reducible rfl)); try simp only [Act.put, pu1, pu2, pu3, pu4, pu5, pu6])
                (have ne1 := own_neM O5 K13 (by decide); have ne2 := own_neM O11 K13 (by decide); have nr1 := own_neM O5 M0.br (by decide); have nr2 := own_neM O11 M0.br (by decide); have R1 := row_cat Splt.cells_len O5; have R2 := row_cat Drp.cells_len O11; have k0 := K13.cell 0 _ rfl; have k1 := K13.cell 1 _ rfl; have kf := fun o => K13.free o; have MM := MerMid.mk M0.be M0.br K13 R1 R2 ⟨ne1, nr1⟩ ⟨ne2, nr2⟩ (own_apart O5 O11 (by decide)) hb13; clear O5 O11 M0 K13 R1 R2 ne1 ne2 nr1 nr2; (refine WalkT.ready (rs := [14]) (by kernel_rfl) (by simp) (AllT.cons rfl (fun K hK => ?_) AllT.nil); go_simp); (refine hK.out _ _ (fun h => absurd h (by decide)) ?_; clear hK K; try simp only [Act.put, pu1, pu2, pu3, pu4, pu5, pu6]); refine WalkT.done (by kernel_rfl) ?_; have HMM := Lib.hid ((MM.put1 (.slice s5 (l.length + l'.length) c5)).put2 (.slice s11 (d.length + d'.length) c11)); clear MM k0 k1 kf; go_wp2; go_meet; exact ⟨_, _, _, _, _, rfl, HMM.out⟩)
              exact AllT.nil
            exact AllT.nil
          exact AllT.nil
        refine AllT.cons rfl (fun K hK => ?_) ?_
        · go_simp
          have hb13 := M0.br.lt
          have hB : Below W27.heap.size W27 (W27.alloc (.cells #[.slice none 0 0, .slice none 0 0] 29)) := below_alloc (Below.refl _ _) _ (Nat.le_refl _)
          replace M0 := M0.below hB
          replace K10 := K10.below hB K10.lt
          have K13 := Blk.new W27 #[.slice none 0 0, .slice none 0 0] 29
          refine hK.out _ _ (fun _ _ => M0.four) ?_
          clear hK K hB
          generalize W27.alloc (.cells #[.slice none 0 0, .slice none 0 0] 29) = W37 at *
          try simp only [Act.put, pu1, pu2, pu3, pu4, pu5, pu6]
          refine WalkT.ready (rs := [4]) (by kernel_rfl) (by simp) ?_
          refine AllT.cons rfl (fun K hK => ?_) ?_
          · go_simp
            have hB : Below W37.heap.size W37 (W37.alloc (.cells #[.slice a1 l.length cap1, .slice a3 l'.length cap3] 26)) := below_alloc (Below.refl _ _) _ (Nat.le_refl _)
            replace M0 := M0.below hB
            replace K10 := K10.below hB K10.lt
            replace K13 := K13.below hB K13.lt
            have K4 := Blk.new W37 #[.slice a1 l.length cap1, .slice a3 l'.length cap3] 26
            refine hK.out _ _ (fun _ _ => M0.four) ?_
            clear hK K hB
            generalize W37.alloc (.cells #[.slice a1 l.length cap1, .slice a3 l'.length cap3] 26) = W38 at *
            try simp only [Act.put, pu1, pu2, pu3, pu4, pu5, pu6]
            refine WalkT.ready (rs := [5]) (by kernel_rfl) (by simp) ?_
            refine AllT.cons rfl (fun K hK => ?_) ?_
            · go_simp
              have hW := M0.be.size
              refine (concat_splt _ _ _ _ l l' _ K4 (by exact M0.a1) (by exact M0.a3) (by omega)).mono ?_
              rintro e W39 ⟨v5, rfl, o5, hB⟩
              obtain ⟨s5, c5, hv5⟩ := own_sliceH o5
              subst hv5
              replace M0 := M0.below hB
              replace K10 := K10.below hB K10.lt
              replace K13 := K13.below hB K13.lt
              replace K4 := K4.below hB K4.lt
              have O5 := own_baseH o5 hW
              refine hK.out _ _ (fun _ _ => M0.four) ?_
              clear hK K hB
              try simp only [Act.put, pu1, pu2, pu3, pu4, pu5, pu6]
              refine WalkT.ready (rs := [11]) (by kernel_rfl) (by simp) ?_
              refine AllT.cons rfl (fun K hK => ?_) ?_
              · go_simp
                have hW := M0.be.size
                refine (concat_drp _ _ _ _ d d' _ K10 (by exact M0.a2) (by exact M0.a4) (by omega)).mono ?_
                rintro e W40 ⟨v11, rfl, o11, hB⟩
                obtain ⟨s11, c11, hv11⟩ := own_sliceH o11
                subst hv11
                replace M0 := M0.below hB
                replace K10 := K10.below hB K10.lt
                replace K13 := K13.below hB K13.lt
                replace K4 := K4.below hB K4.lt
                replace O5 := own_below O5 hB
                have O11 := own_baseH o11 hW
                refine hK.out _ _ (fun _ _ => M0.four) ?_
                clear hK K hB
                try simp only [Act.put, pu1, pu2, pu3, pu4, pu5, pu6]
                (refine WalkT.quiet (i := 12) (v := ?_) rfl (by kernel_rfl) (by kernel_rfl) (by kernel_rfl) (fun _ _ _ h => h) (Or.inl ⟨by rfl, ?_⟩) ?_; rotate_left; (· (intro wS hSw; (try dsimp only at hSw); go_simp; try with_reducible rfl)); try simp only [Act.put, pu1, pu2, pu3, pu4, pu5, pu6])
                (have ne1 := own_neM O5 K13 (by decide); have ne2 := own_neM O11 K13 (by decide); have nr1 := own_neM O5 M0.br (by decide); have nr2 := own_neM O11 M0.br (by decide); have R1 := row_cat Splt.cells_len O5; have R2 := row_cat Drp.cells_len O11; have k0 := K13.cell 0 _ rfl; have k1 := K13.cell 1 _ rfl; have kf := fun o => K13.free o; have MM := MerMid.mk M0.be M0.br K13 R1 R2 ⟨ne1, nr1⟩ ⟨ne2, nr2⟩ (own_apart O5 O11 (by decide)) hb13; clear O5 O11 M0 K13 R1 R2 ne1 ne2 nr1 nr2; (refine WalkT.ready (rs := [14]) (by kernel_rfl) (by simp) (AllT.cons rfl (fun K hK => ?_) AllT.nil); go_simp); (refine hK.out _ _ (fun h => absurd h (by decide)) ?_; clear hK K; try simp only [Act.put, pu1, pu2, pu3, pu4, pu5, pu6]); refine WalkT.done (by kernel_rfl) ?_; have HMM := Lib.hid ((MM.put1 (.slice s5 (l.length + l'.length) c5)).put2 (.slice s11 (d.length + d'.length) c11)); clear MM k0 k1 kf; go_wp2; go_meet; exact ⟨_, _, _, _, _, rfl, HMM.out⟩)
              exact AllT.nil
            exact AllT.nil
          exact AllT.nil
        exact AllT.nil
      refine AllT.cons rfl (fun K hK => ?_) ?_
      · go_simp
        have hb13 := M0.br.lt
        have hB : Below W0.heap.size W0 (W0.alloc (.cells #[.slice none 0 0, .slice none 0 0] 29)) := below_alloc (Below.refl _ _) _ (Nat.le_refl _)
        replace M0 := M0.below hB
        have K13 := Blk.new W0 #[.slice none 0 0, .slice none 0 0] 29
        refine hK.out _ _ (fun _ _ => M0.four) ?_
        clear hK K hB
        generalize W0.alloc (.cells #[.slice none 0 0, .slice none 0 0] 29) = W41 at *
        try simp only [Act.put, pu1, pu2, pu3, pu4, pu5, pu6]
        refine WalkT.ready (rs := [4, 10]) (by kernel_rfl) (by simp) ?_
        refine AllT.cons rfl (fun K hK => ?_) ?_
        · go_simp
          have hB : Below W41.heap.size W41 (W41.alloc (.cells #[.slice a1 l.length cap1, .slice a3 l'.length cap3] 26)) := below_alloc (Below.refl _ _) _ (Nat.le_refl _)
          replace M0 := M0.below hB
          replace K13 := K13.below hB K13.lt
          have K4 := Blk.new W41 #[.slice a1 l.length cap1, .slice a3 l'.length cap3] 26
          refine hK.out _ _ (fun _ _ => M0.four) ?_
          clear hK K hB
          generalize W41.alloc (.cells #[.slice a1 l.length cap1, .slice a3 l'.length cap3] 26) = W42 at *
          try simp only [Act.put, pu1, pu2, pu3, pu4, pu5, pu6]
          refine WalkT.ready (rs := [5, 10]) (by kernel_rfl) (by simp) ?_
          refine AllT.cons rfl (fun K hK => ?_) ?_
          · go_simp
            have hW := M0.be.size
            refine (concat_splt _ _ _ _ l l' _ K4 (by exact M0.a1) (by exact M0.a3) (by omega)).mono ?_
            rintro e W43 ⟨v5, rfl, o5, hB⟩
            obtain ⟨s5, c5, hv5⟩ := own_sliceH o5
            subst hv5
            replace M0 := M0.below hB
            replace K13 := K13.below hB K13.lt
            replace K4 := K4.below hB K4.lt
            have O5 := own_baseH o5 hW
            refine hK.out _ _ (fun _ _ => M0.four) ?_
            clear hK K hB
            try simp only [Act.put, pu1, pu2, pu3, pu4, pu5, pu6]
            refine WalkT.ready (rs := [10]) (by kernel_rfl) (by simp) ?_
            refine AllT.cons rfl (fun K hK => ?_) ?_
            · go_simp
              have hB : Below W43.heap.size W43 (W43.alloc (.cells #[.slice a2 d.length cap2, .slice a4 d'.length cap4] 27)) := below_alloc (Below.refl _ _) _ (Nat.le_refl _)
              replace M0 := M0.below hB
              replace K13 := K13.below hB K13.lt
              replace K4 := K4.below hB K4.lt
              replace O5 := own_below O5 hB
              have K10 := Blk.new W43 #[.slice a2 d.length cap2, .slice a4 d'.length cap4] 27
              refine hK.out _ _ (fun _ _ => M0.four) ?_
              clear hK K hB
              generalize W43.alloc (.cells #[.slice a2 d.length cap2, .slice a4 d'.length cap4] 27) = W44 at *
              try simp only [Act.put, pu1, pu2, pu3, pu4, pu5, pu6]
              refine WalkT.ready (rs := [11]) (by kernel_rfl) (by simp) ?_
              refine AllT.cons rfl (fun K hK => ?_) ?_
              · go_simp
                have hW := M0.be.size
                refine (concat_drp _ _ _ _ d d' _ K10 (by exact M0.a2) (by exact M0.a4) (by omega)).mono ?_
                rintro e W45 ⟨v11, rfl, o11, hB⟩
                obtain ⟨s11, c11, hv11⟩ := own_sliceH o11
                subst hv11
                replace M0 := M0.below hB
                replace K13 := K13.below hB K13.lt
                replace K4 := K4.below hB K4.lt
                replace O5 := own_below O5 hB
                replace K10 := K10.below hB K10.lt
                have O11 := own_baseH o11 hW
                refine hK.out _ _ (fun _ _ => M0.four) ?_
                clear hK K hB
                try simp only [Act.put, pu1, pu2, pu3, pu4, pu5, pu6]
                (refine WalkT.quiet (i := 12) (v := ?_) rfl (by kernel_rfl) (by kernel_rfl) (by kernel_rfl) (fun _ _ _ h => h) (Or.inl ⟨by rfl, ?_⟩) ?_; rotate_left; (· (intro wS hSw; (try dsimp only at hSw); go_simp; try with_reducible rfl)); try simp only [Act.put, pu1, pu2, pu3, pu4, pu5, pu6])
                (have ne1 := own_neM O5 K13 (by decide); have ne2 := own_neM O11 K13 (by decide); have nr1 := own_neM O5 M0.br (by decide); have nr2 := own_neM O11 M0.br (by decide); have R1 := row_cat Splt.cells_len O5; have R2 := row_cat Drp.cells_len O11; have k0 := K13.cell 0 _ rfl; have k1 := K13.cell 1 _ rfl; have kf := fun o => K13.free o; have MM := MerMid.mk M0.be M0.br K13 R1 R2 ⟨ne1, nr1⟩ ⟨ne2, nr2⟩ (own_apart O5 O11 (by decide)) hb13; clear O5 O11 M0 K13 R1 R2 ne1 ne2 nr1 nr2; (refine WalkT.ready (rs := [14]) (by kernel_rfl) (by simp) (AllT.cons rfl (fun K hK => ?_) AllT.nil); go_simp); (refine hK.out _ _ (fun h => absurd h (by decide)) ?_; clear hK K; try simp only [Act.put, pu1, pu2, pu3, pu4, pu5, pu6]); refine WalkT.done (by kernel_rfl) ?_; have HMM := Lib.hid ((MM.put1 (.slice s5 (l.length + l'.length) c5)).put2 (.slice s11 (d.length + d'.length) c11)); clear MM k0 k1 kf; go_wp2; go_meet; exact ⟨_, _, _, _, _, rfl, HMM.out⟩)
              exact AllT.nil
            exact AllT.nil
          refine AllT.cons rfl (fun K hK => ?_) ?_
          · go_simp
            have hB : Below W42.heap.size W42 (W42.alloc (.cells #[.slice a2 d.length cap2, .slice a4 d'.length cap4] 27)) := below_alloc (Below.refl _ _) _ (Nat.le_refl _)
            replace M0 := M0.below hB
            replace K13 := K13.below hB K13.lt
            replace K4 := K4.below hB K4.lt
            have K10 := Blk.new W42 #[.slice a2 d.length cap2, .slice a4 d'.length cap4] 27
            refine hK.out _ _ (fun _ _ => M0.four) ?_
            clear hK K hB
            generalize W42.alloc (.cells #[.slice a2 d.length cap2, .slice a4 d'.length cap4] 27) = W46 at *
            try simp only [Act.put, pu1, pu2, pu3, pu4, pu5, pu6]
            refine WalkT.ready (rs := [5]) (by kernel_rfl) (by simp) ?_
            refine AllT.cons rfl (fun K hK => ?_) ?_
            · go_simp
              have hW := M0.be.size
              refine (concat_splt _ _ _ _ l l' _ K4 (by exact M0.a1) (by exact M0.a3) (by omega)).mono ?_
              rintro e W47 ⟨v5, rfl, o5, hB⟩
              obtain ⟨s5, c5, hv5⟩ := own_sliceH o5
              subst hv5
              replace M0 := M0.below hB
              replace K13 := K13.below hB K13.lt
              replace K4 := K4.below hB K4.lt
              replace K10 := K10.below hB K10.lt
              have O5 := own_baseH o5 hW
              refine hK.out _ _ (fun _ _ => M0.four) ?_
              clear hK K hB
              try simp only [Act.put, pu1, pu2, pu3, pu4, pu5, pu6]
              refine WalkT.ready (rs := [11]) (by kernel_rfl) (by simp) ?_
              refine AllT.cons rfl (fun K hK => ?_) ?_
              · go_simp
                have hW := M0.be.size
                refine (concat_drp _ _ _ _ d d' _ K10 (by exact M0.a2) (by exact M0.a4) (by omega)).mono ?_
                rintro e W48 ⟨v11, rfl, o11, hB⟩
                obtain ⟨s11, c11, hv11⟩ := own_sliceH o11
                subst hv11
                replace M0 := M0.below hB
                replace K13 := K13.below hB K13.lt
                replace K4 := K4.below hB K4.lt
                replace K10 := K10.below hB K10.lt
                replace O5 := own_below O5 hB
                have O11 := own_baseH o11 hW
                refine hK.out _ _ (fun _ _ => M0.four) ?_
                clear hK K hB
                try simp only [Act.put, pu1, pu2, pu3, pu4, pu5, pu6]
                (refine WalkT.quiet (i := 12) (v := ?_) rfl (by kernel_rfl) (by kernel_rfl) (by kernel_rfl) (fun _ _ _ h => h) (Or.inl ⟨by rfl, ?_⟩) ?_; rotate_left; (· (intro wS hSw; (try dsimp only at hSw); go_simp; try with_reducible rfl)); try simp only [Act.put, pu1, pu2, pu3, pu4, pu5, pu6])
                (have ne1 := own_neM O5 K13 (by decide); have ne2 := own_neM O11 K13 (by decide); have nr1 := own_neM O5 M0.br (by decide); have nr2 := own_neM O11 M0.br (by decide); have R1 := row_cat Splt.cells_len O5; have R2 := row_cat Drp.cells_len O11; have k0 := K13.cell 0 _ rfl; have k1 := K13.cell 1 _ rfl; have kf := fun o => K13.free o; have MM := MerMid.mk M0.be M0.br K13 R1 R2 ⟨ne1, nr1⟩ ⟨ne2, nr2⟩ (own_apart O5 O11 (by decide)) hb13; clear O5 O11 M0 K13 R1 R2 ne1 ne2 nr1 nr2; (refine WalkT.ready (rs := [14]) (by kernel_rfl) (by simp) (AllT.cons rfl (fun K hK => ?_) AllT.nil); go_simp); (refine hK.out _ _ (fun h => absurd h (by decide)) ?_; clear hK K; try simp only [Act.put, pu1, pu2, pu3, pu4, pu5, pu6]); refine WalkT.done (by kernel_rfl) ?_; have HMM := Lib.hid ((MM.put1 (.slice s5 (l.length + l'.length) c5)).put2 (.slice s11 (d.length + d'.length) c11)); clear MM k0 k1 kf; go_wp2; go_meet; exact ⟨_, _, _, _, _, rfl, HMM.out⟩)
              exact AllT.nil
            exact AllT.nil
          exact AllT.nil
        refine AllT.cons rfl (fun K hK => ?_) ?_
        · go_simp
          have hB : Below W41.heap.size W41 (W41.alloc (.cells #[.slice a2 d.length cap2, .slice a4 d'.length cap4] 27)) := below_alloc (Below.refl _ _) _ (Nat.le_refl _)
          replace M0 := M0.below hB
          replace K13 := K13.below hB K13.lt
          have K10 := Blk.new W41 #[.slice a2 d.length cap2, .slice a4 d'.length cap4] 27
          refine hK.out _ _ (fun _ _ => M0.four) ?_
          clear hK K hB
          generalize W41.alloc (.cells #[.slice a2 d.length cap2, .slice a4 d'.length cap4] 27) = W49 at *
          try simp only [Act.put, pu1, pu2, pu3, pu4, pu5, pu6]
          refine WalkT.ready (rs := [4]) (by kernel_rfl) (by simp) ?_
          refine AllT.cons rfl (fun K hK => ?_) ?_
          · go_simp
            have hB : Below W49.heap.size W49 (W49.alloc (.cells #[.slice a1 l.length cap1, .slice a3 l'.length cap3] 26)) := below_alloc (Below.refl _ _) _ (Nat.le_refl _)
            replace M0 := M0.below hB
            replace K13 := K13.below hB K13.lt
            replace K10 := K10.below hB K10.lt
            have K4 := Blk.new W49 #[.slice a1 l.length cap1, .slice a3 l'.length cap3] 26
            refine hK.out _ _ (fun _ _ => M0.four) ?_
            clear hK K hB
            generalize W49.alloc (.cells #[.slice a1 l.length cap1, .slice a3 l'.length cap3] 26) = W50 at *
            try simp only [Act.put, pu1, pu2, pu3, pu4, pu5, pu6]
            refine WalkT.ready (rs := [5]) (by kernel_rfl) (by simp) ?_
            refine AllT.cons rfl (fun K hK => ?_) ?_
            · go_simp
              have hW := M0.be.size
              refine (concat_splt _ _ _ _ l l' _ K4 (by exact M0.a1) (by exact M0.a3) (by omega)).mono ?_
              rintro e W51 ⟨v5, rfl, o5, hB⟩
              obtain ⟨s5, c5, hv5⟩ := own_sliceH o5
              subst hv5
              replace M0 := M0.below hB
              replace K13 := K13.below hB K13.lt
              replace K10 := K10.below hB K10.lt
              replace K4 := K4.below hB K4.lt
              have O5 := own_baseH o5 hW
              refine hK.out _ _ (fun _ _ => M0.four) ?_
              clear hK K hB
              try simp only [Act.put, pu1, pu2, pu3, pu4, pu5, pu6]
              refine WalkT.ready (rs := [11]) (by kernel_rfl) (by simp) ?_
              refine AllT.cons rfl (fun K hK => ?_) ?_
              · go_simp
                have hW := M0.be.size
                refine (concat_drp _ _ _ _ d d' _ K10 (by exact M0.a2) (by exact M0.a4) (by omega)).mono ?_
                rintro e W52 ⟨v11, rfl, o11, hB⟩
                obtain ⟨s11, c11, hv11⟩ := own_sliceH o11
                subst hv11
                replace M0 := M0.below hB
                replace K13 := K13.below hB K13.lt
                replace K10 := K10.below hB K10.lt
                replace K4 := K4.below hB K4.lt
                replace O5 := own_below O5 hB
                have O11 := own_baseH o11 hW
                refine hK.out _ _ (fun _ _ => M0.four) ?_
                clear hK K hB
                try simp only [Act.put, pu1, pu2, pu3, pu4, pu5, pu6]
                (refine WalkT.quiet (i := 12) (v := ?_) rfl (by kernel_rfl) (by kernel_rfl) (by kernel_rfl) (fun _ _ _ h => h) (Or.inl ⟨by rfl, ?_⟩) ?_; rotate_left; (· (intro wS hSw; (try dsimp only at hSw); go_simp; try with_reducible rfl)); try simp only [Act.put, pu1, pu2, pu3, pu4, pu5, pu6])
                (have ne1 := own_neM O5 K13 (by decide); have ne2 := own_neM O11 K13 (by decide); have nr1 := own_neM O5 M0.br (by decide); have nr2 := own_neM O11 M0.br (by decide); have R1 := row_cat Splt.cells_len O5; have R2 := row_cat Drp.cells_len O11; have k0 := K13.cell 0 _ rfl; have k1 := K13.cell 1 _ rfl; have kf := fun o => K13.free o; have MM := MerMid.mk M0.be M0.br K13 R1 R2 ⟨ne1, nr1⟩ ⟨ne2, nr2⟩ (own_apart O5 O11 (by decide)) hb13; clear O5 O11 M0 K13 R1 R2 ne1 ne2 nr1 nr2; (refine WalkT.ready (rs := [14]) (by kernel_rfl) (by simp) (AllT.cons rfl (fun K hK => ?_) AllT.nil); go_simp); (refine hK.out _ _ (fun h => absurd h (by decide)) ?_; clear hK K; try simp only [Act.put, pu1, pu2, pu3, pu4, pu5, pu6]); refine WalkT.done (by kernel_rfl) ?_; have HMM := Lib.hid ((MM.put1 (.slice s5 (l.length + l'.length) c5)).put2 (.slice s11 (d.length + d'.length) c11)); clear MM k0 k1 kf; go_wp2; go_meet; exact ⟨_, _, _, _, _, rfl, HMM.out⟩)
              exact AllT.nil
            exact AllT.nil
          exact AllT.nil
        exact AllT.nil
      exact AllT.nil
    case rest =>
    obtain ⟨b, s1, c1, s2, c2, rfl, hM⟩ := hcut
    have HM := Lib.hid hM
    have hlt := hM.bx.lt
    clear hM z0 z1 zf HS3
    obtain ⟨L0, hL0⟩ : ∃ L0, L0 = l ++ l' := ⟨_, rfl⟩
    obtain ⟨D0, hD0⟩ : ∃ D0, D0 = d ++ d' := ⟨_, rfl⟩
    rw [← hL0, ← hD0] at HM
    have hl20 : L0.length < 20 := by rw [hL0, List.length_append]; exact hl
    have hd20 : D0.length < 20 := by rw [hD0, List.length_append]; exact hd
    have hln : l.length + l'.length = L0.length := by rw [hL0, List.length_append]
    have hdn : d.length + d'.length = D0.length := by rw [hD0, List.length_append]
    rw [hln, hdn] at HM
    have HLD := Lib.hid (And.intro hL0 hD0)
    clear hL0 hD0 hln hdn
    have t0 := (HM.out).bx.cell 0 _ rfl; have t1 := (HM.out).bx.cell 1 _ rfl
    go_wp2_with fail
    refine (stable_splt _ L0 w.heap.size _ HM.out.r1 hl20).mono ?_
    rintro e w5 ⟨rfl, L, hpL, hsL, hrL, hgL⟩
    have HM5 := Lib.hid (HM.out.one hgL hrL rfl)
    have HPL := Lib.hid (And.intro hpL hsL)
    have hlL : L.length < 20 := by rw [hpL.length_eq]; exact hl20
    clear hpL hsL hrL hgL t0 t1 hlt
    have t0 := (HM5.out).bx.cell 0 _ rfl; have t1 := (HM5.out).bx.cell 1 _ rfl
    have hlt := HM5.out.bx.lt
    go_wp2_with fail
    refine (stable_drp _ D0 w.heap.size _ HM5.out.r2 hd20).mono ?_
    rintro e w6 ⟨rfl, M, hpM, hsM, hrM, hgM⟩
    have HM6 := Lib.hid (HM5.out.two hgM hrM rfl)
    have HPM := Lib.hid (And.intro hpM hsM)
    have hlM : M.length < 20 := by rw [hpM.length_eq]; exact hd20
    clear hpM hsM hrM hgM t0 t1 hlt HM5 HM
    go_wp2_with fail
    refine WalkT.start (fun w' => w'.cell? ⟨b, 0, none⟩ = some (.slice s1 L0.length c1) ∧ w'.cell? ⟨b, 1, none⟩ = some (.slice s2 D0.length c2)) [7, 9] (by kernel_rfl) ?_
    have HM7 := Lib.hid (HM6.out.below (Below.drew (Below.refl _ _)))
    clear HM6
    generalize w6.drew = W0 at *
    obtain ⟨S, hS⟩ : ∃ S, S = ccL L := ⟨_, rfl⟩
    obtain ⟨D, hD⟩ : ∃ D, D = ccL M := ⟨_, rfl⟩
    have HMI : Hid (∀ n : Int, ((AdjK Splt.key S ∨ AdjK Drp.cust D) ∧ n = 13 ∨ ¬ AdjK Splt.key S ∧ ¬ AdjK Drp.cust D ∧ n = treeF S D) → MergeIs l d l' d' n S D) := fun n h =>
      .inr (.inr ⟨HFF.out.1, HFF.out.2, L, M, by rw [← HLD.out.1]; exact HPL.out.1, HPL.out.2, by rw [← HLD.out.2]; exact HPM.out.1, HPM.out.2, hS, hD, h⟩)
    have hS20 : S.length < 20 := by rw [hS]; exact Nat.lt_of_le_of_lt (ccL_le L) hlL
    have hD20 : D.length < 20 := by rw [hD]; exact Nat.lt_of_le_of_lt (ccL_le M) hlM
    have HSD := Lib.hid (And.intro hS hD)
    clear hS hD HPL HPM HLD HFF
    have hS2 := And.intro (HM7.out.bx.cell 0 _ rfl) (HM7.out.bx.cell 1 _ rfl)
    (refine WalkT.quiet (i := 0) (v := ?_) rfl (by kernel_rfl) (by kernel_rfl) (by kernel_rfl) (fun _ _ _ h => h) (Or.inl ⟨by rfl, ?_⟩) ?_; rotate_left; (· (intro wS hSw; (try dsimp only at hSw); go_simp; try with_reducible rfl)); try simp only [Act.put, pu1, pu2, pu3, pu4, pu5, pu6])
    (refine WalkT.take (i := 1) (v := ?_) rfl (by kernel_rfl) (by kernel_rfl) (by kernel_rfl) (by kernel_rfl) (fun _ _ _ h => h) (hS2) (Or.inl ⟨by rfl, ?_⟩) ?_; rotate_left; (· (intro wS hSw; (try dsimp only at hSw); obtain ⟨t0, t1⟩ := hSw; go_simp; try with_reducible rfl)); try simp only [Act.put, pu1, pu2, pu3, pu4, pu5, pu6])
    (refine WalkT.quiet (i := 3) (v := ?_) rfl (by kernel_rfl) (by kernel_rfl) (by kernel_rfl) (fun _ _ _ h => h) (Or.inl ⟨by rfl, ?_⟩) ?_; rotate_left; (· (intro wS hSw; (try dsimp only at hSw); go_simp; try with_reducible rfl)); try simp only [Act.put, pu1, pu2, pu3, pu4, pu5, pu6])
    (refine WalkT.take (i := 4) (v := ?_) rfl (by kernel_rfl) (by kernel_rfl) (by kernel_rfl) (by kernel_rfl) (fun _ _ _ h => h) (hS2) (Or.inl ⟨by rfl, ?_⟩) ?_; rotate_left; (· (intro wS hSw; (try dsimp only at hSw); obtain ⟨t0, t1⟩ := hSw; go_simp; try with_reducible rfl)); try simp only [Act.put, pu1, pu2, pu3, pu4, pu5, pu6])
    clear hS2
    (refine WalkT.ready (rs := [2]) (by kernel_rfl) (by simp) (AllT.cons rfl (fun K hK => ?_) AllT.nil); go_simp)
    refine (compV_splt _ L w.heap.size _ HM7.out.r1 (by omega)).mono ?_
    rintro e W1 ⟨y1, rfl, ry1, gy1, oy1⟩
    rw [← HSD.out.1] at ry1
    obtain ⟨s3, c3, hy1⟩ := ry1.slice
    subst hy1
    have HM8 := Lib.hid (HM7.out.one gy1 ry1 oy1)
    clear ry1 gy1 oy1 HM7
    (refine hK.out _ _ (fun _ _ => ⟨HM8.out.bx.cell 0 _ rfl, HM8.out.bx.cell 1 _ rfl⟩) ?_; clear hK K; try simp only [Act.put, pu1, pu2, pu3, pu4, pu5, pu6])
    (refine WalkT.quiet (i := 6) (v := ?_) rfl (by kernel_rfl) (by kernel_rfl) (by kernel_rfl) (fun _ _ _ h => h) (Or.inl ⟨by rfl, ?_⟩) ?_; rotate_left; (· (intro wS hSw; (try dsimp only at hSw); go_simp; try with_reducible rfl)); try simp only [Act.put, pu1, pu2, pu3, pu4, pu5, pu6])
    (refine WalkT.ready (rs := [5]) (by kernel_rfl) (by simp) (AllT.cons rfl (fun K hK => ?_) AllT.nil); go_simp)
    refine (compV_drp _ M w.heap.size _ HM8.out.r2 (by omega)).mono ?_
    rintro e W2 ⟨y2, rfl, ry2, gy2, oy2⟩
    rw [← HSD.out.2] at ry2
    obtain ⟨s4, c4, hy2⟩ := ry2.slice
    subst hy2
    have HM9 := Lib.hid (HM8.out.two gy2 ry2 oy2)
    clear ry2 gy2 oy2 HM8
    (refine hK.out _ _ (fun _ _ => ⟨HM9.out.bx.cell 0 _ rfl, HM9.out.bx.cell 1 _ rfl⟩) ?_; clear hK K; try simp only [Act.put, pu1, pu2, pu3, pu4, pu5, pu6])
    have k0 := HM9.out.bx.cell 0 _ rfl
    have k1 := HM9.out.bx.cell 1 _ rfl
    have kf := fun o => HM9.out.bx.free o
    (refine WalkT.ready (rs := [7]) (by kernel_rfl) (by simp) (AllT.cons rfl (fun K hK => ?_) AllT.nil); go_simp)
    (refine hK.out _ _ (fun h => absurd h (by decide)) ?_; clear hK K; try simp only [Act.put, pu1, pu2, pu3, pu4, pu5, pu6])
    (refine WalkT.quiet (i := 8) (v := ?_) rfl (by kernel_rfl) (by kernel_rfl) (by kernel_rfl) (fun _ _ _ h => h) (Or.inl ⟨by rfl, ?_⟩) ?_; rotate_left; (· (intro wS hSw; (try dsimp only at hSw); go_simp; try with_reducible rfl)); try simp only [Act.put, pu1, pu2, pu3, pu4, pu5, pu6])
    (refine WalkT.ready (rs := [9]) (by kernel_rfl) (by simp) (AllT.cons rfl (fun K hK => ?_) AllT.nil); go_simp)
    (refine hK.out _ _ (fun h => absurd h (by decide)) ?_; clear hK K; try simp only [Act.put, pu1, pu2, pu3, pu4, pu5, pu6])
    refine WalkT.done (by kernel_rfl) ?_
    have HMA := Lib.hid ((HM9.out.put1 (.slice s3 S.length c3)).put2 (.slice s4 D.length c4))
    clear k0 k1 kf HM9 HSD hlL hlM
    generalize (W2.setCell ⟨b, 0, none⟩ (.slice s3 S.length c3)).setCell ⟨b, 1, none⟩ (.slice s4 D.length c4) = WA at *
    go_wp2_with fail
    go_loopw [8] (fun i wr => ∃ k : Nat, 1 ≤ k ∧ i = .int .i64 k ∧ MerMid w wr b (.slice s3 S.length c3) (.slice s4 D.length c4) (.slice s3 S.length c3) (.slice s4 D.length c4) S D ∧ ∀ j (hj : j + 1 < S.length), j + 1 < k → S[j].key ≠ S[j + 1].key) (fun i _ => S.length - (intOf i).toNat)
    case atStart => exact ⟨1, by omega, rfl, HMA.out, fun j hj h => absurd h (by omega)⟩
    case round =>
      obtain ⟨k, hk1, rfl, hM, hne⟩ := hrel
      have HMk := Lib.hid hM
      have HN := Lib.hid hne
      clear hM hne
      have t0 := (HMk.out).bx.cell 0 _ rfl; have t1 := (HMk.out).bx.cell 1 _ rfl
      by_cases hlt : k < S.length
      · obtain ⟨q, rfl⟩ : ∃ q, k = q + 1 := ⟨k - 1, by omega⟩
        obtain ⟨g, cg, hv, -, hcm, hrow⟩ := HMk.out.r1.row (by omega)
        simp only [Value.slice.injEq, true_and] at hv
        obtain ⟨rfl, rfl⟩ := hv
        unfold maxLen at hcm
        have hq0 : q < S.length := by omega
        have b1 : (0 : Int) ≤ (q : Int) + 1 := by omega
        have b2 : (q : Int) + 1 < (S.length : Int) := by omega
        have b3 : (q : Int) < (S.length : Int) := by omega
        have b4 : (0 : Int) ≤ (q : Int) := by omega
        have b5 : IntKind.i64.wrap (q : Int) = (q : Int) := IntWalk.i64_in _ (by omega)
        clear hrow
        go_wp2_with fail
        have HMd := Lib.hid (HMk.out.below (Below.drew (Below.refl _ _)))
        refine WalkT.start (fun w' => w'.cell? ⟨b, 0, none⟩ = some (.slice (some ⟨g, 0, none⟩) S.length c3) ∧ w'.cell? ⟨g, q * 4, none⟩ = some (.string S[q].key) ∧ w'.cell? ⟨g, q * 4 + 1, none⟩ = some (.int .i64 S[q].ways) ∧ w'.cell? ⟨g, q * 4 + 2, none⟩ = some (.string S[q].par) ∧ w'.cell? ⟨g, q * 4 + 3, none⟩ = some (.int .i64 S[q].port) ∧ w'.cell? ⟨g, (q + 1) * 4, none⟩ = some (.string S[q + 1].key) ∧ w'.cell? ⟨g, (q + 1) * 4 + 1, none⟩ = some (.int .i64 S[q + 1].ways) ∧ w'.cell? ⟨g, (q + 1) * 4 + 2, none⟩ = some (.string S[q + 1].par) ∧ w'.cell? ⟨g, (q + 1) * 4 + 3, none⟩ = some (.int .i64 S[q + 1].port)) [] (by kernel_rfl) ?_
        generalize wr.drew = w1 at *
        have HS9 : Hid (∀ W x1 x2 v2 M, MerMid w W b x1 x2 (.slice (some ⟨g, 0, none⟩) S.length c3) v2 S M → x1 = .slice (some ⟨g, 0, none⟩) S.length c3 → (W.cell? ⟨b, 0, none⟩ = some (.slice (some ⟨g, 0, none⟩) S.length c3) ∧ W.cell? ⟨g, q * 4, none⟩ = some (.string S[q].key) ∧ W.cell? ⟨g, q * 4 + 1, none⟩ = some (.int .i64 S[q].ways) ∧ W.cell? ⟨g, q * 4 + 2, none⟩ = some (.string S[q].par) ∧ W.cell? ⟨g, q * 4 + 3, none⟩ = some (.int .i64 S[q].port) ∧ W.cell? ⟨g, (q + 1) * 4, none⟩ = some (.string S[q + 1].key) ∧ W.cell? ⟨g, (q + 1) * 4 + 1, none⟩ = some (.int .i64 S[q + 1].ways) ∧ W.cell? ⟨g, (q + 1) * 4 + 2, none⟩ = some (.string S[q + 1].par) ∧ W.cell? ⟨g, (q + 1) * 4 + 3, none⟩ = some (.int .i64 S[q + 1].port))) := by
          intro W x1 x2 v2 M h hx
          subst hx
          obtain ⟨g', cg', hv, -, -, hrow⟩ := h.r1.row (by omega)
          simp only [Value.slice.injEq, Option.some.injEq, Addr.mk.injEq, and_true, true_and] at hv
          obtain ⟨rfl, rfl⟩ := hv
          obtain ⟨y0, y1, y2, y3⟩ := splt_at (hrow.1 (q + 1) hlt)
          obtain ⟨x0, x1, x2, x3⟩ := splt_at (hrow.1 q hq0)
          simp only [Nat.zero_add] at y0 y1 y2 y3 x0 x1 x2 x3
          exact ⟨h.bx.cell 0 _ rfl, x0, x1, x2, x3, y0, y1, y2, y3⟩
        have hS9 := HS9.out _ _ _ _ _ HMd.out rfl
        clear t0 t1
        (refine WalkT.quiet (i := 0) (v := ?_) rfl (by kernel_rfl) (by kernel_rfl) (by kernel_rfl) (fun _ _ _ h => h) (Or.inl ⟨by rfl, ?_⟩) ?_; rotate_left; (· (intro wS hSw; (try dsimp only at hSw); go_simp; try with_reducible rfl)); try simp only [Act.put, pu1, pu2, pu3, pu4, pu5, pu6])
        (refine WalkT.take (i := 1) (v := ?_) rfl (by kernel_rfl) (by kernel_rfl) (by kernel_rfl) (by kernel_rfl) (fun _ _ _ h => h) hS9 (Or.inl ⟨by rfl, ?_⟩) ?_; rotate_left; (· (intro wS hSw; (try dsimp only at hSw); obtain ⟨u0, u1, u2, u3, u4, u5, u6, u7, u8⟩ := hSw; go_simp; try with_reducible rfl)); try simp only [Act.put, pu1, pu2, pu3, pu4, pu5, pu6])
        (refine WalkT.quiet (i := 2) (v := ?_) rfl (by kernel_rfl) (by kernel_rfl) (by kernel_rfl) (fun _ _ _ h => h) (Or.inl ⟨by rfl, ?_⟩) ?_; rotate_left; (· (intro wS hSw; (try dsimp only at hSw); go_simp; try with_reducible rfl)); try simp only [Act.put, pu1, pu2, pu3, pu4, pu5, pu6])
        (refine WalkT.quiet (i := 3) (v := ?_) rfl (by kernel_rfl) (by kernel_rfl) (by kernel_rfl) (fun _ _ _ h => h) (Or.inl ⟨by rfl, ?_⟩) ?_; rotate_left; (· (intro wS hSw; (try dsimp only at hSw); go_simp; try with_reducible rfl)); try simp only [Act.put, pu1, pu2, pu3, pu4, pu5, pu6])
        (refine WalkT.quiet (i := 4) (v := ?_) rfl (by kernel_rfl) (by kernel_rfl) (by kernel_rfl) (fun _ _ _ h => h) (Or.inl ⟨by rfl, ?_⟩) ?_; rotate_left; (· (intro wS hSw; (try dsimp only at hSw); go_simp; try with_reducible rfl)); try simp only [Act.put, pu1, pu2, pu3, pu4, pu5, pu6])
        (refine WalkT.take (i := 5) (v := ?_) rfl (by kernel_rfl) (by kernel_rfl) (by kernel_rfl) (by kernel_rfl) (fun _ _ _ h => h) hS9 (Or.inl ⟨by rfl, ?_⟩) ?_; rotate_left; (· (intro wS hSw; (try dsimp only at hSw); obtain ⟨u0, u1, u2, u3, u4, u5, u6, u7, u8⟩ := hSw; go_simp; try with_reducible rfl)); try simp only [Act.put, pu1, pu2, pu3, pu4, pu5, pu6])
        (refine WalkT.quiet (i := 6) (v := ?_) rfl (by kernel_rfl) (by kernel_rfl) (by kernel_rfl) (fun _ _ _ h => h) (Or.inl ⟨by rfl, ?_⟩) ?_; rotate_left; (· (intro wS hSw; (try dsimp only at hSw); go_simp; try with_reducible rfl)); try simp only [Act.put, pu1, pu2, pu3, pu4, pu5, pu6])
        (refine WalkT.take (i := 7) (v := ?_) rfl (by kernel_rfl) (by kernel_rfl) (by kernel_rfl) (by kernel_rfl) (fun _ _ _ h => h) hS9 (Or.inl ⟨by rfl, ?_⟩) ?_; rotate_left; (· (intro wS hSw; (try dsimp only at hSw); obtain ⟨u0, u1, u2, u3, u4, u5, u6, u7, u8⟩ := hSw; go_simp; try with_reducible rfl)); try simp only [Act.put, pu1, pu2, pu3, pu4, pu5, pu6])
        (refine WalkT.quiet (i := 8) (v := ?_) rfl (by kernel_rfl) (by kernel_rfl) (by kernel_rfl) (fun _ _ _ h => h) (Or.inl ⟨by rfl, ?_⟩) ?_; rotate_left; (· (intro wS hSw; (try dsimp only at hSw); go_simp; try with_reducible rfl)); try simp only [Act.put, pu1, pu2, pu3, pu4, pu5, pu6])
        (refine WalkT.quiet (i := 9) (v := ?_) rfl (by kernel_rfl) (by kernel_rfl) (by kernel_rfl) (fun _ _ _ h => h) (Or.inl ⟨by rfl, ?_⟩) ?_; rotate_left; (· (intro wS hSw; (try dsimp only at hSw); go_simp; try with_reducible rfl)); try simp only [Act.put, pu1, pu2, pu3, pu4, pu5, pu6])
        (refine WalkT.take (i := 10) (v := ?_) rfl (by kernel_rfl) (by kernel_rfl) (by kernel_rfl) (by kernel_rfl) (fun _ _ _ h => h) hS9 (Or.inl ⟨by rfl, ?_⟩) ?_; rotate_left; (· (intro wS hSw; (try dsimp only at hSw); obtain ⟨u0, u1, u2, u3, u4, u5, u6, u7, u8⟩ := hSw; go_simp; try with_reducible rfl)); try simp only [Act.put, pu1, pu2, pu3, pu4, pu5, pu6])
        clear hS9
        (refine WalkT.ready (rs := [11]) (by kernel_rfl) (by simp) (AllT.cons rfl (fun K hK => ?_) AllT.nil); go_simp)
        refine (by_splt S[q] S[q + 1] _).mono ?_
        rintro e w2 ⟨rfl, hb2⟩
        have HM2 := Lib.hid (HMd.out.below hb2)
        clear hb2
        (refine hK.out _ _ (fun _ _ => HS9.out _ _ _ _ _ HM2.out rfl) ?_; clear hK K; try simp only [Act.put, pu1, pu2, pu3, pu4, pu5, pu6])
        by_cases he : cmpB S[q].key S[q + 1].key = 0
        · have he1 : (cmpB S[q].key S[q + 1].key == 0) = true := by rw [he]; rfl
          have HE := Lib.hid ((cmpB_eq0 _ _).1 he)
          clear he
          (refine WalkT.quiet (i := 12) (v := ?_) rfl (by kernel_rfl) (by kernel_rfl) (by kernel_rfl) (fun _ _ _ h => h) (Or.inl ⟨by go_simp, ?_⟩) ?_; rotate_left; (· (intro wS hSw; (try dsimp only at hSw); go_simp; try with_reducible rfl)); try simp only [Act.put, pu1, pu2, pu3, pu4, pu5, pu6])
          refine WalkT.done (by kernel_rfl) ?_
          have z0 := (HM2.out).br.cell 0 _ rfl; have z1 := (HM2.out).br.cell 1 _ rfl; have zf := fun o => (HM2.out).br.free o
          go_wp2
          refine bodyPost_ret (v := .tuple #[.agg #[.slice none 0 0, .slice none 0 0], .int .i64 (13)]) ?_ rfl ⟨_, _, _, _, _, rfl, HMI.out 13 (.inl ⟨.inl ⟨q, hlt, HE.out⟩, rfl⟩), ?_, fun _ => ⟨rfl, rfl⟩, fun h => absurd h (by first | decide | assumption)⟩; (· simp [results, go_sem, z0, z1]); (· have hh := HM2.out.be; (repeat (first | exact Below.refl _ _ | assumption | refine below_draws ?_ _ | refine Below.drew ?_ | refine below_alloc ?_ _ (by first | omega | (simp; done) | (simp; omega)) | refine Below.setCell ?_ (by first | omega | (simp; done) | (simp; omega)) _ | refine below_at ?_ (by assumption) (by first | omega | (simp; done) | (simp; omega)))))
        · have he1 : (cmpB S[q].key S[q + 1].key == 0) = false := by rw [beq_eq_false_iff_ne]; exact he
          have HE := Lib.hid (fun h => he ((cmpB_eq0 _ _).2 h))
          clear he
          (refine WalkT.quiet (i := 12) (v := ?_) rfl (by kernel_rfl) (by kernel_rfl) (by kernel_rfl) (fun _ _ _ h => h) (Or.inl ⟨by go_simp, ?_⟩) ?_; rotate_left; (· (intro wS hSw; (try dsimp only at hSw); go_simp; try with_reducible rfl)); try simp only [Act.put, pu1, pu2, pu3, pu4, pu5, pu6])
          refine WalkT.done (by kernel_rfl) ?_
          go_wp2
          refine ⟨⟨q + 2, by omega, by go_num, HM2.out, fun j hj hjk => ?_⟩, by simp [intOf]; omega⟩
          rcases Nat.lt_or_ge j q with h | h
          · exact HN.out j hj (by omega)
          · obtain rfl : j = q := by omega
            exact HE.out
      · have HNS : Hid (¬ AdjK Splt.key S) := fun ⟨j, hj, e⟩ => HN.out j hj (by omega) e
        clear HN
        go_wp2_with fail
        go_loopw [9] (fun i wr => ∃ k : Nat, 1 ≤ k ∧ i = .int .i64 k ∧ MerMid w wr b (.slice s3 S.length c3) (.slice s4 D.length c4) (.slice s3 S.length c3) (.slice s4 D.length c4) S D ∧ ∀ j (hj : j + 1 < D.length), j + 1 < k → D[j].cust ≠ D[j + 1].cust) (fun i _ => D.length - (intOf i).toNat)
        case atStart => exact ⟨1, by omega, rfl, HMk.out, fun j hj h => absurd h (by omega)⟩
        case round =>
          obtain ⟨k, hk1, rfl, hM, hne⟩ := hrel
          have HMk := Lib.hid hM
          have HN := Lib.hid hne
          clear hM hne
          have t0 := (HMk.out).bx.cell 0 _ rfl; have t1 := (HMk.out).bx.cell 1 _ rfl
          by_cases hlt : k < D.length
          · obtain ⟨q, rfl⟩ : ∃ q, k = q + 1 := ⟨k - 1, by omega⟩
            obtain ⟨g, cg, hv, -, hcm, hrow⟩ := HMk.out.r2.row (by omega)
            simp only [Value.slice.injEq, true_and] at hv
            obtain ⟨rfl, rfl⟩ := hv
            unfold maxLen at hcm
            have hq0 : q < D.length := by omega
            have b1 : (0 : Int) ≤ (q : Int) + 1 := by omega
            have b2 : (q : Int) + 1 < (D.length : Int) := by omega
            have b3 : (q : Int) < (D.length : Int) := by omega
            have b4 : (0 : Int) ≤ (q : Int) := by omega
            have b5 : IntKind.i64.wrap (q : Int) = (q : Int) := IntWalk.i64_in _ (by omega)
            clear hrow
            go_wp2_with fail
            have HMd := Lib.hid (HMk.out.below (Below.drew (Below.refl _ _)))
            refine WalkT.start (fun w' => w'.cell? ⟨b, 1, none⟩ = some (.slice (some ⟨g, 0, none⟩) D.length c4) ∧ w'.cell? ⟨g, q * 3, none⟩ = some (.string D[q].cust) ∧ w'.cell? ⟨g, q * 3 + 1, none⟩ = some (.string D[q].spl) ∧ w'.cell? ⟨g, q * 3 + 2, none⟩ = some (.int .i64 D[q].port) ∧ w'.cell? ⟨g, (q + 1) * 3, none⟩ = some (.string D[q + 1].cust) ∧ w'.cell? ⟨g, (q + 1) * 3 + 1, none⟩ = some (.string D[q + 1].spl) ∧ w'.cell? ⟨g, (q + 1) * 3 + 2, none⟩ = some (.int .i64 D[q + 1].port)) [] (by kernel_rfl) ?_
            generalize wr.drew = w1 at *
            have HS9 : Hid (∀ W x1 x2 v1 L, MerMid w W b x1 x2 v1 (.slice (some ⟨g, 0, none⟩) D.length c4) L D → x2 = .slice (some ⟨g, 0, none⟩) D.length c4 → (W.cell? ⟨b, 1, none⟩ = some (.slice (some ⟨g, 0, none⟩) D.length c4) ∧ W.cell? ⟨g, q * 3, none⟩ = some (.string D[q].cust) ∧ W.cell? ⟨g, q * 3 + 1, none⟩ = some (.string D[q].spl) ∧ W.cell? ⟨g, q * 3 + 2, none⟩ = some (.int .i64 D[q].port) ∧ W.cell? ⟨g, (q + 1) * 3, none⟩ = some (.string D[q + 1].cust) ∧ W.cell? ⟨g, (q + 1) * 3 + 1, none⟩ = some (.string D[q + 1].spl) ∧ W.cell? ⟨g, (q + 1) * 3 + 2, none⟩ = some (.int .i64 D[q + 1].port))) := by
              intro W x1 x2 v1 L h hx
              subst hx
              obtain ⟨g', cg', hv, -, -, hrow⟩ := h.r2.row (by omega)
              simp only [Value.slice.injEq, Option.some.injEq, Addr.mk.injEq, and_true, true_and] at hv
              obtain ⟨rfl, rfl⟩ := hv
              obtain ⟨y0, y1, y2⟩ := drp_at (hrow.1 (q + 1) hlt)
              obtain ⟨x0, x1, x2⟩ := drp_at (hrow.1 q hq0)
              simp only [Nat.zero_add] at y0 y1 y2 x0 x1 x2
              exact ⟨h.bx.cell 1 _ rfl, x0, x1, x2, y0, y1, y2⟩
            have hS9 := HS9.out _ _ _ _ _ HMd.out rfl
            clear t0 t1
            (refine WalkT.quiet (i := 0) (v := ?_) rfl (by kernel_rfl) (by kernel_rfl) (by kernel_rfl) (fun _ _ _ h => h) (Or.inl ⟨by rfl, ?_⟩) ?_; rotate_left; (· (intro wS hSw; (try dsimp only at hSw); go_simp; try with_reducible rfl)); try simp only [Act.put, pu1, pu2, pu3, pu4, pu5, pu6])
            (refine WalkT.take (i := 1) (v := ?_) rfl (by kernel_rfl) (by kernel_rfl) (by kernel_rfl) (by kernel_rfl) (fun _ _ _ h => h) hS9 (Or.inl ⟨by rfl, ?_⟩) ?_; rotate_left; (· (intro wS hSw; (try dsimp only at hSw); obtain ⟨u0, u1, u2, u3, u4, u5, u6⟩ := hSw; go_simp; try with_reducible rfl)); try simp only [Act.put, pu1, pu2, pu3, pu4, pu5, pu6])
            (refine WalkT.quiet (i := 2) (v := ?_) rfl (by kernel_rfl) (by kernel_rfl) (by kernel_rfl) (fun _ _ _ h => h) (Or.inl ⟨by rfl, ?_⟩) ?_; rotate_left; (· (intro wS hSw; (try dsimp only at hSw); go_simp; try with_reducible rfl)); try simp only [Act.put, pu1, pu2, pu3, pu4, pu5, pu6])
            (refine WalkT.quiet (i := 3) (v := ?_) rfl (by kernel_rfl) (by kernel_rfl) (by kernel_rfl) (fun _ _ _ h => h) (Or.inl ⟨by rfl, ?_⟩) ?_; rotate_left; (· (intro wS hSw; (try dsimp only at hSw); go_simp; try with_reducible rfl)); try simp only [Act.put, pu1, pu2, pu3, pu4, pu5, pu6])
            (refine WalkT.quiet (i := 4) (v := ?_) rfl (by kernel_rfl) (by kernel_rfl) (by kernel_rfl) (fun _ _ _ h => h) (Or.inl ⟨by rfl, ?_⟩) ?_; rotate_left; (· (intro wS hSw; (try dsimp only at hSw); go_simp; try with_reducible rfl)); try simp only [Act.put, pu1, pu2, pu3, pu4, pu5, pu6])
            (refine WalkT.take (i := 5) (v := ?_) rfl (by kernel_rfl) (by kernel_rfl) (by kernel_rfl) (by kernel_rfl) (fun _ _ _ h => h) hS9 (Or.inl ⟨by rfl, ?_⟩) ?_; rotate_left; (· (intro wS hSw; (try dsimp only at hSw); obtain ⟨u0, u1, u2, u3, u4, u5, u6⟩ := hSw; go_simp; try with_reducible rfl)); try simp only [Act.put, pu1, pu2, pu3, pu4, pu5, pu6])
            (refine WalkT.quiet (i := 6) (v := ?_) rfl (by kernel_rfl) (by kernel_rfl) (by kernel_rfl) (fun _ _ _ h => h) (Or.inl ⟨by rfl, ?_⟩) ?_; rotate_left; (· (intro wS hSw; (try dsimp only at hSw); go_simp; try with_reducible rfl)); try simp only [Act.put, pu1, pu2, pu3, pu4, pu5, pu6])
            (refine WalkT.take (i := 7) (v := ?_) rfl (by kernel_rfl) (by kernel_rfl) (by kernel_rfl) (by kernel_rfl) (fun _ _ _ h => h) hS9 (Or.inl ⟨by rfl, ?_⟩) ?_; rotate_left; (· (intro wS hSw; (try dsimp only at hSw); obtain ⟨u0, u1, u2, u3, u4, u5, u6⟩ := hSw; go_simp; try with_reducible rfl)); try simp only [Act.put, pu1, pu2, pu3, pu4, pu5, pu6])
            (refine WalkT.quiet (i := 8) (v := ?_) rfl (by kernel_rfl) (by kernel_rfl) (by kernel_rfl) (fun _ _ _ h => h) (Or.inl ⟨by rfl, ?_⟩) ?_; rotate_left; (· (intro wS hSw; (try dsimp only at hSw); go_simp; try with_reducible rfl)); try simp only [Act.put, pu1, pu2, pu3, pu4, pu5, pu6])
            (refine WalkT.quiet (i := 9) (v := ?_) rfl (by kernel_rfl) (by kernel_rfl) (by kernel_rfl) (fun _ _ _ h => h) (Or.inl ⟨by rfl, ?_⟩) ?_; rotate_left; (· (intro wS hSw; (try dsimp only at hSw); go_simp; try with_reducible rfl)); try simp only [Act.put, pu1, pu2, pu3, pu4, pu5, pu6])
            (refine WalkT.take (i := 10) (v := ?_) rfl (by kernel_rfl) (by kernel_rfl) (by kernel_rfl) (by kernel_rfl) (fun _ _ _ h => h) hS9 (Or.inl ⟨by rfl, ?_⟩) ?_; rotate_left; (· (intro wS hSw; (try dsimp only at hSw); obtain ⟨u0, u1, u2, u3, u4, u5, u6⟩ := hSw; go_simp; try with_reducible rfl)); try simp only [Act.put, pu1, pu2, pu3, pu4, pu5, pu6])
            clear hS9
            (refine WalkT.ready (rs := [11]) (by kernel_rfl) (by simp) (AllT.cons rfl (fun K hK => ?_) AllT.nil); go_simp)
            refine (by_drp D[q] D[q + 1] _).mono ?_
            rintro e w2 ⟨rfl, hb2⟩
            have HM2 := Lib.hid (HMd.out.below hb2)
            clear hb2
            (refine hK.out _ _ (fun _ _ => HS9.out _ _ _ _ _ HM2.out rfl) ?_; clear hK K; try simp only [Act.put, pu1, pu2, pu3, pu4, pu5, pu6])
            by_cases he : cmpB D[q].cust D[q + 1].cust = 0
            · have he1 : (cmpB D[q].cust D[q + 1].cust == 0) = true := by rw [he]; rfl
              have HE := Lib.hid ((cmpB_eq0 _ _).1 he)
              clear he
              (refine WalkT.quiet (i := 12) (v := ?_) rfl (by kernel_rfl) (by kernel_rfl) (by kernel_rfl) (fun _ _ _ h => h) (Or.inl ⟨by go_simp, ?_⟩) ?_; rotate_left; (· (intro wS hSw; (try dsimp only at hSw); go_simp; try with_reducible rfl)); try simp only [Act.put, pu1, pu2, pu3, pu4, pu5, pu6])
              refine WalkT.done (by kernel_rfl) ?_
              have z0 := (HM2.out).br.cell 0 _ rfl; have z1 := (HM2.out).br.cell 1 _ rfl; have zf := fun o => (HM2.out).br.free o
              go_wp2
              refine bodyPost_ret (v := .tuple #[.agg #[.slice none 0 0, .slice none 0 0], .int .i64 (13)]) ?_ rfl ⟨_, _, _, _, _, rfl, HMI.out 13 (.inl ⟨.inr ⟨q, hlt, HE.out⟩, rfl⟩), ?_, fun _ => ⟨rfl, rfl⟩, fun h => absurd h (by first | decide | assumption)⟩; (· simp [results, go_sem, z0, z1]); (· have hh := HM2.out.be; (repeat (first | exact Below.refl _ _ | assumption | refine below_draws ?_ _ | refine Below.drew ?_ | refine below_alloc ?_ _ (by first | omega | (simp; done) | (simp; omega)) | refine Below.setCell ?_ (by first | omega | (simp; done) | (simp; omega)) _ | refine below_at ?_ (by assumption) (by first | omega | (simp; done) | (simp; omega)))))
            · have he1 : (cmpB D[q].cust D[q + 1].cust == 0) = false := by rw [beq_eq_false_iff_ne]; exact he
              have HE := Lib.hid (fun h => he ((cmpB_eq0 _ _).2 h))
              clear he
              (refine WalkT.quiet (i := 12) (v := ?_) rfl (by kernel_rfl) (by kernel_rfl) (by kernel_rfl) (fun _ _ _ h => h) (Or.inl ⟨by go_simp, ?_⟩) ?_; rotate_left; (· (intro wS hSw; (try dsimp only at hSw); go_simp; try with_reducible rfl)); try simp only [Act.put, pu1, pu2, pu3, pu4, pu5, pu6])
              refine WalkT.done (by kernel_rfl) ?_
              go_wp2
              refine ⟨⟨q + 2, by omega, by go_num, HM2.out, fun j hj hjk => ?_⟩, by simp [intOf]; omega⟩
              rcases Nat.lt_or_ge j q with h | h
              · exact HN.out j hj (by omega)
              · obtain rfl : j = q := by omega
                exact HE.out
          · have HND : Hid (¬ AdjK Drp.cust D) := fun ⟨j, hj, e⟩ => HN.out j hj (by omega) e
            clear HN
            go_wp2_with fail
            refine (checkTree_any _ _ S D _ (by exact HMk.out.r1.arr) (by exact HMk.out.r2.arr)).mono ?_
            rintro e w9 ⟨rfl, hb9⟩
            have HM9 := Lib.hid (HMk.out.below hb9)
            clear hb9 t0 t1
            obtain ⟨F, hF⟩ : ∃ F, F = treeF S D := ⟨_, rfl⟩
            have HF := Lib.hid hF
            rw [← hF]
            clear hF
            have z0 := (HM9.out).br.cell 0 _ rfl; have z1 := (HM9.out).br.cell 1 _ rfl; have zf := fun o => (HM9.out).br.free o
            by_cases hF0 : F = 0
            · subst hF0
              have t0 := (HM9.out).bx.cell 0 _ rfl; have t1 := (HM9.out).bx.cell 1 _ rfl
              go_wp2
              refine bodyPost_ret (v := .tuple #[.agg #[.slice s3 S.length c3, .slice s4 D.length c4], .int .i64 0]) ?_ rfl ⟨_, _, _, S, D, rfl, HMI.out 0 (.inr ⟨HNS.out, HND.out, HF.out⟩), ?_, fun h => absurd rfl h, fun _ => ⟨?_, ?_, HM9.out.ap⟩⟩
              · simp [results, go_sem, z0, z1]
              · have hh := HM9.out.be; (repeat (first | exact Below.refl _ _ | assumption | refine below_draws ?_ _ | refine Below.drew ?_ | refine below_alloc ?_ _ (by first | omega | (simp; done) | (simp; omega)) | refine Below.setCell ?_ (by first | omega | (simp; done) | (simp; omega)) _ | refine below_at ?_ (by assumption) (by first | omega | (simp; done) | (simp; omega))))
              · exact (HM9.out.r1.setNe HM9.out.n1.2 _ _).setNe HM9.out.n1.2 _ _
              · exact (HM9.out.r2.setNe HM9.out.n2.2 _ _).setNe HM9.out.n2.2 _ _
            · have hF1 : (F != 0) = true := by simpa using hF0
              have HN0 := Lib.hid hF0
              clear hF0
              go_wp2
              have hF0 := HN0.out
              refine bodyPost_ret (v := .tuple #[.agg #[.slice none 0 0, .slice none 0 0], .int .i64 (F)]) ?_ rfl ⟨_, _, _, _, _, rfl, HMI.out F (.inr ⟨HNS.out, HND.out, HF.out⟩), ?_, fun _ => ⟨rfl, rfl⟩, fun h => absurd h (by first | decide | assumption)⟩; (· simp [results, go_sem, z0, z1]); (· have hh := HM9.out.be; (repeat (first | exact Below.refl _ _ | assumption | refine below_draws ?_ _ | refine Below.drew ?_ | refine below_alloc ?_ _ (by first | omega | (simp; done) | (simp; omega)) | refine Below.setCell ?_ (by first | omega | (simp; done) | (simp; omega)) _ | refine below_at ?_ (by assumption) (by first | omega | (simp; done) | (simp; omega)))))
end Go.Proofs.YtcecpodbmjghhaaGreat
