/- Walk of the stream: trees that are right. -/
import Derived.Test.YtafjikoeolacgaaGreatDoorStreamY
import Derived.Test.YtafjikoeolacgaaGreatDoorTreeRef
set_option linter.unusedVariables false
set_option linter.unusedSimpArgs false
namespace Go.Proofs.YtafjikoeolacgaaGreatDoor
open Go Go.RowKit

/-- v is a right tree in memory above block B -/
def RightIs (B : Nat) (v : Value) (w : World) : Prop := ∃ v1 v2 l d, v = .agg #[v1, v2] ∧ l.length ≤ 4 ∧ d.length ≤ 6 ∧ treeF l d = 0 ∧ Arr Splt.cells 4 w l v1 ∧ Arr Drp.cells 3 w d v2 ∧
  (∀ b off n cap, v1 = .slice (some ⟨b, off, none⟩) n cap → B < b) ∧ ∀ b off n cap, v2 = .slice (some ⟨b, off, none⟩) n cap → B < b
theorem arr_setOtherZ {α : Type} {cells : α → List Value} {sz : Nat} {w : World} {l : List α} {v : Value} (h : Arr cells sz w l v) {c : Nat} (hne : ∀ b off n cap, v = .slice (some ⟨b, off, none⟩) n cap → c < b) (o : Nat) (u : Value) : Arr cells sz (w.setCell ⟨c, o, none⟩ u) l v := by
  obtain ⟨a, cap, rfl, h2, h3, h4⟩ := h
  refine ⟨a, cap, rfl, h2, h3, fun k hk => ?_⟩
  obtain ⟨b, off, ha, hb, hc⟩ := h4 k hk
  refine ⟨b, off, ha, by simp [World.setCell]; exact hb, fun j x hx => ?_⟩
  have := hne b off l.length cap (by rw [ha])
  rw [World.cell?_setCell_other _ _ _ _ (fun e => by simp only [Addr.mk.injEq] at e; omega)]
  exact hc j x hx
theorem treeF_nil : treeF [] [] = 0 := by decide +kernel
set_option maxHeartbeats 4000000 in
set_option maxRecDepth 100000 in
theorem rightTree_any (s m : Nat) (w : World) (h : Strm w s m) (hm : m ≤ 100000) : Calls Tryz.prog 9 #[.pointer (some ⟨s, 0, none⟩)] w
    (Draw (RightIs w.heap.size) s m 480 w) := by
  have hl := h.lt
  go_enter Tryz.func9, Tryz.ntmps9
  go_wp2
  go_loopw [4] (fun i wr => ∃ k : Nat, k ≤ 8 ∧ i = .int .i64 k ∧ Strm wr s (m + 60 * k) ∧ w.grownBy wr (some s) ∧ Blk wr w.heap.size #[.slice none 0 0, .slice none 0 0] 29) (fun i _ => 8 - (intOf i).toNat)
  case atStart => exact ⟨0, by omega, rfl, h.alloc _, World.grownBy_alloc _ _ _, Blk.new _ _ _⟩
  case round =>
    obtain ⟨k, hk, rfl, hs, hg, hx⟩ := hrel
    have hsz := hg.size
    by_cases hlt : k < 8
    · have hxl := hx.lt
      have HR := Lib.hid (And.intro hg hx)
      clear hg hx
      go_wp2_with fail
      refine (atree_any s (m + 60 * k) _ hs (by omega)).mono ?_
      rintro e w1 ⟨v, rfl, ⟨v1, v2, l, d, rfl, hl4, hd6, hA1, hA2, lo1, lo2⟩, hs1, hg1⟩
      obtain ⟨a1, cap1, rfl, -, -, -⟩ := id hA1
      obtain ⟨a2, cap2, rfl, -, -, -⟩ := id hA2
      have hx1 := HR.out.2.grown hg1 (by simp; omega)
      have hg01 := grown_trans HR.out.1 hg1
      have hz1 := hg1.size
      have H1 := Lib.hid (And.intro hA1 (And.intro hA2 (And.intro hx1 (And.intro hg01 hs1))))
      clear hA1 hA2 hx1 hg01 hs1 hg1 hs
      go_wp2_with fail
      refine (rtreeFault_any _ _ l d _ (by exact H1.out.1.below (by (repeat (first | exact Below.refl _ _ | assumption | refine below_draws ?_ _ | refine Below.drew ?_ | refine below_alloc ?_ _ (by first | omega | (simp; done) | (simp; omega)) | refine Below.setCell ?_ (by first | omega | (simp; done) | (simp; omega)) _ | refine below_at ?_ (by assumption) (by first | omega | (simp; done) | (simp; omega)))))) (by exact H1.out.2.1.below (by (repeat (first | exact Below.refl _ _ | assumption | refine below_draws ?_ _ | refine Below.drew ?_ | refine below_alloc ?_ _ (by first | omega | (simp; done) | (simp; omega)) | refine Below.setCell ?_ (by first | omega | (simp; done) | (simp; omega)) _ | refine below_at ?_ (by assumption) (by first | omega | (simp; done) | (simp; omega))))))).mono ?_
      rintro e w2 ⟨rfl, hb2⟩
      have hz2 : w1.heap.size + 1 ≤ w2.heap.size := by have := hb2.size; simpa using this
      have hb12 : Below w1.heap.size w1 w2 := below_at (below_alloc (Below.refl _ _) _ (Nat.le_refl _)) hb2 (by simp)
      have htx := (Blk.new w1 #[.slice a1 l.length cap1, .slice a2 d.length cap2] 29).below hb2 (by simp)
      have hrx := H1.out.2.2.1.below hb12 (by omega)
      have H2 := Lib.hid (And.intro (H1.out.1.below hb12) (And.intro (H1.out.2.1.below hb12) (And.intro hrx (And.intro (grown_trans H1.out.2.2.2.1 (grown_below (some s) hb12)) (H1.out.2.2.2.2.below hb12 (Nat.le_refl _))))))
      have p0 := htx.cell 0 _ rfl
      have p1 := htx.cell 1 _ rfl
      have r0 := hrx.cell 0 (.slice none 0 0) rfl
      have r1 := hrx.cell 1 (.slice none 0 0) rfl
      have rf := fun o => hrx.free o
      clear hb2 hb12 htx hrx H1
      by_cases hf : treeF l d = 0
      · have hf1 : (treeF l d == 0) = true := by rw [hf]; rfl
        have HF := Lib.hid hf
        have HL := Lib.hid (And.intro lo1 lo2)
        clear hf lo1 lo2
        go_wp2
        refine bodyPost_ret (v := .agg #[.slice a1 l.length cap1, .slice a2 d.length cap2]) ?_ rfl ⟨_, rfl, ⟨_, _, l, d, rfl, hl4, hd6, HF.out, ?_, ?_, ?_, ?_⟩, ?_, ?_⟩
        · simp [results, go_sem, r0, r1]
        · exact arr_setOtherZ (arr_setOtherZ H2.out.1 (fun b off n cap e => by have := HL.out.1 b off n cap e; omega) _ _) (fun b off n cap e => by have := HL.out.1 b off n cap e; omega) _ _
        · exact arr_setOtherZ (arr_setOtherZ H2.out.2.1 (fun b off n cap e => by have := HL.out.2 b off n cap e; omega) _ _) (fun b off n cap e => by have := HL.out.2 b off n cap e; omega) _ _
        · intro b off n cap e; have := HL.out.1 b off n cap e; omega
        · intro b off n cap e; have := HL.out.2 b off n cap e; omega
        · exact ((H2.out.2.2.2.2.setOther hl _ _).setOther hl _ _).mono (by omega)
        · exact grown_setOwn (grown_setOwn H2.out.2.2.2.1 (Nat.le_refl _) _ _) (Nat.le_refl _) _ _
      · have hf1 : (treeF l d == 0) = false := by rw [beq_eq_false_iff_ne]; exact hf
        clear hf lo1 lo2
        go_wp2
        exact ⟨⟨k + 1, by omega, by go_num, H2.out.2.2.2.2.mono (by omega), H2.out.2.2.2.1, H2.out.2.2.1⟩, by simp [intOf]; omega⟩
    · have r0 := hx.cell 0 (.slice none 0 0) rfl
      have r1 := hx.cell 1 (.slice none 0 0) rfl
      have rf := fun o => hx.free o
      have HR := Lib.hid (And.intro hs hg)
      have hxl := hx.lt
      clear hg hx hs
      go_wp2
      refine bodyPost_ret (v := .agg #[.slice none 0 0, .slice none 0 0]) ?_ rfl ⟨_, rfl, ⟨_, _, [], [], rfl, by simp, by simp, treeF_nil, Arr.nil _ _ _, Arr.nil _ _ _, ?_, ?_⟩, ?_, ?_⟩
      · simp [results, go_sem, r0, r1]
      · intro b off n cap e; cases e
      · intro b off n cap e; cases e
      · exact ((HR.out.1.setOther hl _ _).setOther hl _ _).mono (by omega)
      · exact grown_setOwn (grown_setOwn HR.out.2 (Nat.le_refl _) _ _) (Nat.le_refl _) _ _
end Go.Proofs.YtafjikoeolacgaaGreatDoor
