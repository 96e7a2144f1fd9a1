/- Walks of the stream: what draws a table of losses. -/
import Derived.Test.YteliiknlpfjlkaaGreatDoorStreamL
set_option linter.unusedVariables false
set_option linter.unusedSimpArgs false
namespace Go.Proofs.YteliiknlpfjlkaaGreatDoor
open Go Go.RowKit

def LossIs (v : Value) (_ : World) : Prop := ∃ x : Losses, v = .agg #[.int .i64 x.perKm, .int .i64 x.conn, .int .i64 x.dblg, .int .i64 x.exc]

set_option maxHeartbeats 1000000 in
set_option maxRecDepth 100000 in
theorem lossTable_any (s m : Nat) (w : World) (h : Strm w s m) (hm : m ≤ 1000000) : Calls Tryz.prog 8 #[.pointer (some ⟨s, 0, none⟩)] w
    (Draw LossIs s m 9 w) := by
  have hl := h.lt
  go_enter Tryz.func8, Tryz.ntmps8
  go_wp2_with fail
  refine (pick_lit s (m) [35, 35, 20, 0, 1000] _ (h.alloc _) (by omega) (by simp) (by simp) (by first | rfl | simp) (by rfl) (by rfl)).mono ?_
  rintro e w1 ⟨v, rfl, ⟨r1, rfl, -⟩, hs1, hg1⟩
  go_wp2_with fail
  refine (pick_lit s (m + 1) [30, 20, 0] _ (hs1) (by omega) (by simp) (by simp) (by first | rfl | simp) (by rfl) (by rfl)).mono ?_
  rintro e w2 ⟨v, rfl, ⟨r2, rfl, -⟩, hs2, hg2⟩
  go_wp2_with fail
  refine (pick_lit s (m + 1 + 1) [350, 340, 0] _ (hs2) (by omega) (by simp) (by simp) (by first | rfl | simp) (by rfl) (by rfl)).mono ?_
  rintro e w3 ⟨v, rfl, ⟨r3, rfl, -⟩, hs3, hg3⟩
  go_wp2_with fail
  refine (pick_lit s (m + 1 + 1 + 1) [20, 0] _ (hs3) (by omega) (by simp) (by simp) (by first | rfl | simp) (by rfl) (by rfl)).mono ?_
  rintro e w4 ⟨v, rfl, ⟨r4, rfl, -⟩, hs4, hg4⟩
  have l1 := hg1.size
  have l2 := hg2.size
  have l3 := hg3.size
  have l4 := hg4.size
  simp only [World.size_alloc] at l1
  have hz : Blk w4 w.heap.size #[.int .i64 0, .int .i64 0, .int .i64 0, .int .i64 0] 29 := (((((Blk.new w _ _).grown hg1 (by simp; omega)).grown hg2 (by simp; omega)).grown hg3 (by simp; omega)).grown hg4 (by simp; omega))
  have hg04 : w.grownBy w4 (some s) := grown_trans (World.grownBy_alloc w _ _) (grown_trans hg1 (grown_trans hg2 (grown_trans hg3 hg4)))
  have HZ := Lib.hid (And.intro hz hg04)
  have hne : w.heap.size < w4.heap.size := by omega
  clear hz hg04 hg1 hg2 hg3 hg4 hs1 hs2 hs3 l1 l2 l3 l4
  go_wp2_with fail
  refine (flip_any s (m + 1 + 1 + 1 + 1) _ _ (hs4.alloc _) (by omega) (by omega) (by omega)).mono ?_
  rintro e w6 ⟨v, rfl, ⟨fb, rfl⟩, hs6, hg6⟩
  have l6 := hg6.size
  simp only [World.size_alloc] at l6
  have HG6 := Lib.hid (grown_trans HZ.out.2 (grown_trans (World.grownBy_alloc w4 _ _) hg6))
  have hz6 := (HZ.out.1.alloc (.cells #[.int .i64 r1, .int .i64 r2, .int .i64 r3, .int .i64 r4] 29)).grown hg6 (by simp; omega)
  have hx6 : Blk w6 w4.heap.size #[.int .i64 r1, .int .i64 r2, .int .i64 r3, .int .i64 r4] 29 := (Blk.new w4 _ _).grown hg6 (by simp; omega)
  cases fb
  · have z0 := hz6.cell 0 _ rfl
    have z1 := hz6.cell 1 _ rfl
    have z2 := hz6.cell 2 _ rfl
    have z3 := hz6.cell 3 _ rfl
    have zf := fun o => hz6.free o
    have x0 := hx6.cell 0 _ rfl
    have x1 := hx6.cell 1 _ rfl
    have x2 := hx6.cell 2 _ rfl
    have x3 := hx6.cell 3 _ rfl
    go_wp2
    refine bodyPost_ret (v := .agg #[.int .i64 r1, .int .i64 r2, .int .i64 r3, .int .i64 r4]) ?_ rfl ⟨_, rfl, ⟨⟨r1, r2, r3, r4⟩, rfl⟩, ?_, ?_⟩
    · simp [results, go_sem, z0, z1, z2, z3]
    · exact ((((hs6.mono (by omega)).setOther (by omega) _ _).setOther (by omega) _ _).setOther (by omega) _ _).setOther (by omega) _ _
    · exact grown_setOwn (grown_setOwn (grown_setOwn (grown_setOwn HG6.out (Nat.le_refl _) _ _) (Nat.le_refl _) _ _) (Nat.le_refl _) _ _) (Nat.le_refl _) _ _
  · go_wp2_with fail
    refine (odd_any s (m + 1 + 1 + 1 + 1 + 1) 0 1000 _ hs6 (by omega) (by omega) (by omega) (by omega)).mono ?_
    rintro e w7 ⟨v, rfl, ⟨r7, rfl, -⟩, hs7, hg7⟩
    go_wp2_with fail
    refine (odd_any s (m + 1 + 1 + 1 + 1 + 1 + 2) 0 1000 _ hs7 (by omega) (by omega) (by omega) (by omega)).mono ?_
    rintro e w8 ⟨v, rfl, ⟨r8, rfl, -⟩, hs8, hg8⟩
    have l7 := hg7.size
    have l8 := hg8.size
    have hz8 := (hz6.grown hg7 (by simp; omega)).grown hg8 (by simp; omega)
    have hx8 := (hx6.grown hg7 (by simp; omega)).grown hg8 (by simp; omega)
    have HG8 := Lib.hid (grown_trans HG6.out (grown_trans hg7 hg8))
    have z0 := hz8.cell 0 _ rfl
    have z1 := hz8.cell 1 _ rfl
    have z2 := hz8.cell 2 _ rfl
    have z3 := hz8.cell 3 _ rfl
    have zf := fun o => hz8.free o
    have x0 := hx8.cell 0 _ rfl
    have x1 := hx8.cell 1 _ rfl
    have x2 := hx8.cell 2 _ rfl
    have x3 := hx8.cell 3 _ rfl
    have xf := fun o => hx8.free o
    clear hz6 hx6 hz8 hx8 hg6 hg7 hg8 HG6 hs6 hs7
    go_wp2
    refine bodyPost_ret (v := .agg #[.int .i64 r7, .int .i64 r2, .int .i64 r3, .int .i64 r8]) ?_ rfl ⟨_, rfl, ⟨⟨r7, r2, r3, r8⟩, rfl⟩, ?_, ?_⟩
    · simp [results, go_sem, z0, z1, z2, z3]
    · exact ((((((hs8.mono (by omega)).setOther (by omega) _ _).setOther (by omega) _ _).setOther (by omega) _ _).setOther (by omega) _ _).setOther (by omega) _ _).setOther (by omega) _ _
    · exact grown_setOwn (grown_setOwn (grown_setOwn (grown_setOwn (grown_setOwn (grown_setOwn HG8.out (by omega) _ _) (by omega) _ _) (Nat.le_refl _) _ _) (Nat.le_refl _) _ _) (Nat.le_refl _) _ _) (Nat.le_refl _) _ _
end Go.Proofs.YteliiknlpfjlkaaGreatDoor
