/- The walk of TreesChanged: the law's function returns true for every list of integers, and writes nothing that was there. -/
import Derived.Test.YtcecpodbmjghhaaGreatChP
import Derived.Test.YtcecpodbmjghhaaGreatChD
import Derived.Test.YtcecpodbmjghhaaGreatChB
import Derived.Test.YtcecpodbmjghhaaGreatStreamH
import Derived.Test.YtcecpodbmjghhaaGreatStreamYZ
set_option linter.unusedVariables false
set_option linter.unusedSimpArgs false
namespace Go.Proofs.YtcecpodbmjghhaaGreat
open Go Go.RowKit
set_option maxHeartbeats 32000000 in
set_option maxRecDepth 100000 in
theorem law_chg (a0 : Option Addr) (len0 cap0 : Nat) (z0 : List Int) (w : World) (w0 : IsRow .i64 w a0 len0 cap0 z0) :
    Calls Tryz.prog 3 #[.slice a0 len0 cap0] w fun e w' => e = .returned (.bool true) ∧ Below w.heap.size w w' := by
  have hS := strm_start w0
  clear w0
  go_enter Tryz.func3, Tryz.ntmps3
  go_wp2_with fail
  refine (atree_any w.heap.size 0 _ hS (by omega)).mono ?_
  rintro e w1 ⟨v, rfl, ⟨v1, v2, l, d, rfl, hl4, hd6, hA1, hA2, lo1, lo2⟩, hs1, hg1⟩
  simp only [World.size_alloc] at lo1 lo2
  have hg01 := grown_trans (World.grownBy_alloc w _ (some w.heap.size)) hg1
  have H1 := Lib.hid (And.intro hA1 (And.intro hA2 (And.intro lo1 (And.intro lo2 hg01))))
  clear hA1 hA2 lo1 lo2 hg01 hg1 hS
  go_wp2_with fail
  refine (asplitter_any w.heap.size _ _ hs1 (by omega)).mono ?_
  rintro e w2 ⟨v, rfl, ⟨key, rfl⟩, hs2, hg2⟩
  have HG2 := Lib.hid hg2
  clear hg2 hs1
  go_wp2_with fail
  refine (asplitter_any w.heap.size _ _ hs2 (by omega)).mono ?_
  rintro e w3 ⟨v, rfl, ⟨up, rfl⟩, hs3, hg3⟩
  have HG3 := Lib.hid (grown_trans HG2.out hg3)
  clear hg3 hs2
  go_wp2_with fail
  refine (pick_lit w.heap.size _ [0, 1, 2, 9] _ hs3 (by omega) (by simp) (by simp) (by first | rfl | simp) (by rfl) (by rfl)).mono ?_
  rintro e w3b ⟨v, rfl, ⟨port, rfl, -⟩, hs3b, hg3b⟩
  have HG3b := Lib.hid (grown_trans HG3.out hg3b)
  clear hg3b hs3
  go_wp2_with fail
  refine (acustomer_any w.heap.size _ _ hs3b (by omega)).mono ?_
  rintro e w4 ⟨v, rfl, ⟨who, rfl⟩, hs4, hg4⟩
  have hgA := grown_trans HG3b.out hg4
  have hA1 := H1.out.1.grownBy hgA (fun b off n cap e => by have := H1.out.2.2.1 b off n cap e; omega)
  have hA2 := H1.out.2.1.grownBy hgA (fun b off n cap e => by have := H1.out.2.2.2.1 b off n cap e; omega)
  have hB4 := below_row (grown_trans H1.out.2.2.2.2 hgA)
  have hz4 := hB4.size
  obtain ⟨a1, cap1, rfl, -, -, -⟩ := id hA1
  obtain ⟨a2, cap2, rfl, -, -, -⟩ := id hA2
  have hal : Below w4.heap.size w4 (w4.alloc (.cells #[.slice a1 l.length cap1, .slice a2 d.length cap2] 29)) := below_alloc (Below.refl _ _) _ (Nat.le_refl _)
  have T4 : Hid (TrB (w4.alloc (.cells #[.slice a1 l.length cap1, .slice a2 d.length cap2] 29)) w4.heap.size (.slice a1 l.length cap1) (.slice a2 d.length cap2) l d) := ⟨Blk.new _ _ _, hA1.below hal, hA2.below hal⟩
  have HB : Hid (Below w.heap.size w (w4.alloc (.cells #[.slice a1 l.length cap1, .slice a2 d.length cap2] 29))) := below_alloc hB4 _ hz4
  have HST := Lib.hid (hs4.below hal (Nat.le_refl _))
  have HLO : Hid (LowV w.heap.size (.slice a1 l.length cap1) ∧ LowV w.heap.size (.slice a2 d.length cap2)) := ⟨fun b off n cap e => by have := H1.out.2.2.1 b off n cap e; omega, fun b off n cap e => by have := H1.out.2.2.2.1 b off n cap e; omega⟩
  clear hA1 hA2 hB4 hg4 hs4 hs3b hgA H1 HG2 HG3 HG3b hal
  have p0 := (T4).out.bx.cell 0 _ rfl; have p1 := (T4).out.bx.cell 1 _ rfl
  go_wp2_with fail
  generalize w4.alloc (.cells #[.slice a1 l.length cap1, .slice a2 d.length cap2] 29) = c4 at *
  generalize w4.heap.size = tb at *
  generalize hv1 : (Value.slice a1 l.length cap1) = v1 at *
  generalize hv2 : (Value.slice a2 d.length cap2) = v2 at *
  have HV := Lib.hid (And.intro hv1 hv2)
  clear hv1 hv2
  refine (rtreeFault_any _ _ l d _ (by exact T4.out.a1) (by exact T4.out.a2)).mono ?_
  rintro e w5 ⟨rfl, hb⟩
  (((try replace T4 := Lib.hid (T4.out.below hb)); (try replace T10 := Lib.hid (T10.out.below hb)); (try replace T13 := Lib.hid (T13.out.below hb)); (try replace T15 := Lib.hid (T15.out.below hb)); (try replace T17 := Lib.hid (T17.out.below hb)); (try replace T20 := Lib.hid (T20.out.below hb)); (try replace T21 := Lib.hid (T21.out.below hb)); (try replace T25 := Lib.hid (T25.out.below hb)); (try replace T26 := Lib.hid (T26.out.below hb)); (try replace T28 := Lib.hid (T28.out.below hb)); (try replace T30 := Lib.hid (T30.out.below hb)); (try replace T31 := Lib.hid (T31.out.below hb)); (try replace T32 := Lib.hid (T32.out.below hb)); (try replace T35 := Lib.hid (T35.out.below hb)); (try replace D11 := Lib.hid (D11.out.below hb D11.out.lt)); (try replace D22 := Lib.hid (D22.out.below hb D22.out.lt)); (try replace HB := Lib.hid (below_at HB.out hb HB.out.size)); (try replace HST := Lib.hid (HST.out.below hb (Nat.le_refl _)))))
  clear hb p0 p1 hz4
  by_cases hf : treeF l d = 0
  rotate_left
  · obtain ⟨F, hFe⟩ : ∃ F, F = treeF l d := ⟨_, rfl⟩
    have HC := Lib.hid (con_bad hf who)
    have HR := Lib.hid (rem_bad hf who)
    have HM := Lib.hid (move_bad hf key up port)
    have HK := Lib.hid hf
    rw [← hFe] at hf HC HR HM
    have HFE := Lib.hid hFe
    rw [← hFe]
    clear hFe
    have hfb : (F != 0) = true := by simp [hf]
    have hfc : (F == 0) = false := by simp [hf]
    have HNF : Hid (¬ F = 0) := hf
    clear hf
    have p0 := (T4).out.bx.cell 0 _ rfl; have p1 := (T4).out.bx.cell 1 _ rfl
    go_wp2_with fail
    refine (connect_any _ _ l d who _ (by exact T4.out.a1) (by exact T4.out.a2)).mono ?_
    rintro e w6 ⟨u1, u2, he, ho1, ho2, hb⟩
    rw [HC.out.1, HC.out.2.1] at he
    rw [HC.out.2.2.1] at ho1
    rw [HC.out.2.2.2] at ho2
    have hx1 := Arr.of_own (l := ([] : List Splt)) Splt.cells_len ho1
    have hx2 := Arr.of_own (l := ([] : List Drp)) Drp.cells_len ho2
    obtain ⟨xa1, xan1, hu1, -, -, -⟩ := id hx1
    obtain ⟨xa2, xan2, hu2, -, -, -⟩ := id hx2
    have hu1 : u1 = .slice xa1 0 xan1 := hu1
    have hu2 : u2 = .slice xa2 0 xan2 := hu2
    subst hu1 hu2 he
    (((try replace T4 := Lib.hid (T4.out.below hb)); (try replace T10 := Lib.hid (T10.out.below hb)); (try replace T13 := Lib.hid (T13.out.below hb)); (try replace T15 := Lib.hid (T15.out.below hb)); (try replace T17 := Lib.hid (T17.out.below hb)); (try replace T20 := Lib.hid (T20.out.below hb)); (try replace T21 := Lib.hid (T21.out.below hb)); (try replace T25 := Lib.hid (T25.out.below hb)); (try replace T26 := Lib.hid (T26.out.below hb)); (try replace T28 := Lib.hid (T28.out.below hb)); (try replace T30 := Lib.hid (T30.out.below hb)); (try replace T31 := Lib.hid (T31.out.below hb)); (try replace T32 := Lib.hid (T32.out.below hb)); (try replace T35 := Lib.hid (T35.out.below hb)); (try replace D11 := Lib.hid (D11.out.below hb D11.out.lt)); (try replace D22 := Lib.hid (D22.out.below hb D22.out.lt)); (try replace HB := Lib.hid (below_at HB.out hb HB.out.size)); (try replace HST := Lib.hid (HST.out.below hb (Nat.le_refl _)))))
    clear hb p0 p1
    have hal : Below w6.heap.size w6 ((w6.alloc (.cells #[.slice xa1 0 xan1, .slice xa2 0 xan2] 29)).alloc (.cells #[.string eDrp.cust, .string eDrp.spl, .int .i64 eDrp.port] 36)) := by (repeat (first | exact Below.refl _ _ | assumption | refine below_draws ?_ _ | refine Below.drew ?_ | refine below_alloc ?_ _ (by first | omega | (simp; done) | (simp; omega)) | refine Below.setCell ?_ (by first | omega | (simp; done) | (simp; omega)) _ | refine below_at ?_ (by assumption) (by first | omega | (simp; done) | (simp; omega))))
    (((try replace T4 := Lib.hid (T4.out.below hal)); (try replace T10 := Lib.hid (T10.out.below hal)); (try replace T13 := Lib.hid (T13.out.below hal)); (try replace T15 := Lib.hid (T15.out.below hal)); (try replace T17 := Lib.hid (T17.out.below hal)); (try replace T20 := Lib.hid (T20.out.below hal)); (try replace T21 := Lib.hid (T21.out.below hal)); (try replace T25 := Lib.hid (T25.out.below hal)); (try replace T26 := Lib.hid (T26.out.below hal)); (try replace T28 := Lib.hid (T28.out.below hal)); (try replace T30 := Lib.hid (T30.out.below hal)); (try replace T31 := Lib.hid (T31.out.below hal)); (try replace T32 := Lib.hid (T32.out.below hal)); (try replace T35 := Lib.hid (T35.out.below hal)); (try replace D11 := Lib.hid (D11.out.below hal D11.out.lt)); (try replace D22 := Lib.hid (D22.out.below hal D22.out.lt)); (try replace HB := Lib.hid (below_at HB.out hal HB.out.size)); (try replace HST := Lib.hid (HST.out.below hal (Nat.le_refl _)))))
    have T10 : Hid (TrB ((w6.alloc (.cells #[.slice xa1 0 xan1, .slice xa2 0 xan2] 29)).alloc (.cells #[.string eDrp.cust, .string eDrp.spl, .int .i64 eDrp.port] 36)) w6.heap.size (.slice xa1 0 xan1) (.slice xa2 0 xan2) [] []) := ⟨(Blk.new _ _ _).alloc _, hx1.below hal, hx2.below hal⟩
    have D11 : Hid (Blk ((w6.alloc (.cells #[.slice xa1 0 xan1, .slice xa2 0 xan2] 29)).alloc (.cells #[.string eDrp.cust, .string eDrp.spl, .int .i64 eDrp.port] 36)) (w6.heap.size + 1) #[.string eDrp.cust, .string eDrp.spl, .int .i64 eDrp.port] 36) := Blk.newAt (by simp)
    have p0 := (T4).out.bx.cell 0 _ rfl; have p1 := (T4).out.bx.cell 1 _ rfl
    clear hx1 hx2 hal
    go_wp2_with fail
    generalize (w6.alloc (.cells #[.slice xa1 0 xan1, .slice xa2 0 xan2] 29)).alloc (.cells #[.string eDrp.cust, .string eDrp.spl, .int .i64 eDrp.port] 36) = c6 at *
    generalize w6.heap.size = b6 at *
    refine (remove_any _ _ l d who _ (by exact T4.out.a1) (by exact T4.out.a2)).mono ?_
    rintro e w7 ⟨u1, u2, he, ho1, ho2, hb⟩
    rw [HR.out.1] at he
    rw [HR.out.2.1] at ho1
    rw [HR.out.2.2] at ho2
    have hx1 := Arr.of_own (l := ([] : List Splt)) Splt.cells_len ho1
    have hx2 := Arr.of_own (l := ([] : List Drp)) Drp.cells_len ho2
    obtain ⟨xb1, xbn1, hu1, -, -, -⟩ := id hx1
    obtain ⟨xb2, xbn2, hu2, -, -, -⟩ := id hx2
    have hu1 : u1 = .slice xb1 0 xbn1 := hu1
    have hu2 : u2 = .slice xb2 0 xbn2 := hu2
    subst hu1 hu2 he
    (((try replace T4 := Lib.hid (T4.out.below hb)); (try replace T10 := Lib.hid (T10.out.below hb)); (try replace T13 := Lib.hid (T13.out.below hb)); (try replace T15 := Lib.hid (T15.out.below hb)); (try replace T17 := Lib.hid (T17.out.below hb)); (try replace T20 := Lib.hid (T20.out.below hb)); (try replace T21 := Lib.hid (T21.out.below hb)); (try replace T25 := Lib.hid (T25.out.below hb)); (try replace T26 := Lib.hid (T26.out.below hb)); (try replace T28 := Lib.hid (T28.out.below hb)); (try replace T30 := Lib.hid (T30.out.below hb)); (try replace T31 := Lib.hid (T31.out.below hb)); (try replace T32 := Lib.hid (T32.out.below hb)); (try replace T35 := Lib.hid (T35.out.below hb)); (try replace D11 := Lib.hid (D11.out.below hb D11.out.lt)); (try replace D22 := Lib.hid (D22.out.below hb D22.out.lt)); (try replace HB := Lib.hid (below_at HB.out hb HB.out.size)); (try replace HST := Lib.hid (HST.out.below hb (Nat.le_refl _)))))
    clear hb p0 p1
    have hal : Below w7.heap.size w7 (w7.alloc (.cells #[.slice xb1 0 xbn1, .slice xb2 0 xbn2] 29)) := by (repeat (first | exact Below.refl _ _ | assumption | refine below_draws ?_ _ | refine Below.drew ?_ | refine below_alloc ?_ _ (by first | omega | (simp; done) | (simp; omega)) | refine Below.setCell ?_ (by first | omega | (simp; done) | (simp; omega)) _ | refine below_at ?_ (by assumption) (by first | omega | (simp; done) | (simp; omega))))
    (((try replace T4 := Lib.hid (T4.out.below hal)); (try replace T10 := Lib.hid (T10.out.below hal)); (try replace T13 := Lib.hid (T13.out.below hal)); (try replace T15 := Lib.hid (T15.out.below hal)); (try replace T17 := Lib.hid (T17.out.below hal)); (try replace T20 := Lib.hid (T20.out.below hal)); (try replace T21 := Lib.hid (T21.out.below hal)); (try replace T25 := Lib.hid (T25.out.below hal)); (try replace T26 := Lib.hid (T26.out.below hal)); (try replace T28 := Lib.hid (T28.out.below hal)); (try replace T30 := Lib.hid (T30.out.below hal)); (try replace T31 := Lib.hid (T31.out.below hal)); (try replace T32 := Lib.hid (T32.out.below hal)); (try replace T35 := Lib.hid (T35.out.below hal)); (try replace D11 := Lib.hid (D11.out.below hal D11.out.lt)); (try replace D22 := Lib.hid (D22.out.below hal D22.out.lt)); (try replace HB := Lib.hid (below_at HB.out hal HB.out.size)); (try replace HST := Lib.hid (HST.out.below hal (Nat.le_refl _)))))
    have T13 : Hid (TrB (w7.alloc (.cells #[.slice xb1 0 xbn1, .slice xb2 0 xbn2] 29)) w7.heap.size (.slice xb1 0 xbn1) (.slice xb2 0 xbn2) [] []) := ⟨Blk.new _ _ _, hx1.below hal, hx2.below hal⟩
    have p0 := (T4).out.bx.cell 0 _ rfl; have p1 := (T4).out.bx.cell 1 _ rfl
    clear hx1 hx2 hal
    go_wp2_with fail
    generalize w7.alloc (.cells #[.slice xb1 0 xbn1, .slice xb2 0 xbn2] 29) = c7 at *
    generalize w7.heap.size = b7 at *
    refine (move_any _ _ l d key up port _ (by exact T4.out.a1) (by exact T4.out.a2)).mono ?_
    rintro e w8 ⟨u1, u2, he, hx1, hx2, hb⟩
    rw [HM.out] at he hx1 hx2
    rw [if_neg (by have := HNF.out; exact this)] at hx1 hx2
    obtain ⟨xc1, xcn1, hu1, -, -, -⟩ := id hx1
    obtain ⟨xc2, xcn2, hu2, -, -, -⟩ := id hx2
    have hu1 : u1 = .slice xc1 0 xcn1 := hu1
    have hu2 : u2 = .slice xc2 0 xcn2 := hu2
    subst hu1 hu2 he
    (((try replace T4 := Lib.hid (T4.out.below hb)); (try replace T10 := Lib.hid (T10.out.below hb)); (try replace T13 := Lib.hid (T13.out.below hb)); (try replace T15 := Lib.hid (T15.out.below hb)); (try replace T17 := Lib.hid (T17.out.below hb)); (try replace T20 := Lib.hid (T20.out.below hb)); (try replace T21 := Lib.hid (T21.out.below hb)); (try replace T25 := Lib.hid (T25.out.below hb)); (try replace T26 := Lib.hid (T26.out.below hb)); (try replace T28 := Lib.hid (T28.out.below hb)); (try replace T30 := Lib.hid (T30.out.below hb)); (try replace T31 := Lib.hid (T31.out.below hb)); (try replace T32 := Lib.hid (T32.out.below hb)); (try replace T35 := Lib.hid (T35.out.below hb)); (try replace D11 := Lib.hid (D11.out.below hb D11.out.lt)); (try replace D22 := Lib.hid (D22.out.below hb D22.out.lt)); (try replace HB := Lib.hid (below_at HB.out hb HB.out.size)); (try replace HST := Lib.hid (HST.out.below hb (Nat.le_refl _)))))
    clear hb p0 p1
    have hal : Below w8.heap.size w8 (w8.alloc (.cells #[.slice xc1 0 xcn1, .slice xc2 0 xcn2] 29)) := by (repeat (first | exact Below.refl _ _ | assumption | refine below_draws ?_ _ | refine Below.drew ?_ | refine below_alloc ?_ _ (by first | omega | (simp; done) | (simp; omega)) | refine Below.setCell ?_ (by first | omega | (simp; done) | (simp; omega)) _ | refine below_at ?_ (by assumption) (by first | omega | (simp; done) | (simp; omega))))
    (((try replace T4 := Lib.hid (T4.out.below hal)); (try replace T10 := Lib.hid (T10.out.below hal)); (try replace T13 := Lib.hid (T13.out.below hal)); (try replace T15 := Lib.hid (T15.out.below hal)); (try replace T17 := Lib.hid (T17.out.below hal)); (try replace T20 := Lib.hid (T20.out.below hal)); (try replace T21 := Lib.hid (T21.out.below hal)); (try replace T25 := Lib.hid (T25.out.below hal)); (try replace T26 := Lib.hid (T26.out.below hal)); (try replace T28 := Lib.hid (T28.out.below hal)); (try replace T30 := Lib.hid (T30.out.below hal)); (try replace T31 := Lib.hid (T31.out.below hal)); (try replace T32 := Lib.hid (T32.out.below hal)); (try replace T35 := Lib.hid (T35.out.below hal)); (try replace D11 := Lib.hid (D11.out.below hal D11.out.lt)); (try replace D22 := Lib.hid (D22.out.below hal D22.out.lt)); (try replace HB := Lib.hid (below_at HB.out hal HB.out.size)); (try replace HST := Lib.hid (HST.out.below hal (Nat.le_refl _)))))
    have T15 : Hid (TrB (w8.alloc (.cells #[.slice xc1 0 xcn1, .slice xc2 0 xcn2] 29)) w8.heap.size (.slice xc1 0 xcn1) (.slice xc2 0 xcn2) [] []) := ⟨Blk.new _ _ _, hx1.below hal, hx2.below hal⟩
    have p0 := (T4).out.bx.cell 0 _ rfl; have p1 := (T4).out.bx.cell 1 _ rfl
    clear hx1 hx2 hal
    go_wp2_with fail
    generalize w8.alloc (.cells #[.slice xc1 0 xcn1, .slice xc2 0 xcn2] 29) = c8 at *
    generalize w8.heap.size = b8 at *
    refine (compact_bad _ _ l d _ (by exact T4.out.a1) (by exact T4.out.a2) HK.out).mono ?_
    rw [← HFE.out]
    rintro e w9 ⟨rfl, hb⟩
    (((try replace T4 := Lib.hid (T4.out.below hb)); (try replace T10 := Lib.hid (T10.out.below hb)); (try replace T13 := Lib.hid (T13.out.below hb)); (try replace T15 := Lib.hid (T15.out.below hb)); (try replace T17 := Lib.hid (T17.out.below hb)); (try replace T20 := Lib.hid (T20.out.below hb)); (try replace T21 := Lib.hid (T21.out.below hb)); (try replace T25 := Lib.hid (T25.out.below hb)); (try replace T26 := Lib.hid (T26.out.below hb)); (try replace T28 := Lib.hid (T28.out.below hb)); (try replace T30 := Lib.hid (T30.out.below hb)); (try replace T31 := Lib.hid (T31.out.below hb)); (try replace T32 := Lib.hid (T32.out.below hb)); (try replace T35 := Lib.hid (T35.out.below hb)); (try replace D11 := Lib.hid (D11.out.below hb D11.out.lt)); (try replace D22 := Lib.hid (D22.out.below hb D22.out.lt)); (try replace HB := Lib.hid (below_at HB.out hb HB.out.size)); (try replace HST := Lib.hid (HST.out.below hb (Nat.le_refl _)))))
    clear hb p0 p1
    have hal : Below w9.heap.size w9 ((w9.alloc (.cells #[.slice none 0 0, .slice none 0 0] 29)).alloc (.cells #[.slice none 0 0, .slice none 0 0] 29)) := by (repeat (first | exact Below.refl _ _ | assumption | refine below_draws ?_ _ | refine Below.drew ?_ | refine below_alloc ?_ _ (by first | omega | (simp; done) | (simp; omega)) | refine Below.setCell ?_ (by first | omega | (simp; done) | (simp; omega)) _ | refine below_at ?_ (by assumption) (by first | omega | (simp; done) | (simp; omega))))
    (((try replace T4 := Lib.hid (T4.out.below hal)); (try replace T10 := Lib.hid (T10.out.below hal)); (try replace T13 := Lib.hid (T13.out.below hal)); (try replace T15 := Lib.hid (T15.out.below hal)); (try replace T17 := Lib.hid (T17.out.below hal)); (try replace T20 := Lib.hid (T20.out.below hal)); (try replace T21 := Lib.hid (T21.out.below hal)); (try replace T25 := Lib.hid (T25.out.below hal)); (try replace T26 := Lib.hid (T26.out.below hal)); (try replace T28 := Lib.hid (T28.out.below hal)); (try replace T30 := Lib.hid (T30.out.below hal)); (try replace T31 := Lib.hid (T31.out.below hal)); (try replace T32 := Lib.hid (T32.out.below hal)); (try replace T35 := Lib.hid (T35.out.below hal)); (try replace D11 := Lib.hid (D11.out.below hal D11.out.lt)); (try replace D22 := Lib.hid (D22.out.below hal D22.out.lt)); (try replace HB := Lib.hid (below_at HB.out hal HB.out.size)); (try replace HST := Lib.hid (HST.out.below hal (Nat.le_refl _)))))
    have T17 : Hid (TrB ((w9.alloc (.cells #[.slice none 0 0, .slice none 0 0] 29)).alloc (.cells #[.slice none 0 0, .slice none 0 0] 29)) w9.heap.size (.slice none 0 0) (.slice none 0 0) [] []) := ⟨(Blk.new _ _ _).alloc _, Arr.nil _ _ _, Arr.nil _ _ _⟩
    have T20 : Hid (TrB ((w9.alloc (.cells #[.slice none 0 0, .slice none 0 0] 29)).alloc (.cells #[.slice none 0 0, .slice none 0 0] 29)) (w9.heap.size + 1) (.slice none 0 0) (.slice none 0 0) [] []) := ⟨Blk.newAt (by simp), Arr.nil _ _ _, Arr.nil _ _ _⟩
    clear hal
    have q0 := (T10).out.bx.cell 0 _ rfl; have q1 := (T10).out.bx.cell 1 _ rfl
    have z0 := (T20).out.bx.cell 0 _ rfl; have z1 := (T20).out.bx.cell 1 _ rfl
    go_wp2_with fail
    generalize (w9.alloc (.cells #[.slice none 0 0, .slice none 0 0] 29)).alloc (.cells #[.slice none 0 0, .slice none 0 0] 29) = c9 at *
    generalize w9.heap.size = b9 at *
    clear q0 q1 z0 z1
    refine (sameTree_any _ _ _ _ [] [] _ (by exact T10.out.a1) (by exact T10.out.a2) (by exact T20.out.a1) (by exact T20.out.a2)).mono ?_
    rintro e s0 ⟨rfl, hb⟩
    (((try replace T4 := Lib.hid (T4.out.below hb)); (try replace T10 := Lib.hid (T10.out.below hb)); (try replace T13 := Lib.hid (T13.out.below hb)); (try replace T15 := Lib.hid (T15.out.below hb)); (try replace T17 := Lib.hid (T17.out.below hb)); (try replace T20 := Lib.hid (T20.out.below hb)); (try replace T21 := Lib.hid (T21.out.below hb)); (try replace T25 := Lib.hid (T25.out.below hb)); (try replace T26 := Lib.hid (T26.out.below hb)); (try replace T28 := Lib.hid (T28.out.below hb)); (try replace T30 := Lib.hid (T30.out.below hb)); (try replace T31 := Lib.hid (T31.out.below hb)); (try replace T32 := Lib.hid (T32.out.below hb)); (try replace T35 := Lib.hid (T35.out.below hb)); (try replace D11 := Lib.hid (D11.out.below hb D11.out.lt)); (try replace D22 := Lib.hid (D22.out.below hb D22.out.lt)); (try replace HB := Lib.hid (below_at HB.out hb HB.out.size)); (try replace HST := Lib.hid (HST.out.below hb (Nat.le_refl _)))))
    clear hb
    have q0 := (T13).out.bx.cell 0 _ rfl; have q1 := (T13).out.bx.cell 1 _ rfl
    have z0 := (T20).out.bx.cell 0 _ rfl; have z1 := (T20).out.bx.cell 1 _ rfl
    go_wp2_with fail
    clear q0 q1 z0 z1
    refine (sameTree_any _ _ _ _ [] [] _ (by exact T13.out.a1) (by exact T13.out.a2) (by exact T20.out.a1) (by exact T20.out.a2)).mono ?_
    rintro e s1 ⟨rfl, hb⟩
    (((try replace T4 := Lib.hid (T4.out.below hb)); (try replace T10 := Lib.hid (T10.out.below hb)); (try replace T13 := Lib.hid (T13.out.below hb)); (try replace T15 := Lib.hid (T15.out.below hb)); (try replace T17 := Lib.hid (T17.out.below hb)); (try replace T20 := Lib.hid (T20.out.below hb)); (try replace T21 := Lib.hid (T21.out.below hb)); (try replace T25 := Lib.hid (T25.out.below hb)); (try replace T26 := Lib.hid (T26.out.below hb)); (try replace T28 := Lib.hid (T28.out.below hb)); (try replace T30 := Lib.hid (T30.out.below hb)); (try replace T31 := Lib.hid (T31.out.below hb)); (try replace T32 := Lib.hid (T32.out.below hb)); (try replace T35 := Lib.hid (T35.out.below hb)); (try replace D11 := Lib.hid (D11.out.below hb D11.out.lt)); (try replace D22 := Lib.hid (D22.out.below hb D22.out.lt)); (try replace HB := Lib.hid (below_at HB.out hb HB.out.size)); (try replace HST := Lib.hid (HST.out.below hb (Nat.le_refl _)))))
    clear hb
    have q0 := (T15).out.bx.cell 0 _ rfl; have q1 := (T15).out.bx.cell 1 _ rfl
    have z0 := (T20).out.bx.cell 0 _ rfl; have z1 := (T20).out.bx.cell 1 _ rfl
    go_wp2_with fail
    clear q0 q1 z0 z1
    refine (sameTree_any _ _ _ _ [] [] _ (by exact T15.out.a1) (by exact T15.out.a2) (by exact T20.out.a1) (by exact T20.out.a2)).mono ?_
    rintro e s2 ⟨rfl, hb⟩
    (((try replace T4 := Lib.hid (T4.out.below hb)); (try replace T10 := Lib.hid (T10.out.below hb)); (try replace T13 := Lib.hid (T13.out.below hb)); (try replace T15 := Lib.hid (T15.out.below hb)); (try replace T17 := Lib.hid (T17.out.below hb)); (try replace T20 := Lib.hid (T20.out.below hb)); (try replace T21 := Lib.hid (T21.out.below hb)); (try replace T25 := Lib.hid (T25.out.below hb)); (try replace T26 := Lib.hid (T26.out.below hb)); (try replace T28 := Lib.hid (T28.out.below hb)); (try replace T30 := Lib.hid (T30.out.below hb)); (try replace T31 := Lib.hid (T31.out.below hb)); (try replace T32 := Lib.hid (T32.out.below hb)); (try replace T35 := Lib.hid (T35.out.below hb)); (try replace D11 := Lib.hid (D11.out.below hb D11.out.lt)); (try replace D22 := Lib.hid (D22.out.below hb D22.out.lt)); (try replace HB := Lib.hid (below_at HB.out hb HB.out.size)); (try replace HST := Lib.hid (HST.out.below hb (Nat.le_refl _)))))
    clear hb
    have q0 := (T17).out.bx.cell 0 _ rfl; have q1 := (T17).out.bx.cell 1 _ rfl
    have z0 := (T20).out.bx.cell 0 _ rfl; have z1 := (T20).out.bx.cell 1 _ rfl
    go_wp2_with fail
    clear q0 q1 z0 z1
    refine (sameTree_any _ _ _ _ [] [] _ (by exact T17.out.a1) (by exact T17.out.a2) (by exact T20.out.a1) (by exact T20.out.a2)).mono ?_
    rintro e s3 ⟨rfl, hb⟩
    (((try replace T4 := Lib.hid (T4.out.below hb)); (try replace T10 := Lib.hid (T10.out.below hb)); (try replace T13 := Lib.hid (T13.out.below hb)); (try replace T15 := Lib.hid (T15.out.below hb)); (try replace T17 := Lib.hid (T17.out.below hb)); (try replace T20 := Lib.hid (T20.out.below hb)); (try replace T21 := Lib.hid (T21.out.below hb)); (try replace T25 := Lib.hid (T25.out.below hb)); (try replace T26 := Lib.hid (T26.out.below hb)); (try replace T28 := Lib.hid (T28.out.below hb)); (try replace T30 := Lib.hid (T30.out.below hb)); (try replace T31 := Lib.hid (T31.out.below hb)); (try replace T32 := Lib.hid (T32.out.below hb)); (try replace T35 := Lib.hid (T35.out.below hb)); (try replace D11 := Lib.hid (D11.out.below hb D11.out.lt)); (try replace D22 := Lib.hid (D22.out.below hb D22.out.lt)); (try replace HB := Lib.hid (below_at HB.out hb HB.out.size)); (try replace HST := Lib.hid (HST.out.below hb (Nat.le_refl _)))))
    clear hb
    have q0 := D11.out.cell 0 _ rfl
    have q1 := D11.out.cell 1 _ rfl
    have q2 := D11.out.cell 2 _ rfl
    have hd0 : eDrp.cust = ⟨#[]⟩ := rfl
    have hd1 : eDrp.spl = ⟨#[]⟩ := rfl
    have hd2 : eDrp.port = 0 := rfl
    rw [hd0] at q0
    rw [hd1] at q1
    rw [hd2] at q2
    clear hd0 hd1 hd2
    go_wp2_with fail
    refine (grown_any _).mono ?_
    rintro e wy ⟨rfl, hb⟩
    (((try replace T4 := Lib.hid (T4.out.below hb)); (try replace T10 := Lib.hid (T10.out.below hb)); (try replace T13 := Lib.hid (T13.out.below hb)); (try replace T15 := Lib.hid (T15.out.below hb)); (try replace T17 := Lib.hid (T17.out.below hb)); (try replace T20 := Lib.hid (T20.out.below hb)); (try replace T21 := Lib.hid (T21.out.below hb)); (try replace T25 := Lib.hid (T25.out.below hb)); (try replace T26 := Lib.hid (T26.out.below hb)); (try replace T28 := Lib.hid (T28.out.below hb)); (try replace T30 := Lib.hid (T30.out.below hb)); (try replace T31 := Lib.hid (T31.out.below hb)); (try replace T32 := Lib.hid (T32.out.below hb)); (try replace T35 := Lib.hid (T35.out.below hb)); (try replace D11 := Lib.hid (D11.out.below hb D11.out.lt)); (try replace D22 := Lib.hid (D22.out.below hb D22.out.lt)); (try replace HB := Lib.hid (below_at HB.out hb HB.out.size)); (try replace HST := Lib.hid (HST.out.below hb (Nat.le_refl _)))))
    clear hb q0 q1 q2
    go_wp2
    go_ret
    exact ⟨rfl, HB.out⟩
  · have HF := Lib.hid hf
    have HOK := Lib.hid (tok_of hf)
    rw [hf]
    clear hf
    have hl5 := HOK.out.s.len
    obtain ⟨ML, hML⟩ : ∃ ML, ML = (if moveF l d key up port = 0 then moveL l key up port else []) := ⟨_, rfl⟩
    obtain ⟨MD, hMD⟩ : ∃ MD, MD = (if moveF l d key up port = 0 then d else []) := ⟨_, rfl⟩
    have HML := Lib.hid (And.intro hML hMD)
    clear hML hMD
    have p0 := (T4).out.bx.cell 0 _ rfl; have p1 := (T4).out.bx.cell 1 _ rfl
    go_wp2_with fail
    refine (connect_any _ _ l d who _ (by exact T4.out.a1) (by exact T4.out.a2)).mono ?_
    rintro e w6 ⟨u1, u2, rfl, ho1, ho2, hb⟩
    have hx1 := Arr.of_own Splt.cells_len ho1
    have hx2 := Arr.of_own Drp.cells_len ho2
    clear ho1 ho2
    obtain ⟨xa1, xan1, hu1, -, -, -⟩ := id hx1
    obtain ⟨xa2, xan2, hu2, -, -, -⟩ := id hx2
    subst hu1 hu2
    (((try replace T4 := Lib.hid (T4.out.below hb)); (try replace T10 := Lib.hid (T10.out.below hb)); (try replace T13 := Lib.hid (T13.out.below hb)); (try replace T15 := Lib.hid (T15.out.below hb)); (try replace T17 := Lib.hid (T17.out.below hb)); (try replace T20 := Lib.hid (T20.out.below hb)); (try replace T21 := Lib.hid (T21.out.below hb)); (try replace T25 := Lib.hid (T25.out.below hb)); (try replace T26 := Lib.hid (T26.out.below hb)); (try replace T28 := Lib.hid (T28.out.below hb)); (try replace T30 := Lib.hid (T30.out.below hb)); (try replace T31 := Lib.hid (T31.out.below hb)); (try replace T32 := Lib.hid (T32.out.below hb)); (try replace T35 := Lib.hid (T35.out.below hb)); (try replace D11 := Lib.hid (D11.out.below hb D11.out.lt)); (try replace D22 := Lib.hid (D22.out.below hb D22.out.lt)); (try replace HB := Lib.hid (below_at HB.out hb HB.out.size)); (try replace HST := Lib.hid (HST.out.below hb (Nat.le_refl _)))))
    clear hb p0 p1
    have hal : Below w6.heap.size w6 ((w6.alloc (.cells #[.slice xa1 (conS l d who).length xan1, .slice xa2 (conD l d who).length xan2] 29)).alloc (.cells #[.string (conB l d who).cust, .string (conB l d who).spl, .int .i64 (conB l d who).port] 36)) := by (repeat (first | exact Below.refl _ _ | assumption | refine below_draws ?_ _ | refine Below.drew ?_ | refine below_alloc ?_ _ (by first | omega | (simp; done) | (simp; omega)) | refine Below.setCell ?_ (by first | omega | (simp; done) | (simp; omega)) _ | refine below_at ?_ (by assumption) (by first | omega | (simp; done) | (simp; omega))))
    (((try replace T4 := Lib.hid (T4.out.below hal)); (try replace T10 := Lib.hid (T10.out.below hal)); (try replace T13 := Lib.hid (T13.out.below hal)); (try replace T15 := Lib.hid (T15.out.below hal)); (try replace T17 := Lib.hid (T17.out.below hal)); (try replace T20 := Lib.hid (T20.out.below hal)); (try replace T21 := Lib.hid (T21.out.below hal)); (try replace T25 := Lib.hid (T25.out.below hal)); (try replace T26 := Lib.hid (T26.out.below hal)); (try replace T28 := Lib.hid (T28.out.below hal)); (try replace T30 := Lib.hid (T30.out.below hal)); (try replace T31 := Lib.hid (T31.out.below hal)); (try replace T32 := Lib.hid (T32.out.below hal)); (try replace T35 := Lib.hid (T35.out.below hal)); (try replace D11 := Lib.hid (D11.out.below hal D11.out.lt)); (try replace D22 := Lib.hid (D22.out.below hal D22.out.lt)); (try replace HB := Lib.hid (below_at HB.out hal HB.out.size)); (try replace HST := Lib.hid (HST.out.below hal (Nat.le_refl _)))))
    have T10 : Hid (TrB ((w6.alloc (.cells #[.slice xa1 (conS l d who).length xan1, .slice xa2 (conD l d who).length xan2] 29)).alloc (.cells #[.string (conB l d who).cust, .string (conB l d who).spl, .int .i64 (conB l d who).port] 36)) w6.heap.size (.slice xa1 (conS l d who).length xan1) (.slice xa2 (conD l d who).length xan2) (conS l d who) (conD l d who)) := ⟨(Blk.new _ _ _).alloc _, hx1.below hal, hx2.below hal⟩
    have D11 : Hid (Blk ((w6.alloc (.cells #[.slice xa1 (conS l d who).length xan1, .slice xa2 (conD l d who).length xan2] 29)).alloc (.cells #[.string (conB l d who).cust, .string (conB l d who).spl, .int .i64 (conB l d who).port] 36)) (w6.heap.size + 1) #[.string (conB l d who).cust, .string (conB l d who).spl, .int .i64 (conB l d who).port] 36) := Blk.newAt (by simp)
    have p0 := (T4).out.bx.cell 0 _ rfl; have p1 := (T4).out.bx.cell 1 _ rfl
    clear hx1 hx2 hal
    go_wp2_with fail
    generalize (w6.alloc (.cells #[.slice xa1 (conS l d who).length xan1, .slice xa2 (conD l d who).length xan2] 29)).alloc (.cells #[.string (conB l d who).cust, .string (conB l d who).spl, .int .i64 (conB l d who).port] 36) = c6 at *
    generalize w6.heap.size = b6 at *
    refine (remove_any _ _ l d who _ (by exact T4.out.a1) (by exact T4.out.a2)).mono ?_
    rintro e w7 ⟨u1, u2, rfl, ho1, ho2, hb⟩
    have hx1 := Arr.of_own Splt.cells_len ho1
    have hx2 := Arr.of_own Drp.cells_len ho2
    clear ho1 ho2
    obtain ⟨xb1, xbn1, hu1, -, -, -⟩ := id hx1
    obtain ⟨xb2, xbn2, hu2, -, -, -⟩ := id hx2
    subst hu1 hu2
    (((try replace T4 := Lib.hid (T4.out.below hb)); (try replace T10 := Lib.hid (T10.out.below hb)); (try replace T13 := Lib.hid (T13.out.below hb)); (try replace T15 := Lib.hid (T15.out.below hb)); (try replace T17 := Lib.hid (T17.out.below hb)); (try replace T20 := Lib.hid (T20.out.below hb)); (try replace T21 := Lib.hid (T21.out.below hb)); (try replace T25 := Lib.hid (T25.out.below hb)); (try replace T26 := Lib.hid (T26.out.below hb)); (try replace T28 := Lib.hid (T28.out.below hb)); (try replace T30 := Lib.hid (T30.out.below hb)); (try replace T31 := Lib.hid (T31.out.below hb)); (try replace T32 := Lib.hid (T32.out.below hb)); (try replace T35 := Lib.hid (T35.out.below hb)); (try replace D11 := Lib.hid (D11.out.below hb D11.out.lt)); (try replace D22 := Lib.hid (D22.out.below hb D22.out.lt)); (try replace HB := Lib.hid (below_at HB.out hb HB.out.size)); (try replace HST := Lib.hid (HST.out.below hb (Nat.le_refl _)))))
    clear hb p0 p1
    have hal : Below w7.heap.size w7 (w7.alloc (.cells #[.slice xb1 (remS l d who).length xbn1, .slice xb2 (remD l d who).length xbn2] 29)) := by (repeat (first | exact Below.refl _ _ | assumption | refine below_draws ?_ _ | refine Below.drew ?_ | refine below_alloc ?_ _ (by first | omega | (simp; done) | (simp; omega)) | refine Below.setCell ?_ (by first | omega | (simp; done) | (simp; omega)) _ | refine below_at ?_ (by assumption) (by first | omega | (simp; done) | (simp; omega))))
    (((try replace T4 := Lib.hid (T4.out.below hal)); (try replace T10 := Lib.hid (T10.out.below hal)); (try replace T13 := Lib.hid (T13.out.below hal)); (try replace T15 := Lib.hid (T15.out.below hal)); (try replace T17 := Lib.hid (T17.out.below hal)); (try replace T20 := Lib.hid (T20.out.below hal)); (try replace T21 := Lib.hid (T21.out.below hal)); (try replace T25 := Lib.hid (T25.out.below hal)); (try replace T26 := Lib.hid (T26.out.below hal)); (try replace T28 := Lib.hid (T28.out.below hal)); (try replace T30 := Lib.hid (T30.out.below hal)); (try replace T31 := Lib.hid (T31.out.below hal)); (try replace T32 := Lib.hid (T32.out.below hal)); (try replace T35 := Lib.hid (T35.out.below hal)); (try replace D11 := Lib.hid (D11.out.below hal D11.out.lt)); (try replace D22 := Lib.hid (D22.out.below hal D22.out.lt)); (try replace HB := Lib.hid (below_at HB.out hal HB.out.size)); (try replace HST := Lib.hid (HST.out.below hal (Nat.le_refl _)))))
    have T13 : Hid (TrB (w7.alloc (.cells #[.slice xb1 (remS l d who).length xbn1, .slice xb2 (remD l d who).length xbn2] 29)) w7.heap.size (.slice xb1 (remS l d who).length xbn1) (.slice xb2 (remD l d who).length xbn2) (remS l d who) (remD l d who)) := ⟨Blk.new _ _ _, hx1.below hal, hx2.below hal⟩
    have p0 := (T4).out.bx.cell 0 _ rfl; have p1 := (T4).out.bx.cell 1 _ rfl
    clear hx1 hx2 hal
    go_wp2_with fail
    generalize w7.alloc (.cells #[.slice xb1 (remS l d who).length xbn1, .slice xb2 (remD l d who).length xbn2] 29) = c7 at *
    generalize w7.heap.size = b7 at *
    refine (move_any _ _ l d key up port _ (by exact T4.out.a1) (by exact T4.out.a2)).mono ?_
    rintro e w8 ⟨u1, u2, rfl, hx1, hx2, hb⟩
    rw [← HML.out.1] at hx1
    rw [← HML.out.2] at hx2
    obtain ⟨xc1, xcn1, hu1, -, -, -⟩ := id hx1
    obtain ⟨xc2, xcn2, hu2, -, -, -⟩ := id hx2
    subst hu1 hu2
    (((try replace T4 := Lib.hid (T4.out.below hb)); (try replace T10 := Lib.hid (T10.out.below hb)); (try replace T13 := Lib.hid (T13.out.below hb)); (try replace T15 := Lib.hid (T15.out.below hb)); (try replace T17 := Lib.hid (T17.out.below hb)); (try replace T20 := Lib.hid (T20.out.below hb)); (try replace T21 := Lib.hid (T21.out.below hb)); (try replace T25 := Lib.hid (T25.out.below hb)); (try replace T26 := Lib.hid (T26.out.below hb)); (try replace T28 := Lib.hid (T28.out.below hb)); (try replace T30 := Lib.hid (T30.out.below hb)); (try replace T31 := Lib.hid (T31.out.below hb)); (try replace T32 := Lib.hid (T32.out.below hb)); (try replace T35 := Lib.hid (T35.out.below hb)); (try replace D11 := Lib.hid (D11.out.below hb D11.out.lt)); (try replace D22 := Lib.hid (D22.out.below hb D22.out.lt)); (try replace HB := Lib.hid (below_at HB.out hb HB.out.size)); (try replace HST := Lib.hid (HST.out.below hb (Nat.le_refl _)))))
    clear hb p0 p1
    have hal : Below w8.heap.size w8 (w8.alloc (.cells #[.slice xc1 (ML).length xcn1, .slice xc2 (MD).length xcn2] 29)) := by (repeat (first | exact Below.refl _ _ | assumption | refine below_draws ?_ _ | refine Below.drew ?_ | refine below_alloc ?_ _ (by first | omega | (simp; done) | (simp; omega)) | refine Below.setCell ?_ (by first | omega | (simp; done) | (simp; omega)) _ | refine below_at ?_ (by assumption) (by first | omega | (simp; done) | (simp; omega))))
    (((try replace T4 := Lib.hid (T4.out.below hal)); (try replace T10 := Lib.hid (T10.out.below hal)); (try replace T13 := Lib.hid (T13.out.below hal)); (try replace T15 := Lib.hid (T15.out.below hal)); (try replace T17 := Lib.hid (T17.out.below hal)); (try replace T20 := Lib.hid (T20.out.below hal)); (try replace T21 := Lib.hid (T21.out.below hal)); (try replace T25 := Lib.hid (T25.out.below hal)); (try replace T26 := Lib.hid (T26.out.below hal)); (try replace T28 := Lib.hid (T28.out.below hal)); (try replace T30 := Lib.hid (T30.out.below hal)); (try replace T31 := Lib.hid (T31.out.below hal)); (try replace T32 := Lib.hid (T32.out.below hal)); (try replace T35 := Lib.hid (T35.out.below hal)); (try replace D11 := Lib.hid (D11.out.below hal D11.out.lt)); (try replace D22 := Lib.hid (D22.out.below hal D22.out.lt)); (try replace HB := Lib.hid (below_at HB.out hal HB.out.size)); (try replace HST := Lib.hid (HST.out.below hal (Nat.le_refl _)))))
    have T15 : Hid (TrB (w8.alloc (.cells #[.slice xc1 (ML).length xcn1, .slice xc2 (MD).length xcn2] 29)) w8.heap.size (.slice xc1 (ML).length xcn1) (.slice xc2 (MD).length xcn2) (ML) (MD)) := ⟨Blk.new _ _ _, hx1.below hal, hx2.below hal⟩
    have p0 := (T4).out.bx.cell 0 _ rfl; have p1 := (T4).out.bx.cell 1 _ rfl
    clear hx1 hx2 hal
    go_wp2_with fail
    generalize w8.alloc (.cells #[.slice xc1 (ML).length xcn1, .slice xc2 (MD).length xcn2] 29) = c8 at *
    generalize w8.heap.size = b8 at *
    refine (compactV_any _ _ l d _ (by exact T4.out.a1) (by exact T4.out.a2) HF.out).mono ?_
    rintro e w9 ⟨u1, u2, rfl, hr1, hr2, hb⟩
    have hx1 := hr1.arr
    have hx2 := hr2.arr
    clear hr1 hr2
    obtain ⟨xd1, xdn1, hu1, -, -, -⟩ := id hx1
    obtain ⟨xd2, xdn2, hu2, -, -, -⟩ := id hx2
    subst hu1 hu2
    (((try replace T4 := Lib.hid (T4.out.below hb)); (try replace T10 := Lib.hid (T10.out.below hb)); (try replace T13 := Lib.hid (T13.out.below hb)); (try replace T15 := Lib.hid (T15.out.below hb)); (try replace T17 := Lib.hid (T17.out.below hb)); (try replace T20 := Lib.hid (T20.out.below hb)); (try replace T21 := Lib.hid (T21.out.below hb)); (try replace T25 := Lib.hid (T25.out.below hb)); (try replace T26 := Lib.hid (T26.out.below hb)); (try replace T28 := Lib.hid (T28.out.below hb)); (try replace T30 := Lib.hid (T30.out.below hb)); (try replace T31 := Lib.hid (T31.out.below hb)); (try replace T32 := Lib.hid (T32.out.below hb)); (try replace T35 := Lib.hid (T35.out.below hb)); (try replace D11 := Lib.hid (D11.out.below hb D11.out.lt)); (try replace D22 := Lib.hid (D22.out.below hb D22.out.lt)); (try replace HB := Lib.hid (below_at HB.out hb HB.out.size)); (try replace HST := Lib.hid (HST.out.below hb (Nat.le_refl _)))))
    clear hb p0 p1
    have hal : Below w9.heap.size w9 ((w9.alloc (.cells #[.slice xd1 (compL l d).length xdn1, .slice xd2 (d).length xdn2] 29)).alloc (.cells #[.slice none 0 0, .slice none 0 0] 29)) := by (repeat (first | exact Below.refl _ _ | assumption | refine below_draws ?_ _ | refine Below.drew ?_ | refine below_alloc ?_ _ (by first | omega | (simp; done) | (simp; omega)) | refine Below.setCell ?_ (by first | omega | (simp; done) | (simp; omega)) _ | refine below_at ?_ (by assumption) (by first | omega | (simp; done) | (simp; omega))))
    (((try replace T4 := Lib.hid (T4.out.below hal)); (try replace T10 := Lib.hid (T10.out.below hal)); (try replace T13 := Lib.hid (T13.out.below hal)); (try replace T15 := Lib.hid (T15.out.below hal)); (try replace T17 := Lib.hid (T17.out.below hal)); (try replace T20 := Lib.hid (T20.out.below hal)); (try replace T21 := Lib.hid (T21.out.below hal)); (try replace T25 := Lib.hid (T25.out.below hal)); (try replace T26 := Lib.hid (T26.out.below hal)); (try replace T28 := Lib.hid (T28.out.below hal)); (try replace T30 := Lib.hid (T30.out.below hal)); (try replace T31 := Lib.hid (T31.out.below hal)); (try replace T32 := Lib.hid (T32.out.below hal)); (try replace T35 := Lib.hid (T35.out.below hal)); (try replace D11 := Lib.hid (D11.out.below hal D11.out.lt)); (try replace D22 := Lib.hid (D22.out.below hal D22.out.lt)); (try replace HB := Lib.hid (below_at HB.out hal HB.out.size)); (try replace HST := Lib.hid (HST.out.below hal (Nat.le_refl _)))))
    have T17 : Hid (TrB ((w9.alloc (.cells #[.slice xd1 (compL l d).length xdn1, .slice xd2 (d).length xdn2] 29)).alloc (.cells #[.slice none 0 0, .slice none 0 0] 29)) w9.heap.size (.slice xd1 (compL l d).length xdn1) (.slice xd2 (d).length xdn2) (compL l d) (d)) := ⟨(Blk.new _ _ _).alloc _, hx1.below hal, hx2.below hal⟩
    have p0 := (T4).out.bx.cell 0 _ rfl; have p1 := (T4).out.bx.cell 1 _ rfl
    clear hx1 hx2 hal
    go_wp2_with fail
    generalize (w9.alloc (.cells #[.slice xd1 (compL l d).length xdn1, .slice xd2 (d).length xdn2] 29)).alloc (.cells #[.slice none 0 0, .slice none 0 0] 29) = c9 at *
    generalize w9.heap.size = b9 at *
    refine (connected_any _ _ l d who _ (by exact T4.out.a1) (by exact T4.out.a2) HF.out (by omega)).mono ?_
    rintro e w10 ⟨u1, u2, rfl, hx1, hx2, hb⟩
    obtain ⟨xe1, xen1, hu1, -, -, -⟩ := id hx1
    obtain ⟨xe2, xen2, hu2, -, -, -⟩ := id hx2
    subst hu1 hu2
    (((try replace T4 := Lib.hid (T4.out.below hb)); (try replace T10 := Lib.hid (T10.out.below hb)); (try replace T13 := Lib.hid (T13.out.below hb)); (try replace T15 := Lib.hid (T15.out.below hb)); (try replace T17 := Lib.hid (T17.out.below hb)); (try replace T20 := Lib.hid (T20.out.below hb)); (try replace T21 := Lib.hid (T21.out.below hb)); (try replace T25 := Lib.hid (T25.out.below hb)); (try replace T26 := Lib.hid (T26.out.below hb)); (try replace T28 := Lib.hid (T28.out.below hb)); (try replace T30 := Lib.hid (T30.out.below hb)); (try replace T31 := Lib.hid (T31.out.below hb)); (try replace T32 := Lib.hid (T32.out.below hb)); (try replace T35 := Lib.hid (T35.out.below hb)); (try replace D11 := Lib.hid (D11.out.below hb D11.out.lt)); (try replace D22 := Lib.hid (D22.out.below hb D22.out.lt)); (try replace HB := Lib.hid (below_at HB.out hb HB.out.size)); (try replace HST := Lib.hid (HST.out.below hb (Nat.le_refl _)))))
    clear hb p0 p1
    have hal : Below w10.heap.size w10 ((w10.alloc (.cells #[.slice xe1 (conS l d who).length xen1, .slice xe2 (conD l d who).length xen2] 29)).alloc (.cells #[.string (conB l d who).cust, .string (conB l d who).spl, .int .i64 (conB l d who).port] 36)) := by (repeat (first | exact Below.refl _ _ | assumption | refine below_draws ?_ _ | refine Below.drew ?_ | refine below_alloc ?_ _ (by first | omega | (simp; done) | (simp; omega)) | refine Below.setCell ?_ (by first | omega | (simp; done) | (simp; omega)) _ | refine below_at ?_ (by assumption) (by first | omega | (simp; done) | (simp; omega))))
    (((try replace T4 := Lib.hid (T4.out.below hal)); (try replace T10 := Lib.hid (T10.out.below hal)); (try replace T13 := Lib.hid (T13.out.below hal)); (try replace T15 := Lib.hid (T15.out.below hal)); (try replace T17 := Lib.hid (T17.out.below hal)); (try replace T20 := Lib.hid (T20.out.below hal)); (try replace T21 := Lib.hid (T21.out.below hal)); (try replace T25 := Lib.hid (T25.out.below hal)); (try replace T26 := Lib.hid (T26.out.below hal)); (try replace T28 := Lib.hid (T28.out.below hal)); (try replace T30 := Lib.hid (T30.out.below hal)); (try replace T31 := Lib.hid (T31.out.below hal)); (try replace T32 := Lib.hid (T32.out.below hal)); (try replace T35 := Lib.hid (T35.out.below hal)); (try replace D11 := Lib.hid (D11.out.below hal D11.out.lt)); (try replace D22 := Lib.hid (D22.out.below hal D22.out.lt)); (try replace HB := Lib.hid (below_at HB.out hal HB.out.size)); (try replace HST := Lib.hid (HST.out.below hal (Nat.le_refl _)))))
    have T21 : Hid (TrB ((w10.alloc (.cells #[.slice xe1 (conS l d who).length xen1, .slice xe2 (conD l d who).length xen2] 29)).alloc (.cells #[.string (conB l d who).cust, .string (conB l d who).spl, .int .i64 (conB l d who).port] 36)) w10.heap.size (.slice xe1 (conS l d who).length xen1) (.slice xe2 (conD l d who).length xen2) (conS l d who) (conD l d who)) := ⟨(Blk.new _ _ _).alloc _, hx1.below hal, hx2.below hal⟩
    have D22 : Hid (Blk ((w10.alloc (.cells #[.slice xe1 (conS l d who).length xen1, .slice xe2 (conD l d who).length xen2] 29)).alloc (.cells #[.string (conB l d who).cust, .string (conB l d who).spl, .int .i64 (conB l d who).port] 36)) (w10.heap.size + 1) #[.string (conB l d who).cust, .string (conB l d who).spl, .int .i64 (conB l d who).port] 36) := Blk.newAt (by simp)
    have p0 := (T4).out.bx.cell 0 _ rfl; have p1 := (T4).out.bx.cell 1 _ rfl
    clear hx1 hx2 hal
    go_wp2_with fail
    generalize (w10.alloc (.cells #[.slice xe1 (conS l d who).length xen1, .slice xe2 (conD l d who).length xen2] 29)).alloc (.cells #[.string (conB l d who).cust, .string (conB l d who).spl, .int .i64 (conB l d who).port] 36) = c10 at *
    generalize w10.heap.size = b10 at *
    refine (hasDrop_any _ _ d who _ (by exact T4.out.a2)).mono ?_
    rintro e w11 ⟨rfl, hb⟩
    (((try replace T4 := Lib.hid (T4.out.below hb)); (try replace T10 := Lib.hid (T10.out.below hb)); (try replace T13 := Lib.hid (T13.out.below hb)); (try replace T15 := Lib.hid (T15.out.below hb)); (try replace T17 := Lib.hid (T17.out.below hb)); (try replace T20 := Lib.hid (T20.out.below hb)); (try replace T21 := Lib.hid (T21.out.below hb)); (try replace T25 := Lib.hid (T25.out.below hb)); (try replace T26 := Lib.hid (T26.out.below hb)); (try replace T28 := Lib.hid (T28.out.below hb)); (try replace T30 := Lib.hid (T30.out.below hb)); (try replace T31 := Lib.hid (T31.out.below hb)); (try replace T32 := Lib.hid (T32.out.below hb)); (try replace T35 := Lib.hid (T35.out.below hb)); (try replace D11 := Lib.hid (D11.out.below hb D11.out.lt)); (try replace D22 := Lib.hid (D22.out.below hb D22.out.lt)); (try replace HB := Lib.hid (below_at HB.out hb HB.out.size)); (try replace HST := Lib.hid (HST.out.below hb (Nat.le_refl _)))))
    clear hb p0 p1
    go_wp2_with fail
    refine (none_any _ _).mono ?_
    rintro e w12 ⟨rfl, rfl⟩
    rw [rem_none2 HF.out]
    go_upto_if 145 with (fail)
    go_cut [] from 144 to 148 (fun wc => ∃ y1 m1 y2 m2, TrB wc w11.heap.size (.slice y1 (remS l d who).length m1) (.slice y2 (remD l d who).length m2) (remS l d who) (remD l d who) ∧ Below w11.heap.size w11 wc)
    case first =>
      have hN := Blk.new w11 #[.slice none 0 0, .slice none 0 0] 29
      have hal : Below w11.heap.size w11 (w11.alloc (.cells #[.slice none 0 0, .slice none 0 0] 29)) := below_alloc (Below.refl _ _) _ (Nat.le_refl _)
      have T4' := Lib.hid (T4.out.below hal)
      have HN := Lib.hid (And.intro hN hal)
      clear hN hal
      by_cases hr : remF l d who = 0
      · have hq : (remF l d who == 0) = true := by simp [hr]
        have hq2 : decide (remF l d who = 0) = true := decide_eq_true hr
        have HRZ := Lib.hid (rem_zero HF.out hr)
        clear hr
        have p0 := (T4').out.bx.cell 0 _ rfl; have p1 := (T4').out.bx.cell 1 _ rfl
        go_wp2_with fail
        refine (removed_any _ _ l d who _ (by exact T4'.out.a1) (by exact T4'.out.a2) HOK.out.custs (by omega) (by omega)).mono ?_
        rintro e w13 ⟨u1, u2, rfl, hx1, hx2, hb, hlo1, hlo2⟩
        rw [← HRZ.out.2] at hx2
        have hx1' : Arr Splt.cells 4 w13 (remS l d who) u1 := by rw [HRZ.out.1]; exact hx1
        have HX := Lib.hid (And.intro hx1' (And.intro hx2 (And.intro hlo1 (And.intro hlo2 (And.intro (HN.out.1.below hb (by simp)) (below_at HN.out.2 hb (by simp)))))))
        obtain ⟨xf1, xfn1, rfl, -, -, -⟩ := id hx1'
        obtain ⟨xf2, xfn2, rfl, -, -, -⟩ := id hx2
        have z0 := HX.out.2.2.2.2.1.cell 0 _ rfl
        have z1 := HX.out.2.2.2.2.1.cell 1 _ rfl
        have zf := fun o => HX.out.2.2.2.2.1.free o
        clear hx1 hx1' hx2 hlo1 hlo2 hb p0 p1
        go_wp2
        go_meet
        have n1 : (Value.slice xf1 (remS l d who).length xfn1).ownBlock ≠ some w11.heap.size := fun e => by have := HX.out.2.2.1 _ e; simp only [World.size_alloc] at this; omega
        have n2 : (Value.slice xf2 (remD l d who).length xfn2).ownBlock ≠ some w11.heap.size := fun e => by have := HX.out.2.2.2.1 _ e; simp only [World.size_alloc] at this; omega
        exact ⟨xf1, xfn1, xf2, xfn2, ⟨(HX.out.2.2.2.2.1.set 0 _).set 1 _, arr_setOther (arr_setOther HX.out.1 n1 _ _) n1 _ _, arr_setOther (arr_setOther HX.out.2.1 n2 _ _) n2 _ _⟩, Below.setCell (Below.setCell HX.out.2.2.2.2.2 (Nat.le_refl _) _) (Nat.le_refl _) _⟩
      · have hq : (remF l d who == 0) = false := by simp [hr]
        have hq2 : decide (remF l d who = 0) = false := decide_eq_false hr
        have HRO := Lib.hid (rem_other hr)
        clear hr
        go_wp2
        go_meet
        refine ⟨none, 0, none, 0, ?_, HN.out.2⟩
        rw [HRO.out.1, HRO.out.2]
        exact ⟨HN.out.1, Arr.nil _ _ _, Arr.nil _ _ _⟩
    case rest =>
    obtain ⟨y1, m1, y2, m2, hT25, hb⟩ := hcut
    (((try replace T4 := Lib.hid (T4.out.below hb)); (try replace T10 := Lib.hid (T10.out.below hb)); (try replace T13 := Lib.hid (T13.out.below hb)); (try replace T15 := Lib.hid (T15.out.below hb)); (try replace T17 := Lib.hid (T17.out.below hb)); (try replace T20 := Lib.hid (T20.out.below hb)); (try replace T21 := Lib.hid (T21.out.below hb)); (try replace T25 := Lib.hid (T25.out.below hb)); (try replace T26 := Lib.hid (T26.out.below hb)); (try replace T28 := Lib.hid (T28.out.below hb)); (try replace T30 := Lib.hid (T30.out.below hb)); (try replace T31 := Lib.hid (T31.out.below hb)); (try replace T32 := Lib.hid (T32.out.below hb)); (try replace T35 := Lib.hid (T35.out.below hb)); (try replace D11 := Lib.hid (D11.out.below hb D11.out.lt)); (try replace D22 := Lib.hid (D22.out.below hb D22.out.lt)); (try replace HB := Lib.hid (below_at HB.out hb HB.out.size)); (try replace HST := Lib.hid (HST.out.below hb (Nat.le_refl _)))))
    have T25 := Lib.hid hT25
    clear hb hT25
    generalize w11.heap.size = b25 at *
    have p0 := (T4).out.bx.cell 0 _ rfl; have p1 := (T4).out.bx.cell 1 _ rfl
    go_wp2_with fail
    refine (movedTree_any _ _ l d key up port _ (by exact T4.out.a1) (by exact T4.out.a2) HF.out).mono ?_
    rintro e w14 ⟨u1, u2, rfl, hx1, hx2, hb⟩
    rw [← HML.out.1] at hx1
    rw [← HML.out.2] at hx2
    obtain ⟨xg1, xgn1, hu1, -, -, -⟩ := id hx1
    obtain ⟨xg2, xgn2, hu2, -, -, -⟩ := id hx2
    subst hu1 hu2
    (((try replace T4 := Lib.hid (T4.out.below hb)); (try replace T10 := Lib.hid (T10.out.below hb)); (try replace T13 := Lib.hid (T13.out.below hb)); (try replace T15 := Lib.hid (T15.out.below hb)); (try replace T17 := Lib.hid (T17.out.below hb)); (try replace T20 := Lib.hid (T20.out.below hb)); (try replace T21 := Lib.hid (T21.out.below hb)); (try replace T25 := Lib.hid (T25.out.below hb)); (try replace T26 := Lib.hid (T26.out.below hb)); (try replace T28 := Lib.hid (T28.out.below hb)); (try replace T30 := Lib.hid (T30.out.below hb)); (try replace T31 := Lib.hid (T31.out.below hb)); (try replace T32 := Lib.hid (T32.out.below hb)); (try replace T35 := Lib.hid (T35.out.below hb)); (try replace D11 := Lib.hid (D11.out.below hb D11.out.lt)); (try replace D22 := Lib.hid (D22.out.below hb D22.out.lt)); (try replace HB := Lib.hid (below_at HB.out hb HB.out.size)); (try replace HST := Lib.hid (HST.out.below hb (Nat.le_refl _)))))
    clear hb p0 p1
    have hal : Below w14.heap.size w14 (w14.alloc (.cells #[.slice xg1 (ML).length xgn1, .slice xg2 (MD).length xgn2] 29)) := by (repeat (first | exact Below.refl _ _ | assumption | refine below_draws ?_ _ | refine Below.drew ?_ | refine below_alloc ?_ _ (by first | omega | (simp; done) | (simp; omega)) | refine Below.setCell ?_ (by first | omega | (simp; done) | (simp; omega)) _ | refine below_at ?_ (by assumption) (by first | omega | (simp; done) | (simp; omega))))
    (((try replace T4 := Lib.hid (T4.out.below hal)); (try replace T10 := Lib.hid (T10.out.below hal)); (try replace T13 := Lib.hid (T13.out.below hal)); (try replace T15 := Lib.hid (T15.out.below hal)); (try replace T17 := Lib.hid (T17.out.below hal)); (try replace T20 := Lib.hid (T20.out.below hal)); (try replace T21 := Lib.hid (T21.out.below hal)); (try replace T25 := Lib.hid (T25.out.below hal)); (try replace T26 := Lib.hid (T26.out.below hal)); (try replace T28 := Lib.hid (T28.out.below hal)); (try replace T30 := Lib.hid (T30.out.below hal)); (try replace T31 := Lib.hid (T31.out.below hal)); (try replace T32 := Lib.hid (T32.out.below hal)); (try replace T35 := Lib.hid (T35.out.below hal)); (try replace D11 := Lib.hid (D11.out.below hal D11.out.lt)); (try replace D22 := Lib.hid (D22.out.below hal D22.out.lt)); (try replace HB := Lib.hid (below_at HB.out hal HB.out.size)); (try replace HST := Lib.hid (HST.out.below hal (Nat.le_refl _)))))
    have T26 : Hid (TrB (w14.alloc (.cells #[.slice xg1 (ML).length xgn1, .slice xg2 (MD).length xgn2] 29)) w14.heap.size (.slice xg1 (ML).length xgn1) (.slice xg2 (MD).length xgn2) (ML) (MD)) := ⟨Blk.new _ _ _, hx1.below hal, hx2.below hal⟩
    have p0 := (T4).out.bx.cell 0 _ rfl; have p1 := (T4).out.bx.cell 1 _ rfl
    clear hx1 hx2 hal
    go_wp2_with fail
    generalize w14.alloc (.cells #[.slice xg1 (ML).length xgn1, .slice xg2 (MD).length xgn2] 29) = c14 at *
    generalize w14.heap.size = b14 at *
    refine (compacted_any _ _ l d _ (by exact T4.out.a1) (by exact T4.out.a2) HF.out).mono ?_
    rintro e w15 ⟨u1, u2, rfl, hx1, hx2, hb⟩
    obtain ⟨xh1, xhn1, hu1, -, -, -⟩ := id hx1
    obtain ⟨xh2, xhn2, hu2, -, -, -⟩ := id hx2
    subst hu1 hu2
    (((try replace T4 := Lib.hid (T4.out.below hb)); (try replace T10 := Lib.hid (T10.out.below hb)); (try replace T13 := Lib.hid (T13.out.below hb)); (try replace T15 := Lib.hid (T15.out.below hb)); (try replace T17 := Lib.hid (T17.out.below hb)); (try replace T20 := Lib.hid (T20.out.below hb)); (try replace T21 := Lib.hid (T21.out.below hb)); (try replace T25 := Lib.hid (T25.out.below hb)); (try replace T26 := Lib.hid (T26.out.below hb)); (try replace T28 := Lib.hid (T28.out.below hb)); (try replace T30 := Lib.hid (T30.out.below hb)); (try replace T31 := Lib.hid (T31.out.below hb)); (try replace T32 := Lib.hid (T32.out.below hb)); (try replace T35 := Lib.hid (T35.out.below hb)); (try replace D11 := Lib.hid (D11.out.below hb D11.out.lt)); (try replace D22 := Lib.hid (D22.out.below hb D22.out.lt)); (try replace HB := Lib.hid (below_at HB.out hb HB.out.size)); (try replace HST := Lib.hid (HST.out.below hb (Nat.le_refl _)))))
    clear hb p0 p1
    have hal : Below w15.heap.size w15 (w15.alloc (.cells #[.slice xh1 (compL l d).length xhn1, .slice xh2 (d).length xhn2] 29)) := by (repeat (first | exact Below.refl _ _ | assumption | refine below_draws ?_ _ | refine Below.drew ?_ | refine below_alloc ?_ _ (by first | omega | (simp; done) | (simp; omega)) | refine Below.setCell ?_ (by first | omega | (simp; done) | (simp; omega)) _ | refine below_at ?_ (by assumption) (by first | omega | (simp; done) | (simp; omega))))
    (((try replace T4 := Lib.hid (T4.out.below hal)); (try replace T10 := Lib.hid (T10.out.below hal)); (try replace T13 := Lib.hid (T13.out.below hal)); (try replace T15 := Lib.hid (T15.out.below hal)); (try replace T17 := Lib.hid (T17.out.below hal)); (try replace T20 := Lib.hid (T20.out.below hal)); (try replace T21 := Lib.hid (T21.out.below hal)); (try replace T25 := Lib.hid (T25.out.below hal)); (try replace T26 := Lib.hid (T26.out.below hal)); (try replace T28 := Lib.hid (T28.out.below hal)); (try replace T30 := Lib.hid (T30.out.below hal)); (try replace T31 := Lib.hid (T31.out.below hal)); (try replace T32 := Lib.hid (T32.out.below hal)); (try replace T35 := Lib.hid (T35.out.below hal)); (try replace D11 := Lib.hid (D11.out.below hal D11.out.lt)); (try replace D22 := Lib.hid (D22.out.below hal D22.out.lt)); (try replace HB := Lib.hid (below_at HB.out hal HB.out.size)); (try replace HST := Lib.hid (HST.out.below hal (Nat.le_refl _)))))
    have T28 : Hid (TrB (w15.alloc (.cells #[.slice xh1 (compL l d).length xhn1, .slice xh2 (d).length xhn2] 29)) w15.heap.size (.slice xh1 (compL l d).length xhn1) (.slice xh2 (d).length xhn2) (compL l d) (d)) := ⟨Blk.new _ _ _, hx1.below hal, hx2.below hal⟩
    have q0 := (T10).out.bx.cell 0 _ rfl; have q1 := (T10).out.bx.cell 1 _ rfl
    have z0 := (T21).out.bx.cell 0 _ rfl; have z1 := (T21).out.bx.cell 1 _ rfl
    clear hx1 hx2 hal
    go_wp2_with fail
    generalize w15.alloc (.cells #[.slice xh1 (compL l d).length xhn1, .slice xh2 (d).length xhn2] 29) = c15 at *
    generalize w15.heap.size = b15 at *
    clear q0 q1 z0 z1
    refine (sameTree_any _ _ _ _ (conS l d who) (conD l d who) _ (by exact T10.out.a1) (by exact T10.out.a2) (by exact T21.out.a1) (by exact T21.out.a2)).mono ?_
    rintro e s0 ⟨rfl, hb⟩
    (((try replace T4 := Lib.hid (T4.out.below hb)); (try replace T10 := Lib.hid (T10.out.below hb)); (try replace T13 := Lib.hid (T13.out.below hb)); (try replace T15 := Lib.hid (T15.out.below hb)); (try replace T17 := Lib.hid (T17.out.below hb)); (try replace T20 := Lib.hid (T20.out.below hb)); (try replace T21 := Lib.hid (T21.out.below hb)); (try replace T25 := Lib.hid (T25.out.below hb)); (try replace T26 := Lib.hid (T26.out.below hb)); (try replace T28 := Lib.hid (T28.out.below hb)); (try replace T30 := Lib.hid (T30.out.below hb)); (try replace T31 := Lib.hid (T31.out.below hb)); (try replace T32 := Lib.hid (T32.out.below hb)); (try replace T35 := Lib.hid (T35.out.below hb)); (try replace D11 := Lib.hid (D11.out.below hb D11.out.lt)); (try replace D22 := Lib.hid (D22.out.below hb D22.out.lt)); (try replace HB := Lib.hid (below_at HB.out hb HB.out.size)); (try replace HST := Lib.hid (HST.out.below hb (Nat.le_refl _)))))
    clear hb
    have f0 := D11.out.cell 0 _ rfl
    have g0 := D22.out.cell 0 _ rfl
    have f1 := D11.out.cell 1 _ rfl
    have g1 := D22.out.cell 1 _ rfl
    have f2 := D11.out.cell 2 _ rfl
    have g2 := D22.out.cell 2 _ rfl
    have q0 := (T13).out.bx.cell 0 _ rfl; have q1 := (T13).out.bx.cell 1 _ rfl
    have z0 := (T25).out.bx.cell 0 _ rfl; have z1 := (T25).out.bx.cell 1 _ rfl
    go_wp2_with fail
    clear f0 f1 f2 g0 g1 g2
    clear q0 q1 z0 z1
    refine (sameTree_any _ _ _ _ (remS l d who) (remD l d who) _ (by exact T13.out.a1) (by exact T13.out.a2) (by exact T25.out.a1) (by exact T25.out.a2)).mono ?_
    rintro e s1 ⟨rfl, hb⟩
    (((try replace T4 := Lib.hid (T4.out.below hb)); (try replace T10 := Lib.hid (T10.out.below hb)); (try replace T13 := Lib.hid (T13.out.below hb)); (try replace T15 := Lib.hid (T15.out.below hb)); (try replace T17 := Lib.hid (T17.out.below hb)); (try replace T20 := Lib.hid (T20.out.below hb)); (try replace T21 := Lib.hid (T21.out.below hb)); (try replace T25 := Lib.hid (T25.out.below hb)); (try replace T26 := Lib.hid (T26.out.below hb)); (try replace T28 := Lib.hid (T28.out.below hb)); (try replace T30 := Lib.hid (T30.out.below hb)); (try replace T31 := Lib.hid (T31.out.below hb)); (try replace T32 := Lib.hid (T32.out.below hb)); (try replace T35 := Lib.hid (T35.out.below hb)); (try replace D11 := Lib.hid (D11.out.below hb D11.out.lt)); (try replace D22 := Lib.hid (D22.out.below hb D22.out.lt)); (try replace HB := Lib.hid (below_at HB.out hb HB.out.size)); (try replace HST := Lib.hid (HST.out.below hb (Nat.le_refl _)))))
    clear hb
    have q0 := (T15).out.bx.cell 0 _ rfl; have q1 := (T15).out.bx.cell 1 _ rfl
    have z0 := (T26).out.bx.cell 0 _ rfl; have z1 := (T26).out.bx.cell 1 _ rfl
    go_wp2_with fail
    clear q0 q1 z0 z1
    refine (sameTree_any _ _ _ _ (ML) (MD) _ (by exact T15.out.a1) (by exact T15.out.a2) (by exact T26.out.a1) (by exact T26.out.a2)).mono ?_
    rintro e s2 ⟨rfl, hb⟩
    (((try replace T4 := Lib.hid (T4.out.below hb)); (try replace T10 := Lib.hid (T10.out.below hb)); (try replace T13 := Lib.hid (T13.out.below hb)); (try replace T15 := Lib.hid (T15.out.below hb)); (try replace T17 := Lib.hid (T17.out.below hb)); (try replace T20 := Lib.hid (T20.out.below hb)); (try replace T21 := Lib.hid (T21.out.below hb)); (try replace T25 := Lib.hid (T25.out.below hb)); (try replace T26 := Lib.hid (T26.out.below hb)); (try replace T28 := Lib.hid (T28.out.below hb)); (try replace T30 := Lib.hid (T30.out.below hb)); (try replace T31 := Lib.hid (T31.out.below hb)); (try replace T32 := Lib.hid (T32.out.below hb)); (try replace T35 := Lib.hid (T35.out.below hb)); (try replace D11 := Lib.hid (D11.out.below hb D11.out.lt)); (try replace D22 := Lib.hid (D22.out.below hb D22.out.lt)); (try replace HB := Lib.hid (below_at HB.out hb HB.out.size)); (try replace HST := Lib.hid (HST.out.below hb (Nat.le_refl _)))))
    clear hb
    have q0 := (T17).out.bx.cell 0 _ rfl; have q1 := (T17).out.bx.cell 1 _ rfl
    have z0 := (T28).out.bx.cell 0 _ rfl; have z1 := (T28).out.bx.cell 1 _ rfl
    go_wp2_with fail
    clear q0 q1 z0 z1
    refine (sameTree_any _ _ _ _ (compL l d) (d) _ (by exact T17.out.a1) (by exact T17.out.a2) (by exact T28.out.a1) (by exact T28.out.a2)).mono ?_
    rintro e s3 ⟨rfl, hb⟩
    (((try replace T4 := Lib.hid (T4.out.below hb)); (try replace T10 := Lib.hid (T10.out.below hb)); (try replace T13 := Lib.hid (T13.out.below hb)); (try replace T15 := Lib.hid (T15.out.below hb)); (try replace T17 := Lib.hid (T17.out.below hb)); (try replace T20 := Lib.hid (T20.out.below hb)); (try replace T21 := Lib.hid (T21.out.below hb)); (try replace T25 := Lib.hid (T25.out.below hb)); (try replace T26 := Lib.hid (T26.out.below hb)); (try replace T28 := Lib.hid (T28.out.below hb)); (try replace T30 := Lib.hid (T30.out.below hb)); (try replace T31 := Lib.hid (T31.out.below hb)); (try replace T32 := Lib.hid (T32.out.below hb)); (try replace T35 := Lib.hid (T35.out.below hb)); (try replace D11 := Lib.hid (D11.out.below hb D11.out.lt)); (try replace D22 := Lib.hid (D22.out.below hb D22.out.lt)); (try replace HB := Lib.hid (below_at HB.out hb HB.out.size)); (try replace HST := Lib.hid (HST.out.below hb (Nat.le_refl _)))))
    clear hb
    clear T10 T13 T15 T17 T21 T25 T26 T28 D11 D22
    have p0 := (T4).out.bx.cell 0 _ rfl; have p1 := (T4).out.bx.cell 1 _ rfl
    go_wp2_with fail
    refine (halfTrees_any w.heap.size _ _ _ l d _ HST.out (by omega) (by exact T4.out.a1) (by exact T4.out.a2) HLO.out.2 HLO.out.1 hl5 (by omega)).mono ?_
    rintro e w20 ⟨ua, va, ub, vb, p, q, rfl, hp, hq, hxa, hya, hxb, hyb, hlow, hst, hg⟩
    have HB20 : Hid (Below w.heap.size w w20) := bel_grown HB.out hg (Nat.le_refl _) HB.out.size
    have hpl := hp.length_le
    have hql := hq.length_le
    have HPF := Lib.hid (tree_sub HF.out hp)
    have HH := Lib.hid (And.intro hxa (And.intro hya (And.intro hxb (And.intro hyb hlow))))
    obtain ⟨ja, na, rfl, -, -, -⟩ := id hxa
    obtain ⟨jb, nb, rfl, -, -, -⟩ := id hya
    obtain ⟨jc, nc, rfl, -, -, -⟩ := id hxb
    obtain ⟨jd, nd, rfl, -, -, -⟩ := id hyb
    have hal : Below w20.heap.size w20 ((w20.alloc (.cells #[.slice ja l.length na, .slice jb p.length nb] 29)).alloc (.cells #[.slice jc l.length nc, .slice jd q.length nd] 29)) := by (repeat (first | exact Below.refl _ _ | assumption | refine below_draws ?_ _ | refine Below.drew ?_ | refine below_alloc ?_ _ (by first | omega | (simp; done) | (simp; omega)) | refine Below.setCell ?_ (by first | omega | (simp; done) | (simp; omega)) _ | refine below_at ?_ (by assumption) (by first | omega | (simp; done) | (simp; omega))))
    have hg20 : w20.grownBy ((w20.alloc (.cells #[.slice ja l.length na, .slice jb p.length nb] 29)).alloc (.cells #[.slice jc l.length nc, .slice jd q.length nd] 29)) (some w.heap.size) := grown_below _ hal
    have B30 : Hid (Blk ((w20.alloc (.cells #[.slice ja l.length na, .slice jb p.length nb] 29)).alloc (.cells #[.slice jc l.length nc, .slice jd q.length nd] 29)) w20.heap.size #[.slice ja l.length na, .slice jb p.length nb] 29) := (Blk.new _ _ _).alloc _
    have B31 : Hid (Blk ((w20.alloc (.cells #[.slice ja l.length na, .slice jb p.length nb] 29)).alloc (.cells #[.slice jc l.length nc, .slice jd q.length nd] 29)) (w20.heap.size + 1) #[.slice jc l.length nc, .slice jd q.length nd] 29) := Blk.newAt (by simp)
    have HS20 := Lib.hid (And.intro hg20 (hst.below hal (Nat.le_refl _)))
    have hws : w.heap.size < w20.heap.size := hst.lt
    clear hp hq hxa hya hxb hyb hlow hst hg hal hg20 p0 p1 T4 HB HST
    go_wp2_with fail
    generalize (w20.alloc (.cells #[.slice ja l.length na, .slice jb p.length nb] 29)).alloc (.cells #[.slice jc l.length nc, .slice jd q.length nd] 29) = c20 at *
    refine (flip_any w.heap.size _ _ _ HS20.out.2 (by omega) (by omega) (by omega)).mono ?_
    rintro e w21 ⟨v, rfl, ⟨fb, rfl⟩, hs21, hg21⟩
    have hz21 := hg21.size
    have b30 := B30.out.grown hg21 (by simp; omega)
    have b31 := B31.out.grown hg21 (by simp; omega)
    have H21 := Lib.hid (And.intro b30 (And.intro b31 (And.intro (grown_trans HS20.out.1 hg21) hs21)))
    clear b30 b31 hs21 hg21
    go_upto_if 220 with (fail)
    go_cut [] from 219 to 222 (fun wc => ∃ u v l2 d2, Blk wc w20.heap.size #[.slice ja l.length na, .slice jb p.length nb] 29 ∧ TrB wc (w20.heap.size + 1) u v l2 d2 ∧ l2.length ≤ 4 ∧ d2.length ≤ 6 ∧ w20.grownBy wc (some w.heap.size))
    case first =>
      cases fb
      · go_wp2
        go_meet
        exact ⟨_, _, l, q, H21.out.1, ⟨H21.out.2.1, HH.out.2.2.1.grownBy H21.out.2.2.1 HH.out.2.2.2.2.2.2.1, HH.out.2.2.2.1.grownBy H21.out.2.2.1 HH.out.2.2.2.2.2.2.2⟩, by omega, by omega, H21.out.2.2.1⟩
      · go_wp2_with fail
        refine (atree_any w.heap.size _ _ H21.out.2.2.2 (by omega)).mono ?_
        rintro e w22 ⟨v, rfl, ⟨v3, v4, l3, d3, rfl, hl3, hd3, hA3, hA4, lo3, lo4⟩, hs22, hg22⟩
        have hz22 := hg22.size
        have b30 := H21.out.1.grown hg22 (by simp; omega)
        have b31 := H21.out.2.1.grown hg22 (by simp; omega)
        have H22 := Lib.hid (And.intro b30 (And.intro b31 (And.intro (grown_trans H21.out.2.2.1 hg22) (And.intro hA3 (And.intro hA4 (And.intro lo3 lo4))))))
        obtain ⟨je, ne, rfl, -, -, -⟩ := id hA3
        obtain ⟨jf, nf, rfl, -, -, -⟩ := id hA4
        have z0 := b31.cell 0 _ rfl
        have z1 := b31.cell 1 _ rfl
        have zf := fun o => b31.free o
        have hzb : w20.heap.size + 1 < w21.heap.size := H21.out.2.1.lt
        clear b30 b31 hs22 hg22 hA3 hA4 lo3 lo4
        go_wp2
        go_meet
        refine ⟨_, _, l3, d3, (H22.out.1.setOther (by omega) _ _).setOther (by omega) _ _, ⟨(H22.out.2.1.set 0 _).set 1 _, ?_, ?_⟩, hl3, hd3, ?_⟩
        · exact arr_setOtherZ (arr_setOtherZ H22.out.2.2.2.1 (fun b off n cap e => by have := H22.out.2.2.2.2.2.1 b off n cap e; omega) _ _) (fun b off n cap e => by have := H22.out.2.2.2.2.2.1 b off n cap e; omega) _ _
        · exact arr_setOtherZ (arr_setOtherZ H22.out.2.2.2.2.1 (fun b off n cap e => by have := H22.out.2.2.2.2.2.2 b off n cap e; omega) _ _) (fun b off n cap e => by have := H22.out.2.2.2.2.2.2 b off n cap e; omega) _ _
        · exact grown_setOwn (grown_setOwn H22.out.2.2.1 (by omega) _ _) (by omega) _ _
    case rest =>
    obtain ⟨u, v, l2, d2, hb30, hT31, hl2, hd2, hgc⟩ := hcut
    obtain ⟨j1, n1, hu1, -, -, -⟩ := id hT31.a1
    obtain ⟨j2, n2, hu2, -, -, -⟩ := id hT31.a2
    subst hu1 hu2
    have T31 := Lib.hid hT31
    have T30 : Hid (TrB wc w20.heap.size (.slice ja l.length na) (.slice jb p.length nb) l p) := ⟨hb30, HH.out.1.grownBy hgc HH.out.2.2.2.2.1, HH.out.2.1.grownBy hgc HH.out.2.2.2.2.2.1⟩
    have HB : Hid (Below w.heap.size w wc) := bel_grown HB20.out hgc (Nat.le_refl _) HB20.out.size
    clear hb30 hT31 hgc H21 HS20 B30 B31 HH
    have p0 := (T30).out.bx.cell 0 _ rfl; have p1 := (T30).out.bx.cell 1 _ rfl
    have q0 := (T31).out.bx.cell 0 _ rfl; have q1 := (T31).out.bx.cell 1 _ rfl
    go_wp2_with fail
    refine (merge_any _ _ _ _ l p l2 d2 _ (by exact T30.out.a1) (by exact T30.out.a2) (by exact T31.out.a1) (by exact T31.out.a2) (by omega) (by omega)).mono ?_
    rintro e w23 ⟨m1, m2, n, S, D, rfl, hM, hb, hnz, hz⟩
    have HMM := Lib.hid (And.intro hM hz)
    (((try replace T4 := Lib.hid (T4.out.below hb)); (try replace T10 := Lib.hid (T10.out.below hb)); (try replace T13 := Lib.hid (T13.out.below hb)); (try replace T15 := Lib.hid (T15.out.below hb)); (try replace T17 := Lib.hid (T17.out.below hb)); (try replace T20 := Lib.hid (T20.out.below hb)); (try replace T21 := Lib.hid (T21.out.below hb)); (try replace T25 := Lib.hid (T25.out.below hb)); (try replace T26 := Lib.hid (T26.out.below hb)); (try replace T28 := Lib.hid (T28.out.below hb)); (try replace T30 := Lib.hid (T30.out.below hb)); (try replace T31 := Lib.hid (T31.out.below hb)); (try replace T32 := Lib.hid (T32.out.below hb)); (try replace T35 := Lib.hid (T35.out.below hb)); (try replace D11 := Lib.hid (D11.out.below hb D11.out.lt)); (try replace D22 := Lib.hid (D22.out.below hb D22.out.lt)); (try replace HB := Lib.hid (below_at HB.out hb HB.out.size)); (try replace HST := Lib.hid (HST.out.below hb (Nat.le_refl _)))))
    clear hb hM hz p0 p1 q0 q1
    by_cases hf2 : treeF l2 d2 = 0
    rotate_left
    · have hn : n = treeF l2 d2 := merge_bad HPF.out hf2 HMM.out.1
      obtain ⟨rfl, rfl⟩ := hnz (by rw [hn]; exact hf2)
      have HN := Lib.hid hn
      have hq : (treeF l2 d2 == 0) = false := by simp [hf2]
      have hq2 : decide (treeF l2 d2 = 0) = false := decide_eq_false hf2
      clear hn hf2 HMM hnz
      have hal : Below w23.heap.size w23 (w23.alloc (.cells #[.slice none 0 0, .slice none 0 0] 29)) := below_alloc (Below.refl _ _) _ (Nat.le_refl _)
      (((try replace T4 := Lib.hid (T4.out.below hal)); (try replace T10 := Lib.hid (T10.out.below hal)); (try replace T13 := Lib.hid (T13.out.below hal)); (try replace T15 := Lib.hid (T15.out.below hal)); (try replace T17 := Lib.hid (T17.out.below hal)); (try replace T20 := Lib.hid (T20.out.below hal)); (try replace T21 := Lib.hid (T21.out.below hal)); (try replace T25 := Lib.hid (T25.out.below hal)); (try replace T26 := Lib.hid (T26.out.below hal)); (try replace T28 := Lib.hid (T28.out.below hal)); (try replace T30 := Lib.hid (T30.out.below hal)); (try replace T31 := Lib.hid (T31.out.below hal)); (try replace T32 := Lib.hid (T32.out.below hal)); (try replace T35 := Lib.hid (T35.out.below hal)); (try replace D11 := Lib.hid (D11.out.below hal D11.out.lt)); (try replace D22 := Lib.hid (D22.out.below hal D22.out.lt)); (try replace HB := Lib.hid (below_at HB.out hal HB.out.size)); (try replace HST := Lib.hid (HST.out.below hal (Nat.le_refl _)))))
      have T32 : Hid (TrB (w23.alloc (.cells #[.slice none 0 0, .slice none 0 0] 29)) w23.heap.size (.slice none 0 0) (.slice none 0 0) [] []) := ⟨Blk.new _ _ _, Arr.nil _ _ _, Arr.nil _ _ _⟩
      clear hal
      have q0 := (T31).out.bx.cell 0 _ rfl; have q1 := (T31).out.bx.cell 1 _ rfl
      go_wp2_with fail
      generalize w23.alloc (.cells #[.slice none 0 0, .slice none 0 0] 29) = c23 at *
      generalize w23.heap.size = b23 at *
      refine (rtreeFault_any _ _ l2 d2 _ (by exact T31.out.a1) (by exact T31.out.a2)).mono ?_
      rintro e w24 ⟨rfl, hb⟩
      (((try replace T4 := Lib.hid (T4.out.below hb)); (try replace T10 := Lib.hid (T10.out.below hb)); (try replace T13 := Lib.hid (T13.out.below hb)); (try replace T15 := Lib.hid (T15.out.below hb)); (try replace T17 := Lib.hid (T17.out.below hb)); (try replace T20 := Lib.hid (T20.out.below hb)); (try replace T21 := Lib.hid (T21.out.below hb)); (try replace T25 := Lib.hid (T25.out.below hb)); (try replace T26 := Lib.hid (T26.out.below hb)); (try replace T28 := Lib.hid (T28.out.below hb)); (try replace T30 := Lib.hid (T30.out.below hb)); (try replace T31 := Lib.hid (T31.out.below hb)); (try replace T32 := Lib.hid (T32.out.below hb)); (try replace T35 := Lib.hid (T35.out.below hb)); (try replace D11 := Lib.hid (D11.out.below hb D11.out.lt)); (try replace D22 := Lib.hid (D22.out.below hb D22.out.lt)); (try replace HB := Lib.hid (below_at HB.out hb HB.out.size)); (try replace HST := Lib.hid (HST.out.below hb (Nat.le_refl _)))))
      clear hb q0 q1
      rw [HN.out]
      have hal : Below w24.heap.size w24 (w24.alloc (.cells #[.slice none 0 0, .slice none 0 0] 29)) := below_alloc (Below.refl _ _) _ (Nat.le_refl _)
      (((try replace T4 := Lib.hid (T4.out.below hal)); (try replace T10 := Lib.hid (T10.out.below hal)); (try replace T13 := Lib.hid (T13.out.below hal)); (try replace T15 := Lib.hid (T15.out.below hal)); (try replace T17 := Lib.hid (T17.out.below hal)); (try replace T20 := Lib.hid (T20.out.below hal)); (try replace T21 := Lib.hid (T21.out.below hal)); (try replace T25 := Lib.hid (T25.out.below hal)); (try replace T26 := Lib.hid (T26.out.below hal)); (try replace T28 := Lib.hid (T28.out.below hal)); (try replace T30 := Lib.hid (T30.out.below hal)); (try replace T31 := Lib.hid (T31.out.below hal)); (try replace T32 := Lib.hid (T32.out.below hal)); (try replace T35 := Lib.hid (T35.out.below hal)); (try replace D11 := Lib.hid (D11.out.below hal D11.out.lt)); (try replace D22 := Lib.hid (D22.out.below hal D22.out.lt)); (try replace HB := Lib.hid (below_at HB.out hal HB.out.size)); (try replace HST := Lib.hid (HST.out.below hal (Nat.le_refl _)))))
      have T35 : Hid (TrB (w24.alloc (.cells #[.slice none 0 0, .slice none 0 0] 29)) w24.heap.size (.slice none 0 0) (.slice none 0 0) [] []) := ⟨Blk.new _ _ _, Arr.nil _ _ _, Arr.nil _ _ _⟩
      clear hal
      have q0 := (T32).out.bx.cell 0 _ rfl; have q1 := (T32).out.bx.cell 1 _ rfl
      have z0 := (T35).out.bx.cell 0 _ rfl; have z1 := (T35).out.bx.cell 1 _ rfl
      go_wp2_with fail
      generalize w24.alloc (.cells #[.slice none 0 0, .slice none 0 0] 29) = c24 at *
      generalize w24.heap.size = b24 at *
      refine (sameTree_any _ _ _ _ [] [] _ (by exact T32.out.a1) (by exact T32.out.a2) (by exact T35.out.a1) (by exact T35.out.a2)).mono ?_
      rintro e w27 ⟨rfl, hb⟩
      (((try replace T4 := Lib.hid (T4.out.below hb)); (try replace T10 := Lib.hid (T10.out.below hb)); (try replace T13 := Lib.hid (T13.out.below hb)); (try replace T15 := Lib.hid (T15.out.below hb)); (try replace T17 := Lib.hid (T17.out.below hb)); (try replace T20 := Lib.hid (T20.out.below hb)); (try replace T21 := Lib.hid (T21.out.below hb)); (try replace T25 := Lib.hid (T25.out.below hb)); (try replace T26 := Lib.hid (T26.out.below hb)); (try replace T28 := Lib.hid (T28.out.below hb)); (try replace T30 := Lib.hid (T30.out.below hb)); (try replace T31 := Lib.hid (T31.out.below hb)); (try replace T32 := Lib.hid (T32.out.below hb)); (try replace T35 := Lib.hid (T35.out.below hb)); (try replace D11 := Lib.hid (D11.out.below hb D11.out.lt)); (try replace D22 := Lib.hid (D22.out.below hb D22.out.lt)); (try replace HB := Lib.hid (below_at HB.out hb HB.out.size)); (try replace HST := Lib.hid (HST.out.below hb (Nat.le_refl _)))))
      clear hb q0 q1 z0 z1
      go_wp2_with fail
      refine (grown_any _).mono ?_
      rintro e wy ⟨rfl, hb⟩
      (((try replace T4 := Lib.hid (T4.out.below hb)); (try replace T10 := Lib.hid (T10.out.below hb)); (try replace T13 := Lib.hid (T13.out.below hb)); (try replace T15 := Lib.hid (T15.out.below hb)); (try replace T17 := Lib.hid (T17.out.below hb)); (try replace T20 := Lib.hid (T20.out.below hb)); (try replace T21 := Lib.hid (T21.out.below hb)); (try replace T25 := Lib.hid (T25.out.below hb)); (try replace T26 := Lib.hid (T26.out.below hb)); (try replace T28 := Lib.hid (T28.out.below hb)); (try replace T30 := Lib.hid (T30.out.below hb)); (try replace T31 := Lib.hid (T31.out.below hb)); (try replace T32 := Lib.hid (T32.out.below hb)); (try replace T35 := Lib.hid (T35.out.below hb)); (try replace D11 := Lib.hid (D11.out.below hb D11.out.lt)); (try replace D22 := Lib.hid (D22.out.below hb D22.out.lt)); (try replace HB := Lib.hid (below_at HB.out hb HB.out.size)); (try replace HST := Lib.hid (HST.out.below hb (Nat.le_refl _)))))
      clear hb
      go_wp2
      go_ret
      exact ⟨rfl, HB.out⟩
    · have HF2 := Lib.hid hf2
      clear hf2
      obtain ⟨A1, hA1⟩ : ∃ A, A = (if n = 0 then S else []) := ⟨_, rfl⟩
      obtain ⟨A2, hA2⟩ : ∃ A, A = (if n = 0 then D else []) := ⟨_, rfl⟩
      have hx1 : Arr Splt.cells 4 w23 A1 m1 := by
        rw [hA1]
        by_cases h0 : n = 0
        · rw [if_pos h0]; exact (HMM.out.2 h0).1.arr
        · rw [if_neg h0, (hnz h0).1]; exact Arr.nil _ _ _
      have hx2 : Arr Drp.cells 3 w23 A2 m2 := by
        rw [hA2]
        by_cases h0 : n = 0
        · rw [if_pos h0]; exact (HMM.out.2 h0).2.1.arr
        · rw [if_neg h0, (hnz h0).2]; exact Arr.nil _ _ _
      have HAA := Lib.hid (And.intro hA1 hA2)
      clear hA1 hA2 hnz
      obtain ⟨k1, kn1, hu1, -, -, -⟩ := id hx1
      obtain ⟨k2, kn2, hu2, -, -, -⟩ := id hx2
      subst hu1 hu2
      have hal : Below w23.heap.size w23 (w23.alloc (.cells #[.slice k1 A1.length kn1, .slice k2 A2.length kn2] 29)) := below_alloc (Below.refl _ _) _ (Nat.le_refl _)
      (((try replace T4 := Lib.hid (T4.out.below hal)); (try replace T10 := Lib.hid (T10.out.below hal)); (try replace T13 := Lib.hid (T13.out.below hal)); (try replace T15 := Lib.hid (T15.out.below hal)); (try replace T17 := Lib.hid (T17.out.below hal)); (try replace T20 := Lib.hid (T20.out.below hal)); (try replace T21 := Lib.hid (T21.out.below hal)); (try replace T25 := Lib.hid (T25.out.below hal)); (try replace T26 := Lib.hid (T26.out.below hal)); (try replace T28 := Lib.hid (T28.out.below hal)); (try replace T30 := Lib.hid (T30.out.below hal)); (try replace T31 := Lib.hid (T31.out.below hal)); (try replace T32 := Lib.hid (T32.out.below hal)); (try replace T35 := Lib.hid (T35.out.below hal)); (try replace D11 := Lib.hid (D11.out.below hal D11.out.lt)); (try replace D22 := Lib.hid (D22.out.below hal D22.out.lt)); (try replace HB := Lib.hid (below_at HB.out hal HB.out.size)); (try replace HST := Lib.hid (HST.out.below hal (Nat.le_refl _)))))
      have T32 : Hid (TrB (w23.alloc (.cells #[.slice k1 A1.length kn1, .slice k2 A2.length kn2] 29)) w23.heap.size (.slice k1 A1.length kn1) (.slice k2 A2.length kn2) A1 A2) := ⟨Blk.new _ _ _, hx1.below hal, hx2.below hal⟩
      clear hal hx1 hx2
      have q0 := (T31).out.bx.cell 0 _ rfl; have q1 := (T31).out.bx.cell 1 _ rfl
      go_wp2_with fail
      generalize w23.alloc (.cells #[.slice k1 A1.length kn1, .slice k2 A2.length kn2] 29) = c23 at *
      generalize w23.heap.size = b23 at *
      refine (rtreeFault_any _ _ l2 d2 _ (by exact T31.out.a1) (by exact T31.out.a2)).mono ?_
      rw [HF2.out]
      rintro e w24 ⟨rfl, hb⟩
      (((try replace T4 := Lib.hid (T4.out.below hb)); (try replace T10 := Lib.hid (T10.out.below hb)); (try replace T13 := Lib.hid (T13.out.below hb)); (try replace T15 := Lib.hid (T15.out.below hb)); (try replace T17 := Lib.hid (T17.out.below hb)); (try replace T20 := Lib.hid (T20.out.below hb)); (try replace T21 := Lib.hid (T21.out.below hb)); (try replace T25 := Lib.hid (T25.out.below hb)); (try replace T26 := Lib.hid (T26.out.below hb)); (try replace T28 := Lib.hid (T28.out.below hb)); (try replace T30 := Lib.hid (T30.out.below hb)); (try replace T31 := Lib.hid (T31.out.below hb)); (try replace T32 := Lib.hid (T32.out.below hb)); (try replace T35 := Lib.hid (T35.out.below hb)); (try replace D11 := Lib.hid (D11.out.below hb D11.out.lt)); (try replace D22 := Lib.hid (D22.out.below hb D22.out.lt)); (try replace HB := Lib.hid (below_at HB.out hb HB.out.size)); (try replace HST := Lib.hid (HST.out.below hb (Nat.le_refl _)))))
      clear hb q0 q1
      have hal : Below w24.heap.size w24 (w24.alloc (.cells #[.slice none 0 0, .slice none 0 0] 29)) := below_alloc (Below.refl _ _) _ (Nat.le_refl _)
      have HT30 := Lib.hid (T30.out.below hal)
      have HT31 := Lib.hid (T31.out.below hal)
      have HN := Lib.hid (And.intro (Blk.new w24 #[.slice none 0 0, .slice none 0 0] 29) hal)
      clear hal
      have p0 := (HT30).out.bx.cell 0 _ rfl; have p1 := (HT30).out.bx.cell 1 _ rfl
      have q0 := (HT31).out.bx.cell 0 _ rfl; have q1 := (HT31).out.bx.cell 1 _ rfl
      go_wp2_with fail
      refine (mergedTree_any _ _ _ _ l p l2 d2 _ (by exact HT30.out.a1) (by exact HT30.out.a2) (by exact HT31.out.a1) (by exact HT31.out.a2) HOK.out.s (tok_of HPF.out).custs (by omega) (by omega)).mono ?_
      rintro e w25 ⟨u1, u2, n', S', D', rfl, hR, hy1, hy2, hb, hlo1, hlo2⟩
      obtain ⟨hnn, hSD⟩ := merge_same HPF.out HF2.out HMM.out.1 hR
      subst hnn
      have hx1 : Arr Splt.cells 4 w25 A1 u1 := by
        rw [HAA.out.1]
        by_cases h0 : n = 0
        · rw [if_pos h0] at hy1 ⊢; rw [(hSD h0).1]; exact hy1
        · rw [if_neg h0] at hy1 ⊢; exact hy1
      have hx2 : Arr Drp.cells 3 w25 A2 u2 := by
        rw [HAA.out.2]
        by_cases h0 : n = 0
        · rw [if_pos h0] at hy2 ⊢; rw [(hSD h0).2]; exact hy2
        · rw [if_neg h0] at hy2 ⊢; exact hy2
      clear hy1 hy2 hSD hR p0 p1 q0 q1
      obtain ⟨g1, gn1, hu1, -, -, -⟩ := id hx1
      obtain ⟨g2, gn2, hu2, -, -, -⟩ := id hx2
      subst hu1 hu2
      have hbN := HN.out.1.below hb (by simp)
      have hbe := below_at HN.out.2 hb (by simp)
      have hW : Below w24.heap.size w24 ((w25.setCell ⟨w24.heap.size, 0, none⟩ (.slice g1 A1.length gn1)).setCell ⟨w24.heap.size, 1, none⟩ (.slice g2 A2.length gn2)) := Below.setCell (Below.setCell hbe (Nat.le_refl _) _) (Nat.le_refl _) _
      have n1 : (Value.slice g1 A1.length gn1).ownBlock ≠ some w24.heap.size := fun e => by have := hlo1 _ e; simp only [World.size_alloc] at this; omega
      have n2 : (Value.slice g2 A2.length gn2).ownBlock ≠ some w24.heap.size := fun e => by have := hlo2 _ e; simp only [World.size_alloc] at this; omega
      have T35 : Hid (TrB ((w25.setCell ⟨w24.heap.size, 0, none⟩ (.slice g1 A1.length gn1)).setCell ⟨w24.heap.size, 1, none⟩ (.slice g2 A2.length gn2)) w24.heap.size (.slice g1 A1.length gn1) (.slice g2 A2.length gn2) A1 A2) := ⟨(hbN.set 0 _).set 1 _, arr_setOther (arr_setOther hx1 n1 _ _) n1 _ _, arr_setOther (arr_setOther hx2 n2 _ _) n2 _ _⟩
      have z0 := hbN.cell 0 _ rfl
      have z1 := hbN.cell 1 _ rfl
      have zf := fun o => hbN.free o
      replace T32 := Lib.hid (T32.out.below hW)
      replace HB := Lib.hid (below_at HB.out hW HB.out.size)
      clear T30 T31 HT30 HT31 HN hb hbe hW n1 n2 hlo1 hlo2 hx1 hx2 hbN
      have q0 := (T32).out.bx.cell 0 _ rfl; have q1 := (T32).out.bx.cell 1 _ rfl
      go_wp2_with fail
      clear z0 z1 zf q0 q1
      generalize (w25.setCell ⟨w24.heap.size, 0, none⟩ (.slice g1 A1.length gn1)).setCell ⟨w24.heap.size, 1, none⟩ (.slice g2 A2.length gn2) = c25 at *
      refine (sameTree_any _ _ _ _ A1 A2 _ (by exact T32.out.a1) (by exact T32.out.a2) (by exact T35.out.a1) (by exact T35.out.a2)).mono ?_
      rintro e w27 ⟨rfl, hb⟩
      (((try replace T4 := Lib.hid (T4.out.below hb)); (try replace T10 := Lib.hid (T10.out.below hb)); (try replace T13 := Lib.hid (T13.out.below hb)); (try replace T15 := Lib.hid (T15.out.below hb)); (try replace T17 := Lib.hid (T17.out.below hb)); (try replace T20 := Lib.hid (T20.out.below hb)); (try replace T21 := Lib.hid (T21.out.below hb)); (try replace T25 := Lib.hid (T25.out.below hb)); (try replace T26 := Lib.hid (T26.out.below hb)); (try replace T28 := Lib.hid (T28.out.below hb)); (try replace T30 := Lib.hid (T30.out.below hb)); (try replace T31 := Lib.hid (T31.out.below hb)); (try replace T32 := Lib.hid (T32.out.below hb)); (try replace T35 := Lib.hid (T35.out.below hb)); (try replace D11 := Lib.hid (D11.out.below hb D11.out.lt)); (try replace D22 := Lib.hid (D22.out.below hb D22.out.lt)); (try replace HB := Lib.hid (below_at HB.out hb HB.out.size)); (try replace HST := Lib.hid (HST.out.below hb (Nat.le_refl _)))))
      clear hb
      go_wp2_with fail
      refine (grown_any _).mono ?_
      rintro e wy ⟨rfl, hb⟩
      (((try replace T4 := Lib.hid (T4.out.below hb)); (try replace T10 := Lib.hid (T10.out.below hb)); (try replace T13 := Lib.hid (T13.out.below hb)); (try replace T15 := Lib.hid (T15.out.below hb)); (try replace T17 := Lib.hid (T17.out.below hb)); (try replace T20 := Lib.hid (T20.out.below hb)); (try replace T21 := Lib.hid (T21.out.below hb)); (try replace T25 := Lib.hid (T25.out.below hb)); (try replace T26 := Lib.hid (T26.out.below hb)); (try replace T28 := Lib.hid (T28.out.below hb)); (try replace T30 := Lib.hid (T30.out.below hb)); (try replace T31 := Lib.hid (T31.out.below hb)); (try replace T32 := Lib.hid (T32.out.below hb)); (try replace T35 := Lib.hid (T35.out.below hb)); (try replace D11 := Lib.hid (D11.out.below hb D11.out.lt)); (try replace D22 := Lib.hid (D22.out.below hb D22.out.lt)); (try replace HB := Lib.hid (below_at HB.out hb HB.out.size)); (try replace HST := Lib.hid (HST.out.below hb (Nat.le_refl _)))))
      clear hb
      go_wp2
      go_ret
      exact ⟨rfl, HB.out⟩
end Go.Proofs.YtcecpodbmjghhaaGreat
