/- The walk of BudgetsStay: the law's function returns true for every list of integers, and writes nothing that was there. -/
import Derived.Test.YtagpcgnlbgndmaaLawFit
import Derived.Test.YtagpcgnlbgndmaaRun
import Derived.Test.YtagpcgnlbgndmaaSwapAll
set_option linter.unusedVariables false
set_option linter.unusedSimpArgs false
namespace Go.Proofs.Ytagpcgnlbgndmaa
open Go Go.RowKit

/-- what the call owns, laid over by other integers -/
def SpoilR (w0 : World) (a : Option Addr) (n cap : Nat) (ws : World) : Prop :=
  w0.grownBy ws (Value.slice a n cap).ownBlock ∧ ∀ g, a = some ⟨g, 0, none⟩ → ∃ L : List Int, L.length = n ∧ Row intCells 1 ws g L
theorem spoil_start {w : World} {base : Nat} {a : Option Addr} {cap : Nat} {l : List Int} (h : w.ownsRow base 3 1 (.slice a l.length cap) l.length (l.map (Value.int .i64))) : SpoilR w a l.length cap w := by
  refine ⟨⟨rfl, rfl, rfl, Nat.le_refl _, fun _ _ _ => rfl⟩, fun g hg => ?_⟩
  subst hg
  refine ⟨l, rfl, Row.of_own (cells := intCells) (fun _ => rfl) (e := 3) (base := base) (n := l.length) (cap := cap) ?_ rfl⟩
  show w.ownsRow _ _ _ _ _ (l.flatMap fun n => [Value.int .i64 n])
  rw [flat_one]; exact h
theorem spoil_below {base : Nat} {a w w' : World} {e : TypeId} {size : Nat} {v : Value} {n : Nat} {xs : List Value} (h : Below a.heap.size a w) (ho : w.ownsRow base e size v n xs) (hg : w.grownBy w' v.ownBlock) (hB : a.heap.size ≤ base) : Below a.heap.size a w' :=
  h.grown hg h.size (fun k hk => by have := (ho.lt k hk).1; omega)
theorem SpoilR.put {w0 ws : World} {g n cap : Nat} (h : SpoilR w0 (some ⟨g, 0, none⟩) n cap ws) (k : Nat) (hk : k < n) (z : Int) : SpoilR w0 (some ⟨g, 0, none⟩) n cap (ws.setCell ⟨g, k, none⟩ (.int .i64 z)) := by
  obtain ⟨h1, h2⟩ := h
  refine ⟨grown_trans h1 (grown_setCell _ _ _ _), fun g' hg' => ?_⟩
  simp only [Option.some.injEq, Addr.mk.injEq, and_true] at hg'
  subst hg'
  obtain ⟨L, hL, hr⟩ := h2 g rfl
  have := Row.set (cells := intCells) (sz := 1) (fun _ => rfl) hr k (show k < L.length by omega) z
  rw [Nat.mul_one] at this
  exact ⟨L.set k z, by simpa using hL, this⟩

set_option maxHeartbeats 16000000 in
set_option maxRecDepth 100000 in
theorem law_stay (a0 : Option Addr) (len0 cap0 : Nat) (z0 : List Int) (w : World) (w0 : IsRow .i64 w a0 len0 cap0 z0) :
    Calls Try.prog 13 #[.slice a0 len0 cap0] w fun e w' => e = .returned (.bool true) ∧ Below w.heap.size w w' := by
  have hS := strm_start w0
  clear w0
  go_enter Try.func13, Try.ntmps13
  go_wp2_with fail
  refine (rightParts_any w.heap.size 0 5 _ hS (by omega) (by omega)).mono ?_
  rintro e w1 ⟨v1, rfl, ⟨p, hpm, hpf, hp, hpl⟩, hs1, hg1⟩
  go_wp2_with fail
  refine (lossTable_any w.heap.size _ _ hs1 (by omega)).mono ?_
  rintro e w2 ⟨v2, rfl, ⟨x, rfl⟩, hs2, hg2⟩
  go_wp2_with fail
  refine (opticsOf_any w.heap.size _ _ hs2 (by omega)).mono ?_
  rintro e w3 ⟨v3, rfl, ⟨o, rfl⟩, hs3, hg3⟩
  have hP := (hp.grownBy hg2 hpl).grownBy hg3 hpl
  obtain ⟨ap, capp, rfl, -, -, -⟩ := hp
  have hG3 := grown_trans (World.grownBy_alloc w _ _) (grown_trans hg1 (grown_trans hg2 hg3))
  have hz3 := hG3.size
  have hb0 : w.heap.size < w3.heap.size := by have := hs3.lt; omega
  have HS := Lib.hid (And.intro hP (And.intro hs3 (And.intro hG3 hpl)))
  have HPF := Lib.hid hpf
  clear hS hpl hpf hs1 hg1 hs2 hg2 hs3 hg3 hP hG3
  go_wp2_with fail
  refine (swapList_any w.heap.size _ _ p _ ((HS.out.2.1.alloc _).alloc _) (by omega) (by exact HS.out.1.below (by (repeat (first | exact Below.refl _ _ | assumption | refine below_draws ?_ _ | refine Below.drew ?_ | refine below_alloc ?_ _ (by first | omega | (simp; done) | (simp; omega)) | refine Below.setCell ?_ (by first | omega | (simp; done) | (simp; omega)) _ | refine below_at ?_ (by assumption) (by first | omega | (simp; done) | (simp; omega)))))) (by omega)).mono ?_
  rintro e w4 ⟨v4, rfl, ⟨s, hsa, hsl⟩, hs4, hg4⟩
  have h0 : FitS x o p s (.slice ap p.length capp) v4 w3.heap.size (w3.heap.size + 1) w4 := by
    refine ⟨Arr.grownBy (s := w.heap.size) (w := (w3.alloc _).alloc _) (HS.out.1.below (by (repeat (first | exact Below.refl _ _ | assumption | refine below_draws ?_ _ | refine Below.drew ?_ | refine below_alloc ?_ _ (by first | omega | (simp; done) | (simp; omega)) | refine Below.setCell ?_ (by first | omega | (simp; done) | (simp; omega)) _ | refine below_at ?_ (by assumption) (by first | omega | (simp; done) | (simp; omega)))))) hg4 HS.out.2.2.2, hsa, ?_, ?_⟩
    · exact Blk.grown (((Blk.new w3 _ _)).alloc _) hg4 (by simp; omega)
    · exact Blk.grown (Blk.newAt (by simp)) hg4 (by simp; omega)
  have hB0 : Below w.heap.size w w4 := below_row (grown_trans HS.out.2.2.1 (grown_trans (grown_trans (World.grownBy_alloc _ _ _) (World.grownBy_alloc _ _ _)) hg4))
  obtain ⟨av, capv, rfl, -, hmaxv, -⟩ := id hsa
  unfold maxLen at hmaxv
  have hz4 := hB0.size
  generalize w3.heap.size = b at *
  have H4 := Lib.hid (And.intro h0 hB0)
  clear HS hsa hsl hs4 hg4 h0 hB0
  (obtain ⟨⟨s1, s2, s3, s4⟩, s5, s6, s7⟩ := H4.out.1.s; have q1 := H4.out.1.kx.lt; have q2 := H4.out.1.ko.lt)
  go_wp2_with fail
  refine (rlossesFault_any x _).mono ?_
  rintro e w5 ⟨rfl, hb5⟩
  have H5 := Lib.hid (And.intro (H4.out.1.below hb5) (below_at H4.out.2 hb5 (by omega)))
  have hz5 := hb5.size
  clear hb5 s1 s2 s3 s4 s5 s6 s7 q1 q2
  (obtain ⟨⟨s1, s2, s3, s4⟩, s5, s6, s7⟩ := H5.out.1.s; have q1 := H5.out.1.kx.lt; have q2 := H5.out.1.ko.lt)
  by_cases hx0 : lossesFault x = 0
  rotate_left
  · have hx1 : (lossesFault x != 0) = true := by simp [hx0]
    clear hx0
    go_wp2_with fail
    (refine (ready_any _).mono ?_; rintro e wy ⟨rfl, hby⟩; have hBy := below_at H5.out.2 hby (by omega); clear hby; go_wp2; go_ret; exact ⟨rfl, hBy⟩)
  have hx1 : (lossesFault x != 0) = false := by simp [hx0]
  have HX := Lib.hid hx0
  clear hx0
  go_wp2_with fail
  refine (ropticsFault_any o _).mono ?_
  rintro e w6 ⟨rfl, hb6⟩
  have H6 := Lib.hid (And.intro (H5.out.1.below hb6) (below_at H5.out.2 hb6 (by omega)))
  have hz6 := hb6.size
  clear hb6 s1 s2 s3 s4 s5 s6 s7 q1 q2
  (obtain ⟨⟨s1, s2, s3, s4⟩, s5, s6, s7⟩ := H6.out.1.s; have q1 := H6.out.1.kx.lt; have q2 := H6.out.1.ko.lt)
  by_cases ho0 : opticsFault o = 0
  rotate_left
  · have ho1 : (opticsFault o != 0) = true := by simp [ho0]
    clear ho0
    go_wp2_with fail
    (refine (ready_any _).mono ?_; rintro e wy ⟨rfl, hby⟩; have hBy := below_at H6.out.2 hby (by omega); clear hby; go_wp2; go_ret; exact ⟨rfl, hBy⟩)
  have ho1 : (opticsFault o != 0) = false := by simp [ho0]
  have HO := Lib.hid ho0
  clear ho0
  go_wp2_with fail
  refine (rswapsFault_any _ _ p s _ (by exact H6.out.1.P) (by exact H6.out.1.S)).mono ?_
  rintro e w7 ⟨rfl, hb7⟩
  have H7 := Lib.hid (And.intro (H6.out.1.below hb7) (below_at H6.out.2 hb7 (by omega)))
  have hz7 := hb7.size
  clear hb7 s1 s2 s3 s4 s5 s6 s7 q1 q2
  (obtain ⟨⟨s1, s2, s3, s4⟩, s5, s6, s7⟩ := H7.out.1.s; have q1 := H7.out.1.kx.lt; have q2 := H7.out.1.ko.lt)
  by_cases hw0 : swapsFault p.length s = 0
  rotate_left
  · have hw1 : (swapsFault p.length s != 0) = true := by simp [hw0]
    clear hw0
    go_wp2_with fail
    (refine (ready_any _).mono ?_; rintro e wy ⟨rfl, hby⟩; have hBy := below_at H7.out.2 hby (by omega); clear hby; go_wp2; go_ret; exact ⟨rfl, hBy⟩)
  have hw1 : (swapsFault p.length s != 0) = false := by simp [hw0]
  have hfz : faultF p x o = 0 := by unfold faultF; rw [firstF_zero]; simp [HPF.out, HX.out, HO.out]
  have hlf : lossF p x = 0 := lossF_zero.2 ⟨HPF.out, HX.out⟩
  have hch := chpF_zero.2 (And.intro hfz hw0)
  have hpl := (faultF_zero.1 hfz).1.1
  have hso := (swapsOk_of hw0).1
  clear hw0 HX HO HPF hfz
  go_wp2_with fail
  refine (clone_part _ p _ (by exact H7.out.1.P) (by omega)).mono ?_
  rintro e wq ⟨vq, rfl, hcl, hbq⟩
  have H8 := Lib.hid (And.intro (H7.out.1.below hbq) (below_at H7.out.2 hbq (by omega)))
  have HQ8 := Lib.hid (Arr.of_own Part.cells_len hcl.1)
  have hz8 := hbq.size
  clear hbq hcl s1 s2 s3 s4 s5 s6 s7 q1 q2
  (obtain ⟨⟨s1, s2, s3, s4⟩, s5, s6, s7⟩ := H8.out.1.s; have q1 := H8.out.1.kx.lt; have q2 := H8.out.1.ko.lt)
  go_wp2_with fail
  refine (clone_swap _ s _ (by exact H8.out.1.S) (by omega)).mono ?_
  rintro e wv ⟨vv, rfl, hcl, hbv⟩
  have H9 := Lib.hid (And.intro (H8.out.1.below hbv) (below_at H8.out.2 hbv (by omega)))
  have HQ9 := Lib.hid (And.intro (HQ8.out.below hbv) (Arr.of_own Swap.cells_len hcl.1))
  have hz9 := hbv.size
  clear hbv hcl HQ8 s1 s2 s3 s4 s5 s6 s7 q1 q2
  (obtain ⟨⟨s1, s2, s3, s4⟩, s5, s6, s7⟩ := H9.out.1.s; have q1 := H9.out.1.kx.lt; have q2 := H9.out.1.ko.lt)
  go_wp2_with fail
  refine (running_any _ p x _ (by exact H9.out.1.P) hlf).mono ?_
  rintro e wn ⟨vr, rfl, hownr, hbr⟩
  rw [← running_len x p 0] at hownr
  obtain ⟨ar, capr, rfl, hcr1, hcr2, hcr3⟩ := OwnI2.form hownr
  have hrl := running_len x p 0
  have hpl2 : p.length ≤ 1000 := hpl
  unfold maxLen at hcr2
  have H10 := Lib.hid (And.intro (H9.out.1.below hbr) (below_at H9.out.2 hbr (by omega)))
  have HO10 := Lib.hid hownr
  have HLR := Lib.hid (fun g hg => (hownr.lt g hg).2)
  have HB10 := Lib.hid hbr
  have hz10 := hbr.size
  clear hbr hownr s1 s2 s3 s4 s5 s6 s7 q1 q2
  (obtain ⟨⟨s1, s2, s3, s4⟩, s5, s6, s7⟩ := H10.out.1.s; have q1 := H10.out.1.kx.lt; have q2 := H10.out.1.ko.lt)
  go_wp2_with fail
  refine (cheapest_any _ _ p x o s _ (by exact H10.out.1.P) (by exact H10.out.1.S)).mono ?_
  rintro e wk ⟨la, lcap, L, S, B, rfl, hownk, hbk, -, -⟩
  rw [hch]
  have hLm : L.length ≤ maxLen := (Arr.of_ints hownk).len
  unfold maxLen at hLm
  obtain ⟨a2, cap2, he2, hck1, hck2, hck3⟩ := OwnI2.form hownk
  simp only [Value.slice.injEq, true_and] at he2
  obtain ⟨rfl, rfl⟩ := he2
  unfold maxLen at hck2
  have H11 := Lib.hid (And.intro (below_at HB10.out hbk hz10) (And.intro (own_below HO10.out hbk) hownk))
  have hz11 := hbk.size
  clear hbk hownk hch HO10 HB10 s1 s2 s3 s4 s5 s6 s7 q1 q2
  generalize running p x 0 = R1 at *
  go_wp2
  go_loopw [73] (fun i ws => ∃ k : Nat, k ≤ R1.length ∧ i = .int .i64 k ∧ SpoilR wk ar R1.length capr ws) (fun i _ => R1.length - (intOf i).toNat)
  case atStart => exact ⟨0, by omega, rfl, spoil_start H11.out.2.1⟩
  case round =>
    obtain ⟨k, hk, rfl, hsp⟩ := hrel
    obtain ⟨ws, hws⟩ : ∃ ws : World, ws = wr := ⟨_, rfl⟩
    rw [← hws] at hsp ⊢
    clear hws
    by_cases hlt : k < R1.length
    · obtain ⟨g, rfl⟩ := hcr3 (by omega)
      obtain ⟨L2, hL2, hrow⟩ := hsp.2 g rfl
      have HS := Lib.hid (hsp.put k hlt 777)
      have c0 := row_int hrow (k := k) (by omega)
      have f0 : ws.frozen? ⟨g, k, none⟩ = false := hrow.2.1 _
      clear hsp hrow
      have hlt' : (k : Int) < R1.length := by omega
      go_wp2
      exact ⟨⟨k + 1, by omega, by go_num, HS.out⟩, by simp [intOf]; omega⟩
    · obtain rfl : k = R1.length := by omega
      have hg1 := hsp.1
      have hne : (Value.slice la L.length lcap).ownBlock = none ∨ (Value.slice la L.length lcap).ownBlock ≠ (Value.slice ar R1.length capr).ownBlock := by
        cases h : (Value.slice la L.length lcap).ownBlock with
        | none => exact .inl rfl
        | some g =>
          refine .inr fun e => ?_
          have h1 := (H11.out.2.2.lt g h).1
          have h2 := HLR.out g e.symm
          omega
      have ho2 := H11.out.2.2.kept hg1 hne
      have hbel := spoil_below H11.out.1 H11.out.2.1 hg1 (by omega)
      have H12 := Lib.hid (And.intro hbel ho2)
      have hz12 := hg1.size
      clear hsp hg1 hne ho2 hbel
      go_wp2
      go_loopw [82] (fun i wx => ∃ k : Nat, k ≤ L.length ∧ i = .int .i64 k ∧ SpoilR ws la L.length lcap wx) (fun i _ => L.length - (intOf i).toNat)
      case atStart => exact ⟨0, by omega, rfl, spoil_start H12.out.2⟩
      case round =>
        obtain ⟨k, hk, rfl, hsp⟩ := hrel
        obtain ⟨wx, hwx⟩ : ∃ wx : World, wx = wr := ⟨_, rfl⟩
        rw [← hwx] at hsp ⊢
        clear hwx
        by_cases hlt : k < L.length
        · obtain ⟨g, rfl⟩ := hck3 (by omega)
          obtain ⟨L2, hL2, hrow⟩ := hsp.2 g rfl
          have HS := Lib.hid (hsp.put k hlt 777)
          have c0 := row_int hrow (k := k) (by omega)
          have f0 : wx.frozen? ⟨g, k, none⟩ = false := hrow.2.1 _
          clear hsp hrow
          have hlt' : (k : Int) < L.length := by omega
          go_wp2
          exact ⟨⟨k + 1, by omega, by go_num, HS.out⟩, by simp [intOf]; omega⟩
        · obtain rfl : k = L.length := by omega
          have hbel := spoil_below H12.out.1 H12.out.2 hsp.1 (by omega)
          have hzx := hbel.size
          have H13 := Lib.hid (And.intro hbel (below_at H9.out.2 hbel (by omega)))
          clear hsp hbel
          go_wp2_with fail
          refine (same_part _ _ p _ (by exact H9.out.1.P.below H13.out.1) (by exact HQ9.out.1.below H13.out.1)).mono ?_
          rintro e wy ⟨rfl, hby⟩
          have H14 := Lib.hid (And.intro (below_at H13.out.1 hby (by omega)) (below_at H13.out.2 hby (by omega)))
          have hzy := hby.size
          clear hby
          go_wp2_with fail
          refine (same_swap _ _ s _ (by exact H9.out.1.S.below H14.out.1) (by exact HQ9.out.2.below H14.out.1)).mono ?_
          rintro e wz ⟨rfl, hbz⟩
          have H15 := Lib.hid (below_at H14.out.2 hbz (by omega))
          have hzz := hbz.size
          clear hbz
          go_wp2_with fail
          refine (ready_any _).mono ?_
          rintro e wl ⟨rfl, hbl⟩
          have hBl := below_at H15.out hbl (by omega)
          clear hbl
          go_wp2
          go_ret
          exact ⟨rfl, hBl⟩
end Go.Proofs.Ytagpcgnlbgndmaa
