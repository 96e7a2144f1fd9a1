/- The walk of SwapsFit: the law's function returns true for every list of integers, and writes nothing that was there. -/
import Derived.Test.YtagpcgnlbgndmaaKeepA
import Derived.Test.YtagpcgnlbgndmaaReady
import Derived.Test.YtagpcgnlbgndmaaStream4
import Derived.Test.YtagpcgnlbgndmaaStream5
import Derived.Test.YtagpcgnlbgndmaaSwapAll
import Derived.Test.YtagpcgnlbgndmaaSwpAll
import Derived.Test.YtagpcgnlbgndmaaLawHead
import Derived.Deep.MidRow
import Derived.Deep.CutRange
set_option linter.unusedVariables false
set_option linter.unusedSimpArgs false
namespace Go.Proofs.Ytagpcgnlbgndmaa
open Go Go.RowKit

/-! ### plain -/
/-- the path after the first swaps, and what the others cost -/
def fitQ (p : List Part) (Z : List Swap) (k : Nat) : List Part := setAll p (Z.take k)
def fitN (Z : List Swap) (k : Nat) : Int := priceS (Z.drop k)
theorem fitQ_len (p : List Part) (Z : List Swap) (k : Nat) : (fitQ p Z k).length = p.length := setAll_len _ _
theorem fit_step {p : List Part} {s : List Swap} {b : Nat} (hso : SwapsOk p.length s) (k : Nat) (hk : k < (membTo b s.length).length) :
    ∃ i, ∃ hi : i < s.length, (membTo b s.length)[k] = (i : Int) ∧ 0 ≤ s[i].at_ ∧ s[i].at_ < p.length ∧ fitQ p (selSw s b) (k + 1) = (fitQ p (selSw s b) k).set s[i].at_.toNat s[i].by_ ∧
      fitN (selSw s b) k - s[i].price = fitN (selSw s b) (k + 1) ∧ 0 ≤ s[i].price ∧ s[i].price ≤ 1000000000 ∧ 0 ≤ fitN (selSw s b) (k + 1) ∧ fitN (selSw s b) (k + 1) ≤ 12000000000 := by
  have hb := memb_bound s.length b _ (List.getElem_mem hk)
  have hsel := selSw_members s b
  have hkz : k < (selSw s b).length := by rw [hsel]; simpa using hk
  have hzk : (selSw s b)[k] = s[(membTo b s.length)[k].toNat] := by
    simp only [hsel, List.getElem_map]
    rw [List.getD_eq_getElem?_getD, List.getElem?_eq_getElem (by omega)]; rfl
  obtain ⟨i, hi⟩ := Int.eq_ofNat_of_zero_le hb.1
  have hin : (membTo b s.length)[k].toNat = i := by omega
  have his : i < s.length := by omega
  have hzi : (selSw s b)[k] = s[i] := by rw [hzk]; simp [hin]
  have hy := hso.2 s[i] (List.getElem_mem his)
  refine ⟨i, his, hi, hy.1.1, hy.1.2, ?_, ?_, hy.2.2.1, hy.2.2.2, ?_⟩
  · unfold fitQ setAll
    rw [List.take_succ_eq_append_getElem hkz, List.foldl_append, hzi]; rfl
  · unfold fitN
    rw [List.drop_eq_getElem_cons hkz, hzi]
    unfold priceS
    rw [List.map_cons, List.sum_cons]; omega
  · have h1 := priceS_bound ((selSw s b).drop (k + 1)) (fun y hy => by
      have := hso.2 y (selSw_mem s b y (List.mem_of_mem_drop hy)); exact this.2.2)
    have h2 := selSw_len s b
    have h3 := hso.1
    have h4 : ((selSw s b).drop (k + 1)).length ≤ 12 := by rw [List.length_drop]; omega
    unfold fitN
    omega
theorem fit_end {p : List Part} {s : List Swap} {b : Nat} : fitQ p (selSw s b) (membTo b s.length).length = setAll p (selSw s b) ∧ fitN (selSw s b) (membTo b s.length).length = 0 := by
  have h : (membTo b s.length).length = (selSw s b).length := by rw [selSw_members]; simp
  rw [h]
  constructor
  · unfold fitQ; rw [List.take_length]
  · unfold fitN; rw [List.drop_length]; rfl
theorem fit_start {p : List Part} {s : List Swap} {b : Nat} : fitQ p (selSw s b) 0 = p ∧ fitN (selSw s b) 0 = priceS (selSw s b) := ⟨rfl, rfl⟩

/-! ### memory -/
theorem below_setCells {B : Nat} {w0 : World} {g : Nat} (hg : B ≤ g) : ∀ (vs : List Value) (o : Nat) (w : World), Below B w0 w → Below B w0 (w.setCells g o vs)
  | [], _, _, h => h
  | v :: r, o, w, h => below_setCells hg r (o + 1) _ (Below.setCell h hg _)
structure FitS (x : Losses) (o : Optics) (p : List Part) (s : List Swap) (vp vs : Value) (bx bo : Nat) (W : World) : Prop where
  P : Arr Part.cells 2 W p vp
  S : Arr Swap.cells 4 W s vs
  kx : Blk W bx #[.int .i64 x.perKm, .int .i64 x.conn, .int .i64 x.dblg, .int .i64 x.exc] 29
  ko : Blk W bo #[.int .i64 o.launch, .int .i64 o.least, .int .i64 o.most] 32
theorem FitS.below {x : Losses} {o : Optics} {p : List Part} {s : List Swap} {vp vs : Value} {bx bo : Nat} {W W' : World} (h : FitS x o p s vp vs bx bo W) (hb : Below W.heap.size W W') : FitS x o p s vp vs bx bo W' :=
  ⟨h.P.below hb, h.S.below hb, h.kx.below hb h.kx.lt, h.ko.below hb h.ko.lt⟩
theorem FitS.s {x : Losses} {o : Optics} {p : List Part} {s : List Swap} {vp vs : Value} {bx bo : Nat} {W : World} (h : FitS x o p s vp vs bx bo W) : (W.cell? ⟨bx, 0, none⟩ = some (.int .i64 x.perKm) ∧ W.cell? ⟨bx, 1, none⟩ = some (.int .i64 x.conn) ∧ W.cell? ⟨bx, 2, none⟩ = some (.int .i64 x.dblg) ∧ W.cell? ⟨bx, 3, none⟩ = some (.int .i64 x.exc)) ∧ (W.cell? ⟨bo, 0, none⟩ = some (.int .i64 o.launch) ∧ W.cell? ⟨bo, 1, none⟩ = some (.int .i64 o.least) ∧ W.cell? ⟨bo, 2, none⟩ = some (.int .i64 o.most)) :=
  ⟨⟨h.kx.cell 0 _ rfl, h.kx.cell 1 _ rfl, h.kx.cell 2 _ rfl, h.kx.cell 3 _ rfl⟩, h.ko.cell 0 _ rfl, h.ko.cell 1 _ rfl, h.ko.cell 2 _ rfl⟩
/-- a path of the law's own, in memory that is newer than B -/
structure FitR (W0 : World) (B : Nat) (a : Option Addr) (q : List Part) (W : World) : Prop where
  be : Below B W0 W
  row : q ≠ [] → ∃ g, a = some ⟨g, 0, none⟩ ∧ B ≤ g ∧ Row Part.cells 2 W g q
theorem FitR.arr {W0 W : World} {B cap : Nat} {a : Option Addr} {q : List Part} (h : FitR W0 B a q W) (n : Nat) (hn : q.length = n) (hc : n ≤ cap) (hm : cap ≤ maxLen) : Arr Part.cells 2 W q (.slice a n cap) := by
  subst hn
  by_cases hq : q = []
  · subst hq
    exact ⟨a, cap, rfl, hc, hm, fun k hk => by simp at hk⟩
  · obtain ⟨g, rfl, _, hr⟩ := h.row hq
    exact hr.arr rfl hc hm
theorem fit_of_clone {W0 W : World} {p : List Part} {v : Value} (h : Cloned Part.cells 2 81 W0.heap.size p v W) (hb : Below W0.heap.size W0 W) : ∃ a cap, v = .slice a p.length cap ∧ p.length ≤ cap ∧ cap ≤ maxLen ∧ FitR W0 W0.heap.size a p W := by
  obtain ⟨hown, hf⟩ := h
  obtain ⟨a, cap, rfl, hc, hm, -⟩ := Arr.of_own Part.cells_len hown
  refine ⟨a, cap, rfl, hc, hm, hb, fun hp => ?_⟩
  rcases hf with ⟨_, h⟩ | ⟨g, cap', h⟩
  · exact absurd h hp
  · simp only [Value.slice.injEq] at h
    obtain ⟨rfl, _, rfl⟩ := h
    exact ⟨g, rfl, (hown.lt g rfl).1, Row.of_own Part.cells_len hown rfl⟩
theorem FitR.put {W0 W : World} {B : Nat} {a : Option Addr} {q : List Part} (h : FitR W0 B a q W) (i : Nat) (hi : i < q.length) (y : Part) (g : Nat) (ha : a = some ⟨g, 0, none⟩) : FitR W0 B a (q.set i y) (W.setCells g (i * 2) (Part.cells y)) := by
  obtain ⟨g', ha', hg, hr⟩ := h.row (fun e => by subst e; simp at hi)
  rw [ha] at ha'
  simp only [Option.some.injEq, Addr.mk.injEq, and_true] at ha'
  subst ha'
  exact ⟨below_setCells hg _ _ _ h.be, fun _ => ⟨g, ha, hg, hr.set Part.cells_len i hi y⟩⟩

set_option maxHeartbeats 16000000 in
set_option maxRecDepth 100000 in
theorem law_fit (a0 : Option Addr) (len0 cap0 : Nat) (z0 : List Int) (w : World) (w0 : IsRow .i64 w a0 len0 cap0 z0) :
    Calls Try.prog 12 #[.slice a0 len0 cap0] w fun e w' => e = .returned (.bool true) ∧ Below w.heap.size w w' := by
  have hS := strm_start w0
  clear w0
  go_enter Try.func12, Try.ntmps12
  go_wp2_with fail
  refine (rightParts_any w.heap.size 0 5 _ hS (by omega) (by omega)).mono ?_
  rintro e w1 ⟨v1, rfl, ⟨p, hpm, hpf, hp, hpl⟩, hs1, hg1⟩
  go_wp2_with fail
  refine (lossTable_any w.heap.size _ _ hs1 (by omega)).mono ?_
  rintro e w2 ⟨v2, rfl, ⟨x, rfl⟩, hs2, hg2⟩
  go_wp2_with fail
  refine (opticsOf_any w.heap.size _ _ hs2 (by omega)).mono ?_
  rintro e w3 ⟨v3, rfl, ⟨o, rfl⟩, hs3, hg3⟩
  have hP := (hp.grownBy hg2 hpl).grownBy hg3 hpl
  obtain ⟨ap, capp, rfl, -, -, -⟩ := hp
  have hG3 := grown_trans (World.grownBy_alloc w _ _) (grown_trans hg1 (grown_trans hg2 hg3))
  have hz3 := hG3.size
  have hb0 : w.heap.size < w3.heap.size := by have := hs3.lt; omega
  have HS := Lib.hid (And.intro hP (And.intro hs3 (And.intro hG3 hpl)))
  have HPF := Lib.hid hpf
  clear hS hpl hpf hs1 hg1 hs2 hg2 hs3 hg3 hP hG3
  go_wp2_with fail
  refine (swapList_any w.heap.size _ _ p _ ((HS.out.2.1.alloc _).alloc _) (by omega) (by exact HS.out.1.below (by (repeat (first | exact Below.refl _ _ | assumption | refine below_draws ?_ _ | refine Below.drew ?_ | refine below_alloc ?_ _ (by first | omega | (simp; done) | (simp; omega)) | refine Below.setCell ?_ (by first | omega | (simp; done) | (simp; omega)) _ | refine below_at ?_ (by assumption) (by first | omega | (simp; done) | (simp; omega)))))) (by omega)).mono ?_
  rintro e w4 ⟨v4, rfl, ⟨s, hsa, hsl⟩, hs4, hg4⟩
  have h0 : FitS x o p s (.slice ap p.length capp) v4 w3.heap.size (w3.heap.size + 1) w4 := by
    refine ⟨Arr.grownBy (s := w.heap.size) (w := (w3.alloc _).alloc _) (HS.out.1.below (by (repeat (first | exact Below.refl _ _ | assumption | refine below_draws ?_ _ | refine Below.drew ?_ | refine below_alloc ?_ _ (by first | omega | (simp; done) | (simp; omega)) | refine Below.setCell ?_ (by first | omega | (simp; done) | (simp; omega)) _ | refine below_at ?_ (by assumption) (by first | omega | (simp; done) | (simp; omega)))))) hg4 HS.out.2.2.2, hsa, ?_, ?_⟩
    · exact Blk.grown (((Blk.new w3 _ _)).alloc _) hg4 (by simp; omega)
    · exact Blk.grown (Blk.newAt (by simp)) hg4 (by simp; omega)
  have hB0 : Below w.heap.size w w4 := below_row (grown_trans HS.out.2.2.1 (grown_trans (grown_trans (World.grownBy_alloc _ _ _) (World.grownBy_alloc _ _ _)) hg4))
  obtain ⟨av, capv, rfl, -, hmaxv, -⟩ := id hsa
  unfold maxLen at hmaxv
  have hz4 := hB0.size
  generalize w3.heap.size = b at *
  have H4 := Lib.hid (And.intro h0 hB0)
  clear HS hsa hsl hs4 hg4 h0 hB0
  (obtain ⟨⟨s1, s2, s3, s4⟩, s5, s6, s7⟩ := H4.out.1.s; have q1 := H4.out.1.kx.lt; have q2 := H4.out.1.ko.lt)
  go_wp2_with fail
  refine (rlossesFault_any x _).mono ?_
  rintro e w5 ⟨rfl, hb5⟩
  have H5 := Lib.hid (And.intro (H4.out.1.below hb5) (below_at H4.out.2 hb5 (by omega)))
  have hz5 := hb5.size
  clear hb5 s1 s2 s3 s4 s5 s6 s7 q1 q2
  (obtain ⟨⟨s1, s2, s3, s4⟩, s5, s6, s7⟩ := H5.out.1.s; have q1 := H5.out.1.kx.lt; have q2 := H5.out.1.ko.lt)
  by_cases hx0 : lossesFault x = 0
  rotate_left
  · have hx1 : (lossesFault x != 0) = true := by simp [hx0]
    clear hx0
    go_wp2_with fail
    (refine (ready_any _).mono ?_; rintro e wy ⟨rfl, hby⟩; have hBy := below_at H5.out.2 hby (by omega); clear hby; go_wp2; go_ret; exact ⟨rfl, hBy⟩)
  have hx1 : (lossesFault x != 0) = false := by simp [hx0]
  have HX := Lib.hid hx0
  clear hx0
  go_wp2_with fail
  refine (ropticsFault_any o _).mono ?_
  rintro e w6 ⟨rfl, hb6⟩
  have H6 := Lib.hid (And.intro (H5.out.1.below hb6) (below_at H5.out.2 hb6 (by omega)))
  have hz6 := hb6.size
  clear hb6 s1 s2 s3 s4 s5 s6 s7 q1 q2
  (obtain ⟨⟨s1, s2, s3, s4⟩, s5, s6, s7⟩ := H6.out.1.s; have q1 := H6.out.1.kx.lt; have q2 := H6.out.1.ko.lt)
  by_cases ho0 : opticsFault o = 0
  rotate_left
  · have ho1 : (opticsFault o != 0) = true := by simp [ho0]
    clear ho0
    go_wp2_with fail
    (refine (ready_any _).mono ?_; rintro e wy ⟨rfl, hby⟩; have hBy := below_at H6.out.2 hby (by omega); clear hby; go_wp2; go_ret; exact ⟨rfl, hBy⟩)
  have ho1 : (opticsFault o != 0) = false := by simp [ho0]
  have HO := Lib.hid ho0
  clear ho0
  go_wp2_with fail
  refine (rswapsFault_any _ _ p s _ (by exact H6.out.1.P) (by exact H6.out.1.S)).mono ?_
  rintro e w7 ⟨rfl, hb7⟩
  have H7 := Lib.hid (And.intro (H6.out.1.below hb7) (below_at H6.out.2 hb7 (by omega)))
  have hz7 := hb7.size
  clear hb7 s1 s2 s3 s4 s5 s6 s7 q1 q2
  (obtain ⟨⟨s1, s2, s3, s4⟩, s5, s6, s7⟩ := H7.out.1.s; have q1 := H7.out.1.kx.lt; have q2 := H7.out.1.ko.lt)
  by_cases hw0 : swapsFault p.length s = 0
  rotate_left
  · have hw1 : (swapsFault p.length s != 0) = true := by simp [hw0]
    clear hw0
    go_wp2_with fail
    (refine (ready_any _).mono ?_; rintro e wy ⟨rfl, hby⟩; have hBy := below_at H7.out.2 hby (by omega); clear hby; go_wp2; go_ret; exact ⟨rfl, hBy⟩)
  have hw1 : (swapsFault p.length s != 0) = false := by simp [hw0]
  have hfz : faultF p x o = 0 := by unfold faultF; rw [firstF_zero]; simp [HPF.out, HX.out, HO.out]
  have hch := chpF_zero.2 (And.intro hfz hw0)
  have HSO := Lib.hid (swapsOk_of hw0)
  have HFZ := Lib.hid hfz
  clear hw0 HX HO HPF
  go_wp2_with fail
  refine (cheapest_any _ _ p x o s _ (by exact H7.out.1.P) (by exact H7.out.1.S)).mono ?_
  rintro e w8 ⟨la, lcap, L, S, B, rfl, ho8, hb8, -, hc⟩
  have hL8 := Arr.of_ints ho8
  clear ho8
  have HC := Lib.hid (hc hch)
  rw [hch]
  have H8 := Lib.hid (And.intro (H7.out.1.below hb8) (below_at H7.out.2 hb8 (by omega)))
  have HL8 := Lib.hid hL8
  have hz8 := hb8.size
  clear hb8 hc hch hL8 s1 s2 s3 s4 s5 s6 s7 q1 q2
  (obtain ⟨⟨s1, s2, s3, s4⟩, s5, s6, s7⟩ := H8.out.1.s; have q1 := H8.out.1.kx.lt; have q2 := H8.out.1.ko.lt)
  go_wp2_with fail
  refine (received_any _ p x o _ (by exact H8.out.1.P)).mono ?_
  rintro e w9 ⟨rfl, hb9⟩
  rw [hfz]
  have H9 := Lib.hid (And.intro (H8.out.1.below hb9) (below_at H8.out.2 hb9 (by omega)))
  have HL9 := Lib.hid (HL8.out.below hb9)
  have hz9 := hb9.size
  clear hb9 hfz HL8 s1 s2 s3 s4 s5 s6 s7 q1 q2
  (obtain ⟨⟨s1, s2, s3, s4⟩, s5, s6, s7⟩ := H9.out.1.s; have q1 := H9.out.1.kx.lt; have q2 := H9.out.1.ko.lt)
  have hrv : recvV p x o = o.launch - total p x := by unfold recvV; rw [if_pos HFZ.out]
  rw [hrv]
  clear hrv
  have HCN : Hid (outB (o.launch - total p x) o.least o.most = false → cheapV p x o s = some (0, 0) ∧ cheapL p x o s = []) := Lib.hid (cheapV_none (p := p) (x := x) (o := o) (s := s) (fun y hy => (HSO.out.2 y hy).2.2))
  generalize hR : o.launch - total p x = R at *
  go_upto_region 10 with fail
  go_cut [8, 9, 10, 44, 50, 51, 52, 89] from 67 to 89 (fun y1 y2 y3 y4 y5 y6 y7 t wc => y1 = .slice la L.length lcap ∧ y2 = .int .i64 S ∧ y3 = .bool B ∧ y4 = .tuple #[.slice la L.length lcap, .int .i64 S, .bool B, .int .i64 0] ∧ y5 = .slice la L.length lcap ∧ y6 = .int .i64 S ∧ y7 = .bool B ∧ t = .bool false ∧ w9 = wc)
  case first =>
    cases hd1 : decide (o.least ≤ R)
    · go_wp2
      go_meet
      exact ⟨rfl, rfl, rfl, rfl, rfl, rfl, rfl, rfl, rfl⟩
    · cases hd2 : decide (R ≤ o.most)
      · go_wp2
        go_meet
        exact ⟨rfl, rfl, rfl, rfl, rfl, rfl, rfl, rfl, rfl⟩
      · obtain ⟨e1, e2⟩ := HCN.out (outB_false.2 ⟨by simpa using hd1, by simpa using hd2⟩)
        obtain ⟨c1, c2, c3⟩ := HC.out
        rw [e1] at c1 c2
        rw [e2] at c3
        have c1' : S = 0 := c1
        have c2' : B = true := c2
        clear e1 e2 c1 c2
        subst c1' c2' c3
        go_wp2
        go_meet
        exact ⟨rfl, rfl, rfl, rfl, rfl, rfl, rfl, rfl, rfl⟩
  case rest =>
  obtain ⟨rfl, rfl, rfl, rfl, rfl, rfl, rfl, rfl, rfl⟩ := hcut
  clear HCN
  cases hB : B
  · subst hB
    clear HC
    go_wp2_with fail
    (refine (ready_any _).mono ?_; rintro e wy ⟨rfl, hby⟩; have hBy := below_at H9.out.2 hby (by omega); clear hby; go_wp2; go_ret; exact ⟨rfl, hBy⟩)
  obtain ⟨b0, sv, c1, c2, c3⟩ : ∃ b0 sv, cheapV p x o s = some (b0, sv) ∧ S = sv ∧ L = membTo b0 s.length := by
    obtain ⟨c1, c2, c3⟩ := HC.out
    rcases ch_cases (cheapV p x o s) with ⟨_, h⟩ | ⟨b0, sv, h0, h1, h2, h3⟩
    · rw [← c2, hB] at h; cases h
    · exact ⟨b0, sv, h0, by rw [c1, h2], by rw [c3]; unfold cheapL; rw [h1]⟩
  subst hB c2 c3
  have hfits := cheap_fits HFZ.out HSO.out c1
  obtain ⟨f1, f2, f3, f4, -⟩ := hfits
  have hpl := (faultF_zero.1 HFZ.out).1.1
  clear HC c1
  go_wp2_with fail
  refine (clone_part _ p _ (by exact H9.out.1.P) (by omega)).mono ?_
  rintro e wq ⟨vq, rfl, hcl, hbq⟩
  obtain ⟨aq, capq, rfl, hcq, hmq, hfr⟩ := fit_of_clone hcl hbq
  have HST := Lib.hid (fun k hk => fit_step (b := b0) HSO.out k hk)
  have HEN := Lib.hid (fit_end (p := p) (s := s) (b := b0))
  have HS0 := Lib.hid (fit_start (p := p) (s := s) (b := b0))
  have hLn : (membTo b0 s.length).length ≤ maxLen := HL9.out.len
  unfold maxLen at hLn
  obtain ⟨la', lcap', he, hlc1, hlc2, hlc⟩ := HL9.out
  simp only [Value.slice.injEq] at he
  obtain ⟨rfl, _, rfl⟩ := he
  clear HL9
  subst f4
  generalize selSw s b0 = Z at *
  generalize membTo b0 s.length = L at *
  have HQ := Lib.hid (And.intro hfr (And.intro f1 (And.intro f2 f3)))
  have hzq := hbq.size
  clear hcl hbq hfr f1 f2 f3 s1 s2 s3 s4 s5 s6 s7 q1 q2
  go_wp2
  go_loopw [9, 97] (fun n i wr => ∃ k : Nat, k ≤ L.length ∧ i = .int .i64 k ∧ n = .int .i64 (fitN Z k) ∧ FitR w9 w9.heap.size aq (fitQ p Z k) wr) (fun _ i _ => L.length - (intOf i).toNat)
  case atStart => exact ⟨0, by omega, rfl, by rw [HS0.out.2], HQ.out.1⟩
  case round =>
    obtain ⟨k, hk, rfl, rfl, hr⟩ := hrel
    by_cases hlt : k < L.length
    · obtain ⟨i, hi, hLi, ha0, ha1, hset, hn, hp0, hp1, hm0, hm1⟩ := HST.out k hlt
      have hlt' : (k : Int) < L.length := by omega
      obtain ⟨lb, lo, rfl, hlb, hlcc⟩ := hlc k hlt
      have e0 := (hr.be.cell (p := ⟨lb, _, none⟩) hlb).trans (hlcc 0 _ rfl)
      simp only [Nat.mul_one, Nat.add_zero] at e0
      rw [hLi] at e0
      have hrd : FitR w9 w9.heap.size aq (fitQ p Z k) wr.drew := ⟨Below.drew hr.be, hr.row⟩
      obtain ⟨aS, cS, heS, hcS1, hcS2, hcS⟩ := H9.out.1.S
      simp only [Value.slice.injEq] at heS
      obtain ⟨rfl, _, rfl⟩ := heS
      obtain ⟨sb, so, rfl, hsb, hscc⟩ := hcS i hi
      obtain ⟨c0, c1, c2, c3⟩ := swap_at hscc
      have t0 := (hrd.be.cell (p := ⟨sb, _, none⟩) hsb).trans c0
      have t1 := (hrd.be.cell (p := ⟨sb, _, none⟩) hsb).trans c1
      have t2 := (hrd.be.cell (p := ⟨sb, _, none⟩) hsb).trans c2
      have hq0 : fitQ p Z k ≠ [] := by
        intro e
        have := fitQ_len p Z k
        rw [e] at this; simp at this; omega
      obtain ⟨g, rfl, hg, hrow⟩ := hrd.row hq0
      obtain ⟨ai, hai⟩ := Int.eq_ofNat_of_zero_le ha0
      have hail : ai < (fitQ p Z k).length := by rw [fitQ_len]; omega
      have hrn := hrd.put ai hail s[i].by_ g rfl
      have hain : s[i].at_.toNat = ai := by omega
      rw [hain] at hset
      rw [← hset] at hrn
      have HRN := Lib.hid hrn
      have u0 : wr.drew.cell? ⟨g, ai * 2, none⟩ = some (.int .i64 (fitQ p Z k)[ai].kind) := by have := hrow.1 ai hail 0 _ rfl; simpa using this
      have u1 : (wr.drew.setCell ⟨g, ai * 2, none⟩ (.int .i64 s[i].by_.kind)).cell? ⟨g, ai * 2 + 1, none⟩ = some (.int .i64 (fitQ p Z k)[ai].amt) := by
        rw [World.cell?_setCell_other _ _ _ _ (by simp)]
        have := hrow.1 ai hail 1 _ rfl; simpa using this
      have v0 : wr.drew.frozen? ⟨g, ai * 2, none⟩ = false := hrow.2.1 _
      have v1 : (wr.drew.setCell ⟨g, ai * 2, none⟩ (.int .i64 s[i].by_.kind)).frozen? ⟨g, ai * 2 + 1, none⟩ = false := by rw [World.frozen?_setCell]; exact hrow.2.1 _
      rw [hai] at t0
      have hlt2 : (ai : Int) < p.length := by omega
      have hi' : (i : Int) < s.length := by omega
      have hwn : IntKind.i64.wrap (fitN Z k - s[i].price) = fitN Z (k + 1) := by rw [hn]; exact IntWalk.i64_in _ (by omega)
      have HP3 := Lib.hid c3
      clear hr hrd hlcc hscc hrn hset hn hrow hcS hq0 hLi ha0 ha1 hai c0 c1 c2 c3 hain
      go_wp2
      refine WalkT.start (fun w' => w'.cell? ⟨sb, so + i * 4, none⟩ = some (.int .i64 ai) ∧ w'.cell? ⟨sb, so + i * 4 + 1, none⟩ = some (.int .i64 s[i].by_.kind) ∧ w'.cell? ⟨sb, so + i * 4 + 2, none⟩ = some (.int .i64 s[i].by_.amt)) [12] (by kernel_rfl) ?_
      generalize wr.drew = W0 at *
      have hS1 : W0.cell? ⟨sb, so + i * 4, none⟩ = some (.int .i64 ai) ∧ W0.cell? ⟨sb, so + i * 4 + 1, none⟩ = some (.int .i64 s[i].by_.kind) ∧ W0.cell? ⟨sb, so + i * 4 + 2, none⟩ = some (.int .i64 s[i].by_.amt) := ⟨t0, t1, t2⟩
      clear t0 t1 t2
      (refine WalkT.quiet (i := 0) (v := ?_) rfl (by kernel_rfl) (by kernel_rfl) (by kernel_rfl) (fun _ _ _ h => h) (Or.inl ⟨by rfl, ?_⟩) ?_; rotate_left; (· (intro wS hSw; (try dsimp only at hSw); go_simp; try with_reducible rfl)); try simp only [Act.put, List.setIfInBounds_toArray, List.set_cons_zero, List.set_cons_succ, List.getElem_toArray, List.getElem_cons_succ, List.getElem_cons_zero])
      (refine WalkT.quiet (i := 1) (v := ?_) rfl (by kernel_rfl) (by kernel_rfl) (by kernel_rfl) (fun _ _ _ h => h) (Or.inl ⟨by rfl, ?_⟩) ?_; rotate_left; (· (intro wS hSw; (try dsimp only at hSw); go_simp; try with_reducible rfl)); try simp only [Act.put, List.setIfInBounds_toArray, List.set_cons_zero, List.set_cons_succ, List.getElem_toArray, List.getElem_cons_succ, List.getElem_cons_zero])
      (refine WalkT.quiet (i := 2) (v := ?_) rfl (by kernel_rfl) (by kernel_rfl) (by kernel_rfl) (fun _ _ _ h => h) (Or.inl ⟨by rfl, ?_⟩) ?_; rotate_left; (· (intro wS hSw; (try dsimp only at hSw); go_simp; try with_reducible rfl)); try simp only [Act.put, List.setIfInBounds_toArray, List.set_cons_zero, List.set_cons_succ, List.getElem_toArray, List.getElem_cons_succ, List.getElem_cons_zero])
      (refine WalkT.quiet (i := 3) (v := ?_) rfl (by kernel_rfl) (by kernel_rfl) (by kernel_rfl) (fun _ _ _ h => h) (Or.inl ⟨by rfl, ?_⟩) ?_; rotate_left; (· (intro wS hSw; (try dsimp only at hSw); go_simp; try with_reducible rfl)); try simp only [Act.put, List.setIfInBounds_toArray, List.set_cons_zero, List.set_cons_succ, List.getElem_toArray, List.getElem_cons_succ, List.getElem_cons_zero])
      (refine WalkT.quiet (i := 4) (v := ?_) rfl (by kernel_rfl) (by kernel_rfl) (by kernel_rfl) (fun _ _ _ h => h) (Or.inl ⟨by rfl, ?_⟩) ?_; rotate_left; (· (intro wS hSw; (try dsimp only at hSw); go_simp; try with_reducible rfl)); try simp only [Act.put, List.setIfInBounds_toArray, List.set_cons_zero, List.set_cons_succ, List.getElem_toArray, List.getElem_cons_succ, List.getElem_cons_zero])
      (refine WalkT.take (i := 5) (v := ?_) rfl (by kernel_rfl) (by kernel_rfl) (by kernel_rfl) (by kernel_rfl) (fun _ _ _ h => h) hS1 (Or.inl ⟨by rfl, ?_⟩) ?_; rotate_left; (· (intro wS hSw; (try dsimp only at hSw); obtain ⟨t0, t1, t2⟩ := hSw; go_simp; try with_reducible rfl)); try simp only [Act.put, List.setIfInBounds_toArray, List.set_cons_zero, List.set_cons_succ, List.getElem_toArray, List.getElem_cons_succ, List.getElem_cons_zero])
      (refine WalkT.quiet (i := 6) (v := ?_) rfl (by kernel_rfl) (by kernel_rfl) (by kernel_rfl) (fun _ _ _ h => h) (Or.inl ⟨by rfl, ?_⟩) ?_; rotate_left; (· (intro wS hSw; (try dsimp only at hSw); go_simp; try with_reducible rfl)); try simp only [Act.put, List.setIfInBounds_toArray, List.set_cons_zero, List.set_cons_succ, List.getElem_toArray, List.getElem_cons_succ, List.getElem_cons_zero])
      (refine WalkT.quiet (i := 7) (v := ?_) rfl (by kernel_rfl) (by kernel_rfl) (by kernel_rfl) (fun _ _ _ h => h) (Or.inl ⟨by rfl, ?_⟩) ?_; rotate_left; (· (intro wS hSw; (try dsimp only at hSw); go_simp; try with_reducible rfl)); try simp only [Act.put, List.setIfInBounds_toArray, List.set_cons_zero, List.set_cons_succ, List.getElem_toArray, List.getElem_cons_succ, List.getElem_cons_zero])
      (refine WalkT.quiet (i := 8) (v := ?_) rfl (by kernel_rfl) (by kernel_rfl) (by kernel_rfl) (fun _ _ _ h => h) (Or.inl ⟨by rfl, ?_⟩) ?_; rotate_left; (· (intro wS hSw; (try dsimp only at hSw); go_simp; try with_reducible rfl)); try simp only [Act.put, List.setIfInBounds_toArray, List.set_cons_zero, List.set_cons_succ, List.getElem_toArray, List.getElem_cons_succ, List.getElem_cons_zero])
      (refine WalkT.quiet (i := 9) (v := ?_) rfl (by kernel_rfl) (by kernel_rfl) (by kernel_rfl) (fun _ _ _ h => h) (Or.inl ⟨by rfl, ?_⟩) ?_; rotate_left; (· (intro wS hSw; (try dsimp only at hSw); go_simp; try with_reducible rfl)); try simp only [Act.put, List.setIfInBounds_toArray, List.set_cons_zero, List.set_cons_succ, List.getElem_toArray, List.getElem_cons_succ, List.getElem_cons_zero])
      (refine WalkT.take (i := 10) (v := ?_) rfl (by kernel_rfl) (by kernel_rfl) (by kernel_rfl) (by kernel_rfl) (fun _ _ _ h => h) hS1 (Or.inl ⟨by rfl, ?_⟩) ?_; rotate_left; (· (intro wS hSw; (try dsimp only at hSw); obtain ⟨t0, t1, t2⟩ := hSw; go_simp; try with_reducible rfl)); try simp only [Act.put, List.setIfInBounds_toArray, List.set_cons_zero, List.set_cons_succ, List.getElem_toArray, List.getElem_cons_succ, List.getElem_cons_zero])
      (refine WalkT.quiet (i := 11) (v := ?_) rfl (by kernel_rfl) (by kernel_rfl) (by kernel_rfl) (fun _ _ _ h => h) (Or.inl ⟨by rfl, ?_⟩) ?_; rotate_left; (· (intro wS hSw; (try dsimp only at hSw); go_simp; try with_reducible rfl)); try simp only [Act.put, List.setIfInBounds_toArray, List.set_cons_zero, List.set_cons_succ, List.getElem_toArray, List.getElem_cons_succ, List.getElem_cons_zero])
      (refine WalkT.ready (rs := [12]) (by kernel_rfl) (by simp) (AllT.cons rfl (fun K hK => ?_) AllT.nil); go_simp)
      (refine hK.out _ _ (fun h => absurd h (by decide)) ?_; clear hK K; try simp only [Act.put, List.setIfInBounds_toArray, List.set_cons_zero, List.set_cons_succ, List.getElem_toArray, List.getElem_cons_succ, List.getElem_cons_zero])
      refine WalkT.done (by kernel_rfl) ?_
      have t3 := (HRN.out.be.cell (p := ⟨sb, _, none⟩) hsb).trans HP3.out
      have HRN' : Hid (FitR w9 w9.heap.size (some ⟨g, 0, none⟩) (fitQ p Z (k + 1)) (W0.setCells g (ai * 2) [.int .i64 s[i].by_.kind, .int .i64 s[i].by_.amt])) := HRN
      have t3' : (W0.setCells g (ai * 2) [.int .i64 s[i].by_.kind, .int .i64 s[i].by_.amt]).cell? ⟨sb, so + i * 4 + 3, none⟩ = some (.int .i64 s[i].price) := t3
      clear t3 HRN HP3 u0 u1 v0 v1 hS1
      have hW : (W0.setCell ⟨g, ai * 2, none⟩ (.int .i64 s[i].by_.kind)).setCell ⟨g, ai * 2 + 1, none⟩ (.int .i64 s[i].by_.amt) = W0.setCells g (ai * 2) [.int .i64 s[i].by_.kind, .int .i64 s[i].by_.amt] := rfl
      rw [hW]
      clear hW
      generalize W0.setCells g (ai * 2) [.int .i64 s[i].by_.kind, .int .i64 s[i].by_.amt] = W1 at *
      go_wp2
      go_roundw
      case rel => exact ⟨k + 1, by omega, by go_num, rfl, HRN'.out⟩
      case measure => simp [intOf]; omega
    · obtain rfl : k = L.length := by omega
      have hA := hr.arr (cap := capq) p.length (fitQ_len _ _ _) hcq hmq
      rw [HEN.out.1] at hA
      rw [HEN.out.2]
      have hzr := hr.be.size
      have HR := Lib.hid (And.intro hA (And.intro (H9.out.1.below hr.be) (below_at H9.out.2 hr.be (by omega))))
      clear hr hA
      obtain ⟨⟨s1, s2, s3, s4⟩, s5, s6, s7⟩ := HR.out.2.1.s
      have q1 := HR.out.2.1.kx.lt
      have q2 := HR.out.2.1.ko.lt
      go_wp2_with fail
      refine (received_any _ _ x o _ (by exact HR.out.1)).mono ?_
      rintro e wn ⟨rfl, hbn⟩
      rw [HQ.out.2.1, HQ.out.2.2.1]
      have HN := Lib.hid (And.intro (HR.out.2.1.below hbn) (below_at HR.out.2.2 hbn (by omega)))
      have hzn := hbn.size
      obtain ⟨o1, o2⟩ := outB_false.1 HQ.out.2.2.2
      clear hbn s1 s2 s3 s4 s5 s6 s7 q1 q2
      (obtain ⟨⟨s1, s2, s3, s4⟩, s5, s6, s7⟩ := HN.out.1.s; have q1 := HN.out.1.kx.lt; have q2 := HN.out.1.ko.lt)
      generalize o.launch - total p x - moreS p x Z = R2 at *
      have hd1 : decide (o.least ≤ R2) = true := by simpa using o1
      have hd2 : decide (R2 ≤ o.most) = true := by simpa using o2
      go_wp2_with fail
      refine (ready_any _).mono ?_
      rintro e wy ⟨rfl, hby⟩
      have hBy := below_at HN.out.2 hby (by omega)
      clear hby
      go_wp2
      go_ret
      exact ⟨rfl, hBy⟩
end Go.Proofs.Ytagpcgnlbgndmaa
