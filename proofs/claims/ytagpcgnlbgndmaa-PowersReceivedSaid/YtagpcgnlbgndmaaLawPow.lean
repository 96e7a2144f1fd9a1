/- The walk of PowersReceived: the law's function returns true for every list of integers, and writes nothing that was there. -/
import Derived.Test.YtagpcgnlbgndmaaStream3
import Derived.Test.YtagpcgnlbgndmaaStream4
import Derived.Test.YtagpcgnlbgndmaaStream5
import Derived.Test.YtagpcgnlbgndmaaStream6
import Derived.Test.YtagpcgnlbgndmaaLoss
import Derived.Test.YtagpcgnlbgndmaaWalkB5
import Derived.Test.YtagpcgnlbgndmaaRefB6
import Derived.Test.YtagpcgnlbgndmaaClassOf
import Derived.Test.YtagpcgnlbgndmaaMinFunc
import Derived.OpenShut
import Derived.Deep.CutRange
set_option linter.unusedVariables false
set_option linter.unusedSimpArgs false
namespace Go.Proofs.Ytagpcgnlbgndmaa
open Go Go.RowKit

/-- what the walk is told of a slice of integers that came in -/
def IsRow (k : IntKind) (w : World) (a : Option Addr) (len cap : Nat) (zs : List Int) : Prop :=
  (a = none ∧ len = 0 ∧ cap = 0 ∧ zs = []) ∨
  ∃ x, a = some x ∧ len ≤ cap ∧ cap ≤ maxLen ∧ zs.length = cap ∧ (∀ i, i < zs.length → w.cell? (x.add i) = some (.int k (zs.getD i 0))) ∧ ∀ n ∈ zs, (Lit.int k n).wf = true

theorem addr_add (b off i : Nat) : ((⟨b, off, none⟩ : Addr).add i) = ⟨b, off + i, none⟩ := by
  unfold Addr.add
  split
  · rename_i h; simp [h]
  · rfl
theorem strm_start {w : World} {a : Option Addr} {len cap : Nat} {zs : List Int} (h : IsRow .i64 w a len cap zs) : Strm (w.alloc (.cells #[.slice a len cap, .int .i64 0] 25)) w.heap.size 0 := by
  refine ⟨a, len, cap, 0, Blk.new w _ _, Nat.le_refl _, ?_, fun i hi => ?_⟩
  · rcases h with ⟨_, rfl, _⟩ | ⟨_, _, h1, h2, _⟩
    · simp
    · omega
  · rcases h with ⟨_, rfl, _⟩ | ⟨x, rfl, h1, h2, h3, h4, h5⟩
    · omega
    · have hc := h4 i (by omega)
      have hc0 := h4 0 (by omega)
      obtain ⟨b, off, spot⟩ := x
      have hspot : spot = none := by simpa [Addr.add] using World.cell?_spot hc0
      subst hspot
      have hbl := World.block_lt_of_cell? _ _ hc
      rw [addr_add] at hc hbl
      have hw := bounds_i64 (h5 (zs.getD i 0) (by rw [List.getD_eq_getElem?_getD, List.getElem?_eq_getElem (by omega)]; exact List.getElem_mem _))
      refine ⟨b, off, zs.getD i 0, rfl, hbl, ?_, hw.1, hw.2⟩
      exact (World.cell?_alloc_lt _ _ _ hbl).trans hc

theorem classesF_len {c : List Class} (h : classesF c = 0) : c.length ≤ 1000 := by
  unfold classesF at h
  split at h
  · omega
  · omega
/-- the state behind the draws -/
structure LSt (w : World) (b : Nat) (W : World) (v u : Value) (p : List Part) (c : List Class) (x : Losses) (o : Optics) : Prop where
  bel : Below w.heap.size w W
  lx : Blk W b #[.int .i64 x.perKm, .int .i64 x.conn, .int .i64 x.dblg, .int .i64 x.exc] 29
  lo : Blk W (b + 1) #[.int .i64 o.launch, .int .i64 o.least, .int .i64 o.most] 32
  P : Arr Part.cells 2 W p v
  C : Arr Class.cells 3 W c u
theorem LSt.step {w W W' : World} {b : Nat} {v u : Value} {p : List Part} {c : List Class} {x : Losses} {o : Optics} (h : LSt w b W v u p c x o) (hb : Below W.heap.size W W') : LSt w b W' v u p c x o :=
  ⟨(h.bel).trans (hb.mono (h.bel.size)), h.lx.below hb h.lx.lt, h.lo.below hb h.lo.lt, h.P.below hb, h.C.below hb⟩

theorem below_row {w w' : World} (h : w.grownBy w' (some w.heap.size)) : Below w.heap.size w w' :=
  ⟨h.os, h.tape, h.output, h.size, fun k hk => h.block k hk (by simp; omega)⟩
theorem first_nest (a b c : Int) : firstF [firstF [a, b], c] = firstF [a, b, c] := by
  simp only [firstF]; split <;> simp_all
theorem repairs_nest (p : List Part) (x : Losses) (o : Optics) (sp : Int) : firstF [faultF p x o, spanF sp 0 10000] = repairsF p x o sp := by
  unfold repairsF spanF
  simp only [firstF]
  by_cases h : faultF p x o = 0
  · rw [if_pos h, if_pos h]; split <;> simp_all
  · rw [if_neg h, if_neg h]

theorem or_eq (v : Value) (l : List Int) (n : Int) (w : World) (h : Arr intCells 1 w l v) (hn : firstF l = n) : Calls Try.prog 19 #[v] w
    fun e w' => e = .returned (.int .i64 n) ∧ w = w' := by rw [← hn]; exact or_any v l w h

set_option maxHeartbeats 1000000 in
set_option maxRecDepth 100000 in
theorem law_walk (a0 : Option Addr) (len0 cap0 : Nat) (z0 : List Int) (w : World) (w0 : IsRow .i64 w a0 len0 cap0 z0) :
    Calls Try.prog 3 #[.slice a0 len0 cap0] w fun e w' => e = .returned (.bool true) ∧ Below w.heap.size w w' := by
  have hS := strm_start w0
  clear w0
  go_enter Try.func3, Try.ntmps3
  go_wp2_with fail
  refine (partList_any w.heap.size 0 6 _ hS (by omega) (by omega)).mono ?_
  rintro e w1 ⟨v1, rfl, ⟨p, hp, hpl⟩, hs1, hg1⟩
  go_wp2_with fail
  refine (lossTable_any w.heap.size _ _ hs1 (by omega)).mono ?_
  rintro e w2 ⟨v2, rfl, ⟨x, rfl⟩, hs2, hg2⟩
  go_wp2_with fail
  refine (opticsOf_any w.heap.size _ _ hs2 (by omega)).mono ?_
  rintro e w3 ⟨v3, rfl, ⟨o, rfl⟩, hs3, hg3⟩
  go_wp2_with fail
  refine (classList_any w.heap.size _ _ hs3 (by omega)).mono ?_
  rintro e w4 ⟨u4, rfl, ⟨c, hc, hcl⟩, hs4, hg4⟩
  go_wp2_with fail
  refine (pick_lit w.heap.size _ [5, 10, 100, 0, -1, 10001] _ hs4 (by omega) (by simp) (by simp) (by first | rfl | simp) (by rfl) (by rfl)).mono ?_
  rintro e w5 ⟨v5, rfl, ⟨sp, rfl, -⟩, hs5, hg5⟩
  have hP := (((hp.grownBy hg2 hpl).grownBy hg3 hpl).grownBy hg4 hpl).grownBy hg5 hpl
  have hC := hc.grownBy hg5 hcl
  have hB : Below w.heap.size w w5 := below_row (grown_trans (World.grownBy_alloc w _ _) (grown_trans hg1 (grown_trans hg2 (grown_trans hg3 (grown_trans hg4 hg5)))))
  have HS := Lib.hid (And.intro hP (And.intro hC hB))
  clear hS hp hpl hs1 hg1 hs2 hg2 hs3 hg3 hc hcl hs4 hg4 hs5 hg5 hP hC hB
  go_wp2_with fail
  have S0 : LSt w w5.heap.size ((w5.alloc (.cells #[.int .i64 x.perKm, .int .i64 x.conn, .int .i64 x.dblg, .int .i64 x.exc] 29)).alloc (.cells #[.int .i64 o.launch, .int .i64 o.least, .int .i64 o.most] 32)) v1 u4 p c x o :=
    ⟨by have h5 := HS.out.2.2; have hz5 := h5.size; (repeat (first | exact Below.refl _ _ | assumption | refine below_draws ?_ _ | refine Below.drew ?_ | refine below_alloc ?_ _ (by first | omega | (simp; done) | (simp; omega)) | refine Below.setCell ?_ (by first | omega | (simp; done) | (simp; omega)) _ | refine below_at ?_ (by assumption) (by first | omega | (simp; done) | (simp; omega)))), (Blk.new w5 _ _).alloc _, Blk.newAt (by simp), HS.out.1.below (by (repeat (first | exact Below.refl _ _ | assumption | refine below_draws ?_ _ | refine Below.drew ?_ | refine below_alloc ?_ _ (by first | omega | (simp; done) | (simp; omega)) | refine Below.setCell ?_ (by first | omega | (simp; done) | (simp; omega)) _ | refine below_at ?_ (by assumption) (by first | omega | (simp; done) | (simp; omega))))), HS.out.2.1.below (by (repeat (first | exact Below.refl _ _ | assumption | refine below_draws ?_ _ | refine Below.drew ?_ | refine below_alloc ?_ _ (by first | omega | (simp; done) | (simp; omega)) | refine Below.setCell ?_ (by first | omega | (simp; done) | (simp; omega)) _ | refine below_at ?_ (by assumption) (by first | omega | (simp; done) | (simp; omega)))))⟩
  generalize ((w5.alloc (.cells #[.int .i64 x.perKm, .int .i64 x.conn, .int .i64 x.dblg, .int .i64 x.exc] 29)).alloc (.cells #[.int .i64 o.launch, .int .i64 o.least, .int .i64 o.most] 32)) = W0 at *
  generalize w5.heap.size = b at *
  clear HS
  have H0 := Lib.hid S0
  clear S0
  have l0 := H0.out.lx.cell 0 _ rfl; have l1 := H0.out.lx.cell 1 _ rfl; have l2 := H0.out.lx.cell 2 _ rfl; have l3 := H0.out.lx.cell 3 _ rfl; have o0 := H0.out.lo.cell 0 _ rfl; have o1 := H0.out.lo.cell 1 _ rfl; have o2 := H0.out.lo.cell 2 _ rfl
  have sz0 : b + 1 < W0.heap.size := H0.out.lo.lt
  go_region_held3 (fun w' => w'.cell? ⟨b, 0, none⟩ = some (.int .i64 x.perKm) ∧ w'.cell? ⟨b, 1, none⟩ = some (.int .i64 x.conn) ∧ w'.cell? ⟨b, 2, none⟩ = some (.int .i64 x.dblg) ∧ w'.cell? ⟨b, 3, none⟩ = some (.int .i64 x.exc)) (go_keep)
    (first
      | (go_at_call 20; refine (rpartsFault_any _ p _ ?_).mono ?_; (exact H0.out.P.below (by (repeat (first | exact Below.refl _ _ | assumption | refine below_draws ?_ _ | refine Below.drew ?_ | refine below_alloc ?_ _ (by first | omega | (simp; done) | (simp; omega)) | refine Below.setCell ?_ (by first | omega | (simp; done) | (simp; omega)) _ | refine below_at ?_ (by assumption) (by first | omega | (simp; done) | (simp; omega)))))); rintro e w1 ⟨rfl, hb1⟩; have s1 : b + 1 < w1.heap.size := (by have := hb1.size; (try simp at this); omega); have hc1 := bcellAt hb1 b (by first | omega | (simp; done) | (simp; omega)))
      | (go_at_call 21; refine (rlossesFault_any x _).mono ?_; rintro e w2 ⟨rfl, hb2⟩; have s2 : b + 1 < w2.heap.size := (by have := hb2.size; (try simp at this); omega); have hc2 := bcellAt hb2 b (by first | omega | (simp; done) | (simp; omega)))
      | (go_at_call 19; refine (or_any _ [partsFault p, lossesFault x] _ (by exact Arr.lit (cells := intCells) (sz := 1) (fun _ => rfl) _ [partsFault p, lossesFault x] _ _ 2 (by rfl) rfl (by simp [maxLen]))).mono ?_; rintro e w4 ⟨rfl, rfl⟩))
  have z1 : W0.heap.size ≤ w1.heap.size := hb1.size
  have z2 : w1.heap.size ≤ w2.heap.size := hb2.size
  have S3 : LSt w b w2 v1 u4 p c x o := H0.out.step (by (repeat (first | exact Below.refl _ _ | assumption | refine below_draws ?_ _ | refine Below.drew ?_ | refine below_alloc ?_ _ (by first | omega | (simp; done) | (simp; omega)) | refine Below.setCell ?_ (by first | omega | (simp; done) | (simp; omega)) _ | refine below_at ?_ (by assumption) (by first | omega | (simp; done) | (simp; omega)))))
  clear z1 z2
  have H3 := Lib.hid S3
  clear S3 hb1 hb2 hc1 hc2 H0 l0 l1 l2 l3 o0 o1 o2 s1 sz0
  try clear hSx
  have l0 := H3.out.lx.cell 0 _ rfl; have l1 := H3.out.lx.cell 1 _ rfl; have l2 := H3.out.lx.cell 2 _ rfl; have l3 := H3.out.lx.cell 3 _ rfl; have o0 := H3.out.lo.cell 0 _ rfl; have o1 := H3.out.lo.cell 1 _ rfl; have o2 := H3.out.lo.cell 2 _ rfl
  have sz3 : b + 1 < w2.heap.size := H3.out.lo.lt
  have sy3 : b < w2.heap.size := H3.out.lx.lt
  go_wp2_with fail
  refine (ropticsFault_any o _).mono ?_
  rintro e w4 ⟨rfl, hb4⟩
  have S4 : LSt w b w4 v1 u4 p c x o := H3.out.step (by (repeat (first | exact Below.refl _ _ | assumption | refine below_draws ?_ _ | refine Below.drew ?_ | refine below_alloc ?_ _ (by first | omega | (simp; done) | (simp; omega)) | refine Below.setCell ?_ (by first | omega | (simp; done) | (simp; omega)) _ | refine below_at ?_ (by assumption) (by first | omega | (simp; done) | (simp; omega)))))
  have H4 := Lib.hid S4
  clear S4 hb4 H3 l0 l1 l2 l3 o0 o1 o2
  have l0 := H4.out.lx.cell 0 _ rfl; have l1 := H4.out.lx.cell 1 _ rfl; have l2 := H4.out.lx.cell 2 _ rfl; have l3 := H4.out.lx.cell 3 _ rfl; have o0 := H4.out.lo.cell 0 _ rfl; have o1 := H4.out.lo.cell 1 _ rfl; have o2 := H4.out.lo.cell 2 _ rfl
  have sz4 : b + 1 < w4.heap.size := H4.out.lo.lt
  have sy4 : b < w4.heap.size := H4.out.lx.lt
  go_wp2_with fail
  refine (or_eq _ [firstF [partsFault p, lossesFault x], opticsFault o] (faultF p x o) _ (by exact Arr.lit (cells := intCells) (sz := 1) (fun _ => rfl) _ [firstF [partsFault p, lossesFault x], opticsFault o] _ _ 2 (by rfl) rfl (by simp [maxLen])) (first_nest _ _ _)).mono ?_
  rintro e wz ⟨rfl, rfl⟩
  go_wp2_with fail; refine (received_any _ p x o _ (by exact H4.out.P.below (by (repeat (first | exact Below.refl _ _ | assumption | refine below_draws ?_ _ | refine Below.drew ?_ | refine below_alloc ?_ _ (by first | omega | (simp; done) | (simp; omega)) | refine Below.setCell ?_ (by first | omega | (simp; done) | (simp; omega)) _ | refine below_at ?_ (by assumption) (by first | omega | (simp; done) | (simp; omega))))))).mono ?_; rintro e w5 ⟨rfl, hb5⟩; have S5 : LSt w b w5 v1 u4 p c x o := H4.out.step (by (repeat (first | exact Below.refl _ _ | assumption | refine below_draws ?_ _ | refine Below.drew ?_ | refine below_alloc ?_ _ (by first | omega | (simp; done) | (simp; omega)) | refine Below.setCell ?_ (by first | omega | (simp; done) | (simp; omega)) _ | refine below_at ?_ (by assumption) (by first | omega | (simp; done) | (simp; omega))))); have H5 := Lib.hid S5; clear S5 hb5 H4 l0 l1 l2 l3 o0 o1 o2; have l0 := H5.out.lx.cell 0 _ rfl; have l1 := H5.out.lx.cell 1 _ rfl; have l2 := H5.out.lx.cell 2 _ rfl; have l3 := H5.out.lx.cell 3 _ rfl; have o0 := H5.out.lo.cell 0 _ rfl; have o1 := H5.out.lo.cell 1 _ rfl; have o2 := H5.out.lo.cell 2 _ rfl; have sz5 : b + 1 < w5.heap.size := H5.out.lo.lt; have sy5 : b < w5.heap.size := H5.out.lx.lt
  go_wp2_with fail; refine (margin_any _ p x o _ (by exact H5.out.P.below (by (repeat (first | exact Below.refl _ _ | assumption | refine below_draws ?_ _ | refine Below.drew ?_ | refine below_alloc ?_ _ (by first | omega | (simp; done) | (simp; omega)) | refine Below.setCell ?_ (by first | omega | (simp; done) | (simp; omega)) _ | refine below_at ?_ (by assumption) (by first | omega | (simp; done) | (simp; omega))))))).mono ?_; rintro e w6 ⟨rfl, hb6⟩; have S6 : LSt w b w6 v1 u4 p c x o := H5.out.step (by (repeat (first | exact Below.refl _ _ | assumption | refine below_draws ?_ _ | refine Below.drew ?_ | refine below_alloc ?_ _ (by first | omega | (simp; done) | (simp; omega)) | refine Below.setCell ?_ (by first | omega | (simp; done) | (simp; omega)) _ | refine below_at ?_ (by assumption) (by first | omega | (simp; done) | (simp; omega))))); have H6 := Lib.hid S6; clear S6 hb6 H5 l0 l1 l2 l3 o0 o1 o2; have l0 := H6.out.lx.cell 0 _ rfl; have l1 := H6.out.lx.cell 1 _ rfl; have l2 := H6.out.lx.cell 2 _ rfl; have l3 := H6.out.lx.cell 3 _ rfl; have o0 := H6.out.lo.cell 0 _ rfl; have o1 := H6.out.lo.cell 1 _ rfl; have o2 := H6.out.lo.cell 2 _ rfl; have sz6 : b + 1 < w6.heap.size := H6.out.lo.lt; have sy6 : b < w6.heap.size := H6.out.lx.lt
  go_wp2_with fail; refine (attenuator_any _ p x o _ (by exact H6.out.P.below (by (repeat (first | exact Below.refl _ _ | assumption | refine below_draws ?_ _ | refine Below.drew ?_ | refine below_alloc ?_ _ (by first | omega | (simp; done) | (simp; omega)) | refine Below.setCell ?_ (by first | omega | (simp; done) | (simp; omega)) _ | refine below_at ?_ (by assumption) (by first | omega | (simp; done) | (simp; omega))))))).mono ?_; rintro e w7 ⟨rfl, hb7⟩; have S7 : LSt w b w7 v1 u4 p c x o := H6.out.step (by (repeat (first | exact Below.refl _ _ | assumption | refine below_draws ?_ _ | refine Below.drew ?_ | refine below_alloc ?_ _ (by first | omega | (simp; done) | (simp; omega)) | refine Below.setCell ?_ (by first | omega | (simp; done) | (simp; omega)) _ | refine below_at ?_ (by assumption) (by first | omega | (simp; done) | (simp; omega))))); have H7 := Lib.hid S7; clear S7 hb7 H6 l0 l1 l2 l3 o0 o1 o2; have l0 := H7.out.lx.cell 0 _ rfl; have l1 := H7.out.lx.cell 1 _ rfl; have l2 := H7.out.lx.cell 2 _ rfl; have l3 := H7.out.lx.cell 3 _ rfl; have o0 := H7.out.lo.cell 0 _ rfl; have o1 := H7.out.lo.cell 1 _ rfl; have o2 := H7.out.lo.cell 2 _ rfl; have sz7 : b + 1 < w7.heap.size := H7.out.lo.lt; have sy7 : b < w7.heap.size := H7.out.lx.lt
  go_wp2_with fail; refine (reach_any _ p x o _ (by exact H7.out.P.below (by (repeat (first | exact Below.refl _ _ | assumption | refine below_draws ?_ _ | refine Below.drew ?_ | refine below_alloc ?_ _ (by first | omega | (simp; done) | (simp; omega)) | refine Below.setCell ?_ (by first | omega | (simp; done) | (simp; omega)) _ | refine below_at ?_ (by assumption) (by first | omega | (simp; done) | (simp; omega))))))).mono ?_; rintro e w8 ⟨rfl, hb8⟩; have S8 : LSt w b w8 v1 u4 p c x o := H7.out.step (by (repeat (first | exact Below.refl _ _ | assumption | refine below_draws ?_ _ | refine Below.drew ?_ | refine below_alloc ?_ _ (by first | omega | (simp; done) | (simp; omega)) | refine Below.setCell ?_ (by first | omega | (simp; done) | (simp; omega)) _ | refine below_at ?_ (by assumption) (by first | omega | (simp; done) | (simp; omega))))); have H8 := Lib.hid S8; clear S8 hb8 H7 l0 l1 l2 l3 o0 o1 o2; have l0 := H8.out.lx.cell 0 _ rfl; have l1 := H8.out.lx.cell 1 _ rfl; have l2 := H8.out.lx.cell 2 _ rfl; have l3 := H8.out.lx.cell 3 _ rfl; have o0 := H8.out.lo.cell 0 _ rfl; have o1 := H8.out.lo.cell 1 _ rfl; have o2 := H8.out.lo.cell 2 _ rfl; have sz8 : b + 1 < w8.heap.size := H8.out.lo.lt; have sy8 : b < w8.heap.size := H8.out.lx.lt
  go_wp2_with fail; refine (repairs_any _ p x o sp _ (by exact H8.out.P.below (by (repeat (first | exact Below.refl _ _ | assumption | refine below_draws ?_ _ | refine Below.drew ?_ | refine below_alloc ?_ _ (by first | omega | (simp; done) | (simp; omega)) | refine Below.setCell ?_ (by first | omega | (simp; done) | (simp; omega)) _ | refine below_at ?_ (by assumption) (by first | omega | (simp; done) | (simp; omega))))))).mono ?_; rintro e w9 ⟨rfl, hb9⟩; have S9 : LSt w b w9 v1 u4 p c x o := H8.out.step (by (repeat (first | exact Below.refl _ _ | assumption | refine below_draws ?_ _ | refine Below.drew ?_ | refine below_alloc ?_ _ (by first | omega | (simp; done) | (simp; omega)) | refine Below.setCell ?_ (by first | omega | (simp; done) | (simp; omega)) _ | refine below_at ?_ (by assumption) (by first | omega | (simp; done) | (simp; omega))))); have H9 := Lib.hid S9; clear S9 hb9 H8 l0 l1 l2 l3 o0 o1 o2; have l0 := H9.out.lx.cell 0 _ rfl; have l1 := H9.out.lx.cell 1 _ rfl; have l2 := H9.out.lx.cell 2 _ rfl; have l3 := H9.out.lx.cell 3 _ rfl; have o0 := H9.out.lo.cell 0 _ rfl; have o1 := H9.out.lo.cell 1 _ rfl; have o2 := H9.out.lo.cell 2 _ rfl; have sz9 : b + 1 < w9.heap.size := H9.out.lo.lt; have sy9 : b < w9.heap.size := H9.out.lx.lt
  go_wp2_with fail; refine (classOf_any _ _ p x c _ (by exact H9.out.P.below (by (repeat (first | exact Below.refl _ _ | assumption | refine below_draws ?_ _ | refine Below.drew ?_ | refine below_alloc ?_ _ (by first | omega | (simp; done) | (simp; omega)) | refine Below.setCell ?_ (by first | omega | (simp; done) | (simp; omega)) _ | refine below_at ?_ (by assumption) (by first | omega | (simp; done) | (simp; omega)))))) (by exact H9.out.C.below (by (repeat (first | exact Below.refl _ _ | assumption | refine below_draws ?_ _ | refine Below.drew ?_ | refine below_alloc ?_ _ (by first | omega | (simp; done) | (simp; omega)) | refine Below.setCell ?_ (by first | omega | (simp; done) | (simp; omega)) _ | refine below_at ?_ (by assumption) (by first | omega | (simp; done) | (simp; omega))))))).mono ?_; rintro e w10 ⟨rfl, hb10⟩; have S10 : LSt w b w10 v1 u4 p c x o := H9.out.step (by (repeat (first | exact Below.refl _ _ | assumption | refine below_draws ?_ _ | refine Below.drew ?_ | refine below_alloc ?_ _ (by first | omega | (simp; done) | (simp; omega)) | refine Below.setCell ?_ (by first | omega | (simp; done) | (simp; omega)) _ | refine below_at ?_ (by assumption) (by first | omega | (simp; done) | (simp; omega))))); have H10 := Lib.hid S10; clear S10 hb10 H9 l0 l1 l2 l3 o0 o1 o2; have l0 := H10.out.lx.cell 0 _ rfl; have l1 := H10.out.lx.cell 1 _ rfl; have l2 := H10.out.lx.cell 2 _ rfl; have l3 := H10.out.lx.cell 3 _ rfl; have o0 := H10.out.lo.cell 0 _ rfl; have o1 := H10.out.lo.cell 1 _ rfl; have o2 := H10.out.lo.cell 2 _ rfl; have sz10 : b + 1 < w10.heap.size := H10.out.lo.lt; have sy10 : b < w10.heap.size := H10.out.lx.lt
  go_wp2_with fail; refine (rclassesFault_any _ c _ (by exact H10.out.C.below (by (repeat (first | exact Below.refl _ _ | assumption | refine below_draws ?_ _ | refine Below.drew ?_ | refine below_alloc ?_ _ (by first | omega | (simp; done) | (simp; omega)) | refine Below.setCell ?_ (by first | omega | (simp; done) | (simp; omega)) _ | refine below_at ?_ (by assumption) (by first | omega | (simp; done) | (simp; omega))))))).mono ?_; rintro e w11 ⟨rfl, hb11⟩; have S11 : LSt w b w11 v1 u4 p c x o := H10.out.step (by (repeat (first | exact Below.refl _ _ | assumption | refine below_draws ?_ _ | refine Below.drew ?_ | refine below_alloc ?_ _ (by first | omega | (simp; done) | (simp; omega)) | refine Below.setCell ?_ (by first | omega | (simp; done) | (simp; omega)) _ | refine below_at ?_ (by assumption) (by first | omega | (simp; done) | (simp; omega))))); have H11 := Lib.hid S11; clear S11 hb11 H10 l0 l1 l2 l3 o0 o1 o2; have l0 := H11.out.lx.cell 0 _ rfl; have l1 := H11.out.lx.cell 1 _ rfl; have l2 := H11.out.lx.cell 2 _ rfl; have l3 := H11.out.lx.cell 3 _ rfl; have o0 := H11.out.lo.cell 0 _ rfl; have o1 := H11.out.lo.cell 1 _ rfl; have o2 := H11.out.lo.cell 2 _ rfl; have sz11 : b + 1 < w11.heap.size := H11.out.lo.lt; have sy11 : b < w11.heap.size := H11.out.lx.lt
  go_wp2_with fail
  refine (or_eq _ [firstF [partsFault p, lossesFault x], classesF c] (classOfF p x c) _ (by exact Arr.lit (cells := intCells) (sz := 1) (fun _ => rfl) _ [firstF [partsFault p, lossesFault x], classesF c] _ _ 2 (by rfl) rfl (by simp [maxLen])) (first_nest _ _ _)).mono ?_
  rintro e wz ⟨rfl, rfl⟩
  have HCl : Hid (classOfF p x c = 0 → AllOk p x ∧ c.length ≤ 1000) := fun h => by
    obtain ⟨h1, h2, h3⟩ := classOfF_zero.1 h
    exact ⟨⟨h1.2, h1.1, h2⟩, classesF_len h3⟩
  have HCv0 : Hid (classOfF p x c = 0 → classOfV p x c = classFor (total p x) c) := fun h => by unfold classOfV; rw [if_pos h]
  have HCv1 : Hid (¬ classOfF p x c = 0 → classOfV p x c = (⟨#[]⟩, false)) := fun h => by unfold classOfV; rw [if_neg h]
  go_upto_region 12 with fail
  go_cut [24, 25, 128] from 102 to 128 (fun y z t wc => y = .string (classOfV p x c).1 ∧ z = .bool (classOfV p x c).2 ∧ t = .bool false ∧ wc = (w11.alloc (Obj.cells #[Value.int IntKind.i64 (firstF [partsFault p, lossesFault x]), Value.int IntKind.i64 (classesF c)] 37)))
  case first =>
    by_cases hf : classOfF p x c = 0
    · have hf1 : (classOfF p x c != 0) = false := by simp [hf]
      clear hf
      go_wp2
      go_meet
      exact ⟨rfl, rfl, rfl, rfl⟩
    · have hf1 : (classOfF p x c != 0) = true := by simp [hf]
      have hv := HCv1.out hf
      clear hf
      rw [hv]
      have HV := Lib.hid hv
      clear hv
      go_wp2
      go_meet
      exact ⟨by rw [HV.out], by rw [HV.out], rfl, rfl⟩
  case rest =>
  obtain ⟨rfl, rfl, rfl, rfl⟩ := hcut
  go_upto_if 130 with fail
  go_cut [2] from 115 to 145 (fun r wc => r = .bool false ∧ LSt w b wc v1 u4 p c x o)
  case first =>
    by_cases hf : classOfF p x c = 0
    · have hf1 : (classOfF p x c == 0) = true := by simp [hf]
      obtain ⟨ok, hc1⟩ := HCl.out hf
      have HV := Lib.hid (HCv0.out hf)
      clear hf
      go_wp2_with fail
      refine (classFor_any _ _ p x c _ (by exact H11.out.P.below (by (repeat (first | exact Below.refl _ _ | assumption | refine below_draws ?_ _ | refine Below.drew ?_ | refine below_alloc ?_ _ (by first | omega | (simp; done) | (simp; omega)) | refine Below.setCell ?_ (by first | omega | (simp; done) | (simp; omega)) _ | refine below_at ?_ (by assumption) (by first | omega | (simp; done) | (simp; omega)))))) (by exact H11.out.C.below (by (repeat (first | exact Below.refl _ _ | assumption | refine below_draws ?_ _ | refine Below.drew ?_ | refine below_alloc ?_ _ (by first | omega | (simp; done) | (simp; omega)) | refine Below.setCell ?_ (by first | omega | (simp; done) | (simp; omega)) _ | refine below_at ?_ (by assumption) (by first | omega | (simp; done) | (simp; omega)))))) hc1 ok).mono ?_
      rintro e w12 ⟨rfl, hb12⟩
      rw [← HV.out]
      go_wp2
      go_meet
      exact ⟨rfl, H11.out.step (by (repeat (first | exact Below.refl _ _ | assumption | refine below_draws ?_ _ | refine Below.drew ?_ | refine below_alloc ?_ _ (by first | omega | (simp; done) | (simp; omega)) | refine Below.setCell ?_ (by first | omega | (simp; done) | (simp; omega)) _ | refine below_at ?_ (by assumption) (by first | omega | (simp; done) | (simp; omega)))))⟩
    · have hf1 : (classOfF p x c == 0) = false := by simp [hf]
      clear hf
      go_wp2
      go_meet
      exact ⟨rfl, H11.out.step (by (repeat (first | exact Below.refl _ _ | assumption | refine below_draws ?_ _ | refine Below.drew ?_ | refine below_alloc ?_ _ (by first | omega | (simp; done) | (simp; omega)) | refine Below.setCell ?_ (by first | omega | (simp; done) | (simp; omega)) _ | refine below_at ?_ (by assumption) (by first | omega | (simp; done) | (simp; omega)))))⟩
  case rest =>
  obtain ⟨rfl, S12⟩ := hcut
  have H12 := Lib.hid S12
  clear S12 HCl HCv0 HCv1 H11 l0 l1 l2 l3 o0 o1 o2
  have l0 := H12.out.lx.cell 0 _ rfl; have l1 := H12.out.lx.cell 1 _ rfl; have l2 := H12.out.lx.cell 2 _ rfl; have l3 := H12.out.lx.cell 3 _ rfl; have o0 := H12.out.lo.cell 0 _ rfl; have o1 := H12.out.lo.cell 1 _ rfl; have o2 := H12.out.lo.cell 2 _ rfl
  have sz12 : b + 1 < wc.heap.size := H12.out.lo.lt
  have sy12 : b < wc.heap.size := H12.out.lx.lt
  go_wp2_with fail
  refine (span_any _ _ _ _).mono ?_
  rintro e wz ⟨rfl, rfl⟩
  go_wp2_with fail
  refine (or_eq _ [faultF p x o, spanF sp 0 10000] (repairsF p x o sp) _ (by exact Arr.lit (cells := intCells) (sz := 1) (fun _ => rfl) _ [faultF p x o, spanF sp 0 10000] _ _ 2 (by rfl) rfl (by simp [maxLen])) (repairs_nest _ _ _ _)).mono ?_
  rintro e wz ⟨rfl, rfl⟩
  go_upto_if 152 with fail
  have HRv : Hid (¬ repairsF p x o sp = 0 → repairsV p x o sp = (0, false)) := fun h => by unfold repairsV; rw [if_pos (.inl h)]
  go_cut [31, 32] from 146 to 160 (fun y z wd => y = .int .i64 (repairsV p x o sp).1 ∧ z = .bool (repairsV p x o sp).2 ∧ LSt w b wd v1 u4 p c x o)
  case first =>
    by_cases hf : repairsF p x o sp = 0
    · have hf1 : (repairsF p x o sp == 0) = true := by simp [hf]
      have HF := Lib.hid hf
      clear hf
      go_wp2_with fail
      refine (repairsOf_any _ p x o sp _ (by exact H12.out.P.below (by (repeat (first | exact Below.refl _ _ | assumption | refine below_draws ?_ _ | refine Below.drew ?_ | refine below_alloc ?_ _ (by first | omega | (simp; done) | (simp; omega)) | refine Below.setCell ?_ (by first | omega | (simp; done) | (simp; omega)) _ | refine below_at ?_ (by assumption) (by first | omega | (simp; done) | (simp; omega)))))) HF.out).mono ?_
      rintro e w13 ⟨rfl, hb13⟩
      go_wp2
      go_meet
      exact ⟨rfl, rfl, H12.out.step (by (repeat (first | exact Below.refl _ _ | assumption | refine below_draws ?_ _ | refine Below.drew ?_ | refine below_alloc ?_ _ (by first | omega | (simp; done) | (simp; omega)) | refine Below.setCell ?_ (by first | omega | (simp; done) | (simp; omega)) _ | refine below_at ?_ (by assumption) (by first | omega | (simp; done) | (simp; omega)))))⟩
    · have hf1 : (repairsF p x o sp == 0) = false := by simp [hf]
      have HV := Lib.hid (HRv.out hf)
      clear hf
      go_wp2
      go_meet
      exact ⟨by rw [HV.out], by rw [HV.out], H12.out.step (by (repeat (first | exact Below.refl _ _ | assumption | refine below_draws ?_ _ | refine Below.drew ?_ | refine below_alloc ?_ _ (by first | omega | (simp; done) | (simp; omega)) | refine Below.setCell ?_ (by first | omega | (simp; done) | (simp; omega)) _ | refine below_at ?_ (by assumption) (by first | omega | (simp; done) | (simp; omega)))))⟩
  case rest =>
  obtain ⟨rfl, rfl, S13⟩ := hcut
  have H13 := Lib.hid S13
  clear S13 HRv H12 l0 l1 l2 l3 o0 o1 o2 sz12 sy12
  have l0 := H13.out.lx.cell 0 _ rfl; have l1 := H13.out.lx.cell 1 _ rfl; have l2 := H13.out.lx.cell 2 _ rfl; have l3 := H13.out.lx.cell 3 _ rfl; have o0 := H13.out.lo.cell 0 _ rfl; have o1 := H13.out.lo.cell 1 _ rfl; have o2 := H13.out.lo.cell 2 _ rfl
  have sz13 : b + 1 < wc.heap.size := H13.out.lo.lt
  have sy13 : b < wc.heap.size := H13.out.lx.lt
  by_cases hf : faultF p x o = 0
  · have hf1 : (faultF p x o != 0) = false := by simp [hf]
    have hf2 : (faultF p x o == 0) = true := by simp [hf]
    have hr : recvV p x o = o.launch - total p x := by unfold recvV; rw [if_pos hf]
    have hm : (marginV p x o == recvV p x o - o.least) = true := by rw [marginV_eq hf]; simp
    obtain ⟨⟨q1, q2⟩, q3, q4⟩ := faultF_zero.1 hf
    obtain ⟨r1, r2⟩ := recvV_bound p x o
    have q5 := q4
    unfold Optics.Ok at q5
    obtain ⟨o5, o6, o7, o8, o9⟩ := q5
    have HK := Lib.hid (And.intro hr (And.intro hf (And.intro q1 (And.intro q2 (And.intro q3 q4)))))
    clear hr hf q1 q2 q3 q4
    go_wp2_with fail
    refine (receivedOf_any _ p x o _ (by exact H13.out.P.below (by (repeat (first | exact Below.refl _ _ | assumption | refine below_draws ?_ _ | refine Below.drew ?_ | refine below_alloc ?_ _ (by first | omega | (simp; done) | (simp; omega)) | refine Below.setCell ?_ (by first | omega | (simp; done) | (simp; omega)) _ | refine below_at ?_ (by assumption) (by first | omega | (simp; done) | (simp; omega)))))) ⟨HK.out.2.2.2.1, HK.out.2.2.1, HK.out.2.2.2.2.1⟩ HK.out.2.2.2.2.2).mono ?_
    rintro e w14 ⟨rfl, hb14⟩
    rw [← HK.out.1]
    have S14 : LSt w b w14 v1 u4 p c x o := H13.out.step (by (repeat (first | exact Below.refl _ _ | assumption | refine below_draws ?_ _ | refine Below.drew ?_ | refine below_alloc ?_ _ (by first | omega | (simp; done) | (simp; omega)) | refine Below.setCell ?_ (by first | omega | (simp; done) | (simp; omega)) _ | refine below_at ?_ (by assumption) (by first | omega | (simp; done) | (simp; omega)))))
    have H14 := Lib.hid S14
    clear S14 hb14 H13 l0 l1 l2 l3 o0 o1 o2
    have l0 := H14.out.lx.cell 0 _ rfl; have l1 := H14.out.lx.cell 1 _ rfl; have l2 := H14.out.lx.cell 2 _ rfl; have l3 := H14.out.lx.cell 3 _ rfl; have o0 := H14.out.lo.cell 0 _ rfl; have o1 := H14.out.lo.cell 1 _ rfl; have o2 := H14.out.lo.cell 2 _ rfl
    go_wp2_with fail; refine (attenuatorOf_any _ p x o _ (by exact H14.out.P.below (by (repeat (first | exact Below.refl _ _ | assumption | refine below_draws ?_ _ | refine Below.drew ?_ | refine below_alloc ?_ _ (by first | omega | (simp; done) | (simp; omega)) | refine Below.setCell ?_ (by first | omega | (simp; done) | (simp; omega)) _ | refine below_at ?_ (by assumption) (by first | omega | (simp; done) | (simp; omega)))))) HK.out.2.1).mono ?_; rintro e w15 ⟨rfl, hb15⟩; have S15 : LSt w b w15 v1 u4 p c x o := H14.out.step (by (repeat (first | exact Below.refl _ _ | assumption | refine below_draws ?_ _ | refine Below.drew ?_ | refine below_alloc ?_ _ (by first | omega | (simp; done) | (simp; omega)) | refine Below.setCell ?_ (by first | omega | (simp; done) | (simp; omega)) _ | refine below_at ?_ (by assumption) (by first | omega | (simp; done) | (simp; omega))))); have H15 := Lib.hid S15; clear S15 hb15 H14 l0 l1 l2 l3 o0 o1 o2; have l0 := H15.out.lx.cell 0 _ rfl; have l1 := H15.out.lx.cell 1 _ rfl; have l2 := H15.out.lx.cell 2 _ rfl; have l3 := H15.out.lx.cell 3 _ rfl; have o0 := H15.out.lo.cell 0 _ rfl; have o1 := H15.out.lo.cell 1 _ rfl; have o2 := H15.out.lo.cell 2 _ rfl; have sz15 : b + 1 < w15.heap.size := H15.out.lo.lt; have sy15 : b < w15.heap.size := H15.out.lx.lt
    go_wp2_with fail; refine (reachOf_any _ p x o _ (by exact H15.out.P.below (by (repeat (first | exact Below.refl _ _ | assumption | refine below_draws ?_ _ | refine Below.drew ?_ | refine below_alloc ?_ _ (by first | omega | (simp; done) | (simp; omega)) | refine Below.setCell ?_ (by first | omega | (simp; done) | (simp; omega)) _ | refine below_at ?_ (by assumption) (by first | omega | (simp; done) | (simp; omega)))))) HK.out.2.1).mono ?_; rintro e w16 ⟨rfl, hb16⟩; have S16 : LSt w b w16 v1 u4 p c x o := H15.out.step (by (repeat (first | exact Below.refl _ _ | assumption | refine below_draws ?_ _ | refine Below.drew ?_ | refine below_alloc ?_ _ (by first | omega | (simp; done) | (simp; omega)) | refine Below.setCell ?_ (by first | omega | (simp; done) | (simp; omega)) _ | refine below_at ?_ (by assumption) (by first | omega | (simp; done) | (simp; omega))))); have H16 := Lib.hid S16; clear S16 hb16 H15 l0 l1 l2 l3 o0 o1 o2; have l0 := H16.out.lx.cell 0 _ rfl; have l1 := H16.out.lx.cell 1 _ rfl; have l2 := H16.out.lx.cell 2 _ rfl; have l3 := H16.out.lx.cell 3 _ rfl; have o0 := H16.out.lo.cell 0 _ rfl; have o1 := H16.out.lo.cell 1 _ rfl; have o2 := H16.out.lo.cell 2 _ rfl; have sz16 : b + 1 < w16.heap.size := H16.out.lo.lt; have sy16 : b < w16.heap.size := H16.out.lx.lt
    go_wp2_with fail
    refine (budgeted_any _).mono ?_
    rintro e w17 ⟨rfl, hb17⟩
    have hB := H16.out.bel
    have hz := hB.size
    have hB2 : Below w.heap.size w w17 := by (repeat (first | exact Below.refl _ _ | assumption | refine below_draws ?_ _ | refine Below.drew ?_ | refine below_alloc ?_ _ (by first | omega | (simp; done) | (simp; omega)) | refine Below.setCell ?_ (by first | omega | (simp; done) | (simp; omega)) _ | refine below_at ?_ (by assumption) (by first | omega | (simp; done) | (simp; omega))))
    clear hB hz hb17 l0 l1 l2 l3 o0 o1 o2
    go_wp2
    go_ret
    exact ⟨rfl, hB2⟩
  · have hf1 : (faultF p x o != 0) = true := by simp [hf]
    have h1 : recvV p x o = 0 := by unfold recvV; rw [if_neg hf]
    have h2 : marginV p x o = 0 := by unfold marginV; rw [if_neg hf]
    have h3 : attenV p x o = (0, false) := by unfold attenV; rw [if_pos (.inl hf)]
    have h4 : reachV p x o = (0, false) := by unfold reachV; rw [if_pos (.inl hf)]
    rw [h1, h2, h3, h4]
    clear h1 h2 h3 h4 hf
    go_wp2_with fail
    refine (budgeted_any _).mono ?_
    rintro e w17 ⟨rfl, hb17⟩
    have hB := H13.out.bel
    have hz := hB.size
    have hB2 : Below w.heap.size w w17 := by (repeat (first | exact Below.refl _ _ | assumption | refine below_draws ?_ _ | refine Below.drew ?_ | refine below_alloc ?_ _ (by first | omega | (simp; done) | (simp; omega)) | refine Below.setCell ?_ (by first | omega | (simp; done) | (simp; omega)) _ | refine below_at ?_ (by assumption) (by first | omega | (simp; done) | (simp; omega))))
    clear hB hz hb17 l0 l1 l2 l3 o0 o1 o2
    go_wp2
    go_ret
    exact ⟨rfl, hB2⟩
end Go.Proofs.Ytagpcgnlbgndmaa
