/- Walks of the stream: what draws odd numbers and parts. -/
import Derived.Test.YteliiknlpfjlkaaGreatDoorStream
import Derived.Test.YteliiknlpfjlkaaGreatDoorPlainB
import Derived.Deep.RegionWith
set_option linter.unusedVariables false
set_option linter.unusedSimpArgs false
namespace Go.Proofs.YteliiknlpfjlkaaGreatDoor
open Go Go.RowKit

theorem arr_ints_lit {w : World} {l : List Int} {cs : Array Value} {t : TypeId} {n b : Nat} (hb : b = w.heap.size) (hn : n = l.length) (hcs : cs.toList = l.map (Value.int .i64)) (hl : l.length ≤ 1000000) : Arr intCells 1 (w.alloc (.cells cs t)) l (.slice (some ⟨b, 0, none⟩) n n) :=
  Arr.litAt (cells := intCells) (sz := 1) (fun _ => rfl) hb (by rw [hcs]; show _ = l.flatMap fun n => [Value.int .i64 n]; rw [flat_one]) hn (by rw [hn]; unfold maxLen; omega)

theorem Arr.grown {α : Type} {cells : α → List Value} {sz : Nat} {w w' : World} {l : List α} {b off n cap s : Nat} (h : Arr cells sz w l (.slice (some ⟨b, off, none⟩) n cap)) (hg : w.grownBy w' (some s)) (hne : b ≠ s) : Arr cells sz w' l (.slice (some ⟨b, off, none⟩) n cap) := by
  obtain ⟨a, cap', he, h2, h3, h4⟩ := h
  refine ⟨a, cap', he, h2, h3, fun k hk => ?_⟩
  obtain ⟨b', off', ha, hb, hc⟩ := h4 k hk
  simp only [Value.slice.injEq] at he
  obtain ⟨he, _, _⟩ := he
  rw [ha] at he
  simp only [Option.some.injEq, Addr.mk.injEq, and_true] at he
  obtain ⟨rfl, rfl⟩ := he
  exact ⟨_, _, ha, Nat.lt_of_lt_of_le hb hg.size, fun j u hu => hg.cell (hc j u hu) (by simp; exact hne)⟩
theorem grown_self (a : World) (row : Option Nat) : a.grownBy a row := ⟨rfl, rfl, rfl, Nat.le_refl _, fun _ _ _ => rfl⟩
theorem grown_setOwn {a b : World} {row : Option Nat} (h : a.grownBy b row) {g : Nat} (hg : a.heap.size ≤ g) (o : Nat) (v : Value) : a.grownBy (b.setCell ⟨g, o, none⟩ v) row := by
  have h2 := grown_setCell b g o v
  refine ⟨h2.os.trans h.os, h2.tape.trans h.tape, h2.output.trans h.output, Nat.le_trans h.size h2.size, fun k hk hr => (h2.block k (Nat.lt_of_lt_of_le hk h.size) ?_).trans (h.block k hk hr)⟩
  simp only [ne_eq, Option.some.injEq]; omega
/-- a pick out of a list that is written out -/
theorem pick_lit (s m : Nat) (l : List Int) (w : World) (h : Strm w s m) (hm : m ≤ 1000000000) (h1 : 1 ≤ l.length) (h2 : l.length ≤ 1000000) {b n : Nat} {cs : Array Value} {t : TypeId} (hb : b = w.heap.size) (hn : n = l.length) (hcs : cs.toList = l.map (Value.int .i64)) :
    Calls Tryz.prog 44 #[.pointer (some ⟨s, 0, none⟩), .slice (some ⟨b, 0, none⟩) n n] (w.alloc (.cells cs t)) (Draw (OneOf l) s m 1 w) := by
  have hl := h.lt
  refine (pick_any s m _ l _ (h.alloc _) hm (arr_ints_lit hb hn hcs h2) h1 h2 ?_).mono ?_
  · intro n' cap off e
    simp only [Value.slice.injEq, Option.some.injEq, Addr.mk.injEq] at e
    omega
  · rintro e w1 ⟨v, rfl, hv, hs, hg⟩
    exact ⟨v, rfl, hv, hs, grown_trans (World.grownBy_alloc w _ _) hg⟩

/-- the numbers that Odd gives -/
def OddIs (lo hi : Int) (v : Value) (_ : World) : Prop := ∃ r : Int, v = .int .i64 r ∧ ((lo - 1 ≤ r ∧ r ≤ hi + 1) ∨ r = -1099511627776 ∨ r = 1099511627776)

set_option maxHeartbeats 1000000 in
theorem odd_any (s m : Nat) (lo hi : Int) (w : World) (h : Strm w s m) (hm : m ≤ 100000000) (h1 : lo ≤ hi) (h2 : -1000000000000000 ≤ lo) (h3 : hi ≤ 1000000000000000) : Calls Tryz.prog 46 #[.pointer (some ⟨s, 0, none⟩), .int .i64 lo, .int .i64 hi] w
    (Draw (OddIs lo hi) s m 2 w) := by
  go_enter Tryz.func46, Tryz.ntmps46
  go_wp2_with fail
  refine (flip_any s m _ _ h (by omega) (by omega) (by omega)).mono ?_
  rintro e w1 ⟨v, rfl, ⟨b, rfl⟩, hs1, hg1⟩
  cases b
  · go_wp2_with fail
    refine (range_any s (m + 1) _ _ _ hs1 (by omega) h1 h2 h3).mono ?_
    rintro e w2 ⟨v, rfl, ⟨r, rfl, r1, r2⟩, hs2, hg2⟩
    go_wp2
    go_ret
    exact ⟨_, rfl, ⟨r, rfl, .inl (by omega)⟩, hs2, grown_trans hg1 hg2⟩
  · go_wp2_with fail
    refine (pick_lit s (m + 1) [lo - 1, hi + 1, lo, hi, -1099511627776, 1099511627776] _ hs1 (by omega) (by simp) (by simp) (by first | rfl | simp) (by rfl) (by rfl)).mono ?_
    rintro e w2 ⟨v, rfl, ⟨r, rfl, hr⟩, hs2, hg2⟩
    go_wp2
    go_ret
    simp only [List.mem_cons, List.not_mem_nil, or_false] at hr
    exact ⟨_, rfl, ⟨r, rfl, by omega⟩, hs2, grown_trans hg1 hg2⟩

def PartB (p : Part) : Prop := -2000000000000 ≤ p.kind ∧ p.kind ≤ 2000000000000 ∧ -2000000000000 ≤ p.amt ∧ p.amt ≤ 2000000000000
def PartIs (v : Value) (_ : World) : Prop := ∃ p : Part, v = .agg #[.int .i64 p.kind, .int .i64 p.amt] ∧ PartB p

theorem part_at' {w : World} {b off k : Nat} {p : Part} (h : ∀ j u, p.cells[j]? = some u → w.cell? ⟨b, off + k * 2 + j, none⟩ = some u) :
    w.cell? ⟨b, off + k * 2, none⟩ = some (.int .i64 p.kind) ∧ w.cell? ⟨b, off + k * 2 + 1, none⟩ = some (.int .i64 p.amt) :=
  ⟨h 0 _ rfl, h 1 _ rfl⟩

set_option maxHeartbeats 1000000 in
set_option maxRecDepth 100000 in
set_option maxHeartbeats 1000000 in
theorem apart_any (s m : Nat) (w : World) (h : Strm w s m) (hm : m ≤ 1000000) : Calls Tryz.prog 43 #[.pointer (some ⟨s, 0, none⟩)] w
    (Draw PartIs s m 9 w) := by
  have hl := h.lt
  go_enter Tryz.func43, Tryz.ntmps43
  go_wp2_with fail
  refine (pick_lit s (m) [1, 28, 29, 1000, 2500, 20001] _ (h.alloc _) (by omega) (by simp) (by simp) (by first | rfl | simp) (by rfl) (by rfl)).mono ?_
  rintro e w1 ⟨v, rfl, ⟨r1, rfl, hr1⟩, hs1, hg1⟩
  go_wp2_with fail
  refine (pick_lit s (m + 1) [0, 5, 10, 25] _ (hs1) (by omega) (by simp) (by simp) (by first | rfl | simp) (by rfl) (by rfl)).mono ?_
  rintro e w2 ⟨v, rfl, ⟨r2, rfl, hr2⟩, hs2, hg2⟩
  go_wp2_with fail
  refine (pick_lit s (m + 1 + 1) [1, 2, 4] _ (hs2) (by omega) (by simp) (by simp) (by first | rfl | simp) (by rfl) (by rfl)).mono ?_
  rintro e w3 ⟨v, rfl, ⟨r3, rfl, hr3⟩, hs3, hg3⟩
  go_wp2_with fail
  refine (pick_lit s (m + 1 + 1 + 1) [2, 4, 8, 32, 128] _ (hs3) (by omega) (by simp) (by simp) (by first | rfl | simp) (by rfl) (by rfl)).mono ?_
  rintro e w4 ⟨v, rfl, ⟨r4, rfl, hr4⟩, hs4, hg4⟩
  go_wp2_with fail
  refine (next_any s (m + 1 + 1 + 1 + 1) _ _ (hs4.alloc _) (by omega) (by omega) (by omega)).mono ?_
  rintro e w5 ⟨v, rfl, ⟨r5, rfl, q1, q2⟩, hs5, hg5⟩
  have l1 := hg1.size
  have l2 := hg2.size
  have l3 := hg3.size
  have l4 := hg4.size
  have l5 := hg5.size
  simp only [World.size_alloc] at l1 l5
  have hz : Blk w5 w.heap.size #[.int .i64 0, .int .i64 0] 54 := ((((((Blk.new w _ _).grown hg1 (by simp; omega)).grown hg2 (by simp; omega)).grown hg3 (by simp; omega)).grown hg4 (by simp; omega)).alloc _).grown hg5 (by simp; omega)
  obtain ⟨k, rfl⟩ := Int.eq_ofNat_of_zero_le q1
  have hA : Arr Part.cells 2 (w4.alloc (.cells #[.int .i64 1, .int .i64 r1, .int .i64 2, .int .i64 r2, .int .i64 3, .int .i64 r3, .int .i64 4, .int .i64 r4] 54)) [⟨1, r1⟩, ⟨2, r2⟩, ⟨3, r3⟩, ⟨4, r4⟩] (.slice (some ⟨w4.heap.size, 0, none⟩) 4 4) := Arr.litAt Part.cells_len rfl (by rfl) (by rfl) (by simp [maxLen])
  obtain ⟨a, cap, he, -, -, hc⟩ := hA
  have hk4 : k < ([⟨1, r1⟩, ⟨2, r2⟩, ⟨3, r3⟩, ⟨4, r4⟩] : List Part).length := by simp only [List.length_cons, List.length_nil]; omega
  obtain ⟨b, off, ha, _, hcc⟩ := hc k hk4
  simp only [List.length_cons, List.length_nil, Value.slice.injEq] at he
  obtain ⟨he, -, -⟩ := he
  rw [ha] at he
  simp only [Option.some.injEq, Addr.mk.injEq, and_true] at he
  obtain ⟨rfl, rfl⟩ := he
  obtain ⟨c0, c1⟩ := part_at' hcc
  replace c0 := hg5.cell c0 (by simp; omega)
  replace c1 := hg5.cell c1 (by simp; omega)
  simp only [Nat.zero_add] at c0 c1
  have hpb : PartB (([⟨1, r1⟩, ⟨2, r2⟩, ⟨3, r3⟩, ⟨4, r4⟩] : List Part)[k]'hk4) := by
    simp only [List.mem_cons, List.not_mem_nil, or_false] at hr1 hr2 hr3 hr4
    have hk5 : k = 0 ∨ k = 1 ∨ k = 2 ∨ k = 3 := by omega
    clear hcc c0 c1
    rcases hk5 with rfl | rfl | rfl | rfl <;> simp [PartB] <;> omega
  have hg05 : w.grownBy w5 (some s) := grown_trans (World.grownBy_alloc w _ _) (grown_trans hg1 (grown_trans hg2 (grown_trans hg3 (grown_trans hg4 (grown_trans (World.grownBy_alloc w4 _ _) hg5)))))
  generalize (([⟨1, r1⟩, ⟨2, r2⟩, ⟨3, r3⟩, ⟨4, r4⟩] : List Part)[k]'hk4) = p at *
  have hk0 : (0 : Int) ≤ (k : Int) := by omega
  have HZ := Lib.hid (And.intro hz (And.intro hpb hg05))
  clear hc hcc ha hz hpb hg05 hr1 hr2 hr3 hr4 hg1 hg2 hg3 hg4 hg5 hs1 hs2 hs3 hs4
  go_wp2_with fail
  refine (flip_any s (m + 1 + 1 + 1 + 1 + 1) _ _ (hs5.alloc _) (by omega) (by omega) (by omega)).mono ?_
  rintro e w6 ⟨v, rfl, ⟨fb, rfl⟩, hs6, hg6⟩
  have l6 := hg6.size
  simp only [World.size_alloc] at l6
  have hz6 : Blk w6 w.heap.size #[.int .i64 0, .int .i64 0] 54 := (HZ.out.1.alloc _).grown hg6 (by simp; omega)
  have hx6 : Blk w6 w5.heap.size #[.int .i64 p.kind, .int .i64 p.amt] 54 := (Blk.new w5 _ _).grown hg6 (by simp; omega)
  have z0 := hz6.cell 0 _ rfl
  have z1 := hz6.cell 1 _ rfl
  have zf := fun o => hz6.free o
  have x0 := hx6.cell 0 _ rfl
  have x1 := hx6.cell 1 _ rfl
  have xf := fun o => hx6.free o
  have hne : w.heap.size < w5.heap.size := by omega
  cases fb
  · go_wp2
    refine bodyPost_ret (v := .agg #[.int .i64 p.kind, .int .i64 p.amt]) ?_ rfl ⟨_, rfl, ⟨p, rfl, HZ.out.2.1⟩, ?_, ?_⟩
    · simp [results, go_sem, z0, z1]
    · exact (hs6.mono (by omega)).setOther (by omega) _ _ |>.setOther (by omega) _ _
    · exact grown_setOwn (grown_setOwn (grown_trans HZ.out.2.2 (grown_trans (World.grownBy_alloc w5 _ _) hg6)) (Nat.le_refl _) _ _) (Nat.le_refl _) _ _
  · go_wp2
    go_region_with (first
      | (go_at_call 46; refine (odd_any s (m + 1 + 1 + 1 + 1 + 1 + 1) 1 4 _ ?_ (by omega) (by omega) (by omega) (by omega)).mono ?_; (first | exact hs6.drew | exact (hs6.alloc _).drew); rintro e w7 ⟨v, rfl, ⟨r7, rfl, hr7⟩, hs7, hg7⟩; have l7 : w6.heap.size ≤ w7.heap.size := (by have := hg7.size; simp at this; omega); have hx7 : Blk w7 w5.heap.size #[.int .i64 p.kind, .int .i64 p.amt] 54 := (by first | exact (hx6.drew).grown hg7 (by simp; omega) | exact ((hx6.alloc _).drew).grown hg7 (by simp; omega)); have hz7 : Blk w7 w.heap.size #[.int .i64 0, .int .i64 0] 54 := (by first | exact (hz6.drew).grown hg7 (by simp; omega) | exact ((hz6.alloc _).drew).grown hg7 (by simp; omega)); have x70 := hx7.cell 0 _ rfl; have x71 := hx7.cell 1 _ rfl; have x7f := fun o => hx7.free o)
      | (go_at_call 44; refine (pick_any s (m + 1 + 1 + 1 + 1 + 1 + 1 + 2) _ [0, -1, 3, 129, 200001, p.amt] _ ?_ (by omega) ?_ (by simp) (by simp) ?_).mono ?_; (first | exact hs7 | exact hs7.alloc _); (first | exact arr_ints_lit (by rfl) (by rfl) (by rfl) (by simp) | exact Arr.grown (arr_ints_lit (w := w6) (by rfl) (by rfl) (by rfl) (by simp)).drew hg7 (by omega)); (intro n' cap' off' ee; simp only [Value.slice.injEq, Option.some.injEq, Addr.mk.injEq] at ee; omega); rintro e w8 ⟨v, rfl, ⟨r8, rfl, hr8⟩, hs8, hg8⟩; have l8 : w7.heap.size ≤ w8.heap.size := (by have := hg8.size; (try simp at this); omega); have hx8 : Blk w8 w5.heap.size #[.int .i64 p.kind, .int .i64 p.amt] 54 := (by first | exact hx7.grown hg8 (by simp; omega) | exact (hx7.alloc _).grown hg8 (by simp; omega)); have hz8 : Blk w8 w.heap.size #[.int .i64 0, .int .i64 0] 54 := (by first | exact hz7.grown hg8 (by simp; omega) | exact (hz7.alloc _).grown hg8 (by simp; omega)); have x80 := hx8.cell 0 _ rfl; have x81 := hx8.cell 1 _ rfl; have x8f := fun o => hx8.free o; have z80 := hz8.cell 0 _ rfl; have z81 := hz8.cell 1 _ rfl; have z8f := fun o => hz8.free o))
    all_goals go_wp2
    all_goals refine bodyPost_ret (v := .agg #[.int .i64 r7, .int .i64 r8]) ?_ rfl ⟨_, rfl, ⟨⟨r7, r8⟩, rfl, ?_⟩, ?_, ?_⟩
    all_goals (first
      | (simp [results, go_sem, z80, z81]; done)
      | (exact (((hs8.setOther (by omega) _ _).setOther (by omega) _ _).setOther (by omega) _ _).setOther (by omega) _ _)
      | (refine grown_setOwn (grown_setOwn (grown_setOwn (grown_setOwn (grown_trans HZ.out.2.2 (grown_trans (World.grownBy_alloc w5 _ _) (grown_trans hg6 ?_))) ?_ _ _) ?_ _ _) ?_ _ _) ?_ _ _ <;> first | omega | exact grown_trans (grown_trans (grown_drew (grown_self w6 _)) hg7) hg8 | exact grown_trans (grown_trans (grown_drew (grown_self w6 _)) hg7) (grown_trans (World.grownBy_alloc w7 _ _) hg8) | exact grown_trans (grown_trans (grown_drew (World.grownBy_alloc w6 _ _)) hg7) hg8 | skip)
      | (have HP := HZ.out.2.1; simp only [List.mem_cons, List.not_mem_nil, or_false] at hr8; simp only [PartB] at HP ⊢; omega)
      | skip)
end Go.Proofs.YteliiknlpfjlkaaGreatDoor
