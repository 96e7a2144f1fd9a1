/- Texts of one subject in one: Stream, Stream2, StreamL, Stream3, RowPut, Equal; what each shows stands at its head. No condition. -/
import Derived.Test.YtcecpodbmjghhaaGreatMemAll
import Derived.Test.YtcecpodbmjghhaaGreatProg
import Derived.Test.YtcecpodbmjghhaaGreatPlainB
import Derived.Deep.RegionWith
import Derived.Test.YtcecpodbmjghhaaGreatShelfB
/- Walks of the stream of numbers that the statements draw their values from: each call hands out a number within its range and moves the stream's count on by one; nothing else turns. -/
set_option linter.unusedVariables false
set_option linter.unusedSimpArgs false
namespace Go.Proofs.YtcecpodbmjghhaaGreat
open Go Go.RowKit
/-- block s is a stream over numbers that lie in another block; it has handed out at most m of them -/
def Strm (w : World) (s m : Nat) : Prop :=
  ∃ (a : Option Addr) (n cap c : Nat), Blk w s #[.slice a n cap, .int .i64 c] 25 ∧ c ≤ m ∧ n ≤ maxLen ∧
    ∀ i, i < n → ∃ b off z, a = some ⟨b, off, none⟩ ∧ b < s ∧ w.cell? ⟨b, off + i, none⟩ = some (.int .i64 z) ∧ -9223372036854775808 ≤ z ∧ z ≤ 9223372036854775807
theorem Strm.lt {w : World} {s m : Nat} (h : Strm w s m) : s < w.heap.size := by obtain ⟨_, _, _, _, h, _⟩ := h; exact h.lt
theorem Strm.below {B : Nat} {w w' : World} {s m : Nat} (h : Strm w s m) (hB : Below B w w') (hb : w.heap.size ≤ B) : Strm w' s m := by
  obtain ⟨a, n, cap, c, h1, h2, h3, h4⟩ := h
  have hl := h1.lt
  refine ⟨a, n, cap, c, h1.below hB (by omega), h2, h3, fun i hi => ?_⟩
  obtain ⟨b, off, z, e, hne, hc, hz⟩ := h4 i hi
  exact ⟨b, off, z, e, hne, (hB.cell (p := ⟨b, _, none⟩) (show b < B by omega)).trans hc, hz⟩
theorem Strm.mono {w : World} {s m m' : Nat} (h : Strm w s m) (hm : m ≤ m') : Strm w s m' := by
  obtain ⟨a, n, cap, c, h1, h2, h3, h4⟩ := h
  exact ⟨a, n, cap, c, h1, by omega, h3, h4⟩
theorem Strm.setOther {w : World} {s m : Nat} (h : Strm w s m) {b : Nat} (hb : s < b) (j : Nat) (v : Value) : Strm (w.setCell ⟨b, j, none⟩ v) s m := by
  obtain ⟨a, n, cap, c, h1, h2, h3, h4⟩ := h
  refine ⟨a, n, cap, c, h1.setOther (by omega) _ _, h2, h3, fun i hi => ?_⟩
  obtain ⟨b', off, z, e, hne, hc, hz⟩ := h4 i hi
  exact ⟨b', off, z, e, hne, by rw [World.cell?_of_block (w := w) (a := ⟨b', _, none⟩) (Below.heap_setCell _ _ _ _ (by simp; omega))]; exact hc, hz⟩
/-- a call that hands out from the stream: what it returns fits P; the stream has moved on by at most d; nothing else turns -/
def Draw (P : Value → World → Prop) (s m d : Nat) (w : World) (e : Ending) (w' : World) : Prop := ∃ v, e = .returned v ∧ P v w' ∧ Strm w' s (m + d) ∧ w.grownBy w' (some s)
def belowF (x n : Int) : Int := if n < 1 then 0 else x % n
theorem belowF_range (x n : Int) (h : 1 ≤ n) : 0 ≤ belowF x n ∧ belowF x n < n := by
  unfold belowF; rw [if_neg (by omega)]
  exact ⟨Int.emod_nonneg _ (by omega), Int.emod_lt_of_pos _ (by omega)⟩
set_option maxHeartbeats 1000000 in
theorem sbelow_any (x n : Int) (w : World) (hx : -9223372036854775808 ≤ x ∧ x ≤ 9223372036854775807) (hn : n ≤ 4611686018427387904) : Calls Tryz.prog 88 #[.int .i64 x, .int .i64 n] w
    fun e w' => e = .returned (.int .i64 (belowF x n)) ∧ w = w' := by
  obtain ⟨x1, x2⟩ := hx
  by_cases h : n < 1
  · go_enter Tryz.func88, Tryz.ntmps88
    go_wp2
    go_ret
    exact ⟨ret_int (by unfold belowF; rw [if_pos h]), rfl⟩
  · have hB : belowF x n = x % n := by unfold belowF; rw [if_neg h]
    have hn1 : 1 ≤ n := by omega
    have HB := Lib.hid hB
    have ht := Int.tmod_lt_of_pos x (show 0 < n by omega)
    have ht2 : -n < x.tmod n := Int.lt_tmod_of_pos x (by omega)
    have he := Int.tmod_eq_emod_of_nonneg (a := x) (b := n)
    by_cases h0 : x.tmod n < 0
    · have hr : x.tmod n + n = x % n := by
        have h1 := Int.tmod_add_mul_tdiv x n
        have h2 := Int.emod_nonneg x (show n ≠ 0 by omega)
        have h3 := Int.emod_lt_of_pos x (show 0 < n by omega)
        have h4 : (x.tmod n + n) % n = x % n := by
          rw [Int.add_emod_right]
          conv => rhs; rw [← h1]
          rw [Int.add_mul_emod_self_left]
        rw [← h4, Int.emod_eq_of_lt (by omega) (by omega)]
      have HR := Lib.hid hr
      have hneg : x < 0 := by
        rcases (show x < 0 ∨ 0 ≤ x from by omega) with h | h
        · exact h
        · have := he h; have := Int.emod_nonneg x (show n ≠ 0 by omega); omega
      have hneg' : ¬ 0 ≤ x := by omega
      clear he hB hr h hneg
      go_enter Tryz.func88, Tryz.ntmps88
      go_wp2
      go_ret
      exact ⟨ret_int (by rw [HB.out, HR.out]), rfl⟩
    · have hr : x.tmod n = x % n := by
        have h1 := Int.tmod_add_mul_tdiv x n
        have h4 : (x.tmod n) % n = x % n := by
          conv => rhs; rw [← h1]
          rw [Int.add_mul_emod_self_left]
        rw [← h4, Int.emod_eq_of_lt (by omega) (by omega)]
      have HR := Lib.hid hr
      clear he hB h
      by_cases hx0 : 0 ≤ x
      · have h0' : ¬ x % n < 0 := by omega
        clear hr h0 ht ht2
        go_enter Tryz.func88, Tryz.ntmps88
        go_wp2
        go_ret
        exact ⟨ret_int (by rw [HB.out]), rfl⟩
      · clear hr
        go_enter Tryz.func88, Tryz.ntmps88
        go_wp2
        go_ret
        exact ⟨ret_int (by rw [HB.out, HR.out]), rfl⟩
theorem wrap64_bd (n : Int) : -9223372036854775808 ≤ wrap64 n ∧ wrap64 n ≤ 9223372036854775807 := by unfold wrap64; omega
theorem blk_setOne {w : World} {b : Nat} {v0 v1 v : Value} {t : TypeId} (h : Blk w b #[v0, v1] t) : Blk (w.setCell ⟨b, 1, none⟩ v) b #[v0, v] t := h.set 1 v
theorem grown_setCell (w : World) (g o : Nat) (v : Value) : w.grownBy (w.setCell ⟨g, o, none⟩ v) (some g) := grown_setCells g [v] o w
theorem grown_drewN {a b : World} {row : Option Nat} (h : a.grownBy b row) (n : Nat) : a.grownBy (b.drewN n) row := ⟨h.os, h.tape, h.output, h.size, h.block⟩
theorem grown_drew {a b : World} {row : Option Nat} (h : a.grownBy b row) : a.grownBy b.drew row := ⟨h.os, h.tape, h.output, h.size, h.block⟩
theorem grown_alloc {a b : World} {row : Option Nat} (h : a.grownBy b row) (o : Obj) : a.grownBy (b.alloc o) row := grown_trans h (World.grownBy_alloc b o row)
theorem Strm.drewN {w : World} {s m : Nat} (h : Strm w s m) (n : Nat) : Strm (w.drewN n) s m := h
theorem Strm.drew {w : World} {s m : Nat} (h : Strm w s m) : Strm w.drew s m := h
theorem Strm.alloc {w : World} {s m : Nat} (h : Strm w s m) (o : Obj) : Strm (w.alloc o) s m := h.below (below_alloc (Below.refl w.heap.size w) o (Nat.le_refl _)) (Nat.le_refl _)
def InRange (n : Int) (v : Value) (_ : World) : Prop := ∃ r : Int, v = .int .i64 r ∧ 0 ≤ r ∧ r < n
set_option maxHeartbeats 1000000 in
set_option maxRecDepth 100000 in
theorem next_any (s m : Nat) (n : Int) (w : World) (h : Strm w s m) (hm : m ≤ 1000000000) (hn : 1 ≤ n) (hn2 : n ≤ 4611686018427387904) : Calls Tryz.prog 33 #[.pointer (some ⟨s, 0, none⟩), .int .i64 n] w
    (Draw (InRange n) s m 1 w) := by
  obtain ⟨a, len, cap, c, hb, hc, hlen, hcell⟩ := h
  have hl := hb.lt
  have c0 := hb.cell 0 _ rfl
  have c1 := hb.cell 1 _ rfl
  have f1 := hb.free 1
  unfold maxLen at hlen
  have HS : Hid (∀ (w' : World) (c' : Nat), c' ≤ m + 1 → Blk w' s #[.slice a len cap, .int .i64 c'] 25 → w.grownBy w' (some s) → Strm w' s (m + 1)) := fun w' c' h1 h2 h3 =>
    ⟨a, len, cap, c', h2, h1, by unfold maxLen; omega, fun i hi => by
      obtain ⟨b, off, z, e, hne, hcc, hz⟩ := hcell i hi
      exact ⟨b, off, z, e, hne, h3.cell hcc (by simp; omega), hz⟩⟩
  have HB := Lib.hid (blk_setOne (v := .int .i64 (c + 1 : Nat)) hb)
  clear hb
  by_cases h0 : len = 0
  · subst h0
    clear hcell
    have hr := belowF_range (((c : Int) + 1) * 7919) n hn
    have HR := Lib.hid hr
    clear hr
    go_enter Tryz.func33, Tryz.ntmps33
    go_wp2_with (go_at_call 88; refine (sbelow_any _ _ _ (by omega) hn2).mono ?_; rintro e w' ⟨rfl, rfl⟩)
    go_ret
    exact ⟨_, rfl, ⟨_, rfl, HR.out⟩, HS.out _ (c + 1) (by omega) HB.out (grown_setCell _ _ _ _), grown_setCell _ _ _ _⟩
  · have hlt : c % len < len := Nat.mod_lt _ (by omega)
    obtain ⟨b, off, z, rfl, hbs, hcc, hz1, hz2⟩ := hcell (c % len) hlt
    have hne : b ≠ s := by omega
    have hlen0 : ((len : Int) == 0) = false := by simp; omega
    have hlen1 : 1 ≤ (len : Int) := by omega
    have hi0 : 0 ≤ (c : Int) % len := Int.emod_nonneg _ (by omega)
    have hi1 : (c : Int) % len < len := Int.emod_lt_of_pos _ (by omega)
    have hr0 : 0 ≤ (c : Int) / len := Int.ediv_nonneg (by omega) (by omega)
    have hr1 : (c : Int) / len ≤ 1000000000 := by have h1 : c / len ≤ c := Nat.div_le_self _ _
                                                  have h2 : ((c / len : Nat) : Int) = (c : Int) / len := by push_cast; rfl
                                                  omega
    have hb1 := belowF_range z 1073741824 (by omega)
    obtain ⟨q1, q2⟩ := hb1
    clear hcell h0
    go_enter Tryz.func33, Tryz.ntmps33
    go_wp2
    go_quiet (fail)
    go_wp2
    go_quiet (fail)
    go_wp2_with (go_at_call 88; refine (sbelow_any _ _ _ (by first | omega | exact wrap64_bd _) (by omega)).mono ?_; rintro e w' ⟨rfl, rfl⟩)
    go_ret
    exact ⟨_, rfl, ⟨_, rfl, belowF_range _ n hn⟩, (HS.out _ (c + 1) (by omega) HB.out (grown_setCell _ _ _ _)).drewN _, grown_drewN (grown_setCell _ _ _ _) _⟩
/-- the numbers from lo to hi -/
def Within (lo hi : Int) (v : Value) (_ : World) : Prop := ∃ r : Int, v = .int .i64 r ∧ lo ≤ r ∧ r ≤ hi
def SomeBool (v : Value) (_ : World) : Prop := ∃ b : Bool, v = .bool b
set_option maxHeartbeats 1000000 in
theorem range_any (s m : Nat) (lo hi : Int) (w : World) (h : Strm w s m) (hm : m ≤ 1000000000) (h1 : lo ≤ hi) (h2 : -1000000000000000 ≤ lo) (h3 : hi ≤ 1000000000000000) : Calls Tryz.prog 32 #[.pointer (some ⟨s, 0, none⟩), .int .i64 lo, .int .i64 hi] w
    (Draw (Within lo hi) s m 1 w) := by
  go_enter Tryz.func32, Tryz.ntmps32
  go_wp2_with (go_at_call 33; refine (next_any s m _ _ h hm (by omega) (by omega)).mono ?_; rintro e w1 ⟨v, rfl, ⟨r, rfl, r0, r1⟩, hs, hg⟩)
  go_ret
  exact ⟨_, rfl, ⟨_, rfl, by omega, by omega⟩, hs, hg⟩
set_option maxHeartbeats 1000000 in
theorem flip_any (s m : Nat) (n : Int) (w : World) (h : Strm w s m) (hm : m ≤ 1000000000) (h1 : 1 ≤ n) (h2 : n ≤ 1000000) : Calls Tryz.prog 23 #[.pointer (some ⟨s, 0, none⟩), .int .i64 n] w
    (Draw SomeBool s m 1 w) := by
  go_enter Tryz.func23, Tryz.ntmps23
  go_wp2_with (go_at_call 33; refine (next_any s m _ _ h hm (by omega) (by omega)).mono ?_; rintro e w1 ⟨v, rfl, ⟨r, rfl, r0, r1⟩, hs, hg⟩)
  go_ret
  exact ⟨_, rfl, ⟨_, rfl⟩, hs, hg⟩
def OneOf (l : List Int) (v : Value) (_ : World) : Prop := ∃ r : Int, v = .int .i64 r ∧ r ∈ l
def OneOfS (l : List ByteArray) (v : Value) (_ : World) : Prop := ∃ r : ByteArray, v = .string r ∧ r ∈ l
set_option maxHeartbeats 1000000 in
theorem pick_any (s m : Nat) (v : Value) (l : List Int) (w : World) (h : Strm w s m) (hm : m ≤ 1000000000) (hv : Arr intCells 1 w l v) (h1 : 1 ≤ l.length) (h2 : l.length ≤ 1000000) (hne : ∀ n cap off, v ≠ .slice (some ⟨s, off, none⟩) n cap) : Calls Tryz.prog 7 #[.pointer (some ⟨s, 0, none⟩), v] w
    (Draw (OneOf l) s m 1 w) := by
  obtain ⟨a, cap, rfl, hcap, hmax, hc⟩ := hv
  go_enter Tryz.func7, Tryz.ntmps7
  go_wp2_with fail
  refine (next_any s m _ _ h hm (by omega) (by omega)).mono ?_
  rintro e w1 ⟨v, rfl, ⟨r, rfl, r0, r1⟩, hs, hg⟩
  obtain ⟨k, rfl⟩ := Int.eq_ofNat_of_zero_le r0
  obtain ⟨b, off, rfl, hb, hcc⟩ := hc k (by omega)
  have hbs : b ≠ s := fun e => hne _ _ off (by rw [e])
  have c0 := hcc 0 _ rfl
  simp only [Nat.mul_one, Nat.add_zero] at c0
  replace c0 := hg.cell c0 (by simp; exact hbs)
  clear hc hcc hne
  go_wp2
  go_ret
  exact ⟨_, rfl, ⟨_, rfl, List.getElem_mem _⟩, hs, hg⟩
set_option maxHeartbeats 1000000 in
theorem some_any (s m : Nat) (v : Value) (l : List ByteArray) (w : World) (h : Strm w s m) (hm : m ≤ 1000000000) (hv : Arr strCells 1 w l v) (h1 : 1 ≤ l.length) (h2 : l.length ≤ 1000000) (hne : ∀ n cap off, v ≠ .slice (some ⟨s, off, none⟩) n cap) : Calls Tryz.prog 35 #[.pointer (some ⟨s, 0, none⟩), v] w
    (Draw (OneOfS l) s m 1 w) := by
  obtain ⟨a, cap, rfl, hcap, hmax, hc⟩ := hv
  go_enter Tryz.func35, Tryz.ntmps35
  go_wp2_with fail
  refine (next_any s m _ _ h hm (by omega) (by omega)).mono ?_
  rintro e w1 ⟨v, rfl, ⟨r, rfl, r0, r1⟩, hs, hg⟩
  obtain ⟨k, rfl⟩ := Int.eq_ofNat_of_zero_le r0
  obtain ⟨b, off, rfl, hb, hcc⟩ := hc k (by omega)
  have hbs : b ≠ s := fun e => hne _ _ off (by rw [e])
  have c0 := hcc 0 _ rfl
  simp only [Nat.mul_one, Nat.add_zero] at c0
  replace c0 := hg.cell c0 (by simp; exact hbs)
  clear hc hcc hne
  go_wp2
  go_ret
  exact ⟨_, rfl, ⟨_, rfl, List.getElem_mem _⟩, hs, hg⟩
end Go.Proofs.YtcecpodbmjghhaaGreat
/- Walks of the stream: what draws odd numbers and parts. -/
namespace Go.Proofs.YtcecpodbmjghhaaGreat
open Go Go.RowKit
theorem arr_ints_lit {w : World} {l : List Int} {cs : Array Value} {t : TypeId} {n b : Nat} (hb : b = w.heap.size) (hn : n = l.length) (hcs : cs.toList = l.map (Value.int .i64)) (hl : l.length ≤ 1000000) : Arr intCells 1 (w.alloc (.cells cs t)) l (.slice (some ⟨b, 0, none⟩) n n) :=
  Arr.litAt (cells := intCells) (sz := 1) (fun _ => rfl) hb (by rw [hcs]; show _ = l.flatMap fun n => [Value.int .i64 n]; rw [flat_one]) hn (by rw [hn]; unfold maxLen; omega)
theorem Arr.grown {α : Type} {cells : α → List Value} {sz : Nat} {w w' : World} {l : List α} {b off n cap s : Nat} (h : Arr cells sz w l (.slice (some ⟨b, off, none⟩) n cap)) (hg : w.grownBy w' (some s)) (hne : b ≠ s) : Arr cells sz w' l (.slice (some ⟨b, off, none⟩) n cap) := by
  obtain ⟨a, cap', he, h2, h3, h4⟩ := h
  refine ⟨a, cap', he, h2, h3, fun k hk => ?_⟩
  obtain ⟨b', off', ha, hb, hc⟩ := h4 k hk
  simp only [Value.slice.injEq] at he
  obtain ⟨he, _, _⟩ := he
  rw [ha] at he
  simp only [Option.some.injEq, Addr.mk.injEq, and_true] at he
  obtain ⟨rfl, rfl⟩ := he
  exact ⟨_, _, ha, Nat.lt_of_lt_of_le hb hg.size, fun j u hu => hg.cell (hc j u hu) (by simp; exact hne)⟩
theorem grown_self (a : World) (row : Option Nat) : a.grownBy a row := ⟨rfl, rfl, rfl, Nat.le_refl _, fun _ _ _ => rfl⟩
theorem grown_setOwn {a b : World} {row : Option Nat} (h : a.grownBy b row) {g : Nat} (hg : a.heap.size ≤ g) (o : Nat) (v : Value) : a.grownBy (b.setCell ⟨g, o, none⟩ v) row := by
  have h2 := grown_setCell b g o v
  refine ⟨h2.os.trans h.os, h2.tape.trans h.tape, h2.output.trans h.output, Nat.le_trans h.size h2.size, fun k hk hr => (h2.block k (Nat.lt_of_lt_of_le hk h.size) ?_).trans (h.block k hk hr)⟩
  simp only [ne_eq, Option.some.injEq]; omega
/-- a pick out of a list that is written out -/
theorem pick_lit (s m : Nat) (l : List Int) (w : World) (h : Strm w s m) (hm : m ≤ 1000000000) (h1 : 1 ≤ l.length) (h2 : l.length ≤ 1000000) {b n : Nat} {cs : Array Value} {t : TypeId} (hb : b = w.heap.size) (hn : n = l.length) (hcs : cs.toList = l.map (Value.int .i64)) :
    Calls Tryz.prog 7 #[.pointer (some ⟨s, 0, none⟩), .slice (some ⟨b, 0, none⟩) n n] (w.alloc (.cells cs t)) (Draw (OneOf l) s m 1 w) := by
  have hl := h.lt
  refine (pick_any s m _ l _ (h.alloc _) hm (arr_ints_lit hb hn hcs h2) h1 h2 ?_).mono ?_
  · intro n' cap off e
    simp only [Value.slice.injEq, Option.some.injEq, Addr.mk.injEq] at e
    omega
  · rintro e w1 ⟨v, rfl, hv, hs, hg⟩
    exact ⟨v, rfl, hv, hs, grown_trans (World.grownBy_alloc w _ _) hg⟩
end Go.Proofs.YtcecpodbmjghhaaGreat
/- Slices that a call has laid anew, beside a stream. No condition. -/
namespace Go.Proofs.YtcecpodbmjghhaaGreat
open Go Go.RowKit
theorem Strm.grown {w w' : World} {s m : Nat} {row : Option Nat} (h : Strm w s m) (hg : w.grownBy w' row) (hr : ∀ k, row = some k → s < k) : Strm w' s m := by
  obtain ⟨a, n, cap, c, h1, h2, h3, h4⟩ := h
  have hl := h1.lt
  refine ⟨a, n, cap, c, h1.grown hg (by intro e; have := hr s e.symm; omega), h2, h3, fun i hi => ?_⟩
  obtain ⟨b, off, z, e, hne, hc, hz⟩ := h4 i hi
  exact ⟨b, off, z, e, hne, hg.cell hc (by intro e'; have := hr _ e'.symm; simp only at this; omega), hz⟩
theorem Arr.grownBy {α : Type} {cells : α → List Value} {sz : Nat} {w w' : World} {l : List α} {v : Value} {s : Nat} (h : Arr cells sz w l v) (hg : w.grownBy w' (some s)) (hne : ∀ b off n cap, v = .slice (some ⟨b, off, none⟩) n cap → s < b) : Arr cells sz w' l v := by
  obtain ⟨a, cap', rfl, h2, h3, h4⟩ := h
  refine ⟨a, cap', rfl, h2, h3, fun k hk => ?_⟩
  obtain ⟨b', off', ha, hb, hc⟩ := h4 k hk
  have := hne b' off' l.length cap' (by rw [ha])
  exact ⟨_, _, ha, Nat.lt_of_lt_of_le hb hg.size, fun j u hu => hg.cell (hc j u hu) (by simp; omega)⟩
theorem own_grown {w w' : World} {base : Nat} {e : TypeId} {size : Nat} {v : Value} {n s : Nat} {xs : List Value} (h : w.ownsRow base e size v n xs) (hg : w.grownBy w' (some s)) (hs : s < base) : w'.ownsRow base e size v n xs := by
  refine h.kept hg ?_
  cases hv : v.ownBlock with
  | none => exact .inl rfl
  | some k => right; have := (h.lt k hv).1; simp; omega
theorem grown_app {w w' w'' : World} {base : Nat} {e : TypeId} {size : Nat} {v : Value} {n s : Nat} {xs : List Value} (h : w.grownBy w' (some s)) (ho : w'.ownsRow base e size v n xs) (hg : w'.grownBy w'' v.ownBlock) (hb : w.heap.size ≤ base) : w.grownBy w'' (some s) := by
  refine ⟨hg.os.trans h.os, hg.tape.trans h.tape, hg.output.trans h.output, Nat.le_trans h.size hg.size, fun k hk hr => (hg.block k (Nat.lt_of_lt_of_le hk h.size) ?_).trans (h.block k hk hr)⟩
  intro e'
  have := (ho.lt k e'.symm).1
  omega
theorem strm_app {w' w'' : World} {base : Nat} {e : TypeId} {size : Nat} {v : Value} {n s m : Nat} {xs : List Value} (h : Strm w' s m) (ho : w'.ownsRow base e size v n xs) (hg : w'.grownBy w'' v.ownBlock) (hb : s < base) : Strm w'' s m :=
  h.grown hg fun k hk => by have := (ho.lt k hk).1; omega
end Go.Proofs.YtcecpodbmjghhaaGreat
/- Walks of the stream: what draws lists of parts. -/
namespace Go.Proofs.YtcecpodbmjghhaaGreat
open Go Go.RowKit
end Go.Proofs.YtcecpodbmjghhaaGreat
/- One cell of one element of a row is stored anew. No program. No condition. -/
namespace Go.Proofs.YtcecpodbmjghhaaGreat
open Go Go.RowKit
theorem Row.put {α : Type} {cells : α → List Value} {sz : Nat} (hlen : ∀ x, (cells x).length = sz) {w : World} {g : Nat} {l : List α} (h : Row cells sz w g l) (i j0 : Nat) (hi : i < l.length) (hj0 : j0 < sz) (x : α) (v : Value)
    (hv : (cells x)[j0]? = some v) (hx : ∀ j, j ≠ j0 → (cells x)[j]? = (cells l[i])[j]?) : Row cells sz (w.setCell ⟨g, i * sz + j0, none⟩ v) g (l.set i x) := by
  obtain ⟨h1, h2, h3⟩ := h
  refine ⟨fun k hk j u hu => ?_, fun o => by rw [World.frozen?_setCell]; exact h2 o, by simp [World.setCell]; exact h3⟩
  have hk' : k < l.length := by simpa using hk
  by_cases hki : k = i
  · subst hki
    simp only [List.getElem_set_self] at hu
    by_cases hj : j = j0
    · subst hj
      rw [hv] at hu; cases hu
      have := h1 k hk' j _ (List.getElem?_eq_getElem (by rw [hlen]; exact hj0))
      rw [Nat.zero_add] at this ⊢
      exact World.cell?_setCell_same _ _ _ this
    · rw [hx j hj] at hu
      rw [World.cell?_setCell_other _ _ _ _ (by simp only [ne_eq, Addr.mk.injEq, and_true, true_and]; omega)]
      exact h1 k hk' j u hu
  · rw [List.getElem_set_ne (Ne.symm hki)] at hu
    have hjs : j < sz := by rw [← hlen l[k]]; exact (List.getElem?_eq_some_iff.1 hu).1
    rw [World.cell?_setCell_other _ _ _ _ (by
      simp only [ne_eq, Addr.mk.injEq, and_true, true_and]
      rcases Nat.lt_or_ge k i with hlt | hge
      · have : (k + 1) * sz ≤ i * sz := Nat.mul_le_mul_right _ hlt
        rw [Nat.succ_mul] at this; omega
      · have : (i + 1) * sz ≤ k * sz := Nat.mul_le_mul_right _ (by omega)
        rw [Nat.succ_mul] at this; omega)]
    exact h1 k hk' j u hu
/-- a stream and a row of the call's own beside it -/
structure RowSt {α : Type} (cells : α → List Value) (sz s m : Nat) (w : World) (g : Nat) (W : World) (l : List α) : Prop where
  st : Strm W s m
  gr : w.grownBy W (some s)
  row : Row cells sz W g l
  l1 : s < w.heap.size
  l2 : w.heap.size ≤ g
theorem RowSt.step {α : Type} {cells : α → List Value} {sz s m m' : Nat} {w W W' : World} {g : Nat} {l : List α} (h : RowSt cells sz s m w g W l) (hs : Strm W' s m') (hg : W.grownBy W' (some s)) : RowSt cells sz s m' w g W' l :=
  ⟨hs, grown_trans h.gr hg, h.row.kept (hg.block g h.row.2.2 (by have := h.l1; have := h.l2; simp; omega)) hg.size, h.l1, h.l2⟩
theorem RowSt.put {α : Type} {cells : α → List Value} {sz : Nat} (hlen : ∀ x, (cells x).length = sz) {s m : Nat} {w W : World} {g : Nat} {l : List α} (h : RowSt cells sz s m w g W l) (i j0 : Nat) (hi : i < l.length) (hj0 : j0 < sz) (x : α) (v : Value)
    (hv : (cells x)[j0]? = some v) (hx : ∀ j, j ≠ j0 → (cells x)[j]? = (cells l[i])[j]?) : RowSt cells sz s m w g (W.setCell ⟨g, i * sz + j0, none⟩ v) (l.set i x) :=
  ⟨h.st.setOther (by have := h.l1; have := h.l2; omega) _ _, grown_setOwn h.gr h.l2 _ _, h.row.put hlen i j0 hi hj0 x v hv hx, h.l1, h.l2⟩
end Go.Proofs.YtcecpodbmjghhaaGreat
/- Whether two lists of strings, of numbers are equal, by the shelf's contracts. -/
namespace Go.Proofs.YtcecpodbmjghhaaGreat
open Go Go.RowKit
theorem strs_read {w : World} {l : List ByteArray} {b off n cap : Nat} (h : Arr strCells 1 w l (.slice (some ⟨b, off, none⟩) n cap)) : ∀ j, j < l.length → w.cell? ⟨b, off + j, none⟩ = some (.string (l.getD j ByteArray.empty)) := by
  intro j hj
  obtain ⟨a, c, he, _, _, hc⟩ := h
  obtain ⟨b2, off2, ha, _, hcc⟩ := hc j hj
  simp only [Value.slice.injEq] at he
  rw [ha] at he
  simp only [Option.some.injEq, Addr.mk.injEq] at he
  obtain ⟨⟨rfl, rfl, -⟩, -, -⟩ := he
  have := hcc 0 _ rfl
  simp only [Nat.mul_one, Nat.add_zero] at this
  rw [this, List.getD_eq_getElem?_getD, List.getElem?_eq_getElem hj]; rfl
theorem addr_nil {a : Option Addr} {α : Type} {cells : α → List Value} {sz : Nat} {w : World} {l : List α} {n cap : Nat} (h : Arr cells sz w l (.slice a n cap)) (h0 : 0 < l.length) : ∃ b off, a = some ⟨b, off, none⟩ := by
  obtain ⟨a', c, he, _, _, hc⟩ := h
  obtain ⟨b, off, ha, _⟩ := hc 0 h0
  simp only [Value.slice.injEq] at he
  exact ⟨b, off, he.1.trans ha⟩
theorem equal_strs (v1 v2 : Value) (l m : List ByteArray) (w : World) (h1 : Arr strCells 1 w l v1) (h2 : Arr strCells 1 w m v2) : Calls Tryz.prog 65 #[v1, v2] w
    fun e w' => e = .returned (.bool (decide (l = m))) ∧ Below w.heap.size w w' := by
  have k1 := h1
  have k2 := h2
  obtain ⟨a, cap, rfl, hcap, hmax, -⟩ := k1
  obtain ⟨a2, cap2, rfl, hcap2, hmax2, -⟩ := k2
  unfold maxLen at hmax hmax2
  by_cases hl : l.length = m.length
  · rcases Nat.eq_zero_or_pos l.length with h0 | h0
    · obtain rfl : l = [] := List.length_eq_zero_iff.1 h0
      obtain rfl : m = [] := List.length_eq_zero_iff.1 (by omega)
      refine (Tryz.slices_Equal_string_empty a a2 cap 0 cap2 w (by omega)).mono ?_
      rintro e w' ⟨rfl, rfl⟩
      exact ⟨by simp, Below.refl _ _⟩
    · obtain ⟨b, off, rfl⟩ := addr_nil h1 h0
      obtain ⟨b2, off2, rfl⟩ := addr_nil h2 (by omega)
      refine (Tryz.slices_Equal_string b off l.length cap b2 off2 m.length cap2 l m w (Nat.le_refl _) (Nat.le_refl _) (by omega) (by omega) (strs_read h1) (strs_read h2)).mono ?_
      rintro e w' ⟨rfl, q, rfl⟩
      exact ⟨by first | (simp; done) | (simp; by_cases hlm : l = m <;> simp [hlm]), by (repeat (first | exact Below.refl _ _ | assumption | refine below_draws ?_ _ | refine Below.drew ?_ | refine below_alloc ?_ _ (by first | omega | (simp; done) | (simp; omega)) | refine Below.setCell ?_ (by first | omega | (simp; done) | (simp; omega)) _ | refine below_at ?_ (by assumption) (by first | omega | (simp; done) | (simp; omega))))⟩
  · refine (Tryz.slices_Equal_string_lens a a2 l.length cap m.length cap2 w hl).mono ?_
    rintro e w' ⟨rfl, rfl⟩
    exact ⟨ret_bool (Eq.symm (decide_eq_false (fun h => hl (by rw [h])))), Below.refl _ _⟩
end Go.Proofs.YtcecpodbmjghhaaGreat
