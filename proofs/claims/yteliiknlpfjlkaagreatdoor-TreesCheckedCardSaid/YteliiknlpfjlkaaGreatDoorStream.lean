/- Walks of the stream of numbers that the statements draw their values from: each call hands out a number within its range and moves the stream's count on by one; nothing else turns. -/
import Derived.Test.YteliiknlpfjlkaaGreatDoorMemAll
import Derived.Test.YteliiknlpfjlkaaGreatDoorProg
set_option linter.unusedVariables false
set_option linter.unusedSimpArgs false
namespace Go.Proofs.YteliiknlpfjlkaaGreatDoor
open Go Go.RowKit

/-- block s is a stream over numbers that lie in another block; it has handed out at most m of them -/
def Strm (w : World) (s m : Nat) : Prop :=
  ∃ (a : Option Addr) (n cap c : Nat), Blk w s #[.slice a n cap, .int .i64 c] 25 ∧ c ≤ m ∧ n ≤ maxLen ∧
    ∀ i, i < n → ∃ b off z, a = some ⟨b, off, none⟩ ∧ b < s ∧ w.cell? ⟨b, off + i, none⟩ = some (.int .i64 z) ∧ -9223372036854775808 ≤ z ∧ z ≤ 9223372036854775807
theorem Strm.lt {w : World} {s m : Nat} (h : Strm w s m) : s < w.heap.size := by obtain ⟨_, _, _, _, h, _⟩ := h; exact h.lt
theorem Strm.below {B : Nat} {w w' : World} {s m : Nat} (h : Strm w s m) (hB : Below B w w') (hb : w.heap.size ≤ B) : Strm w' s m := by
  obtain ⟨a, n, cap, c, h1, h2, h3, h4⟩ := h
  have hl := h1.lt
  refine ⟨a, n, cap, c, h1.below hB (by omega), h2, h3, fun i hi => ?_⟩
  obtain ⟨b, off, z, e, hne, hc, hz⟩ := h4 i hi
  exact ⟨b, off, z, e, hne, (hB.cell (p := ⟨b, _, none⟩) (show b < B by omega)).trans hc, hz⟩
theorem Strm.mono {w : World} {s m m' : Nat} (h : Strm w s m) (hm : m ≤ m') : Strm w s m' := by
  obtain ⟨a, n, cap, c, h1, h2, h3, h4⟩ := h
  exact ⟨a, n, cap, c, h1, by omega, h3, h4⟩

theorem Strm.setOther {w : World} {s m : Nat} (h : Strm w s m) {b : Nat} (hb : s < b) (j : Nat) (v : Value) : Strm (w.setCell ⟨b, j, none⟩ v) s m := by
  obtain ⟨a, n, cap, c, h1, h2, h3, h4⟩ := h
  refine ⟨a, n, cap, c, h1.setOther (by omega) _ _, h2, h3, fun i hi => ?_⟩
  obtain ⟨b', off, z, e, hne, hc, hz⟩ := h4 i hi
  exact ⟨b', off, z, e, hne, by rw [World.cell?_of_block (w := w) (a := ⟨b', _, none⟩) (Below.heap_setCell _ _ _ _ (by simp; omega))]; exact hc, hz⟩

/-- a call that hands out from the stream: what it returns fits P; the stream has moved on by at most d; nothing else turns -/
def Draw (P : Value → World → Prop) (s m d : Nat) (w : World) (e : Ending) (w' : World) : Prop := ∃ v, e = .returned v ∧ P v w' ∧ Strm w' s (m + d) ∧ w.grownBy w' (some s)

def belowF (x n : Int) : Int := if n < 1 then 0 else x % n
theorem belowF_range (x n : Int) (h : 1 ≤ n) : 0 ≤ belowF x n ∧ belowF x n < n := by
  unfold belowF; rw [if_neg (by omega)]
  exact ⟨Int.emod_nonneg _ (by omega), Int.emod_lt_of_pos _ (by omega)⟩

set_option maxHeartbeats 1000000 in
theorem sbelow_any (x n : Int) (w : World) (hx : -9223372036854775808 ≤ x ∧ x ≤ 9223372036854775807) (hn : n ≤ 4611686018427387904) : Calls Tryz.prog 106 #[.int .i64 x, .int .i64 n] w
    fun e w' => e = .returned (.int .i64 (belowF x n)) ∧ w = w' := by
  obtain ⟨x1, x2⟩ := hx
  by_cases h : n < 1
  · go_enter Tryz.func106, Tryz.ntmps106
    go_wp2
    go_ret
    exact ⟨ret_int (by unfold belowF; rw [if_pos h]), rfl⟩
  · have hB : belowF x n = x % n := by unfold belowF; rw [if_neg h]
    have hn1 : 1 ≤ n := by omega
    have HB := Lib.hid hB
    have ht := Int.tmod_lt_of_pos x (show 0 < n by omega)
    have ht2 : -n < x.tmod n := Int.lt_tmod_of_pos x (by omega)
    have he := Int.tmod_eq_emod_of_nonneg (a := x) (b := n)
    by_cases h0 : x.tmod n < 0
    · have hr : x.tmod n + n = x % n := by
        have h1 := Int.tmod_add_mul_tdiv x n
        have h2 := Int.emod_nonneg x (show n ≠ 0 by omega)
        have h3 := Int.emod_lt_of_pos x (show 0 < n by omega)
        have h4 : (x.tmod n + n) % n = x % n := by
          rw [Int.add_emod_right]
          conv => rhs; rw [← h1]
          rw [Int.add_mul_emod_self_left]
        rw [← h4, Int.emod_eq_of_lt (by omega) (by omega)]
      have HR := Lib.hid hr
      have hneg : x < 0 := by
        rcases (show x < 0 ∨ 0 ≤ x from by omega) with h | h
        · exact h
        · have := he h; have := Int.emod_nonneg x (show n ≠ 0 by omega); omega
      have hneg' : ¬ 0 ≤ x := by omega
      clear he hB hr h hneg
      go_enter Tryz.func106, Tryz.ntmps106
      go_wp2
      go_ret
      exact ⟨ret_int (by rw [HB.out, HR.out]), rfl⟩
    · have hr : x.tmod n = x % n := by
        have h1 := Int.tmod_add_mul_tdiv x n
        have h4 : (x.tmod n) % n = x % n := by
          conv => rhs; rw [← h1]
          rw [Int.add_mul_emod_self_left]
        rw [← h4, Int.emod_eq_of_lt (by omega) (by omega)]
      have HR := Lib.hid hr
      clear he hB h
      by_cases hx0 : 0 ≤ x
      · have h0' : ¬ x % n < 0 := by omega
        clear hr h0 ht ht2
        go_enter Tryz.func106, Tryz.ntmps106
        go_wp2
        go_ret
        exact ⟨ret_int (by rw [HB.out]), rfl⟩
      · clear hr
        go_enter Tryz.func106, Tryz.ntmps106
        go_wp2
        go_ret
        exact ⟨ret_int (by rw [HB.out, HR.out]), rfl⟩

theorem wrap64_bd (n : Int) : -9223372036854775808 ≤ wrap64 n ∧ wrap64 n ≤ 9223372036854775807 := by unfold wrap64; omega
theorem blk_setOne {w : World} {b : Nat} {v0 v1 v : Value} {t : TypeId} (h : Blk w b #[v0, v1] t) : Blk (w.setCell ⟨b, 1, none⟩ v) b #[v0, v] t := h.set 1 v
theorem grown_setCell (w : World) (g o : Nat) (v : Value) : w.grownBy (w.setCell ⟨g, o, none⟩ v) (some g) := grown_setCells g [v] o w
theorem grown_drewN {a b : World} {row : Option Nat} (h : a.grownBy b row) (n : Nat) : a.grownBy (b.drewN n) row := ⟨h.os, h.tape, h.output, h.size, h.block⟩
theorem grown_drew {a b : World} {row : Option Nat} (h : a.grownBy b row) : a.grownBy b.drew row := ⟨h.os, h.tape, h.output, h.size, h.block⟩
theorem grown_alloc {a b : World} {row : Option Nat} (h : a.grownBy b row) (o : Obj) : a.grownBy (b.alloc o) row := grown_trans h (World.grownBy_alloc b o row)
theorem Strm.drewN {w : World} {s m : Nat} (h : Strm w s m) (n : Nat) : Strm (w.drewN n) s m := h
theorem Strm.drew {w : World} {s m : Nat} (h : Strm w s m) : Strm w.drew s m := h
theorem Strm.alloc {w : World} {s m : Nat} (h : Strm w s m) (o : Obj) : Strm (w.alloc o) s m := h.below (below_alloc (Below.refl w.heap.size w) o (Nat.le_refl _)) (Nat.le_refl _)

def InRange (n : Int) (v : Value) (_ : World) : Prop := ∃ r : Int, v = .int .i64 r ∧ 0 ≤ r ∧ r < n

set_option maxHeartbeats 1000000 in
set_option maxRecDepth 100000 in
theorem next_any (s m : Nat) (n : Int) (w : World) (h : Strm w s m) (hm : m ≤ 1000000000) (hn : 1 ≤ n) (hn2 : n ≤ 4611686018427387904) : Calls Tryz.prog 70 #[.pointer (some ⟨s, 0, none⟩), .int .i64 n] w
    (Draw (InRange n) s m 1 w) := by
  obtain ⟨a, len, cap, c, hb, hc, hlen, hcell⟩ := h
  have hl := hb.lt
  have c0 := hb.cell 0 _ rfl
  have c1 := hb.cell 1 _ rfl
  have f1 := hb.free 1
  unfold maxLen at hlen
  have HS : Hid (∀ (w' : World) (c' : Nat), c' ≤ m + 1 → Blk w' s #[.slice a len cap, .int .i64 c'] 25 → w.grownBy w' (some s) → Strm w' s (m + 1)) := fun w' c' h1 h2 h3 =>
    ⟨a, len, cap, c', h2, h1, by unfold maxLen; omega, fun i hi => by
      obtain ⟨b, off, z, e, hne, hcc, hz⟩ := hcell i hi
      exact ⟨b, off, z, e, hne, h3.cell hcc (by simp; omega), hz⟩⟩
  have HB := Lib.hid (blk_setOne (v := .int .i64 (c + 1 : Nat)) hb)
  clear hb
  by_cases h0 : len = 0
  · subst h0
    clear hcell
    have hr := belowF_range (((c : Int) + 1) * 7919) n hn
    have HR := Lib.hid hr
    clear hr
    go_enter Tryz.func70, Tryz.ntmps70
    go_wp2_with (go_at_call 106; refine (sbelow_any _ _ _ (by omega) hn2).mono ?_; rintro e w' ⟨rfl, rfl⟩)
    go_ret
    exact ⟨_, rfl, ⟨_, rfl, HR.out⟩, HS.out _ (c + 1) (by omega) HB.out (grown_setCell _ _ _ _), grown_setCell _ _ _ _⟩
  · have hlt : c % len < len := Nat.mod_lt _ (by omega)
    obtain ⟨b, off, z, rfl, hbs, hcc, hz1, hz2⟩ := hcell (c % len) hlt
    have hne : b ≠ s := by omega
    have hlen0 : ((len : Int) == 0) = false := by simp; omega
    have hlen1 : 1 ≤ (len : Int) := by omega
    have hi0 : 0 ≤ (c : Int) % len := Int.emod_nonneg _ (by omega)
    have hi1 : (c : Int) % len < len := Int.emod_lt_of_pos _ (by omega)
    have hr0 : 0 ≤ (c : Int) / len := Int.ediv_nonneg (by omega) (by omega)
    have hr1 : (c : Int) / len ≤ 1000000000 := by have h1 : c / len ≤ c := Nat.div_le_self _ _
                                                  have h2 : ((c / len : Nat) : Int) = (c : Int) / len := by push_cast; rfl
                                                  omega
    have hb1 := belowF_range z 1073741824 (by omega)
    obtain ⟨q1, q2⟩ := hb1
    clear hcell h0
    go_enter Tryz.func70, Tryz.ntmps70
    go_wp2
    go_quiet (fail)
    go_wp2
    go_quiet (fail)
    go_wp2_with (go_at_call 106; refine (sbelow_any _ _ _ (by first | omega | exact wrap64_bd _) (by omega)).mono ?_; rintro e w' ⟨rfl, rfl⟩)
    go_ret
    exact ⟨_, rfl, ⟨_, rfl, belowF_range _ n hn⟩, (HS.out _ (c + 1) (by omega) HB.out (grown_setCell _ _ _ _)).drewN _, grown_drewN (grown_setCell _ _ _ _) _⟩

/-- the numbers from lo to hi -/
def Within (lo hi : Int) (v : Value) (_ : World) : Prop := ∃ r : Int, v = .int .i64 r ∧ lo ≤ r ∧ r ≤ hi
def SomeBool (v : Value) (_ : World) : Prop := ∃ b : Bool, v = .bool b

set_option maxHeartbeats 1000000 in
theorem range_any (s m : Nat) (lo hi : Int) (w : World) (h : Strm w s m) (hm : m ≤ 1000000000) (h1 : lo ≤ hi) (h2 : -1000000000000000 ≤ lo) (h3 : hi ≤ 1000000000000000) : Calls Tryz.prog 42 #[.pointer (some ⟨s, 0, none⟩), .int .i64 lo, .int .i64 hi] w
    (Draw (Within lo hi) s m 1 w) := by
  go_enter Tryz.func42, Tryz.ntmps42
  go_wp2_with (go_at_call 70; refine (next_any s m _ _ h hm (by omega) (by omega)).mono ?_; rintro e w1 ⟨v, rfl, ⟨r, rfl, r0, r1⟩, hs, hg⟩)
  go_ret
  exact ⟨_, rfl, ⟨_, rfl, by omega, by omega⟩, hs, hg⟩

set_option maxHeartbeats 1000000 in
theorem flip_any (s m : Nat) (n : Int) (w : World) (h : Strm w s m) (hm : m ≤ 1000000000) (h1 : 1 ≤ n) (h2 : n ≤ 1000000) : Calls Tryz.prog 45 #[.pointer (some ⟨s, 0, none⟩), .int .i64 n] w
    (Draw SomeBool s m 1 w) := by
  go_enter Tryz.func45, Tryz.ntmps45
  go_wp2_with (go_at_call 70; refine (next_any s m _ _ h hm (by omega) (by omega)).mono ?_; rintro e w1 ⟨v, rfl, ⟨r, rfl, r0, r1⟩, hs, hg⟩)
  go_ret
  exact ⟨_, rfl, ⟨_, rfl⟩, hs, hg⟩

def OneOf (l : List Int) (v : Value) (_ : World) : Prop := ∃ r : Int, v = .int .i64 r ∧ r ∈ l
def OneOfS (l : List ByteArray) (v : Value) (_ : World) : Prop := ∃ r : ByteArray, v = .string r ∧ r ∈ l

set_option maxHeartbeats 1000000 in
theorem pick_any (s m : Nat) (v : Value) (l : List Int) (w : World) (h : Strm w s m) (hm : m ≤ 1000000000) (hv : Arr intCells 1 w l v) (h1 : 1 ≤ l.length) (h2 : l.length ≤ 1000000) (hne : ∀ n cap off, v ≠ .slice (some ⟨s, off, none⟩) n cap) : Calls Tryz.prog 44 #[.pointer (some ⟨s, 0, none⟩), v] w
    (Draw (OneOf l) s m 1 w) := by
  obtain ⟨a, cap, rfl, hcap, hmax, hc⟩ := hv
  go_enter Tryz.func44, Tryz.ntmps44
  go_wp2_with fail
  refine (next_any s m _ _ h hm (by omega) (by omega)).mono ?_
  rintro e w1 ⟨v, rfl, ⟨r, rfl, r0, r1⟩, hs, hg⟩
  obtain ⟨k, rfl⟩ := Int.eq_ofNat_of_zero_le r0
  obtain ⟨b, off, rfl, hb, hcc⟩ := hc k (by omega)
  have hbs : b ≠ s := fun e => hne _ _ off (by rw [e])
  have c0 := hcc 0 _ rfl
  simp only [Nat.mul_one, Nat.add_zero] at c0
  replace c0 := hg.cell c0 (by simp; exact hbs)
  clear hc hcc hne
  go_wp2
  go_ret
  exact ⟨_, rfl, ⟨_, rfl, List.getElem_mem _⟩, hs, hg⟩

set_option maxHeartbeats 1000000 in
theorem some_any (s m : Nat) (v : Value) (l : List ByteArray) (w : World) (h : Strm w s m) (hm : m ≤ 1000000000) (hv : Arr strCells 1 w l v) (h1 : 1 ≤ l.length) (h2 : l.length ≤ 1000000) (hne : ∀ n cap off, v ≠ .slice (some ⟨s, off, none⟩) n cap) : Calls Tryz.prog 107 #[.pointer (some ⟨s, 0, none⟩), v] w
    (Draw (OneOfS l) s m 1 w) := by
  obtain ⟨a, cap, rfl, hcap, hmax, hc⟩ := hv
  go_enter Tryz.func107, Tryz.ntmps107
  go_wp2_with fail
  refine (next_any s m _ _ h hm (by omega) (by omega)).mono ?_
  rintro e w1 ⟨v, rfl, ⟨r, rfl, r0, r1⟩, hs, hg⟩
  obtain ⟨k, rfl⟩ := Int.eq_ofNat_of_zero_le r0
  obtain ⟨b, off, rfl, hb, hcc⟩ := hc k (by omega)
  have hbs : b ≠ s := fun e => hne _ _ off (by rw [e])
  have c0 := hcc 0 _ rfl
  simp only [Nat.mul_one, Nat.add_zero] at c0
  replace c0 := hg.cell c0 (by simp; exact hbs)
  clear hc hcc hne
  go_wp2
  go_ret
  exact ⟨_, rfl, ⟨_, rfl, List.getElem_mem _⟩, hs, hg⟩
end Go.Proofs.YteliiknlpfjlkaaGreatDoor
