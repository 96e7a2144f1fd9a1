/- Walks of the stream: what draws odd numbers and parts. -/
import Derived.Test.YtcecpodbmjghhaaGreatStream
import Derived.Test.YtcecpodbmjghhaaGreatPlainB
import Derived.Deep.RegionWith
set_option linter.unusedVariables false
set_option linter.unusedSimpArgs false
namespace Go.Proofs.YtcecpodbmjghhaaGreat
open Go Go.RowKit

theorem arr_ints_lit {w : World} {l : List Int} {cs : Array Value} {t : TypeId} {n b : Nat} (hb : b = w.heap.size) (hn : n = l.length) (hcs : cs.toList = l.map (Value.int .i64)) (hl : l.length ≤ 1000000) : Arr intCells 1 (w.alloc (.cells cs t)) l (.slice (some ⟨b, 0, none⟩) n n) :=
  Arr.litAt (cells := intCells) (sz := 1) (fun _ => rfl) hb (by rw [hcs]; show _ = l.flatMap fun n => [Value.int .i64 n]; rw [flat_one]) hn (by rw [hn]; unfold maxLen; omega)

theorem Arr.grown {α : Type} {cells : α → List Value} {sz : Nat} {w w' : World} {l : List α} {b off n cap s : Nat} (h : Arr cells sz w l (.slice (some ⟨b, off, none⟩) n cap)) (hg : w.grownBy w' (some s)) (hne : b ≠ s) : Arr cells sz w' l (.slice (some ⟨b, off, none⟩) n cap) := by
  obtain ⟨a, cap', he, h2, h3, h4⟩ := h
  refine ⟨a, cap', he, h2, h3, fun k hk => ?_⟩
  obtain ⟨b', off', ha, hb, hc⟩ := h4 k hk
  simp only [Value.slice.injEq] at he
  obtain ⟨he, _, _⟩ := he
  rw [ha] at he
  simp only [Option.some.injEq, Addr.mk.injEq, and_true] at he
  obtain ⟨rfl, rfl⟩ := he
  exact ⟨_, _, ha, Nat.lt_of_lt_of_le hb hg.size, fun j u hu => hg.cell (hc j u hu) (by simp; exact hne)⟩
theorem grown_self (a : World) (row : Option Nat) : a.grownBy a row := ⟨rfl, rfl, rfl, Nat.le_refl _, fun _ _ _ => rfl⟩
theorem grown_setOwn {a b : World} {row : Option Nat} (h : a.grownBy b row) {g : Nat} (hg : a.heap.size ≤ g) (o : Nat) (v : Value) : a.grownBy (b.setCell ⟨g, o, none⟩ v) row := by
  have h2 := grown_setCell b g o v
  refine ⟨h2.os.trans h.os, h2.tape.trans h.tape, h2.output.trans h.output, Nat.le_trans h.size h2.size, fun k hk hr => (h2.block k (Nat.lt_of_lt_of_le hk h.size) ?_).trans (h.block k hk hr)⟩
  simp only [ne_eq, Option.some.injEq]; omega
/-- a pick out of a list that is written out -/
theorem pick_lit (s m : Nat) (l : List Int) (w : World) (h : Strm w s m) (hm : m ≤ 1000000000) (h1 : 1 ≤ l.length) (h2 : l.length ≤ 1000000) {b n : Nat} {cs : Array Value} {t : TypeId} (hb : b = w.heap.size) (hn : n = l.length) (hcs : cs.toList = l.map (Value.int .i64)) :
    Calls Tryz.prog 7 #[.pointer (some ⟨s, 0, none⟩), .slice (some ⟨b, 0, none⟩) n n] (w.alloc (.cells cs t)) (Draw (OneOf l) s m 1 w) := by
  have hl := h.lt
  refine (pick_any s m _ l _ (h.alloc _) hm (arr_ints_lit hb hn hcs h2) h1 h2 ?_).mono ?_
  · intro n' cap off e
    simp only [Value.slice.injEq, Option.some.injEq, Addr.mk.injEq] at e
    omega
  · rintro e w1 ⟨v, rfl, hv, hs, hg⟩
    exact ⟨v, rfl, hv, hs, grown_trans (World.grownBy_alloc w _ _) hg⟩

/-- the numbers that Odd gives -/
def OddIs (lo hi : Int) (v : Value) (_ : World) : Prop := ∃ r : Int, v = .int .i64 r ∧ ((lo - 1 ≤ r ∧ r ≤ hi + 1) ∨ r = -1099511627776 ∨ r = 1099511627776)

def PartB (p : Part) : Prop := -2000000000000 ≤ p.kind ∧ p.kind ≤ 2000000000000 ∧ -2000000000000 ≤ p.amt ∧ p.amt ≤ 2000000000000
def PartIs (v : Value) (_ : World) : Prop := ∃ p : Part, v = .agg #[.int .i64 p.kind, .int .i64 p.amt] ∧ PartB p

theorem part_at' {w : World} {b off k : Nat} {p : Part} (h : ∀ j u, p.cells[j]? = some u → w.cell? ⟨b, off + k * 2 + j, none⟩ = some u) :
    w.cell? ⟨b, off + k * 2, none⟩ = some (.int .i64 p.kind) ∧ w.cell? ⟨b, off + k * 2 + 1, none⟩ = some (.int .i64 p.amt) :=
  ⟨h 0 _ rfl, h 1 _ rfl⟩

end Go.Proofs.YtcecpodbmjghhaaGreat
