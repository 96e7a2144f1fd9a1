/- The plain mathematics of chapter 2 (light budgets): what is computed, over integers and lists; no program. No condition. -/
import Derived.Test.YtcecpodbmjghhaaGreatBase
set_option linter.unusedVariables false
set_option linter.unusedSimpArgs false
namespace Go.Proofs.YtcecpodbmjghhaaGreat
open Go Go.RowKit
/-- n is not from lo to hi -/
def outB (n lo hi : Int) : Bool := decide (n < lo ∨ hi < n)
theorem outB_false {n lo hi : Int} : outB n lo hi = false ↔ lo ≤ n ∧ n ≤ hi := by unfold outB; simp
theorem outB_true {n lo hi : Int} : outB n lo hi = true ↔ n < lo ∨ hi < n := by unfold outB; simp
/-- how often ways are doubled: 2, 4, .. 128; else -1 (0 for 1) -/
def dbl (n : Int) : Int := if n = 1 then 0 else if n = 2 then 1 else if n = 4 then 2 else if n = 8 then 3 else if n = 16 then 4 else if n = 32 then 5 else if n = 64 then 6 else if n = 128 then 7 else -1
def waysB (n : Int) : Bool := decide (1 ≤ dbl n)
/-- the first error that is one -/
def firstF : List Int → Int
  | [] => 0
  | e :: l => if e = 0 then firstF l else e
structure Part where
  kind : Int
  amt : Int
deriving DecidableEq
instance : Inhabited Part := ⟨⟨0, 0⟩⟩
def Part.cells (p : Part) : List Value := [.int .i64 p.kind, .int .i64 p.amt]
theorem Part.cells_len (p : Part) : p.cells.length = 2 := rfl
structure Losses where
  perKm : Int
  conn : Int
  dblg : Int
  exc : Int
structure Optics where
  launch : Int
  least : Int
  most : Int
structure Class where
  key : ByteArray
  min : Int
  max : Int
def Class.cells (c : Class) : List Value := [.string c.key, .int .i64 c.min, .int .i64 c.max]
structure Swap where
  at_ : Int
  by_ : Part
  price : Int
def Swap.cells (s : Swap) : List Value := [.int .i64 s.at_, .int .i64 s.by_.kind, .int .i64 s.by_.amt, .int .i64 s.price]
/-- the loss of a part -/
def lossOf (p : Part) (x : Losses) : Int :=
  if p.kind = 1 then (x.perKm * p.amt + 999) / 1000
  else if p.kind = 2 then p.amt
  else if p.kind = 3 then x.conn * p.amt
  else x.dblg * dbl p.amt + x.exc
def total (l : List Part) (x : Losses) : Int := (l.map (lossOf · x)).sum
theorem firstF_append (l m : List Int) : firstF (l ++ m) = if firstF l = 0 then firstF m else firstF l := by
  induction l with
  | nil => simp [firstF]
  | cons e l ih => simp only [List.cons_append, firstF]; split <;> simp_all
theorem firstF_zero {l : List Int} : firstF l = 0 ↔ ∀ e ∈ l, e = 0 := by
  induction l with
  | nil => simp [firstF]
  | cons e l ih => simp only [firstF, List.mem_cons, forall_eq_or_imp]; split <;> simp_all
theorem firstF_take_succ (l : List Int) (k : Nat) (h : k < l.length) (h0 : firstF (l.take k) = 0) : firstF (l.take (k + 1)) = l[k] := by
  rw [List.take_succ_eq_append_getElem h, firstF_append, if_pos h0]
  simp only [firstF]; split <;> simp_all
theorem firstF_hit (l : List Int) (k : Nat) (h : k < l.length) (h0 : firstF (l.take k) = 0) (h1 : l[k] ≠ 0) : firstF l = l[k] := by
  have e : firstF l = firstF (l.take (k + 1) ++ l.drop (k + 1)) := by rw [List.take_append_drop]
  rw [e, firstF_append, firstF_take_succ l k h h0, if_neg h1]
theorem dbl_cases (n : Int) (h : 1 ≤ dbl n) : n = 2 ∨ n = 4 ∨ n = 8 ∨ n = 16 ∨ n = 32 ∨ n = 64 ∨ n = 128 := by
  unfold dbl at h
  repeat' split at h
  all_goals omega
theorem dbl_le (n : Int) : -1 ≤ dbl n ∧ dbl n ≤ 7 := by
  unfold dbl
  repeat' split
  all_goals omega
/-- losses that are right: bounds -/
def Losses.Ok (x : Losses) : Prop := 0 ≤ x.perKm ∧ x.perKm ≤ 1000 ∧ 0 ≤ x.conn ∧ x.conn ≤ 1000 ∧ 0 ≤ x.dblg ∧ x.dblg ≤ 1000 ∧ 0 ≤ x.exc ∧ x.exc ≤ 1000
def Optics.Ok (o : Optics) : Prop := -10000 ≤ o.launch ∧ o.launch ≤ 10000 ∧ -10000 ≤ o.least ∧ o.least ≤ o.most ∧ o.most ≤ 10000
def Part.Ok (p : Part) : Prop := (p.kind = 1 ∧ 1 ≤ p.amt ∧ p.amt ≤ 200000) ∨ (p.kind = 2 ∧ 0 ≤ p.amt ∧ p.amt ≤ 10000) ∨ (p.kind = 3 ∧ 1 ≤ p.amt ∧ p.amt ≤ 100) ∨ (p.kind = 4 ∧ 1 ≤ dbl p.amt)
/-- a loss is small -/
theorem lossOf_bound {p : Part} {x : Losses} (hp : p.Ok) (hx : x.Ok) : 0 ≤ lossOf p x ∧ lossOf p x ≤ 200000 := by
  unfold lossOf
  unfold Losses.Ok at hx
  obtain ⟨a1, a2, b1, b2, c1, c2, d1, d2⟩ := hx
  rcases hp with ⟨hk, h1, h2⟩ | ⟨hk, h1, h2⟩ | ⟨hk, h1, h2⟩ | ⟨hk, h1⟩
  · rw [if_pos hk]
    have m1 : 0 ≤ x.perKm * p.amt := Int.mul_nonneg a1 (by omega)
    have m2 : x.perKm * p.amt ≤ 1000 * 200000 := Int.mul_le_mul a2 h2 (by omega) (by omega)
    omega
  · rw [if_neg (by omega), if_pos hk]; omega
  · rw [if_neg (by omega), if_neg (by omega), if_pos hk]
    have m1 : 0 ≤ x.conn * p.amt := Int.mul_nonneg b1 (by omega)
    have m2 : x.conn * p.amt ≤ 1000 * 100 := Int.mul_le_mul b2 h2 (by omega) (by omega)
    omega
  · rw [if_neg (by omega), if_neg (by omega), if_neg (by omega)]
    have := dbl_le p.amt
    have m1 : 0 ≤ x.dblg * dbl p.amt := Int.mul_nonneg c1 (by omega)
    have m2 : x.dblg * dbl p.amt ≤ 1000 * 7 := Int.mul_le_mul c2 this.2 (by omega) (by omega)
    omega
theorem total_bound {x : Losses} (hx : x.Ok) : ∀ {l : List Part}, (∀ p ∈ l, p.Ok) → 0 ≤ total l x ∧ total l x ≤ 200000 * l.length
  | [], _ => by simp [total]
  | p :: l, h => by
    have h1 := lossOf_bound (h p (by simp)) hx
    have h2 := total_bound hx (l := l) (fun q hq => h q (by simp [hq]))
    unfold total at *
    simp only [List.map_cons, List.sum_cons, List.length_cons]
    push_cast
    omega
end Go.Proofs.YtcecpodbmjghhaaGreat
