/- The plain mathematics of chapter 2 (light budgets): what is computed, over integers and lists; no program. No condition. -/
import Derived.Test.YteliiknlpfjlkaaGreatDoorBase
set_option linter.unusedVariables false
set_option linter.unusedSimpArgs false
namespace Go.Proofs.YteliiknlpfjlkaaGreatDoor
open Go Go.RowKit

/-- n is not from lo to hi -/
def outB (n lo hi : Int) : Bool := decide (n < lo ∨ hi < n)
theorem outB_false {n lo hi : Int} : outB n lo hi = false ↔ lo ≤ n ∧ n ≤ hi := by unfold outB; simp
theorem outB_true {n lo hi : Int} : outB n lo hi = true ↔ n < lo ∨ hi < n := by unfold outB; simp

/-- how often ways are doubled: 2, 4, .. 128; else -1 (0 for 1) -/
def dbl (n : Int) : Int := if n = 1 then 0 else if n = 2 then 1 else if n = 4 then 2 else if n = 8 then 3 else if n = 16 then 4 else if n = 32 then 5 else if n = 64 then 6 else if n = 128 then 7 else -1
def waysB (n : Int) : Bool := decide (1 ≤ dbl n)

/-- the first error that is one -/
def firstF : List Int → Int
  | [] => 0
  | e :: l => if e = 0 then firstF l else e

structure Part where
  kind : Int
  amt : Int
deriving DecidableEq
instance : Inhabited Part := ⟨⟨0, 0⟩⟩
def Part.cells (p : Part) : List Value := [.int .i64 p.kind, .int .i64 p.amt]
theorem Part.cells_len (p : Part) : p.cells.length = 2 := rfl
structure Losses where
  perKm : Int
  conn : Int
  dblg : Int
  exc : Int
structure Optics where
  launch : Int
  least : Int
  most : Int
structure Class where
  key : ByteArray
  min : Int
  max : Int
def Class.cells (c : Class) : List Value := [.string c.key, .int .i64 c.min, .int .i64 c.max]
structure Swap where
  at_ : Int
  by_ : Part
  price : Int
def Swap.cells (s : Swap) : List Value := [.int .i64 s.at_, .int .i64 s.by_.kind, .int .i64 s.by_.amt, .int .i64 s.price]

/-- the error of a part -/
def partFault (p : Part) : Int :=
  if p.kind = 1 then (if outB p.amt 1 200000 then 1 else 0)
  else if p.kind = 2 then (if outB p.amt 0 10000 then 1 else 0)
  else if p.kind = 3 then (if outB p.amt 1 100 then 1 else 0)
  else if p.kind = 4 then (if waysB p.amt then 0 else 1)
  else 4
def partsFault (l : List Part) : Int := if 1000 < l.length then 2 else firstF (l.map partFault)
def lossesFault (x : Losses) : Int := if outB x.perKm 0 1000 || outB x.conn 0 1000 || outB x.dblg 0 1000 || outB x.exc 0 1000 then 1 else 0
def opticsFault (o : Optics) : Int := if outB o.launch (-10000) 10000 || outB o.least (-10000) 10000 || outB o.most (-10000) 10000 || decide (o.most < o.least) then 1 else 0

/-- the loss of a part -/
def lossOf (p : Part) (x : Losses) : Int :=
  if p.kind = 1 then (x.perKm * p.amt + 999) / 1000
  else if p.kind = 2 then p.amt
  else if p.kind = 3 then x.conn * p.amt
  else x.dblg * dbl p.amt + x.exc
def total (l : List Part) (x : Losses) : Int := (l.map (lossOf · x)).sum
def running : List Part → Losses → Int → List Int
  | [], _, _ => []
  | p :: l, x, n => (n + lossOf p x) :: running l x (n + lossOf p x)

theorem firstF_append (l m : List Int) : firstF (l ++ m) = if firstF l = 0 then firstF m else firstF l := by
  induction l with
  | nil => simp [firstF]
  | cons e l ih => simp only [List.cons_append, firstF]; split <;> simp_all
theorem firstF_zero {l : List Int} : firstF l = 0 ↔ ∀ e ∈ l, e = 0 := by
  induction l with
  | nil => simp [firstF]
  | cons e l ih => simp only [firstF, List.mem_cons, forall_eq_or_imp]; split <;> simp_all
theorem firstF_take_succ (l : List Int) (k : Nat) (h : k < l.length) (h0 : firstF (l.take k) = 0) : firstF (l.take (k + 1)) = l[k] := by
  rw [List.take_succ_eq_append_getElem h, firstF_append, if_pos h0]
  simp only [firstF]; split <;> simp_all
theorem firstF_hit (l : List Int) (k : Nat) (h : k < l.length) (h0 : firstF (l.take k) = 0) (h1 : l[k] ≠ 0) : firstF l = l[k] := by
  have e : firstF l = firstF (l.take (k + 1) ++ l.drop (k + 1)) := by rw [List.take_append_drop]
  rw [e, firstF_append, firstF_take_succ l k h h0, if_neg h1]
theorem total_take_succ (l : List Part) (x : Losses) (k : Nat) (h : k < l.length) : total (l.take (k + 1)) x = total (l.take k) x + lossOf l[k] x := by
  unfold total
  rw [List.take_succ_eq_append_getElem h, List.map_append, List.sum_append]; simp
theorem dbl_cases (n : Int) (h : 1 ≤ dbl n) : n = 2 ∨ n = 4 ∨ n = 8 ∨ n = 16 ∨ n = 32 ∨ n = 64 ∨ n = 128 := by
  unfold dbl at h
  repeat' split at h
  all_goals omega
theorem dbl_le (n : Int) : -1 ≤ dbl n ∧ dbl n ≤ 7 := by
  unfold dbl
  repeat' split
  all_goals omega

/-- losses that are right: bounds -/
def Losses.Ok (x : Losses) : Prop := 0 ≤ x.perKm ∧ x.perKm ≤ 1000 ∧ 0 ≤ x.conn ∧ x.conn ≤ 1000 ∧ 0 ≤ x.dblg ∧ x.dblg ≤ 1000 ∧ 0 ≤ x.exc ∧ x.exc ≤ 1000
theorem lossesFault_cases (x : Losses) : (lossesFault x = 0 ∧ x.Ok) ∨ lossesFault x = 1 := by
  unfold lossesFault Losses.Ok
  split
  · exact .inr rfl
  · rename_i h
    simp only [Bool.or_eq_true, not_or, Bool.not_eq_true, outB_false] at h
    exact .inl ⟨rfl, by omega⟩
theorem lossesFault_zero {x : Losses} : lossesFault x = 0 ↔ x.Ok := by
  unfold lossesFault Losses.Ok
  split
  · rename_i h
    simp only [Bool.or_eq_true, outB_true] at h
    exact ⟨fun h => by omega, fun h => by omega⟩
  · rename_i h
    simp only [Bool.or_eq_true, not_or, Bool.not_eq_true, outB_false] at h
    exact ⟨fun _ => by omega, fun _ => rfl⟩
def Optics.Ok (o : Optics) : Prop := -10000 ≤ o.launch ∧ o.launch ≤ 10000 ∧ -10000 ≤ o.least ∧ o.least ≤ o.most ∧ o.most ≤ 10000
theorem opticsFault_zero {o : Optics} : opticsFault o = 0 ↔ o.Ok := by
  unfold opticsFault Optics.Ok
  split
  · rename_i h
    simp only [Bool.or_eq_true, outB_true, decide_eq_true_eq] at h
    exact ⟨fun h => by omega, fun h => by omega⟩
  · rename_i h
    simp only [Bool.or_eq_true, not_or, Bool.not_eq_true, outB_false, decide_eq_false_iff_not] at h
    exact ⟨fun _ => by omega, fun _ => rfl⟩

def Part.Ok (p : Part) : Prop := (p.kind = 1 ∧ 1 ≤ p.amt ∧ p.amt ≤ 200000) ∨ (p.kind = 2 ∧ 0 ≤ p.amt ∧ p.amt ≤ 10000) ∨ (p.kind = 3 ∧ 1 ≤ p.amt ∧ p.amt ≤ 100) ∨ (p.kind = 4 ∧ 1 ≤ dbl p.amt)
theorem partFault_zero {p : Part} : partFault p = 0 ↔ p.Ok := by
  unfold partFault Part.Ok waysB
  by_cases h1 : p.kind = 1
  · simp only [h1, if_true]
    cases h : outB p.amt 1 200000
    · have := outB_false.1 h; simp; omega
    · have := outB_true.1 h; simp; omega
  · by_cases h2 : p.kind = 2
    · simp only [h2]
      cases h : outB p.amt 0 10000
      · have := outB_false.1 h; simp; omega
      · have := outB_true.1 h; simp; omega
    · by_cases h3 : p.kind = 3
      · simp only [h3]
        cases h : outB p.amt 1 100
        · have := outB_false.1 h; simp; omega
        · have := outB_true.1 h; simp; omega
      · by_cases h4 : p.kind = 4
        · simp [h4]
        · simp [h1, h2, h3, h4]
theorem partsFault_zero {l : List Part} : partsFault l = 0 ↔ l.length ≤ 1000 ∧ ∀ p ∈ l, p.Ok := by
  unfold partsFault
  split
  · exact ⟨fun h => by omega, fun h => by omega⟩
  · rw [firstF_zero]
    simp only [List.mem_map, forall_exists_index, and_imp, forall_apply_eq_imp_iff₂, partFault_zero]
    exact ⟨fun h => ⟨by omega, h⟩, fun h => h.2⟩

/-- a loss is small -/
theorem lossOf_bound {p : Part} {x : Losses} (hp : p.Ok) (hx : x.Ok) : 0 ≤ lossOf p x ∧ lossOf p x ≤ 200000 := by
  unfold lossOf
  unfold Losses.Ok at hx
  obtain ⟨a1, a2, b1, b2, c1, c2, d1, d2⟩ := hx
  rcases hp with ⟨hk, h1, h2⟩ | ⟨hk, h1, h2⟩ | ⟨hk, h1, h2⟩ | ⟨hk, h1⟩
  · rw [if_pos hk]
    have m1 : 0 ≤ x.perKm * p.amt := Int.mul_nonneg a1 (by omega)
    have m2 : x.perKm * p.amt ≤ 1000 * 200000 := Int.mul_le_mul a2 h2 (by omega) (by omega)
    omega
  · rw [if_neg (by omega), if_pos hk]; omega
  · rw [if_neg (by omega), if_neg (by omega), if_pos hk]
    have m1 : 0 ≤ x.conn * p.amt := Int.mul_nonneg b1 (by omega)
    have m2 : x.conn * p.amt ≤ 1000 * 100 := Int.mul_le_mul b2 h2 (by omega) (by omega)
    omega
  · rw [if_neg (by omega), if_neg (by omega), if_neg (by omega)]
    have := dbl_le p.amt
    have m1 : 0 ≤ x.dblg * dbl p.amt := Int.mul_nonneg c1 (by omega)
    have m2 : x.dblg * dbl p.amt ≤ 1000 * 7 := Int.mul_le_mul c2 this.2 (by omega) (by omega)
    omega
theorem total_bound {x : Losses} (hx : x.Ok) : ∀ {l : List Part}, (∀ p ∈ l, p.Ok) → 0 ≤ total l x ∧ total l x ≤ 200000 * l.length
  | [], _ => by simp [total]
  | p :: l, h => by
    have h1 := lossOf_bound (h p (by simp)) hx
    have h2 := total_bound hx (l := l) (fun q hq => h q (by simp [hq]))
    unfold total at *
    simp only [List.map_cons, List.sum_cons, List.length_cons]
    push_cast
    omega

def faultF (l : List Part) (x : Losses) (o : Optics) : Int := firstF [partsFault l, lossesFault x, opticsFault o]
theorem faultF_zero {l : List Part} {x : Losses} {o : Optics} : faultF l x o = 0 ↔ (l.length ≤ 1000 ∧ ∀ p ∈ l, p.Ok) ∧ x.Ok ∧ o.Ok := by
  unfold faultF
  rw [firstF_zero]
  simp [partsFault_zero, lossesFault_zero, opticsFault_zero]
def recvV (l : List Part) (x : Losses) (o : Optics) : Int := if faultF l x o = 0 then o.launch - total l x else 0
def marginV (l : List Part) (x : Losses) (o : Optics) : Int := if faultF l x o = 0 then o.launch - total l x - o.least else 0
theorem recvV_bound (l : List Part) (x : Losses) (o : Optics) : -300000000 ≤ recvV l x o ∧ recvV l x o ≤ 10000 := by
  unfold recvV
  split
  · rename_i h
    obtain ⟨⟨h1, h2⟩, h3, h4⟩ := faultF_zero.1 h
    have := total_bound h3 h2
    unfold Optics.Ok at h4
    omega
  · omega
theorem marginV_eq {l : List Part} {x : Losses} {o : Optics} (h : faultF l x o = 0) : marginV l x o = recvV l x o - o.least := by
  unfold marginV recvV; rw [if_pos h, if_pos h]
theorem marginV_bound (l : List Part) (x : Losses) (o : Optics) : -400000000 ≤ marginV l x o ∧ marginV l x o ≤ 20000 := by
  unfold marginV
  split
  · rename_i h
    obtain ⟨⟨h1, h2⟩, h3, h4⟩ := faultF_zero.1 h
    have := total_bound h3 h2
    unfold Optics.Ok at h4
    omega
  · omega
def attenV (l : List Part) (x : Losses) (o : Optics) : Int × Bool :=
  if faultF l x o ≠ 0 ∨ recvV l x o < o.least then (0, false) else (max 0 (recvV l x o - o.most), true)
def reachV (l : List Part) (x : Losses) (o : Optics) : Int × Bool :=
  if faultF l x o ≠ 0 ∨ marginV l x o < 0 then (0, false) else if x.perKm = 0 then (200000, true) else (min 200000 (marginV l x o * 1000 / x.perKm), true)
def repairsF (l : List Part) (x : Losses) (o : Optics) (s : Int) : Int := if faultF l x o = 0 then (if outB s 0 10000 then 1 else 0) else faultF l x o
def repairsV (l : List Part) (x : Losses) (o : Optics) (s : Int) : Int × Bool :=
  if repairsF l x o s ≠ 0 ∨ marginV l x o < 0 then (0, false) else if s = 0 then (1000000, true) else (min 1000000 (marginV l x o / s), true)

theorem running_len (x : Losses) : ∀ (l : List Part) (n : Int), (running l x n).length = l.length
  | [], _ => rfl
  | p :: l, n => by simp [running, running_len x l]
theorem running_at (x : Losses) : ∀ (l : List Part) (n : Int) (k : Nat) (h : k < (running l x n).length), (running l x n)[k] = n + total (l.take (k + 1)) x
  | p :: l, n, 0, _ => by simp [running, total]
  | p :: l, n, k + 1, h => by
    simp only [running, List.getElem_cons_succ, List.take_succ_cons]
    rw [running_at x l]
    unfold total
    simp only [List.map_cons, List.sum_cons]
    omega
/-- what has been appended after k rounds -/
theorem running_take_succ (x : Losses) (l : List Part) (k : Nat) (h : k < l.length) : (running l x 0).take (k + 1) = (running l x 0).take k ++ [total (l.take k) x + lossOf l[k] x] := by
  have hk : k < (running l x 0).length := by rw [running_len]; exact h
  rw [List.take_succ_eq_append_getElem hk, running_at, total_take_succ l x k h]
  simp
end Go.Proofs.YteliiknlpfjlkaaGreatDoor
