/- The plain mathematics of classes of losses. -/
import Derived.Test.YteliiknlpfjlkaaGreatDoorPlainB
import Derived.Test.YteliiknlpfjlkaaGreatDoorKeysAll
set_option linter.unusedVariables false
set_option linter.unusedSimpArgs false
namespace Go.Proofs.YteliiknlpfjlkaaGreatDoor
open Go Go.RowKit

/-- are the strings the same (as the walk has it) -/
def strB (a b : ByteArray) : Bool := a.toList == b.toList
theorem strB_iff {a b : ByteArray} : strB a b = true ↔ a = b := by
  unfold strB
  simp only [beq_iff_eq, ByteArray.toList_eq]
  constructor
  · intro h
    obtain ⟨a⟩ := a
    obtain ⟨b⟩ := b
    congr 1
    exact Array.toList_inj.1 h
  · intro h; rw [h]
instance : Inhabited Class := ⟨⟨ByteArray.empty, 0, 0⟩⟩
/-- the error of a class behind earlier ones -/
def clsFault (ear : List Class) (c : Class) : Int :=
  if keyB c.key then (if ear.any (fun y => strB y.key c.key) then 6 else if outB c.min 0 c.max || decide (10000 < c.max) then 1 else 0) else 5
def clsFaults (c : List Class) : List Int := (List.range c.length).map fun k => clsFault (c.take k) (c.getD k default)
def classesF (c : List Class) : Int := if 20 < c.length then 2 else firstF (clsFaults c)
theorem clsFaults_len (c : List Class) : (clsFaults c).length = c.length := by simp [clsFaults]
theorem clsFaults_at (c : List Class) (k : Nat) (h : k < c.length) (h' : k < (clsFaults c).length) : (clsFaults c)[k] = clsFault (c.take k) c[k] := by
  simp [clsFaults, List.getD_eq_getElem?_getD, h]

/-- the one with the lesser Max; the earlier one of two -/
def stepC (m c : Class) : Class := if c.max < m.max then c else m
def minC : List Class → Class
  | [] => default
  | c :: r => r.foldl stepC c
theorem minC_snoc : ∀ (l : List Class) (c : Class), l ≠ [] → minC (l ++ [c]) = stepC (minC l) c
  | c0 :: r, c, _ => by simp [minC, List.foldl_append]
theorem minC_take_succ (l : List Class) (k : Nat) (h : k < l.length) (hk : 0 < k) : minC (l.take (k + 1)) = stepC (minC (l.take k)) l[k] := by
  rw [List.take_succ_eq_append_getElem h]
  exact minC_snoc _ _ (by intro e; have := congrArg List.length e; rw [List.length_take, List.length_nil] at this; omega)
def inC (n : Int) (c : Class) : Bool := !outB n c.min c.max
/-- what ClassOf tells of a loss: the key, and whether there is one -/
def classFor (n : Int) (c : List Class) : ByteArray × Bool := if c.filter (inC n) = [] then (⟨#[]⟩, false) else ((minC (c.filter (inC n))).key, true)
end Go.Proofs.YteliiknlpfjlkaaGreatDoor
