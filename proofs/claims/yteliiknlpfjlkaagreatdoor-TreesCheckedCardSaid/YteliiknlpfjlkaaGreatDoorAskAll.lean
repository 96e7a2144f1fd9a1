/- Texts of one subject in one: AskA, AskB, Itoa, AskC; what each shows stands at its head. No condition. -/
import Derived.Test.YteliiknlpfjlkaaGreatDoorTreeGH
import Derived.Test.YteliiknlpfjlkaaGreatDoorTreeAll
import Derived.Test.YteliiknlpfjlkaaGreatDoorTreeRef
import Derived.Test.YteliiknlpfjlkaaGreatDoorTreesP
import Derived.Test.YteliiknlpfjlkaaGreatDoorBelAll
import Derived.Test.YteliiknlpfjlkaaGreatDoorShelfB
import Derived.Test.YteliiknlpfjlkaaGreatDoorBase
import Derived.Lib.SmallJoins
import Derived.Lib.ItoaMem
import Derived.Lib.ItoaNum
import Derived.Lib.LaidTab
import Derived.Test.YteliiknlpfjlkaaGreatDoorOrders
import Derived.Deep.AppendLies
/- Walks of package tree: the drop of a customer, the chain to it, its ratio. -/
set_option linter.unusedVariables false
set_option linter.unusedSimpArgs false
namespace Go.Proofs.YteliiknlpfjlkaaGreatDoor
open Go Go.RowKit

def ChainPost (C : List Splt) (F : Int) (w : World) (e : Ending) (w' : World) : Prop := ∃ v, e = .returned (.tuple #[v, .int .i64 F]) ∧ Arr Splt.cells 4 w' C v ∧ Below w.heap.size w w'
end Go.Proofs.YteliiknlpfjlkaaGreatDoor
/- Walks of package tree: the keys to a customer, the product of ways. -/
set_option linter.unusedVariables false
set_option linter.unusedSimpArgs false
namespace Go.Proofs.YteliiknlpfjlkaaGreatDoor
open Go Go.RowKit

def RatioPost (r : Int × Int) (w : World) (e : Ending) (w' : World) : Prop := e = .returned (.tuple #[.int .i64 r.1, .int .i64 r.2]) ∧ Below w.heap.size w w'
end Go.Proofs.YteliiknlpfjlkaaGreatDoor
/- The text of a number, by the shelf's contract; the table that it reads stays. No condition. -/
set_option linter.unusedVariables false
set_option linter.unusedSimpArgs false
namespace Go.Proofs.YteliiknlpfjlkaaGreatDoor
open Go Go.RowKit

def Tab10 (w : World) : Prop := Lib.TabIs Tryz.prog w "internal/strconv.uint64pow10" .u64 Lib.pow10Tab
theorem Tab10.below {w w' : World} (h : Tab10 w) (hb : Below w.heap.size w w') : Tab10 w' := by
  unfold Tab10 Lib.TabIs World.var? at *
  cases hg : Tryz.prog.globalNamed "internal/strconv.uint64pow10" with
  | none => simp [hg] at h
  | some g =>
    simp only [hg, Option.bind_some] at h ⊢
    have hlt : g < w.heap.size := by
      rcases Nat.lt_or_ge g w.heap.size with h' | h'
      · exact h'
      · rw [Array.getElem?_eq_none h'] at h; simp at h
    rw [hb.block g hlt]
    exact h
/-- the digits of a number -/
def itoaZ (n : Int) : ByteArray := ⟨(Lib.itoa n).toArray⟩
def itoaB (n : Nat) : ByteArray := itoaZ n
theorem below_growI {B : Nat} {w : World} (hB : B ≤ w.heap.size) (k : Nat) (os : Array Obj) : Below B w (Sort.grow (w.drewN k) os) :=
  ⟨rfl, rfl, rfl, by show w.heap.size ≤ (w.heap ++ os).size; rw [Array.size_append]; omega, fun j hj => by show (w.heap ++ os)[j]? = w.heap[j]?; exact Array.getElem?_append_left (by omega)⟩
theorem itoaZ_any (n : Int) (h0 : -9223372036854775808 ≤ n) (h1 : n ≤ 9223372036854775807) (w : World) (ht : Tab10 w) : Calls Tryz.prog 58 #[.int .i64 n] w
    fun e w' => e = .returned (.string (itoaZ n)) ∧ Below w.heap.size w w' := by
  refine (Tryz.strconv_Itoa n h0 h1 w ht).mono ?_
  rintro e w' ⟨rfl, k, os, rfl⟩
  exact ⟨rfl, below_growI (Nat.le_refl _) k os⟩
theorem itoa_any (n : Nat) (hn : n ≤ 1000000000) (w : World) (ht : Tab10 w) : Calls Tryz.prog 58 #[.int .i64 n] w
    fun e w' => e = .returned (.string (itoaB n)) ∧ Below w.heap.size w w' := itoaZ_any n (by omega) (by omega) w ht
/-- a name and a number -/
def pairCells (p : ByteArray × Nat) : List Value := [.string p.1, .string (itoaB p.2)]
theorem pairCells_len (p : ByteArray × Nat) : (pairCells p).length = 2 := rfl
end Go.Proofs.YteliiknlpfjlkaaGreatDoor
/- Walks of package tree: the free ports of a splitter, of all; the customers below one; the splitters without any. -/
set_option linter.unusedVariables false
set_option linter.unusedSimpArgs false
namespace Go.Proofs.YteliiknlpfjlkaaGreatDoor
open Go Go.RowKit

theorem infoIntF : (Tryz.prog.info? 3).map (fun i => (i.zero, i.size, i.bytes)) = some (some (.int .i64 0), 1, 8) := by kernel_rfl
theorem below_undrew {w w' : World} (h : Below w.drew.heap.size w.drew w') : Below w.heap.size w w' := (Below.drew (Below.refl w.heap.size w)).trans h
theorem own_lowC {W : World} {B B' sz n : Nat} {e : TypeId} {v : Value} {xs : List Value} (h : W.ownsRow B e sz v n xs) (hb : B' ≤ B) : W.ownsRow B' e sz v n xs := own_low h hb
/-- the free ports of each splitter -/
def FreePost (l : List Splt) (d : List Drp) (w : World) (e : Ending) (w' : World) : Prop := ∃ v, e = .returned (.tuple #[v, .int .i64 (sumP l d : Nat), .int .i64 (treeF l d)]) ∧ Arr pairCells 2 w' (freeP l d) v ∧ Below w.heap.size w w'
/-- the tree in its box -/
structure AskSt (w0 W : World) (tb : Nat) (v1 v2 : Value) (l : List Splt) (d : List Drp) : Prop where
  b : Below w0.heap.size w0 W
  t : Blk W tb #[v1, v2] 60
  a1 : Arr Splt.cells 4 W l v1
  a2 : Arr Drp.cells 3 W d v2
theorem AskSt.below {w0 W W' : World} {tb : Nat} {v1 v2 : Value} {l : List Splt} {d : List Drp} (h : AskSt w0 W tb v1 v2 l d) (hb : Below W.heap.size W W') : AskSt w0 W' tb v1 v2 l d :=
  ⟨below_at h.b hb h.b.size, h.t.below hb h.t.lt, h.a1.below hb, h.a2.below hb⟩
end Go.Proofs.YteliiknlpfjlkaaGreatDoor
