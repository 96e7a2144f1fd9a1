/- Texts of one subject in one: CatS, CatD, Own; what each shows stands at its head. No condition. -/
import Derived.Test.YteliiknlpfjlkaaGreatDoorMemAll
import Derived.Test.YteliiknlpfjlkaaGreatDoorPlainT
import Derived.Test.YteliiknlpfjlkaaGreatDoorAppA
import Derived.Test.YteliiknlpfjlkaaGreatDoorOrders
import Derived.Test.YteliiknlpfjlkaaGreatDoorProg
import Derived.Shelf.Spec.SlicesInsertGrow
/- Walk: slices.Grow of no slice, slices.Concat of two. -/
set_option linter.unusedVariables false
set_option linter.unusedSimpArgs false
namespace Go.Proofs.YteliiknlpfjlkaaGreatDoor
open Go Go.RowKit

theorem infoC_splt : (Tryz.prog.info? 100).map (fun i => (i.zero, i.size, i.bytes)) = some (some (.agg #[.string ⟨#[]⟩, .int .i64 0, .string ⟨#[]⟩, .int .i64 0]), 4, 48) := by kernel_rfl
theorem oneC_splt (l : List Splt) : ∀ u ∈ l.flatMap Splt.cells, u.oneCell' = true := by
  intro u hu
  obtain ⟨c, _, hc⟩ := List.mem_flatMap.1 hu
  simp [Splt.cells] at hc
  rcases hc with rfl | rfl | rfl | rfl <;> rfl
--ONCE
theorem own_grownC {W W' : World} {B sz n : Nat} {e : TypeId} {v : Value} {xs : List Value} (h : W.ownsRow B e sz v n xs) (hg : W.grownBy W' v.ownBlock) (hB : B ≤ W.heap.size) : Below B W W' :=
  ⟨hg.os, hg.tape, hg.output, hg.size, fun k hk => hg.block k (by omega) (fun e => by have := (h.lt k e.symm).1; omega)⟩
--ONCE END
/-- of the first k of two -/
def catN_splt (a b : Nat) : Nat → Nat | 0 => 0 | 1 => a | _ => a + b
def catL_splt (a b : List Splt) : Nat → List Splt | 0 => [] | 1 => a | _ => a ++ b
end Go.Proofs.YteliiknlpfjlkaaGreatDoor
/- Walk: slices.Grow of no slice, slices.Concat of two. -/
set_option linter.unusedVariables false
set_option linter.unusedSimpArgs false
namespace Go.Proofs.YteliiknlpfjlkaaGreatDoor
open Go Go.RowKit

theorem infoC_drp : (Tryz.prog.info? 102).map (fun i => (i.zero, i.size, i.bytes)) = some (some (.agg #[.string ⟨#[]⟩, .string ⟨#[]⟩, .int .i64 0]), 3, 40) := by kernel_rfl
theorem oneC_drp (l : List Drp) : ∀ u ∈ l.flatMap Drp.cells, u.oneCell' = true := by
  intro u hu
  obtain ⟨c, _, hc⟩ := List.mem_flatMap.1 hu
  simp [Drp.cells] at hc
  rcases hc with rfl | rfl | rfl <;> rfl
/-- of the first k of two -/
def catN_drp (a b : Nat) : Nat → Nat | 0 => 0 | 1 => a | _ => a + b
def catL_drp (a b : List Drp) : Nat → List Drp | 0 => [] | 1 => a | _ => a ++ b
end Go.Proofs.YteliiknlpfjlkaaGreatDoor
/- Rows of different element types never share a block. No program. -/
set_option linter.unusedVariables false
set_option linter.unusedSimpArgs false
namespace Go.Proofs.YteliiknlpfjlkaaGreatDoor
open Go Go.RowKit

theorem own_neM {W : World} {B sz n c : Nat} {e t : TypeId} {v : Value} {xs : List Value} {cs : Array Value} (h : W.ownsRow B e sz v n xs) (hb : Blk W c cs t) (ht : e ≠ t) : v.ownBlock ≠ some c := by
  intro hc
  rcases h.2 with ⟨rfl, _⟩ | ⟨g, cap, cur, rfl, _, hh, _⟩
  · cases hc
  · simp only [Value.ownBlock, Option.some.injEq] at hc
    subst hc
    unfold Blk at hb
    rw [hb] at hh
    have hh := hh
    simp at hh; exact ht (by first | exact hh.2 | exact hh.2.symm | (obtain ⟨_, h9⟩ := hh; first | exact h9 | exact h9.symm))
theorem own_apart {W : World} {B B' sz sz' n n' : Nat} {e e' : TypeId} {v v' : Value} {xs xs' : List Value} (h : W.ownsRow B e sz v n xs) (h' : W.ownsRow B' e' sz' v' n' xs') (ht : e ≠ e') : ∀ k, v.ownBlock = some k → v'.ownBlock = some k → False := by
  intro k h1 h2
  rcases h.2 with ⟨rfl, _⟩ | ⟨g, cap, cur, rfl, _, hh, _⟩
  · cases h1
  · simp only [Value.ownBlock, Option.some.injEq] at h1
    subst h1
    exact own_neM h' (show Blk W g cur e from hh) (fun e => ht e.symm) h2
end Go.Proofs.YteliiknlpfjlkaaGreatDoor
