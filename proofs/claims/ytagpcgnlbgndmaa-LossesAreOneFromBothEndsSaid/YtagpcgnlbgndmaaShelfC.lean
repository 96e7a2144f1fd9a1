/-
  DERIVED: THE SHELF's CONTRACTS AT THIS DUMP, IN PLAIN WORDS (the kit's lay-plain.mjs out of two layings): Reverse at parts, IsSorted at int.
-/
import Derived.Shelf.SlicesQ.Reverse
import Derived.Shelf.SlSorted.IsSorted
import Derived.Ground.SlgnProg
import Derived.Ground.SlsoProg
import Derived.Test.YtagpcgnlbgndmaaProg
set_option linter.unusedVariables false
set_option linter.unusedSimpArgs false
namespace Go.Proofs
open Go.Shelf
def Try.revParts_ren : Go.Shelf.Ren := ⟨fun | 35 => 55 | n => n, fun | 22 => 26 | 23 => 81 | 3 => 3 | 4 => 4 | 0 => 0 | n => n, fun | n => n⟩
theorem Try.revParts : Go.Proofs.SlLaysE0.n35 Try.prog Try.revParts_ren := {
  mixed := by kernel_rfl
  f35 := ⟨Try.f55.name, by decide, Try.func55.trans (congrArg some (by kernel_rfl))⟩
  t0 := Try.underlying0
  a0 := Try.isAgg0
  z0 := Try.sizeOf0
  v0 := Try.zeroValue0
  t3 := Try.underlying3
  a3 := Try.isAgg3
  z3 := Try.sizeOf3
  v3 := Try.zeroValue3
  t4 := Try.underlying4
  a4 := Try.isAgg4
  z4 := Try.sizeOf4
  v4 := Try.zeroValue4
  t22 := Try.underlying26
  a22 := Try.isAgg26
  z22 := Try.sizeOf26
  v22 := Try.zeroValue26 }
def Try.sortedInt_ren : Go.Shelf.Ren := ⟨fun | 10 => 58 | 18 => 120 | 24 => 142 | n => n, fun | 22 => 22 | 24 => 3 | 4 => 4 | 3 => 3 | 0 => 0 | n => n, fun | n => n⟩
theorem Try.sortedInt : Go.Proofs.SlLaysO.n10 Try.prog Try.sortedInt_ren := {
  mixed := by kernel_rfl
  f10 := ⟨Try.f58.name, by decide, Try.func58.trans (congrArg some (by kernel_rfl))⟩
  f18 := ⟨Try.f120.name, by decide, Try.func120.trans (congrArg some (by kernel_rfl))⟩
  f24 := ⟨Try.f142.name, by decide, Try.func142.trans (congrArg some (by kernel_rfl))⟩
  t0 := Try.underlying0
  a0 := Try.isAgg0
  z0 := Try.sizeOf0
  v0 := Try.zeroValue0
  t3 := Try.underlying3
  a3 := Try.isAgg3
  z3 := Try.sizeOf3
  v3 := Try.zeroValue3
  t4 := Try.underlying4
  a4 := Try.isAgg4
  z4 := Try.sizeOf4
  v4 := Try.zeroValue4
  t22 := Try.underlying22
  a22 := Try.isAgg22
  z22 := Try.sizeOf22
  v22 := Try.zeroValue22
  t24 := Try.underlying3
  a24 := Try.isAgg3
  z24 := Try.sizeOf3
  v24 := Try.zeroValue3 }
end Go.Proofs
