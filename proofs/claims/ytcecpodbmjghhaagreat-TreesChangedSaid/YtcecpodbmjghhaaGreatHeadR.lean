/- Texts of one subject in one: Loss, Ready, LawHead; what each shows stands at its head. No condition. -/
import Derived.Test.YtcecpodbmjghhaaGreatWalkAll
import Derived.Test.YtcecpodbmjghhaaGreatSchedAll
import Derived.Test.YtcecpodbmjghhaaGreatTreeAll
import Derived.Test.YtcecpodbmjghhaaGreatStrA
import Derived.OpenShut
/- Walks: budget.Loss, and the laws' 'budgeted'. -/
set_option linter.unusedVariables false
set_option linter.unusedSimpArgs false
namespace Go.Proofs.YtcecpodbmjghhaaGreat
open Go Go.RowKit
end Go.Proofs.YtcecpodbmjghhaaGreat
/- Walks: the properties' 'ready' and the laws' 'grown'. -/
namespace Go.Proofs.YtcecpodbmjghhaaGreat
open Go Go.RowKit
def keyS : ByteArray := ⟨#[115]⟩
theorem grownSplit : splitterF [⟨keyS, 2, ⟨#[]⟩, 0⟩] [⟨⟨#[107]⟩, keyS, 2⟩] keyS = 0 := by decide +kernel
theorem grownPorts : portsL [⟨keyS, 2, ⟨#[]⟩, 0⟩] [⟨⟨#[107]⟩, keyS, 2⟩] keyS = [⟨#[]⟩, ⟨#[107]⟩] := by decide +kernel
end Go.Proofs.YtcecpodbmjghhaaGreat
/- What a law's walk begins with: a row of integers that came in, and the stream over it. -/
namespace Go.Proofs.YtcecpodbmjghhaaGreat
open Go Go.RowKit
/-- what the walk is told of a slice of integers that came in -/
def IsRow (k : IntKind) (w : World) (a : Option Addr) (len cap : Nat) (zs : List Int) : Prop :=
  (a = none ∧ len = 0 ∧ cap = 0 ∧ zs = []) ∨
  ∃ x, a = some x ∧ len ≤ cap ∧ cap ≤ maxLen ∧ zs.length = cap ∧ (∀ i, i < zs.length → w.cell? (x.add i) = some (.int k (zs.getD i 0))) ∧ ∀ n ∈ zs, (Lit.int k n).wf = true
theorem addr_add (b off i : Nat) : ((⟨b, off, none⟩ : Addr).add i) = ⟨b, off + i, none⟩ := by
  unfold Addr.add
  split
  · rename_i h; simp [h]
  · rfl
theorem strm_start {w : World} {a : Option Addr} {len cap : Nat} {zs : List Int} (h : IsRow .i64 w a len cap zs) : Strm (w.alloc (.cells #[.slice a len cap, .int .i64 0] 25)) w.heap.size 0 := by
  refine ⟨a, len, cap, 0, Blk.new w _ _, Nat.le_refl _, ?_, fun i hi => ?_⟩
  · rcases h with ⟨_, rfl, _⟩ | ⟨_, _, h1, h2, _⟩
    · simp
    · omega
  · rcases h with ⟨_, rfl, _⟩ | ⟨x, rfl, h1, h2, h3, h4, h5⟩
    · omega
    · have hc := h4 i (by omega)
      have hc0 := h4 0 (by omega)
      obtain ⟨b, off, spot⟩ := x
      have hspot : spot = none := by simpa [Addr.add] using World.cell?_spot hc0
      subst hspot
      have hbl := World.block_lt_of_cell? _ _ hc
      rw [addr_add] at hc hbl
      have hw := bounds_i64 (h5 (zs.getD i 0) (by rw [List.getD_eq_getElem?_getD, List.getElem?_eq_getElem (by omega)]; exact List.getElem_mem _))
      refine ⟨b, off, zs.getD i 0, rfl, hbl, ?_, hw.1, hw.2⟩
      exact (World.cell?_alloc_lt _ _ _ hbl).trans hc
theorem below_row {w w' : World} (h : w.grownBy w' (some w.heap.size)) : Below w.heap.size w w' :=
  ⟨h.os, h.tape, h.output, h.size, fun k hk => h.block k hk (by simp; omega)⟩
end Go.Proofs.YtcecpodbmjghhaaGreat
