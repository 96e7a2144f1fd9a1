/- Slices that a call has laid anew, beside a stream. No condition. -/
import Derived.Test.YteliiknlpfjlkaaGreatDoorStream2
set_option linter.unusedVariables false
set_option linter.unusedSimpArgs false
namespace Go.Proofs.YteliiknlpfjlkaaGreatDoor
open Go Go.RowKit

theorem Strm.grown {w w' : World} {s m : Nat} {row : Option Nat} (h : Strm w s m) (hg : w.grownBy w' row) (hr : ∀ k, row = some k → s < k) : Strm w' s m := by
  obtain ⟨a, n, cap, c, h1, h2, h3, h4⟩ := h
  have hl := h1.lt
  refine ⟨a, n, cap, c, h1.grown hg (by intro e; have := hr s e.symm; omega), h2, h3, fun i hi => ?_⟩
  obtain ⟨b, off, z, e, hne, hc, hz⟩ := h4 i hi
  exact ⟨b, off, z, e, hne, hg.cell hc (by intro e'; have := hr _ e'.symm; simp only at this; omega), hz⟩

/-- a slice that lies at or above block s, with some data -/
def NewArr {α : Type} (cells : α → List Value) (sz s : Nat) (v : Value) (w : World) : Prop := ∃ l : List α, Arr cells sz w l v ∧ ∀ b off n cap, v = .slice (some ⟨b, off, none⟩) n cap → s < b

theorem Arr.grownBy {α : Type} {cells : α → List Value} {sz : Nat} {w w' : World} {l : List α} {v : Value} {s : Nat} (h : Arr cells sz w l v) (hg : w.grownBy w' (some s)) (hne : ∀ b off n cap, v = .slice (some ⟨b, off, none⟩) n cap → s < b) : Arr cells sz w' l v := by
  obtain ⟨a, cap', rfl, h2, h3, h4⟩ := h
  refine ⟨a, cap', rfl, h2, h3, fun k hk => ?_⟩
  obtain ⟨b', off', ha, hb, hc⟩ := h4 k hk
  have := hne b' off' l.length cap' (by rw [ha])
  exact ⟨_, _, ha, Nat.lt_of_lt_of_le hb hg.size, fun j u hu => hg.cell (hc j u hu) (by simp; omega)⟩

theorem own_grown {w w' : World} {base : Nat} {e : TypeId} {size : Nat} {v : Value} {n s : Nat} {xs : List Value} (h : w.ownsRow base e size v n xs) (hg : w.grownBy w' (some s)) (hs : s < base) : w'.ownsRow base e size v n xs := by
  refine h.kept hg ?_
  cases hv : v.ownBlock with
  | none => exact .inl rfl
  | some k => right; have := (h.lt k hv).1; simp; omega

theorem grown_app {w w' w'' : World} {base : Nat} {e : TypeId} {size : Nat} {v : Value} {n s : Nat} {xs : List Value} (h : w.grownBy w' (some s)) (ho : w'.ownsRow base e size v n xs) (hg : w'.grownBy w'' v.ownBlock) (hb : w.heap.size ≤ base) : w.grownBy w'' (some s) := by
  refine ⟨hg.os.trans h.os, hg.tape.trans h.tape, hg.output.trans h.output, Nat.le_trans h.size hg.size, fun k hk hr => (hg.block k (Nat.lt_of_lt_of_le hk h.size) ?_).trans (h.block k hk hr)⟩
  intro e'
  have := (ho.lt k e'.symm).1
  omega
theorem strm_app {w' w'' : World} {base : Nat} {e : TypeId} {size : Nat} {v : Value} {n s m : Nat} {xs : List Value} (h : Strm w' s m) (ho : w'.ownsRow base e size v n xs) (hg : w'.grownBy w'' v.ownBlock) (hb : s < base) : Strm w'' s m :=
  h.grown hg fun k hk => by have := (ho.lt k hk).1; omega
end Go.Proofs.YteliiknlpfjlkaaGreatDoor
