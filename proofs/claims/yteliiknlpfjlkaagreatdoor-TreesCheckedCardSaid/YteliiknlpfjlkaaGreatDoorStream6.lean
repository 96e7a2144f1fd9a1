/- Walks of the stream: what draws lists of classes. -/
import Derived.Test.YteliiknlpfjlkaaGreatDoorStreamL
import Derived.Test.YteliiknlpfjlkaaGreatDoorOrders
import Derived.Test.YteliiknlpfjlkaaGreatDoorLibB
import Derived.Test.YteliiknlpfjlkaaGreatDoorRowPut
set_option linter.unusedVariables false
set_option linter.unusedSimpArgs false
namespace Go.Proofs.YteliiknlpfjlkaaGreatDoor
open Go Go.RowKit

theorem Arr.grownRow {α : Type} {cells : α → List Value} {sz : Nat} {w w' : World} {l : List α} {b off n cap : Nat} {row : Option Nat} (h : Arr cells sz w l (.slice (some ⟨b, off, none⟩) n cap)) (hg : w.grownBy w' row) (hne : row ≠ some b) : Arr cells sz w' l (.slice (some ⟨b, off, none⟩) n cap) := by
  obtain ⟨a, cap', he, h2, h3, h4⟩ := h
  refine ⟨a, cap', he, h2, h3, fun k hk => ?_⟩
  obtain ⟨b', off', ha, hb, hc⟩ := h4 k hk
  simp only [Value.slice.injEq] at he
  obtain ⟨he, _, _⟩ := he
  rw [ha] at he
  simp only [Option.some.injEq, Addr.mk.injEq, and_true] at he
  obtain ⟨rfl, rfl⟩ := he
  exact ⟨_, _, ha, Nat.lt_of_lt_of_le hb hg.size, fun j u hu => hg.cell (hc j u hu) (fun e => hne e.symm)⟩

theorem genLit {C : World → Prop} {W : World} {cs : Array Value} {t : TypeId} (s n : Nat) (l : List Int) (hcs : cs.toList = l.map (Value.int .i64)) (hn : n = l.length) (hl : l.length ≤ 1000000)
    (h : ∀ W', W.grownBy W' (some s) → (∀ m, Strm W s m → Strm W' s m) → Arr intCells 1 W' l (.slice (some ⟨W.heap.size, 0, none⟩) n n) → C W') : C (W.alloc (.cells cs t)) :=
  h _ (World.grownBy_alloc W _ _) (fun _ hs => hs.alloc _) (arr_ints_lit rfl hn hcs hl)
theorem genStr {C : World → Prop} {W : World} {cs : Array Value} {t : TypeId} (s n : Nat) (l : List ByteArray) (hcs : cs.toList = l.flatMap strCells) (hn : n = l.length) (hl : l.length ≤ 1000000)
    (h : ∀ W', W.grownBy W' (some s) → (∀ m, Strm W s m → Strm W' s m) → Arr strCells 1 W' l (.slice (some ⟨W.heap.size, 0, none⟩) n n) → C W') : C (W.alloc (.cells cs t)) :=
  h _ (World.grownBy_alloc W _ _) (fun _ hs => hs.alloc _) (Arr.litAt (cells := strCells) (sz := 1) (l := l) (fun _ => rfl) rfl hcs hn (by rw [hn]; unfold maxLen; omega))
theorem slice_ne {s q k : Nat} (h : s < q) : ∀ n cap off, Value.slice (some ⟨q, 0, none⟩) k k ≠ .slice (some ⟨s, off, none⟩) n cap := by
  intro n cap off e
  simp only [Value.slice.injEq, Option.some.injEq, Addr.mk.injEq] at e
  omega
theorem slice_low {s g n cap : Nat} (h : s < g) : ∀ b off n' cap', Value.slice (some ⟨g, 0, none⟩) n cap = .slice (some ⟨b, off, none⟩) n' cap' → s < b := by
  intro b off n' cap' e
  simp only [Value.slice.injEq, Option.some.injEq, Addr.mk.injEq] at e
  have := e.1.1
  omega
theorem own_off {w : World} {base : Nat} {e : TypeId} {size : Nat} {g off n cap m : Nat} {xs : List Value} (h : w.ownsRow base e size (.slice (some ⟨g, off, none⟩) n cap) m xs) : off = 0 := by
  obtain ⟨_, h2⟩ := h
  rcases h2 with ⟨e, _⟩ | ⟨_, _, _, e, _⟩
  · cases e
  · simp only [Value.slice.injEq, Option.some.injEq, Addr.mk.injEq] at e; exact e.1.2.1
theorem class_cells {w : World} {g k : Nat} {l : List Class} {c : Class} (hc : ∃ h : k < l.length, l[k] = c) (h : Row Class.cells 3 w g l) :
    w.cell? ⟨g, k * 3, none⟩ = some (.string c.key) ∧ w.cell? ⟨g, k * 3 + 1, none⟩ = some (.int .i64 c.min) ∧ w.cell? ⟨g, k * 3 + 2, none⟩ = some (.int .i64 c.max) := by
  obtain ⟨hk, rfl⟩ := hc
  have e : ∀ j, (⟨g, 0 + k * 3 + j, none⟩ : Addr) = ⟨g, k * 3 + j, none⟩ := fun j => by rw [Nat.zero_add]
  exact ⟨by have := h.1 k hk 0 _ rfl; rw [e] at this; exact this, by have := h.1 k hk 1 _ rfl; rw [e] at this; exact this, by have := h.1 k hk 2 _ rfl; rw [e] at this; exact this⟩
theorem class_other0 {k : Nat} {l : List Class} {c : Class} {a : ByteArray} (hc : ∃ h : k < l.length, l[k] = c) : ∀ j, j ≠ 0 → (Class.cells ⟨a, c.min, c.max⟩)[j]? = (Class.cells (l[k]'hc.1))[j]? := by
  obtain ⟨hk, rfl⟩ := hc
  intro j hj
  cases j with
  | zero => exact absurd rfl hj
  | succ j => rfl
theorem class_other2 {k : Nat} {l : List Class} {a : ByteArray} {x y z : Int} (hk : k < l.length) : ∀ j, j ≠ 2 → (Class.cells ⟨a, x, z⟩)[j]? = (Class.cells ((l.set k ⟨a, x, y⟩)[k]'(by rw [List.length_set]; exact hk)))[j]? := by
  intro j hj
  rw [List.getElem_set_self]
  match j with
  | 0 => rfl
  | 1 => rfl
  | 2 => exact absurd rfl hj
  | j + 3 => rfl

end Go.Proofs.YteliiknlpfjlkaaGreatDoor
