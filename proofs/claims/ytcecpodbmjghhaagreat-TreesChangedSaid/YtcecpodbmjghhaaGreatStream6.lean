/- Walks of the stream: what draws lists of classes. -/
import Derived.Test.YtcecpodbmjghhaaGreatStrA
import Derived.Test.YtcecpodbmjghhaaGreatOrders
import Derived.Test.YtcecpodbmjghhaaGreatLibB
set_option linter.unusedVariables false
set_option linter.unusedSimpArgs false
namespace Go.Proofs.YtcecpodbmjghhaaGreat
open Go Go.RowKit
theorem genLit {C : World → Prop} {W : World} {cs : Array Value} {t : TypeId} (s n : Nat) (l : List Int) (hcs : cs.toList = l.map (Value.int .i64)) (hn : n = l.length) (hl : l.length ≤ 1000000)
    (h : ∀ W', W.grownBy W' (some s) → (∀ m, Strm W s m → Strm W' s m) → Arr intCells 1 W' l (.slice (some ⟨W.heap.size, 0, none⟩) n n) → C W') : C (W.alloc (.cells cs t)) :=
  h _ (World.grownBy_alloc W _ _) (fun _ hs => hs.alloc _) (arr_ints_lit rfl hn hcs hl)
theorem genStr {C : World → Prop} {W : World} {cs : Array Value} {t : TypeId} (s n : Nat) (l : List ByteArray) (hcs : cs.toList = l.flatMap strCells) (hn : n = l.length) (hl : l.length ≤ 1000000)
    (h : ∀ W', W.grownBy W' (some s) → (∀ m, Strm W s m → Strm W' s m) → Arr strCells 1 W' l (.slice (some ⟨W.heap.size, 0, none⟩) n n) → C W') : C (W.alloc (.cells cs t)) :=
  h _ (World.grownBy_alloc W _ _) (fun _ hs => hs.alloc _) (Arr.litAt (cells := strCells) (sz := 1) (l := l) (fun _ => rfl) rfl hcs hn (by rw [hn]; unfold maxLen; omega))
theorem slice_ne {s q k : Nat} (h : s < q) : ∀ n cap off, Value.slice (some ⟨q, 0, none⟩) k k ≠ .slice (some ⟨s, off, none⟩) n cap := by
  intro n cap off e
  simp only [Value.slice.injEq, Option.some.injEq, Addr.mk.injEq] at e
  omega
end Go.Proofs.YtcecpodbmjghhaaGreat
