/- Texts of one subject in one: SwapR, SwapC, Rep, StreamS; what each shows stands at its head. No condition. -/
import Derived.Test.YteliiknlpfjlkaaGreatDoorSwpAll
import Derived.Test.YteliiknlpfjlkaaGreatDoorRefBAll
import Derived.Test.YteliiknlpfjlkaaGreatDoorNone
import Derived.Test.YteliiknlpfjlkaaGreatDoorKeepA
import Derived.RegionTactic
import Derived.Test.YteliiknlpfjlkaaGreatDoorMemAll
import Derived.Test.YteliiknlpfjlkaaGreatDoorShelf
import Derived.Test.YteliiknlpfjlkaaGreatDoorOrders
import Derived.Shelf.Spec.SlicesInsert
import Derived.Test.YteliiknlpfjlkaaGreatDoorStream6
/- Walk: the reference's error of a list of swaps. -/
set_option linter.unusedVariables false
set_option linter.unusedSimpArgs false
namespace Go.Proofs.YteliiknlpfjlkaaGreatDoor
open Go Go.RowKit

theorem swap_first (n : Nat) (s : Swap) : firstF [noneV (outB s.at_ 0 ((n : Int) - 1)), partFault s.by_, spanF s.price 0 1000000000] = swapFault n s := by
  unfold swapFault spanF noneV
  cases outB s.at_ 0 ((n : Int) - 1) <;> by_cases h : partFault s.by_ = 0 <;> cases outB s.price 0 1000000000 <;> simp [firstF, h]

end Go.Proofs.YteliiknlpfjlkaaGreatDoor
/- Walks: copies of swaps; whether two lists of parts, of swaps are the same. -/
set_option linter.unusedVariables false
set_option linter.unusedSimpArgs false
namespace Go.Proofs.YteliiknlpfjlkaaGreatDoor
open Go Go.RowKit

theorem Swap.cells_len (s : Swap) : s.cells.length = 4 := rfl
theorem swap_one (l : List Swap) : ∀ u ∈ l.flatMap Swap.cells, u.oneCell' = true := by
  intro u hu
  obtain ⟨c, _, hc⟩ := List.mem_flatMap.1 hu
  simp [Swap.cells] at hc
  rcases hc with rfl | rfl | rfl | rfl <;> rfl
set_option maxHeartbeats 1000000 in
set_option maxRecDepth 100000 in
theorem same_part (v1 v2 : Value) (l : List Part) (w : World) (h1 : Arr Part.cells 2 w l v1) (h2 : Arr Part.cells 2 w l v2) : Calls Tryz.prog 27 #[v1, v2] w
    fun e w' => e = .returned (.bool true) ∧ Below w.heap.size w w' := by
  obtain ⟨a, cap, rfl, hcap, hmax, hc⟩ := h1
  obtain ⟨a2, cap2, rfl, hcap2, hmax2, hc2⟩ := h2
  have hlen : l.length ≤ maxLen := by omega
  unfold maxLen at hlen hmax hmax2
  go_enter Tryz.func27, Tryz.ntmps27
  go_wp2
  go_loopw [13] (fun i wr => ∃ k : Nat, k ≤ l.length ∧ i = .int .i64 k ∧ Below w.heap.size w wr) (fun i _ => l.length - (intOf i).toNat)
  case atStart => exact ⟨0, by omega, rfl, Below.refl _ _⟩
  case round =>
    obtain ⟨k, hk, rfl, hB⟩ := hrel
    have hsz := hB.size
    by_cases hlt : k < l.length
    · obtain ⟨b, off, rfl, hb, hcc⟩ := hc k hlt
      obtain ⟨c0, c1⟩ := part_at hcc
      replace c0 := (hB.cell (p := ⟨b, _, none⟩) hb).trans c0
      replace c1 := (hB.cell (p := ⟨b, _, none⟩) hb).trans c1
      obtain ⟨b2, off2, rfl, hb2, hcc2⟩ := hc2 k hlt
      obtain ⟨d0, d1⟩ := part_at hcc2
      replace d0 := (hB.cell (p := ⟨b2, _, none⟩) hb2).trans d0
      replace d1 := (hB.cell (p := ⟨b2, _, none⟩) hb2).trans d1
      clear hc hcc hc2 hcc2
      go_wp2_with fail
      go_region
      go_wp2
      go_roundw
      case rel => exact ⟨k + 1, by omega, by go_num, by (repeat (first | exact Below.refl _ _ | assumption | refine below_draws ?_ _ | refine Below.drew ?_ | refine below_alloc ?_ _ (by first | omega | (simp; done) | (simp; omega)) | refine Below.setCell ?_ (by first | omega | (simp; done) | (simp; omega)) _ | refine below_at ?_ (by assumption) (by first | omega | (simp; done) | (simp; omega))))⟩
      case measure => simp [intOf]; omega
    · go_wp2
      go_ret
      exact ⟨rfl, by (repeat (first | exact Below.refl _ _ | assumption | refine below_draws ?_ _ | refine Below.drew ?_ | refine below_alloc ?_ _ (by first | omega | (simp; done) | (simp; omega)) | refine Below.setCell ?_ (by first | omega | (simp; done) | (simp; omega)) _ | refine below_at ?_ (by assumption) (by first | omega | (simp; done) | (simp; omega))))⟩
end Go.Proofs.YteliiknlpfjlkaaGreatDoor
/- Walk: slices.Repeat of one swap. -/
set_option linter.unusedVariables false
set_option linter.unusedSimpArgs false
namespace Go.Proofs.YteliiknlpfjlkaaGreatDoor
open Go Go.RowKit

theorem made_swaps (c : Nat) : (madeCells (Value.agg #[.int .i64 0, .int .i64 0, .int .i64 0, .int .i64 0]).cells (c * 4)).toList = (List.replicate c (⟨0, ⟨0, 0⟩, 0⟩ : Swap)).flatMap Swap.cells := by
  apply List.ext_getElem
  · rw [flat_len Swap.cells_len]; simp [madeCells, Value.cells]
  · intro i h1 h2
    rw [flat_len Swap.cells_len, List.length_replicate] at h2
    have h3 := flat_at Swap.cells_len (List.replicate c (⟨0, ⟨0, 0⟩, 0⟩ : Swap)) (i / 4) (by simp; omega) (i % 4) (by omega)
    rw [show i / 4 * 4 + i % 4 = i by omega, List.getElem?_eq_getElem (by rw [flat_len Swap.cells_len]; simpa using h2)] at h3
    have h4 : i % 4 < 4 := by omega
    rw [List.getElem_replicate] at h3
    have h5 : ∀ j, j < 4 → (Swap.cells ⟨0, ⟨0, 0⟩, 0⟩)[j]? = some (.int .i64 0) := by
      intro j hj
      match j with
      | 0 => rfl
      | 1 => rfl
      | 2 => rfl
      | 3 => rfl
      | j + 4 => omega
    rw [h5 _ h4] at h3
    simp only [Option.some.injEq] at h3
    rw [h3]
    have h6 : ∀ j, j < 4 → (#[Value.int .i64 0, .int .i64 0, .int .i64 0, .int .i64 0] : Array Value)[j]? = some (.int .i64 0) := by
      intro j hj
      match j with
      | 0 => rfl
      | 1 => rfl
      | 2 => rfl
      | 3 => rfl
      | j + 4 => omega
    have h7 := h6 _ h4
    simp [madeCells, Value.cells]
    simp at h7
    rw [h7]; rfl

theorem swaps_one (l : List Swap) : ∀ u ∈ l.flatMap Swap.cells, u.oneCell' = true := swap_one l
theorem grown_belowB2 {a b : World} (h : a.grownBy b none) : Below a.heap.size a b := ⟨h.os, h.tape, h.output, h.size, fun k hk => h.block k hk (by simp)⟩
/-- the first n of the row are sw -/
def HeadSw (sw : Swap) (n : Nat) (L : List Swap) : Prop := L.take n = List.replicate n sw
end Go.Proofs.YteliiknlpfjlkaaGreatDoor
/- Walk of the stream: swaps of parts. -/
set_option linter.unusedVariables false
set_option linter.unusedSimpArgs false
namespace Go.Proofs.YteliiknlpfjlkaaGreatDoor
open Go Go.RowKit

/-- what has been drawn: swaps in memory of their own -/
structure SwSt (w : World) (s M : Nat) (V : Value) (l : List Swap) (W : World) : Prop where
  st : Strm W s M
  gr : w.grownBy W (some s)
  arr : Arr Swap.cells 4 W l V
  low : ∀ b off n cap, V = .slice (some ⟨b, off, none⟩) n cap → s < b
theorem SwSt.step {w W W' : World} {s M M' : Nat} {V : Value} {l : List Swap} (h : SwSt w s M V l W) (hs : Strm W' s M') (hg : W.grownBy W' (some s)) : SwSt w s M' V l W' :=
  ⟨hs, grown_trans h.gr hg, h.arr.grownBy hg h.low, h.low⟩
theorem sw_cells {s m : Nat} {w W : World} {g : Nat} {l : List Swap} (h : RowSt Swap.cells 4 s m w g W l) (k : Nat) (hk : k < l.length) :
    W.cell? ⟨g, k * 4, none⟩ = some (.int .i64 l[k].at_) ∧ W.cell? ⟨g, k * 4 + 3, none⟩ = some (.int .i64 l[k].price) := by
  have h0 := h.row.1 k hk 0 _ rfl
  have h3 := h.row.1 k hk 3 _ rfl
  simp only [Nat.zero_add, Nat.add_zero] at h0 h3
  exact ⟨h0, h3⟩
end Go.Proofs.YteliiknlpfjlkaaGreatDoor
