/- Parts turned round in place; whether numbers stand in order. By the shelf's contracts. -/
import Derived.Test.YtagpcgnlbgndmaaShelfC
import Derived.Test.YtagpcgnlbgndmaaKeepA
set_option linter.unusedVariables false
set_option linter.unusedSimpArgs false
namespace Go.Proofs.Ytagpcgnlbgndmaa
open Go Go.RowKit Go.Sort

theorem below_putRowK {α : Type} [Inhabited α] (enc : α → List Value) (k : Nat) (w : World) (n g off base : Nat) (d : Array α) (hg : base ≤ g) : Below base w (putRowK enc k (Sort.ahead w n) g off d) := by
  refine ⟨rfl, rfl, rfl, ?_, fun b hb => ?_⟩
  · unfold putRowK; simp
  · unfold putRowK putRow mapBlock
    simp only [Array.getElem?_modify]
    rw [if_neg (by omega)]
    rfl

theorem Arr.of_holdsK {l : List Part} {w : World} {g cap : Nat} (h : HoldsK Part.cells 2 w g 0 l.toArray) (hc : l.length ≤ cap) (hm : cap ≤ maxLen) : Arr Part.cells 2 w l (.slice (some ⟨g, 0, none⟩) l.length cap) := by
  refine ⟨_, cap, rfl, hc, hm, fun k hk => ⟨g, 0, rfl, ?_, fun j u hu => ?_⟩⟩
  · exact World.block_lt_of_cell? _ _ (h.cell (i := k) (c := 0) (by simpa using hk) (by omega)).1
  · have hj : j < 2 := by have := (List.getElem?_eq_some_iff.1 hu).1; rwa [Part.cells_len] at this
    have h1 := (h.cell (i := k) (c := j) (by simpa using hk) hj).1
    rw [h1]
    have h2 : l.toArray[k]! = l[k] := by simp [hk]
    rw [h2, ← hu, getElem!_pos (Part.cells l[k]) j (by rw [Part.cells_len]; exact hj), List.getElem?_eq_getElem]

theorem holdsK_of_own {l : List Part} {w : World} {g : Nat} {cur : Array Value} {e : TypeId} (hh : w.heap[g]? = some (.cells cur e (0, 0))) (ht : cur.toList.take (l.length * 2) = l.flatMap Part.cells) : HoldsK Part.cells 2 w g 0 l.toArray := by
  intro j hj
  rw [size_flatK] at hj
  have hj' : j < l.length * 2 := by simpa using hj
  have hk : j / 2 < l.length := by omega
  refine ⟨?_, by simp [World.frozen?, hh]⟩
  rw [get_flatK _ _ _ _ hj]
  have h2 : l.toArray[j / 2]! = l[j / 2] := by simp [hk]
  have h3 := flat_at Part.cells_len l (j / 2) hk (j % 2) (by omega)
  rw [show j / 2 * 2 + j % 2 = j by omega, ← ht, List.getElem?_take_of_lt hj'] at h3
  rw [h2, getElem!_pos (Part.cells l[j / 2]) (j % 2) (by rw [Part.cells_len]; omega)]
  rw [show (Part.cells l[j / 2])[j % 2]? = some ((Part.cells l[j / 2])[j % 2]'(by rw [Part.cells_len]; omega)) from List.getElem?_eq_getElem _] at h3
  simp only [World.cell?, hh, Nat.zero_add, id]
  simpa using h3

theorem reverse_part (v : Value) (l : List Part) (w : World) (base : Nat) (h : w.ownsRow base 81 2 v l.length (l.flatMap Part.cells)) (hl : l.length ≤ 1000000) :
    Calls Try.prog 55 #[v] w fun e w' => e = .returned (.tuple #[]) ∧ Arr Part.cells 2 w' l.reverse v ∧ Below base w w' := by
  obtain ⟨hlen, h | ⟨g, cap, cur, rfl, hg, hh, hc, hm, hs, ht⟩⟩ := h
  · obtain ⟨rfl, h0⟩ := h
    obtain rfl : l = [] := List.length_eq_zero_iff.1 h0
    refine (AnyQ.slices_Reverse_empty Try.revParts none 0 w).mono ?_
    rintro e w' ⟨rfl, rfl⟩
    exact ⟨rfl, Arr.nil _ _ _, Below.refl _ _⟩
  · have hH := holdsK_of_own (l := l) hh ht
    refine (AnyQ.slices_Reverse Try.revParts 2 Try.isAgg81 Try.sizeOf81 Part.cells Part.cells_len ?_ g 0 cap l.toArray w hH (by simp; omega)).mono ?_
    · intro x u hu
      simp [Part.cells] at hu
      rcases hu with rfl | rfl <;> rfl
    rintro e w' ⟨rfl, n, rfl⟩
    refine ⟨rfl, ?_, below_putRowK _ _ _ _ _ _ _ _ hg⟩
    have h2 : HoldsK Part.cells 2 (putRowK Part.cells 2 (Sort.ahead w n) g 0 l.toArray.reverse) g 0 l.toArray.reverse := holdsK_putRowK _ _ _ _ _ l.toArray _ (holdsK_ahead _ _ _ _ _ _ _ hH) (by simp)
    rw [List.reverse_toArray] at h2 ⊢
    have h3 := Arr.of_holdsK (cap := cap) h2 (by simpa using hc) hm
    rwa [List.length_reverse] at h3

theorem sorted_int (v : Value) (l : List Int) (w : World) (h : Arr intCells 1 w l v) (hl : l.length ≤ 1000000) (hs : ∀ i (h : i + 1 < l.length), l[i] ≤ l[i + 1]) :
    Calls Try.prog 58 #[v] w fun e w' => e = .returned (.bool true) ∧ ∃ q, w' = w.drewN q := by
  obtain ⟨a, cap, rfl, hcap, hmax, hc⟩ := h
  rcases Nat.eq_zero_or_pos l.length with h0 | h0
  · obtain rfl : l = [] := List.length_eq_zero_iff.1 h0
    refine (AnyO.slices_IsSorted_int_none Try.sortedInt a cap w).mono ?_
    rintro e w' ⟨rfl, rfl⟩
    exact ⟨rfl, 0, rfl⟩
  · obtain ⟨b, off, rfl, hb, -⟩ := hc 0 h0
    refine (AnyO.slices_IsSorted_int Try.sortedInt b off cap l.toArray w (fun i hi => ?_) (by simp; omega)).mono ?_
    · have hi' : i < l.length := by simpa using hi
      obtain ⟨b2, off2, e2, -, hcc⟩ := hc i hi'
      simp only [Option.some.injEq, Addr.mk.injEq] at e2
      obtain ⟨rfl, rfl, -⟩ := e2
      have := hcc 0 _ rfl
      simp only [Nat.mul_one, Nat.add_zero] at this
      rw [this]
      simp [hi']
    rintro e w' ⟨rfl, q, rfl⟩
    refine ⟨?_, q, rfl⟩
    have : Lib.downOK (fun x y => decide (x < y)) l.toArray (l.toArray.size - 1) = true := by
      rw [Lib.downOK_iff]
      intro i hi
      have h1 : i + 1 < l.length := by simp at hi; omega
      have := hs i h1
      simp [h1, show i < l.length by omega]
      omega
    rw [this]
end Go.Proofs.Ytagpcgnlbgndmaa
