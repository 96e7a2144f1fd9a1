/- Lines of trees, read one after the other: what looks like a drop's line. No program. -/
import Derived.Test.YteliiknlpfjlkaaGreatDoorPlainTx
set_option linter.unusedVariables false
set_option linter.unusedSimpArgs false
namespace Go.Proofs.YteliiknlpfjlkaaGreatDoor
open Go

/-- four words, the first 'drop', none empty -/
def dropish (l : List UInt8) : Bool := match segs 32 l with
  | [a, c, s, o] => decide (a = wDrop ∧ c ≠ [] ∧ s ≠ [] ∧ o ≠ [])
  | _ => false
theorem dropish_four {l a c s o : List UInt8} (h : segs 32 l = [a, c, s, o]) : dropish l = decide (a = wDrop ∧ c ≠ [] ∧ s ≠ [] ∧ o ≠ []) := by
  unfold dropish; rw [h]
theorem drp_dropish {l : List UInt8} {x : Drp} (h : drpDec l = some x) : dropish l = true := by
  unfold drpDec at h
  split at h
  · rename_i a c s o hs
    rw [dropish_four hs]
    split at h
    · rename_i hc
      cases hn : numL 15 o with
      | none => rw [hn] at h; cases h
      | some n => exact decide_eq_true ⟨hc.1, hc.2.1, hc.2.2, (numL_len hn).2.1⟩
    · cases h
  · cases h
theorem splt_not_dropish {l : List UInt8} {x : Splt} (h : spltDec l = some x) : dropish l = false := by
  unfold spltDec at h
  unfold dropish
  split at h
  · rename_i hs
    rw [hs]
  · cases h
/-- the test that the programs make of a line behind others -/
def treeOkP (done : List (List UInt8)) (l : List UInt8) : Bool := ((spltDec l).isSome && done.all fun x => !dropish x) || (drpDec l).isSome
/-- a line that says something -/
def lineOk (l : List UInt8) : Prop := (spltDec l).isSome = true ∨ (drpDec l).isSome = true
theorem okP_eq {done : List (List UInt8)} (h : ∀ x ∈ done, lineOk x) (l : List UInt8) : treeOkP done l = treeOk done l := by
  unfold treeOkP treeOk
  have e : (done.all fun x => !dropish x) = done.all fun x => (drpDec x).isNone := by
    rw [Bool.eq_iff_iff, List.all_eq_true, List.all_eq_true]
    constructor
    · intro h1 x hx
      have := h1 x hx
      cases hd : drpDec x with
      | none => rfl
      | some y => rw [drp_dropish hd] at this; cases this
    · intro h1 x hx
      have h2 := h1 x hx
      rcases h x hx with h3 | h3
      · obtain ⟨y, hy⟩ := Option.isSome_iff_exists.1 h3
        rw [splt_not_dropish hy]; rfl
      · rw [Option.isNone_iff_eq_none] at h2
        rw [h2] at h3; cases h3
  rw [e]
theorem okP_line {done : List (List UInt8)} {l : List UInt8} (h : treeOkP done l = true) : lineOk l := by
  unfold treeOkP at h
  simp only [Bool.or_eq_true, Bool.and_eq_true] at h
  rcases h with h | h
  · exact .inl h.1
  · exact .inr h
theorem feedP_eq {e : Bool} : ∀ (r done : List (List UInt8)), (∀ x ∈ done, lineOk x) → feedF treeOkP done r e = feedF treeOk done r e
  | [], done, _ => by unfold feedF; rfl
  | x :: r, done, h => by
    rw [feedF, feedF, okP_eq h]
    split
    · rename_i ht
      have hx : lineOk x := okP_line (by rw [okP_eq h]; exact ht)
      exact feedP_eq r (done ++ [x]) (fun y hy => by
        rcases List.mem_append.1 hy with hy | hy
        · exact h y hy
        · simp at hy; subst hy; exact hx)
    · rfl
theorem eachP_eq (s : List UInt8) : eachF treeOkP s = eachF treeOk s := feedP_eq _ _ (fun _ h => by cases h)
/-- each line is right behind those before it -/
def SeqOk (done : List (List UInt8)) : Prop := ∀ k (hk : k < done.length), treeOkP (done.take k) done[k] = true
theorem SeqOk.snoc {done : List (List UInt8)} {x : List UInt8} (h : SeqOk (done ++ [x])) : SeqOk done ∧ treeOkP done x = true := by
  constructor
  · intro k hk
    have := h k (by simp; omega)
    rwa [List.take_append_of_le_length (by omega), List.getElem_append_left hk] at this
  · have := h done.length (by simp)
    rwa [List.take_append_of_le_length (Nat.le_refl _), List.take_length, List.getElem_append_right (Nat.le_refl _), show (([x] : List (List UInt8))[done.length - done.length]'(by simp)) = x by simp] at this
/-- what two rows hold behind some lines -/
structure TrRows (done : List (List UInt8)) (xs : List Splt) (ys : List Drp) : Prop where
  lx : xs.length ≤ done.length
  ly : ys.length ≤ done.length
  no : ys.length = 0 ↔ (done.all fun x => !dropish x) = true
  ok : SeqOk done → xs = done.filterMap spltDec ∧ ys = done.filterMap drpDec
theorem TrRows.nil : TrRows [] [] [] := ⟨Nat.le_refl _, Nat.le_refl _, by simp, fun _ => ⟨rfl, rfl⟩⟩
/-- a line that is refused and changes nothing -/
theorem TrRows.same {done : List (List UInt8)} {xs : List Splt} {ys : List Drp} {x : List UInt8} (h : TrRows done xs ys) (hd : dropish x = false) (ho : treeOkP done x = false) : TrRows (done ++ [x]) xs ys := by
  refine ⟨?_, ?_, ?_, fun hs => ?_⟩
  · have := h.lx; simp; omega
  · have := h.ly; simp; omega
  · rw [List.all_append, h.no]; simp [hd]
  · rw [hs.snoc.2] at ho; cases ho
theorem TrRows.splt {done : List (List UInt8)} {xs : List Splt} {ys : List Drp} {x : List UInt8} {s : Splt} (h : TrRows done xs ys) (hx : spltDec x = some s) : TrRows (done ++ [x]) (xs ++ [s]) ys := by
  refine ⟨?_, ?_, ?_, fun hs => ?_⟩
  · have := h.lx; simp; omega
  · have := h.ly; simp; omega
  · rw [List.all_append, h.no]; simp [splt_not_dropish hx]
  · obtain ⟨h1, h2⟩ := h.ok hs.snoc.1
    rw [List.filterMap_append, List.filterMap_append, ← h1, ← h2]
    simp [List.filterMap_cons, hx, (splt_some hx).2]
theorem TrRows.drp {done : List (List UInt8)} {xs : List Splt} {ys : List Drp} {x : List UInt8} {d : Drp} (h : TrRows done xs ys) (hx : dropish x = true) (hd : ∀ y, drpDec x = some y → d = y) : TrRows (done ++ [x]) xs (ys ++ [d]) := by
  refine ⟨?_, ?_, ?_, fun hs => ?_⟩
  · have := h.lx; simp; omega
  · have := h.ly; simp; omega
  · rw [List.all_append]; simp [hx]
  · obtain ⟨h1, h2⟩ := h.ok hs.snoc.1
    have hok := okP_line hs.snoc.2
    have hsn : spltDec x = none := by
      cases hq : spltDec x with
      | none => rfl
      | some s => rw [splt_not_dropish hq] at hx; cases hx
    have hdr : (drpDec x).isSome = true := by
      rcases hok with hq | hq
      · rw [hsn] at hq; cases hq
      · exact hq
    obtain ⟨y, hy⟩ := Option.isSome_iff_exists.1 hdr
    rw [List.filterMap_append, List.filterMap_append, ← h1, ← h2]
    simp [List.filterMap_cons, hsn, hy, hd y hy]
theorem feed_seq {s : List UInt8} {i : Nat} {P : List (List UInt8)} (h : eachF treeOkP s = (i, true, P)) : SeqOk P := by
  obtain ⟨_, h2, _, h4⟩ := feed_ok (ok := treeOkP) (done := []) h
  rw [List.nil_append] at h2
  subst h2
  intro k hk
  have := h4 k hk
  rwa [List.nil_append] at this
theorem splt_all {l : List UInt8} {s : Splt} (h : spltDec l = some s) : (∃ k n p o, segs 32 l = [wSplit, k, n, p, o]) ∧ ∀ y ∈ segs 32 l, y ≠ [] := by
  unfold spltDec at h
  split at h
  · rename_i a k n p o hs
    split at h
    · rename_i hc
      obtain ⟨rfl, hk, hp⟩ := hc
      cases hn : numL 15 n with
      | none => rw [hn] at h; cases h
      | some n' =>
        cases ho : numL 15 o with
        | none => rw [hn, ho] at h; cases h
        | some o' =>
          refine ⟨⟨_, _, _, _, hs⟩, fun y hy => ?_⟩
          rw [hs] at hy
          simp only [List.mem_cons, List.not_mem_nil, or_false] at hy
          rcases hy with rfl | rfl | rfl | rfl | rfl
          · decide
          · exact hk
          · exact (numL_len hn).2.1
          · exact hp
          · exact (numL_len ho).2.1
    · cases h
  · cases h
theorem drop_all {l : List UInt8} (h : dropish l = true) : (∃ c s o, segs 32 l = [wDrop, c, s, o]) ∧ ∀ y ∈ segs 32 l, y ≠ [] := by
  unfold dropish at h
  split at h
  · rename_i a c s o hs
    obtain ⟨rfl, hc, hs2, ho⟩ := of_decide_eq_true h
    refine ⟨⟨_, _, _, hs⟩, fun y hy => ?_⟩
    rw [hs] at hy
    simp only [List.mem_cons, List.not_mem_nil, or_false] at hy
    rcases hy with rfl | rfl | rfl | rfl
    · decide
    · exact hc
    · exact hs2
    · exact ho
  · cases h
/-- a line that says nothing here -/
theorem no_line {l : List UInt8} {done : List (List UInt8)} {xs : List Splt} {ys : List Drp} (htr : TrRows done xs ys)
    (hS : ∀ k n p o, segs 32 l = [wSplit, k, n, p, o] → (∀ y ∈ segs 32 l, y ≠ []) → ys.length ≠ 0)
    (hD : ∀ c s o, segs 32 l = [wDrop, c, s, o] → (∀ y ∈ segs 32 l, y ≠ []) → False) : dropish l = false ∧ treeOkP done l = false := by
  have hd : dropish l = false := by
    rw [Bool.eq_false_iff]
    intro h
    obtain ⟨⟨c, s, o, h1⟩, h2⟩ := drop_all h
    exact hD c s o h1 h2
  have hdn : drpDec l = none := by
    cases hq : drpDec l with
    | none => rfl
    | some y => rw [drp_dropish hq] at hd; cases hd
  refine ⟨hd, ?_⟩
  unfold treeOkP
  rw [hdn]
  cases hq : spltDec l with
  | none => rfl
  | some s =>
    obtain ⟨⟨k, n, p, o, h1⟩, h2⟩ := splt_all hq
    have h3 : (done.all fun x => !dropish x) = false := by
      rw [Bool.eq_false_iff]
      intro h
      exact hS k n p o h1 h2 (htr.no.2 h)
    rw [h3]; rfl
theorem drop_line {l a b c d : List UInt8} {done : List (List UInt8)} (hs : segs 32 l = [a, b, c, d]) (ha : a = wDrop) (hb : b ≠ []) (hc : c ≠ []) (hd : d ≠ []) :
    dropish l = true ∧ treeOkP done l = (numL 15 d).isSome ∧ ∀ y, drpDec l = some y → (⟨bA b, bA c, (numL 15 d).getD 0⟩ : Drp) = y := by
  have h1 : spltDec l = none := by unfold spltDec; rw [hs]
  have h2 := drpDec_four hs
  rw [if_pos ⟨ha, hb, hc⟩] at h2
  refine ⟨by rw [dropish_four hs]; exact decide_eq_true ⟨ha, hb, hc, hd⟩, ?_, fun y hy => ?_⟩
  · unfold treeOkP
    rw [h1, h2]
    cases numL 15 d <;> rfl
  · rw [h2] at hy
    cases hn : numL 15 d with
    | none => rw [hn] at hy; cases hy
    | some n => rw [hn] at hy; exact Option.some.inj hy
theorem splt_line {l a k n p o : List UInt8} {done : List (List UInt8)} {xs : List Splt} {ys : List Drp} (htr : TrRows done xs ys) (hy : ys.length = 0) (hs : segs 32 l = [a, k, n, p, o]) (ha : a = wSplit) (hk : k ≠ []) (hp : p ≠ []) {i j : Int} (hi : numL 15 n = some i) (hj : numL 15 o = some j) :
    treeOkP done l = true ∧ spltDec l = some ⟨bA k, i, if p = [45] then bA [] else bA p, j⟩ := by
  have h2 := spltDec_five hs
  rw [if_pos ⟨ha, hk, hp⟩, hi, hj] at h2
  refine ⟨?_, h2⟩
  unfold treeOkP
  rw [h2, htr.no.1 hy]; rfl
theorem splt_bad {l a k n p o : List UInt8} {done : List (List UInt8)} (hs : segs 32 l = [a, k, n, p, o]) (h : numL 15 n = none ∨ numL 15 o = none) : dropish l = false ∧ treeOkP done l = false := by
  have h2 := spltDec_five hs
  have h3 : spltDec l = none := by
    rw [h2]
    split
    · rcases h with h | h
      · rw [h]; rfl
      · rw [h]; cases numL 15 n <;> rfl
    · rfl
  have h4 : drpDec l = none := by unfold drpDec; rw [hs]
  refine ⟨by unfold dropish; rw [hs], ?_⟩
  unfold treeOkP
  rw [h3, h4]; rfl
end Go.Proofs.YteliiknlpfjlkaaGreatDoor
