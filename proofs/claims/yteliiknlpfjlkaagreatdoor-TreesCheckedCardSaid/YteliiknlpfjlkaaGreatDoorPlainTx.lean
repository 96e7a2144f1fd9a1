/- Plain: the texts of trees: what is written is read as it was, what is read is written so. No program. -/
import Derived.Test.YteliiknlpfjlkaaGreatDoorTxPl
import Derived.Test.YteliiknlpfjlkaaGreatDoorPlainT
set_option linter.unusedVariables false
set_option linter.unusedSimpArgs false
namespace Go.Proofs.YteliiknlpfjlkaaGreatDoor
open Go

theorem key_no {s : ByteArray} (h : keyB s = true) : (32 : UInt8) ∉ s.data.toList ∧ (10 : UInt8) ∉ s.data.toList ∧ s.data.toList ≠ [] ∧ s.data.toList ≠ [45] ∧ s.data.toList.length ≤ 40 := by
  unfold keyB at h
  simp only [Bool.and_eq_true, decide_eq_true_eq] at h
  obtain ⟨⟨h1, h2⟩, h3⟩ := h
  have hk : ∀ c ∈ s.data.toList, keyI c.toNat = true := fun c hc => List.all_eq_true.1 h3 c hc
  have hs : s.data.toList.length = s.size := (Lib.size_eq s).symm
  refine ⟨fun hm => ?_, fun hm => ?_, fun hm => ?_, fun hm => ?_, by omega⟩
  · have := hk _ hm; exact absurd this (by decide)
  · have := hk _ hm; exact absurd this (by decide)
  · rw [hm] at hs; simp at hs; omega
  · rw [hm] at h2; exact absurd h2 (by decide)
def wDrop : List UInt8 := [100, 114, 111, 112]
/-- the word of a parent -/
def parW (p : ByteArray) : List UInt8 := if p.size = 0 then [45] else p.data.toList
def spltEnc (s : Splt) : List UInt8 := wSplit ++ 32 :: (s.key.data.toList ++ 32 :: (Lib.itoa s.ways ++ 32 :: (parW s.par ++ 32 :: Lib.itoa s.port)))
def drpEnc (d : Drp) : List UInt8 := wDrop ++ 32 :: (d.cust.data.toList ++ 32 :: (d.spl.data.toList ++ 32 :: Lib.itoa d.port))
/-- what a line says of a splitter, of a drop -/
def spltDec (l : List UInt8) : Option Splt := match segs 32 l with
  | [a, k, n, p, o] => if a = wSplit ∧ k ≠ [] ∧ p ≠ [] then (numL 15 n).bind fun n => (numL 15 o).map fun o => ⟨bA k, n, if p = [45] then bA [] else bA p, o⟩ else none
  | _ => none
def drpDec (l : List UInt8) : Option Drp := match segs 32 l with
  | [a, c, s, o] => if a = wDrop ∧ c ≠ [] ∧ s ≠ [] then (numL 15 o).map fun o => ⟨bA c, bA s, o⟩ else none
  | _ => none
theorem spltDec_five {l a k n p o : List UInt8} (h : segs 32 l = [a, k, n, p, o]) : spltDec l = if a = wSplit ∧ k ≠ [] ∧ p ≠ [] then (numL 15 n).bind fun n => (numL 15 o).map fun o => ⟨bA k, n, if p = [45] then bA [] else bA p, o⟩ else none := by
  unfold spltDec; rw [h]
theorem drpDec_four {l a c s o : List UInt8} (h : segs 32 l = [a, c, s, o]) : drpDec l = if a = wDrop ∧ c ≠ [] ∧ s ≠ [] then (numL 15 o).map fun o => ⟨bA c, bA s, o⟩ else none := by
  unfold drpDec; rw [h]
theorem splt_some {l : List UInt8} {x : Splt} (h : spltDec l = some x) : spltEnc x = l ∧ drpDec l = none := by
  unfold spltDec at h
  split at h
  · rename_i a k n p o hs
    split at h
    · rename_i hc
      cases hn : numL 15 n with
      | none => rw [hn] at h; simp at h
      | some n' =>
        cases ho : numL 15 o with
        | none => rw [hn, ho] at h; simp at h
        | some o' =>
          rw [hn, ho] at h
          simp only [Option.bind_some, Option.map_some, Option.some.injEq] at h
          subst h
          refine ⟨?_, ?_⟩
          · have hj := join_segs 32 l
            rw [hs] at hj
            simp only [joinS] at hj
            unfold spltEnc
            have hp : parW (if p = [45] then bA [] else bA p) = p := by
              unfold parW
              by_cases h1 : p = [45]
              · rw [if_pos h1, if_pos (by rw [size_bA]; rfl), h1]
              · have hl := List.length_pos_iff.2 hc.2.2
                rw [if_neg h1, if_neg (by rw [size_bA]; omega)]; rfl
            simp only [hp]
            rw [(numL_itoa hn).1, (numL_itoa ho).1, data_bA, ← hc.1]
            exact hj
          · unfold drpDec; rw [hs]
    · cases h
  · cases h
theorem drp_some {l : List UInt8} {x : Drp} (h : drpDec l = some x) : drpEnc x = l ∧ spltDec l = none := by
  unfold drpDec at h
  split at h
  · rename_i a c s o hs
    split at h
    · rename_i hc
      cases ho : numL 15 o with
      | none => rw [ho] at h; simp at h
      | some o' =>
        rw [ho] at h
        simp only [Option.map_some, Option.some.injEq] at h
        subst h
        refine ⟨?_, ?_⟩
        · have hj := join_segs 32 l
          rw [hs] at hj
          simp only [joinS] at hj
          unfold drpEnc
          rw [(numL_itoa ho).1, data_bA, data_bA, ← hc.1]
          exact hj
        · unfold spltDec; rw [hs]
    · cases h
  · cases h
/-- of a splitter and of a drop whose text is read as it was -/
structure TxS (s : Splt) : Prop where
  key : keyB s.key = true
  ways : s.ways.natAbs < 10 ^ 15
  par : s.par.size = 0 ∨ keyB s.par = true
  port : s.port.natAbs < 10 ^ 15
structure TxD (d : Drp) : Prop where
  cust : keyB d.cust = true
  spl : keyB d.spl = true
  port : d.port.natAbs < 10 ^ 15
theorem parW_no {p : ByteArray} (h : p.size = 0 ∨ keyB p = true) : (32 : UInt8) ∉ parW p ∧ (10 : UInt8) ∉ parW p ∧ parW p ≠ [] ∧ (if parW p = [45] then bA [] else bA (parW p)) = p ∧ (parW p).length ≤ 40 := by
  unfold parW
  rcases h with h | h
  · rw [if_pos h, if_pos rfl]
    refine ⟨by decide, by decide, by decide, ?_, by decide⟩
    have : p.data.toList = [] := List.length_eq_zero_iff.1 (by rw [← Lib.size_eq]; exact h)
    rw [← this, bA_data]
  · have hk := key_no h
    have hs : p.size ≠ 0 := fun e => hk.2.2.1 (List.length_eq_zero_iff.1 (by rw [← Lib.size_eq]; exact e))
    rw [if_neg hs, if_neg hk.2.2.2.1]
    exact ⟨hk.1, hk.2.1, hk.2.2.1, bA_data p, hk.2.2.2.2⟩
theorem splt_enc {s : Splt} (h : TxS s) : spltDec (spltEnc s) = some s ∧ (10 : UInt8) ∉ spltEnc s ∧ (spltEnc s).length ≤ 125 := by
  have k := key_no h.key
  have p := parW_no h.par
  have nw := itoa_numL h.ways (by decide)
  have np := itoa_numL h.port (by decide)
  have w32 : (32 : UInt8) ∉ Lib.itoa s.ways := numL_no nw (by decide)
  have w10 : (10 : UInt8) ∉ Lib.itoa s.ways := numL_no nw (by decide)
  have p32 : (32 : UInt8) ∉ Lib.itoa s.port := numL_no np (by decide)
  have p10 : (10 : UInt8) ∉ Lib.itoa s.port := numL_no np (by decide)
  refine ⟨?_, ?_, ?_⟩
  · have hs : segs 32 (spltEnc s) = [wSplit, s.key.data.toList, Lib.itoa s.ways, parW s.par, Lib.itoa s.port] := by
      unfold spltEnc
      rw [segs_app (by decide), segs_app k.1, segs_app w32, segs_app p.1, segs_none p32]
    rw [spltDec_five hs, if_pos ⟨rfl, k.2.2.1, p.2.2.1⟩, nw, np]
    simp only [Option.bind_some, Option.map_some, p.2.2.2.1, bA_data]
  · unfold spltEnc
    simp only [List.mem_append, List.mem_cons, not_or]
    exact ⟨by decide, by decide, k.2.1, by decide, w10, by decide, p.2.1, by decide, p10⟩
  · unfold spltEnc
    have h1 := (numL_len nw).1
    have h2 := (numL_len np).1
    have h3 := k.2.2.2.2
    have h4 := p.2.2.2.2
    have h5 : wSplit.length = 8 := rfl
    simp only [List.length_append, List.length_cons]
    omega
theorem drp_enc {d : Drp} (h : TxD d) : drpDec (drpEnc d) = some d ∧ (10 : UInt8) ∉ drpEnc d ∧ (drpEnc d).length ≤ 125 := by
  have k := key_no h.cust
  have p := key_no h.spl
  have np := itoa_numL h.port (by decide)
  have p32 : (32 : UInt8) ∉ Lib.itoa d.port := numL_no np (by decide)
  have p10 : (10 : UInt8) ∉ Lib.itoa d.port := numL_no np (by decide)
  refine ⟨?_, ?_, ?_⟩
  · have hs : segs 32 (drpEnc d) = [wDrop, d.cust.data.toList, d.spl.data.toList, Lib.itoa d.port] := by
      unfold drpEnc
      rw [segs_app (by decide), segs_app k.1, segs_app p.1, segs_none p32]
    rw [drpDec_four hs, if_pos ⟨rfl, k.2.2.1, p.2.2.1⟩, np]
    simp only [Option.map_some, bA_data]
  · unfold drpEnc
    simp only [List.mem_append, List.mem_cons, not_or]
    exact ⟨by decide, by decide, k.2.1, by decide, p.2.1, by decide, p10⟩
  · unfold drpEnc
    have h2 := (numL_len np).1
    have h3 := k.2.2.2.2
    have h4 := p.2.2.2.2
    have h5 : wDrop.length = 4 := rfl
    simp only [List.length_append, List.length_cons]
    omega
/-- a line of a tree is taken behind those that were -/
def treeOk (done : List (List UInt8)) (l : List UInt8) : Bool := ((spltDec l).isSome && done.all fun x => (drpDec x).isNone) || (drpDec l).isSome
def treeText (l : List Splt) (d : List Drp) : List UInt8 := (l.flatMap fun x => spltEnc x ++ [10]) ++ d.flatMap fun x => drpEnc x ++ [10]
def treeRead (s : List UInt8) : List Splt × List Drp × Int × Int :=
  if 200000 < s.length then ([], [], 0, 2) else
  if (eachF treeOk s).2.1 = false then ([], [], (eachF treeOk s).1, 9) else
  if treeF ((eachF treeOk s).2.2.filterMap spltDec) ((eachF treeOk s).2.2.filterMap drpDec) ≠ 0 then ([], [], 0, treeF ((eachF treeOk s).2.2.filterMap spltDec) ((eachF treeOk s).2.2.filterMap drpDec))
  else ((eachF treeOk s).2.2.filterMap spltDec, (eachF treeOk s).2.2.filterMap drpDec, 0, 0)
theorem tx_tree {l : List Splt} {d : List Drp} (h : treeF l d = 0) : (∀ s ∈ l, TxS s) ∧ ∀ x ∈ d, TxD x := by
  have ok := tok_of h
  have hsf : faultAt (spltFault l) l.length = 0 := by
    unfold treeF at h
    split at h
    · rename_i h1; exact absurd h h1
    · rename_i h1
      have h3 : spltsFault l = 0 := by omega
      unfold spltsFault at h3
      split at h3
      · omega
      · exact h3
  refine ⟨fun s hs => ?_, fun x hx => ?_⟩
  · obtain ⟨k1, k2⟩ := ok.s.keys s hs
    have hw := waysB_le k2
    obtain ⟨k, hk, rfl⟩ := List.mem_iff_getElem.1 hs
    by_cases hp : l[k].par.size = 0
    · have h1 := faultAt_zero.1 hsf k hk
      unfold spltFault at h1
      rw [List.getElem?_eq_getElem hk] at h1
      simp only [k1, k2, Bool.not_true, Bool.false_eq_true, if_false] at h1
      have h0 : l[k].port = 0 := by
        rcases Int.lt_trichotomy l[k].port 0 with h | h | h
        · rw [if_pos ⟨hp, by omega⟩] at h1; omega
        · exact h
        · rw [if_pos ⟨hp, by omega⟩] at h1; omega
      exact ⟨k1, by omega, .inl hp, by rw [h0]; decide⟩
    · have h1 := ok.s.par ok.par hs hp
      have h2 := faultAt_zero.1 ok.par k hk
      unfold parFault at h2
      rw [List.getElem?_eq_getElem hk] at h2
      simp only [if_neg hp] at h2
      have hkp : keyB l[k].par = true := by
        rcases findS_get l l[k].par with ⟨_, hn⟩ | ⟨j, hj, _, hg, he⟩
        · rw [hn] at h2; simp at h2
        · rw [← he]; exact (ok.s.keys _ (List.getElem_mem hj)).1
      exact ⟨k1, by omega, .inr hkp, by omega⟩
  · obtain ⟨k, hk, rfl⟩ := List.mem_iff_getElem.1 hx
    obtain ⟨_, h2, h3, _, _, s, hs, hg, _⟩ := ok.drop hk
    have hc : keyB d[k].cust = true := by
      have h0 := ok.dr
      unfold dropsF at h0
      split at h0
      · omega
      · split at h0
        · rename_i h5; exact absurd h0 h5
        · rename_i h5
          have h6 := faultAt_zero.1 (by omega : faultAt (dropFault l d) d.length = 0) k hk
          unfold dropFault at h6
          rw [List.getElem?_eq_getElem hk] at h6
          simp only at h6
          cases hkb : keyB d[k].cust with
          | true => rfl
          | false => rw [if_pos hkb] at h6; omega
    have hsp : keyB d[k].spl = true := by
      rcases findS_get l d[k].spl with ⟨_, hn⟩ | ⟨j, hj, _, hg2, he⟩
      · rw [hn] at hg; cases hg
      · rw [← he]; exact (ok.s.keys _ (List.getElem_mem hj)).1
    exact ⟨hc, hsp, by omega⟩
theorem tree_lines {l : List Splt} {d : List Drp} (h1 : ∀ s ∈ l, TxS s) (h2 : ∀ x ∈ d, TxD x) : lineL (treeText l d) = l.map spltEnc ++ d.map drpEnc ∧ restL (treeText l d) = [] ∧ (treeText l d).length ≤ (l.length + d.length) * 126 := by
  have hd : ∀ d : List Drp, (∀ x ∈ d, TxD x) → lineL (treeText [] d) = d.map drpEnc ∧ restL (treeText [] d) = [] ∧ (treeText [] d).length ≤ d.length * 126 := by
    intro d
    induction d with
    | nil => intro _; exact ⟨rfl, rfl, by simp [treeText]⟩
    | cons x d ih =>
      intro h
      have i := ih (fun y hy => h y (List.mem_cons_of_mem _ hy))
      have e : treeText [] (x :: d) = drpEnc x ++ 10 :: treeText [] d := by unfold treeText; simp
      have hx := drp_enc (h x List.mem_cons_self)
      have h3 := lineL_cons (b := treeText [] d) hx.2.1
      refine ⟨by rw [e, h3.1, i.1]; rfl, by rw [e, h3.2, i.2.1], ?_⟩
      have := hx.2.2
      rw [e, List.length_append, List.length_cons, List.length_cons]; omega
  induction l with
  | nil => have := hd d h2; exact ⟨by rw [this.1]; rfl, this.2.1, by simpa using this.2.2⟩
  | cons x l ih =>
    have i := ih (fun y hy => h1 y (List.mem_cons_of_mem _ hy))
    have e : treeText (x :: l) d = spltEnc x ++ 10 :: treeText l d := by unfold treeText; simp
    have hx := splt_enc (h1 x List.mem_cons_self)
    have h3 := lineL_cons (b := treeText l d) hx.2.1
    refine ⟨by rw [e, h3.1, i.1]; rfl, by rw [e, h3.2, i.2.1], ?_⟩
    have := hx.2.2
    rw [e, List.length_append, List.length_cons, List.length_cons]; omega
theorem fm_splt {l : List Splt} {d : List Drp} (h1 : ∀ s ∈ l, TxS s) (h2 : ∀ x ∈ d, TxD x) : (l.map spltEnc ++ d.map drpEnc).filterMap spltDec = l ∧ (l.map spltEnc ++ d.map drpEnc).filterMap drpDec = d := by
  have e1 : (d.map drpEnc).filterMap spltDec = [] := by
    rw [List.filterMap_map]
    refine List.filterMap_eq_nil_iff.2 fun x hx => ?_
    exact (drp_some (drp_enc (h2 x hx)).1).2
  have e2 : (l.map spltEnc).filterMap drpDec = [] := by
    rw [List.filterMap_map]
    refine List.filterMap_eq_nil_iff.2 fun x hx => ?_
    exact (splt_some (splt_enc (h1 x hx)).1).2
  have e3 : (l.map spltEnc).filterMap spltDec = l := by
    clear e2
    induction l with
    | nil => rfl
    | cons x l ih => rw [List.map_cons, List.filterMap_cons, (splt_enc (h1 x List.mem_cons_self)).1]; simp only; rw [ih (fun y hy => h1 y (List.mem_cons_of_mem _ hy))]
  have e4 : (d.map drpEnc).filterMap drpDec = d := by
    clear e1
    induction d with
    | nil => rfl
    | cons x d ih => rw [List.map_cons, List.filterMap_cons, (drp_enc (h2 x List.mem_cons_self)).1]; simp only; rw [ih (fun y hy => h2 y (List.mem_cons_of_mem _ hy))]
  rw [List.filterMap_append, List.filterMap_append, e1, e2, e3, e4, List.append_nil, List.nil_append]
  exact ⟨rfl, rfl⟩
/-- what is written is read as it was -/
theorem tree_back {l : List Splt} {d : List Drp} (h : treeF l d = 0) (hl : (l.length + d.length) * 126 ≤ 200000) : treeRead (treeText l d) = (l, d, 0, 0) ∧ (treeText l d).length ≤ 200000 := by
  obtain ⟨h1, h2⟩ := tx_tree h
  obtain ⟨t1, t2, t3⟩ := tree_lines h1 h2
  obtain ⟨f1, f2⟩ := fm_splt h1 h2
  have he : eachF treeOk (treeText l d) = (0, true, l.map spltEnc ++ d.map drpEnc) := by
    unfold eachF
    rw [t1, t2]
    have := feed_all (ok := treeOk) (r := l.map spltEnc ++ d.map drpEnc) (done := []) (fun k hk => by
      rw [List.nil_append]
      unfold treeOk
      by_cases hkl : k < l.length
      · rw [List.getElem_append_left (by simpa using hkl), List.getElem_map, (splt_enc (h1 _ (List.getElem_mem _))).1, List.take_append_of_le_length (by simpa using Nat.le_of_lt hkl)]
        simp only [Option.isSome_some, Bool.true_and, Bool.or_eq_true]
        left
        rw [List.all_eq_true]
        intro y hy
        obtain ⟨s, hs, rfl⟩ := List.mem_map.1 (List.mem_of_mem_take hy)
        rw [(splt_some (splt_enc (h1 s hs)).1).2]; rfl
      · rw [List.getElem_append_right (by simpa using hkl), List.getElem_map, (drp_enc (h2 _ (List.getElem_mem _))).1]
        simp)
    simpa using this
  refine ⟨?_, by omega⟩
  unfold treeRead
  rw [if_neg (by omega), he, if_neg (by simp), f1, f2, if_neg (by simpa using h)]
theorem lines_part : ∀ (n : Nat) (L : List (List UInt8)), L.length = n → (∀ k (hk : k < L.length), treeOk (L.take k) L[k] = true) → ∃ A B, L = A ++ B ∧ (∀ x ∈ A, (spltDec x).isSome = true) ∧ ∀ x ∈ B, (drpDec x).isSome = true
  | 0, L, hn, _ => ⟨[], [], by rw [List.length_eq_zero_iff.1 hn]; rfl, by simp, by simp⟩
  | n + 1, L, hn, h => by
    obtain ⟨M, x, rfl⟩ : ∃ M x, L = M ++ [x] := ⟨L.dropLast, L.getLast (by intro e; rw [e] at hn; simp at hn), (List.dropLast_concat_getLast _).symm⟩
    have hM : M.length = n := by simpa using hn
    obtain ⟨A, B, rfl, hA, hB⟩ := lines_part n M hM (fun k hk => by
      have := h k (by simp; omega)
      rw [List.getElem_append_left hk, List.take_append_of_le_length (by omega)] at this
      exact this)
    have hx := h (A ++ B).length (by simp)
    rw [List.getElem_append_right (Nat.le_refl _), List.take_append_of_le_length (Nat.le_refl _), List.take_length] at hx
    simp only [Nat.sub_self, List.getElem_cons_zero] at hx
    unfold treeOk at hx
    rw [Bool.or_eq_true, Bool.and_eq_true] at hx
    rcases hx with ⟨hs, hall⟩ | hd
    · have hBn : B = [] := by
        cases B with
        | nil => rfl
        | cons y B =>
          have h1 := hB y List.mem_cons_self
          have h2 := List.all_eq_true.1 hall y (by simp)
          rw [Option.isNone_iff_eq_none] at h2
          rw [h2] at h1; cases h1
      subst hBn
      refine ⟨A ++ [x], [], by simp, fun y hy => ?_, by simp⟩
      rcases List.mem_append.1 hy with hy | hy
      · exact hA y hy
      · rw [List.mem_singleton] at hy; subst hy; exact hs
    · refine ⟨A, B ++ [x], by simp, hA, fun y hy => ?_⟩
      rcases List.mem_append.1 hy with hy | hy
      · exact hB y hy
      · rw [List.mem_singleton] at hy; subst hy; exact hd
/-- what is read is written so -/
theorem tree_forth {s : List UInt8} {l : List Splt} {d : List Drp} {i : Int} (h : treeRead s = (l, d, i, 0)) : treeText l d = s ∧ treeF l d = 0 ∧ s.length ≤ 200000 := by
  unfold treeRead at h
  split at h
  · simp at h
  · rename_i hlen
    split at h
    · simp at h
    · rename_i hb
      split at h
      · rename_i hf
        simp only [Prod.mk.injEq] at h
        exact absurd h.2.2.2 hf
      · rename_i hf
        simp only [Prod.mk.injEq] at h
        obtain ⟨e1, e2, -, -⟩ := h
        rw [e1, e2] at hf
        have hf : treeF l d = 0 := by simpa using hf
        refine ⟨?_, hf, by omega⟩
        have hbt : (eachF treeOk s).2.1 = true := by simpa using hb
        obtain ⟨h1, h2, h3, h4⟩ := feed_ok (ok := treeOk) (r := lineL s) (done := []) (e := (restL s).isEmpty) (i := (eachF treeOk s).1) (P := (eachF treeOk s).2.2) (by
          show eachF treeOk s = _
          rw [← hbt])
        rw [List.nil_append] at h2
        rw [h2] at e1 e2
        have hr : restL s = [] := List.isEmpty_iff.1 h1
        have hs := lines_all s
        rw [hr, List.append_nil] at hs
        obtain ⟨A, B, hAB, hA, hB⟩ := lines_part _ (lineL s) rfl (fun k hk => by have := h4 k hk; exact this)
        rw [hAB] at hs e1 e2
        have a1 : ∀ A : List (List UInt8), (∀ x ∈ A, (spltDec x).isSome = true) → A.filterMap drpDec = [] ∧ ((A.filterMap spltDec).flatMap fun x => spltEnc x ++ [10]) = A.flatMap (fun x => x ++ [10]) := by
          intro A
          induction A with
          | nil => intro _; exact ⟨rfl, rfl⟩
          | cons x A ih =>
            intro h
            obtain ⟨y, hy⟩ := Option.isSome_iff_exists.1 (h x List.mem_cons_self)
            have i := ih (fun z hz => h z (List.mem_cons_of_mem _ hz))
            have e := splt_some hy
            rw [List.filterMap_cons, List.filterMap_cons, hy, e.2]
            simp only
            exact ⟨i.1, by rw [List.flatMap_cons, List.flatMap_cons, i.2, e.1]⟩
        have b1 : ∀ B : List (List UInt8), (∀ x ∈ B, (drpDec x).isSome = true) → B.filterMap spltDec = [] ∧ ((B.filterMap drpDec).flatMap fun x => drpEnc x ++ [10]) = B.flatMap (fun x => x ++ [10]) := by
          intro B
          induction B with
          | nil => intro _; exact ⟨rfl, rfl⟩
          | cons x B ih =>
            intro h
            obtain ⟨y, hy⟩ := Option.isSome_iff_exists.1 (h x List.mem_cons_self)
            have i := ih (fun z hz => h z (List.mem_cons_of_mem _ hz))
            have e := drp_some hy
            rw [List.filterMap_cons, List.filterMap_cons, hy, e.2]
            simp only
            exact ⟨i.1, by rw [List.flatMap_cons, List.flatMap_cons, i.2, e.1]⟩
        obtain ⟨a2, a3⟩ := a1 A hA
        obtain ⟨b2, b3⟩ := b1 B hB
        rw [List.filterMap_append, b2, List.append_nil] at e1
        rw [List.filterMap_append, a2, List.nil_append] at e2
        unfold treeText
        rw [← e1, ← e2, a3, b3]
        rw [List.flatMap_append] at hs
        exact hs.symm
end Go.Proofs.YteliiknlpfjlkaaGreatDoor
