/- Texts of one subject in one: Group, TreeBel, TreeI; what each shows stands at its head. No condition. -/
import Derived.Test.YteliiknlpfjlkaaGreatDoorMapB
import Derived.Test.YteliiknlpfjlkaaGreatDoorProg
import Derived.StringKeys
import Derived.Maps.Keyed
import Derived.Test.YteliiknlpfjlkaaGreatDoorTreeGH
import Derived.Deep.AppendLies
/- Maps from strings to lists of strings that a call makes; a look-up and a store as steps of a region that draws its order. No condition. -/
set_option linter.unusedVariables false
set_option linter.unusedSimpArgs false
namespace Go.Proofs.YteliiknlpfjlkaaGreatDoor
open Go Go.RowKit
open Go.Maps (Keyed)

section
variable {α : Type} {P : Program} {ops : Array Oper} {o : Oper} {a : Act} {w : World} {K' : Act → World → Prop} {Q : Exit → Act → World → Prop} {E : Prop}
theorem step_look (hgd : o.guard = none) (mo x : Operand) (t : TypeId) (hop : o.op = Op.lookup t mo x false) {k e : TypeId} (K : Keyed P k) (ht : P.underlying t = some (.map k e)) {z : Value} (hz : (zeroValue e).run P w = .ok z w)
    {kv : α → Value} {b n : Nat} {m : α → Option Value} (hown : MapIs P k kv w b n m) (hm : a.eval mo = .map (some b)) (q : α) {kl : Lit} (hkey : keyOf P k (kv q) = some kl) (hx : a.eval x = kv q) {v : Value} (hv : (m q).getD z = v)
    (h : K' (a.put o.dst v) w) : if Region.wanted o (yielded ops a.tmps) = true then Oper.wp P o a w K' Q else E := by
  have hw : Region.wanted o (yielded ops a.tmps) = true := by simp [Region.wanted, hgd]
  rw [if_pos hw]
  have hrun := hown.look K ht hz q hkey
  rw [hv] at hrun
  unfold Oper.wp
  simp [execOp, hop, hm, hx, hrun, Result.andThen]
  exact h
theorem step_update [DecidableEq α] (hgd : o.guard = none) (mo x v : Operand) (t : TypeId) (hop : o.op = Op.mapUpdate t mo x v) {k e : TypeId} (K : Keyed P k) (ht : P.underlying t = some (.map k e))
    {kv : α → Value} (hinj : ∀ a a', kv a = kv a' → a = a') {b n : Nat} {m : α → Option Value} (hown : MapIs P k kv w b n m) (hn : n < maxLen) (hm : a.eval mo = .map (some b)) (q : α) {kl : Lit} (hkey : keyOf P k (kv q) = some kl) (hx : a.eval x = kv q) (val : Value) (hv : a.eval v = val)
    (h : ∀ w', MapIs P k kv w' b (n + 1) (setM m q val) → w.grownBy w' (some b) → K' (a.put o.dst undef) w') : if Region.wanted o (yielded ops a.tmps) = true then Oper.wp P o a w K' Q else E := by
  have hw : Region.wanted o (yielded ops a.tmps) = true := by simp [Region.wanted, hgd]
  rw [if_pos hw]
  obtain ⟨w', hrun, r1, r2⟩ := hown.store K hinj ht hn q hkey val
  unfold Oper.wp
  simp [execOp, hop, hm, hx, hv, hrun, Result.andThen]
  exact h _ r1 r2
end

theorem strKeyed : Keyed Tryz.prog 9 := Maps.string_keyed Tryz.underlying9
theorem strKey (s : ByteArray) (h : s.size ≤ maxLen) : ∃ kl, keyOf Tryz.prog 9 (Value.string s) = some kl := ⟨_, WideMaps.keyOf_string_mk Tryz.underlying9 h⟩
theorem str_inj : ∀ a a' : ByteArray, Value.string a = Value.string a' → a = a' := fun a a' h => by cases h; rfl
/-- block b is a map of at most n entries that holds the list G k at the key k; each list lies in a row of its own from block base on -/
def GMap (w : World) (b n base : Nat) (G : ByteArray → List ByteArray) : Prop :=
  ∃ m : ByteArray → Option Value, MapIs Tryz.prog 9 Value.string w b n m ∧ (∀ k, w.ownsRow base 9 1 ((m k).getD (.slice none 0 0)) (G k).length ((G k).map Value.string)) ∧
    (∀ k k', k ≠ k' → ∀ g, ((m k).getD (.slice none 0 0)).ownBlock = some g → ((m k').getD (.slice none 0 0)).ownBlock ≠ some g) ∧ b < base
theorem GMap.made (w : World) (base : Nat) (hb : w.heap.size < base) : GMap (w.alloc (.map #[] 0)) w.heap.size 0 base (fun _ => []) := by
  refine ⟨fun _ => none, MapIs.made w _ _ _, fun _ => World.ownsRow_nil _ _ _ _, ?_, hb⟩
  intro k k' hk g h
  simp [Value.ownBlock] at h
theorem GMap.below {w w' : World} {b n base B : Nat} {G : ByteArray → List ByteArray} (h : GMap w b n base G) (hB : Below B w w') (hs : w.heap.size ≤ B) : GMap w' b n base G := by
  obtain ⟨m, h1, h2, h3, h4⟩ := h
  have hBm := hB.mono hs
  exact ⟨m, h1.below hBm h1.lt, fun k => own_below (h2 k) hBm, h3, h4⟩
theorem GMap.mono {w : World} {b n n' base : Nat} {G : ByteArray → List ByteArray} (h : GMap w b n base G) (hn : n ≤ n') : GMap w b n' base G := by
  obtain ⟨m, h1, h2⟩ := h
  exact ⟨m, h1.mono hn, h2⟩
theorem GMap.congr {w : World} {b n base : Nat} {G G' : ByteArray → List ByteArray} (h : GMap w b n base G) (hG : ∀ k, G k = G' k) : GMap w b n base G' := by
  have : G = G' := funext hG
  rw [← this]; exact h
/-- behind an append to the list at a key and the store of what it gives -/
theorem gmap_add {w w1 w2 : World} {b base g cap : Nat} {G : ByteArray → List ByteArray} {m : ByteArray → Option Value} {key c : ByteArray} {v : Value}
    (h2 : ∀ k, w.ownsRow base 9 1 ((m k).getD (.slice none 0 0)) (G k).length ((G k).map Value.string)) (h3 : ∀ k k', k ≠ k' → ∀ g, ((m k).getD (.slice none 0 0)).ownBlock = some g → ((m k').getD (.slice none 0 0)).ownBlock ≠ some g) (h4 : b < base)
    (hv : (m key).getD (.slice none 0 0) = v) (ho : w1.ownsRow base 9 1 (.slice (some ⟨g, 0, none⟩) ((G key).length + 1) cap) ((G key).length + 1) ((G key).map Value.string ++ [.string c])) (hg : w.grownBy w1 v.ownBlock)
    (hat : v.ownBlock = some g ∨ g = w.heap.size) (hg2 : w1.grownBy w2 (some b)) :
    (∀ k, w2.ownsRow base 9 1 ((setM m key (.slice (some ⟨g, 0, none⟩) ((G key).length + 1) cap) k).getD (.slice none 0 0)) (if k = key then G key ++ [c] else G k).length ((if k = key then G key ++ [c] else G k).map Value.string)) ∧
    (∀ k k', k ≠ k' → ∀ q, ((setM m key (.slice (some ⟨g, 0, none⟩) ((G key).length + 1) cap) k).getD (.slice none 0 0)).ownBlock = some q → ((setM m key (.slice (some ⟨g, 0, none⟩) ((G key).length + 1) cap) k').getD (.slice none 0 0)).ownBlock ≠ some q) := by
  have hkb : ∀ (k : ByteArray) (W : World) (xs : List Value) (v : Value) (q : Nat), W.ownsRow base 9 1 v q xs → v.ownBlock = none ∨ v.ownBlock ≠ some b := fun k W xs v q ho => by
    cases hv : v.ownBlock with
    | none => exact .inl rfl
    | some c => right; have := (ho.lt c hv).1; simp; omega
  have hothers : ∀ k, k ≠ key → ((m k).getD (.slice none 0 0)).ownBlock = none ∨ ((m k).getD (.slice none 0 0)).ownBlock ≠ v.ownBlock := fun k hk => by
    cases hkv : ((m k).getD (.slice none 0 0)).ownBlock with
    | none => exact .inl rfl
    | some c => right; intro e; exact h3 k key hk c hkv (by rw [hv]; exact e.symm)
  refine ⟨fun k => ?_, fun k k' hkk q hq => ?_⟩
  · unfold setM
    by_cases hk : k = key
    · subst hk
      simp only [if_pos rfl, Option.getD_some, if_true]
      rw [List.length_append, List.length_singleton, List.map_append]
      exact ho.kept hg2 (hkb k _ _ _ _ ho)
    · simp only [if_neg hk]
      exact ((h2 k).kept hg (hothers k hk)).kept hg2 (hkb k _ _ _ _ (h2 k))
  · unfold setM at hq ⊢
    have hnew : ∀ k, k ≠ key → ((m k).getD (.slice none 0 0)).ownBlock ≠ some g := fun k hk e => by
      rcases hat with h5 | h5
      · rcases hothers k hk with h6 | h6
        · rw [h6] at e; cases e
        · exact h6 (e.trans h5.symm)
      · have := ((h2 k).lt g e).2; omega
    by_cases hk : k = key
    · subst hk
      simp only [if_pos rfl, Option.getD_some, if_true] at hq
      rw [if_neg (Ne.symm hkk)]
      intro e
      have : g = q := by simpa [Value.ownBlock] using hq
      subst this
      exact hnew k' (Ne.symm hkk) e
    · rw [if_neg hk] at hq
      by_cases hk' : k' = key
      · subst hk'
        simp only [if_pos rfl, Option.getD_some, if_true]
        intro e
        have : g = q := by simpa [Value.ownBlock] using e
        subst this
        exact hnew k hk hq
      · rw [if_neg hk']; exact h3 k k' hkk q hq
end Go.Proofs.YteliiknlpfjlkaaGreatDoor
/- Walk of package tree: the customers below each splitter. -/
set_option linter.unusedVariables false
set_option linter.unusedSimpArgs false
namespace Go.Proofs.YteliiknlpfjlkaaGreatDoor
open Go Go.RowKit
open Go.Maps (Keyed)

/-- as GMap; no list lies in the blocks from B1 to B2 -/
def GMapX (w : World) (b n base B1 B2 : Nat) (G : ByteArray → List ByteArray) : Prop :=
  ∃ m : ByteArray → Option Value, MapIs Tryz.prog 9 Value.string w b n m ∧ (∀ k, w.ownsRow base 9 1 ((m k).getD (.slice none 0 0)) (G k).length ((G k).map Value.string)) ∧
    (∀ k k', k ≠ k' → ∀ g, ((m k).getD (.slice none 0 0)).ownBlock = some g → ((m k').getD (.slice none 0 0)).ownBlock ≠ some g) ∧ b < base ∧ ∀ k g, ((m k).getD (.slice none 0 0)).ownBlock = some g → g < B1 ∨ B2 ≤ g
theorem GMap.avoid {w : World} {b n base : Nat} {G : ByteArray → List ByteArray} (h : GMap w b n base G) (B2 : Nat) : GMapX w b n base w.heap.size B2 G := by
  obtain ⟨m, h1, h2, h3, h4⟩ := h
  exact ⟨m, h1, h2, h3, h4, fun k g e => .inl ((h2 k).lt g e).2⟩
theorem GMapX.all {w : World} {b n base B1 B2 : Nat} {G : ByteArray → List ByteArray} (h : GMapX w b n base B1 B2 G) : GMap w b n base G := by
  obtain ⟨m, h1, h2, h3, h4, _⟩ := h
  exact ⟨m, h1, h2, h3, h4⟩
theorem GMapX.below {w w' : World} {b n base B1 B2 B : Nat} {G : ByteArray → List ByteArray} (h : GMapX w b n base B1 B2 G) (hB : Below B w w') (hs : w.heap.size ≤ B) : GMapX w' b n base B1 B2 G := by
  obtain ⟨m, h1, h2, h3, h4, h5⟩ := h
  have hBm := hB.mono hs
  exact ⟨m, h1.below hBm h1.lt, fun k => own_below (h2 k) hBm, h3, h4, h5⟩
theorem GMapX.mono {w : World} {b n n' base B1 B2 : Nat} {G : ByteArray → List ByteArray} (h : GMapX w b n base B1 B2 G) (hn : n ≤ n') : GMapX w b n' base B1 B2 G := by
  obtain ⟨m, h1, h2⟩ := h
  exact ⟨m, h1.mono hn, h2⟩

theorem setM_avoid {m : ByteArray → Option Value} {key : ByteArray} {g n cap B1 B2 H : Nat} {v : Value} (hv : (m key).getD (.slice none 0 0) = v) (hav : ∀ k q, ((m k).getD (.slice none 0 0)).ownBlock = some q → q < B1 ∨ B2 ≤ q) (hat : v.ownBlock = some g ∨ g = H) (hH : B2 ≤ H) :
    ∀ k q, ((setM m key (.slice (some ⟨g, 0, none⟩) n cap) k).getD (.slice none 0 0)).ownBlock = some q → q < B1 ∨ B2 ≤ q := by
  intro k q hq
  unfold setM at hq
  by_cases hk : k = key
  · rw [if_pos hk] at hq
    simp only [Option.getD_some, Value.ownBlock, Option.some.injEq] at hq
    subst hq
    rcases hat with h | h
    · exact hav key g (by rw [hv]; exact h)
    · right; omega
  · rw [if_neg hk] at hq; exact hav k q hq
/-! ### plain -/
theorem belowL_succ {l : List Splt} {d : List Drp} {k : Nat} (hk : k < d.length) (key : ByteArray) : belowL l (d.take (k + 1)) key = belowL l (d.take k) key ++ (if isUp l key d[k] then [d[k].cust] else []) := by
  unfold belowL
  rw [List.take_succ_eq_append_getElem hk, List.filter_append, List.map_append]
  congr 1
  by_cases h : isUp l key d[k] = true
  · rw [List.filter_cons_of_pos h, if_pos h]; rfl
  · rw [List.filter_cons_of_neg h, if_neg h]; rfl
/-- what stands below a key when part of a chain has been gone through -/
def belJ (l : List Splt) (d : List Drp) (k j : Nat) (C : List Splt) (c : ByteArray) (key : ByteArray) : List ByteArray := belowL l (d.take k) key ++ (if (C.take j).any (fun s => decide (s.key = key)) then [c] else [])
theorem belJ_step {l : List Splt} {d : List Drp} {k j : Nat} {C : List Splt} {c : ByteArray} (hj : j < C.length) (hn : (C.map (·.key)).Nodup) (key : ByteArray) :
    (if key = C[j].key then belJ l d k j C c C[j].key ++ [c] else belJ l d k j C c key) = belJ l d k (j + 1) C c key := by
  have h0 : (C.take j).any (fun s => decide (s.key = C[j].key)) = false := by
    rw [List.any_eq_false]
    intro s hs
    obtain ⟨i, hi, rfl⟩ := List.mem_iff_getElem.1 hs
    rw [List.getElem_take]
    rw [List.length_take] at hi
    simp only [decide_eq_true_eq]
    intro e
    unfold List.Nodup at hn
    rw [List.pairwise_iff_getElem] at hn
    have := hn i j (by simp; omega) (by simpa using hj) (by omega)
    simp only [List.getElem_map] at this
    exact this e
  unfold belJ
  rw [List.take_succ_eq_append_getElem hj, List.any_append]
  by_cases hk : key = C[j].key
  · subst hk
    rw [if_pos rfl, h0]
    simp
  · rw [if_neg hk]
    have : (decide (C[j].key = key)) = false := by simp; exact fun e => hk e.symm
    simp [this]
theorem belJ_end {l : List Splt} {d : List Drp} {k : Nat} (hk : k < d.length) (key : ByteArray) : belJ l d k (chainV l d[k].spl).length (chainV l d[k].spl) d[k].cust key = belowL l (d.take (k + 1)) key := by
  unfold belJ
  rw [belowL_succ hk, List.take_length]
  congr 1
  unfold isUp chainV
  rw [List.any_reverse]

theorem belJ_len (l : List Splt) (d : List Drp) (k j : Nat) (C : List Splt) (c key : ByteArray) (hk : k ≤ 5000) : (belJ l d k j C c key).length ≤ 5001 := by
  unfold belJ belowL
  rw [List.length_append, List.length_map]
  have h1 := List.length_filter_le (isUp l key) (d.take k)
  have h2 : (d.take k).length ≤ k := by rw [List.length_take]; omega
  split <;> simp <;> omega
theorem own_sliceB {W : World} {B sz n : Nat} {e : TypeId} {v : Value} {xs : List Value} (h : W.ownsRow B e sz v n xs) : ∃ a cap, v = .slice a n cap := by
  rcases h.2 with ⟨hv, h0⟩ | ⟨g, cap, cur, rfl, _⟩
  · exact ⟨none, 0, by rw [hv, h0]⟩
  · exact ⟨_, cap, rfl⟩
theorem infoStrB : (Tryz.prog.info? 9).map (fun i => (i.zero, i.size, i.bytes)) = some (some (.string ⟨#[]⟩), 1, 16) := by kernel_rfl
theorem zeroStrs (w : World) : (zeroValue 87).run Tryz.prog w = .ok (.slice none 0 0) w := by kernel_rfl
theorem arr_keep {α : Type} {cells : α → List Value} {sz : Nat} {w w' : World} {l : List α} {v : Value} {B1 B2 : Nat} (h : Arr cells sz w l v) (hs : w.heap.size ≤ w'.heap.size) (h1 : ∀ b off n cap, v = .slice (some ⟨b, off, none⟩) n cap → B1 ≤ b) (h2 : ∀ k (hk : k < l.length) b off n cap, v = .slice (some ⟨b, off, none⟩) n cap → b < B2) (hk : ∀ k, B1 ≤ k → k < B2 → w'.heap[k]? = w.heap[k]?) : Arr cells sz w' l v := by
  obtain ⟨a, cap, rfl, g2, g3, g4⟩ := h
  refine ⟨a, cap, rfl, g2, g3, fun k hkl => ?_⟩
  obtain ⟨b, off, ha, hb, hc⟩ := g4 k hkl
  have e1 := h1 b off l.length cap (by rw [ha])
  have e2 := h2 k hkl b off l.length cap (by rw [ha])
  exact ⟨b, off, ha, by omega, fun j u hu => (World.cell?_of_block (w := w) (a := ⟨b, _, none⟩) (hk b e1 e2)).trans (hc j u hu)⟩
def BelPost (l : List Splt) (d : List Drp) (w : World) (e : Ending) (w' : World) : Prop := ∃ mb n, e = .returned (.map (some mb)) ∧ GMap w' mb n (mb + 1) (belowL l d) ∧ w.heap.size ≤ mb ∧ Below w.heap.size w w'
end Go.Proofs.YteliiknlpfjlkaaGreatDoor
/- Walk of package tree: the splitters that no customer lies below. -/
set_option linter.unusedVariables false
set_option linter.unusedSimpArgs false
namespace Go.Proofs.YteliiknlpfjlkaaGreatDoor
open Go Go.RowKit
open Go.Maps (Keyed)

theorem own_low {W : World} {B B' sz n : Nat} {e : TypeId} {v : Value} {xs : List Value} (h : W.ownsRow B e sz v n xs) (hb : B' ≤ B) : W.ownsRow B' e sz v n xs := by
  rcases h.2 with h0 | ⟨g, cap, cur, h1, h2, h3⟩
  · exact ⟨h.1, .inl h0⟩
  · exact ⟨h.1, .inr ⟨g, cap, cur, h1, by omega, h3⟩⟩
/-- the idle splitters among the first k -/
def idleK (l : List Splt) (d : List Drp) (k : Nat) : List ByteArray := ((l.take k).filter fun s => (belowL l d s.key).isEmpty).map (·.key)
theorem idleK_succ {l : List Splt} {d : List Drp} {k : Nat} (hk : k < l.length) : idleK l d (k + 1) = idleK l d k ++ (if (belowL l d l[k].key).isEmpty then [l[k].key] else []) := by
  unfold idleK
  rw [List.take_succ_eq_append_getElem hk, List.filter_append, List.map_append]
  congr 1
  by_cases h : (belowL l d l[k].key).isEmpty = true
  · simp [h]
  · simp [h]
theorem idleK_len (l : List Splt) (d : List Drp) (k : Nat) : (idleK l d k).length ≤ k := by
  unfold idleK
  rw [List.length_map]
  have h1 := List.length_filter_le (fun s => (belowL l d s.key).isEmpty) (l.take k)
  rw [List.length_take] at h1; omega
def IdlePost (l : List Splt) (d : List Drp) (v : Value) (w w' : World) : Prop := w'.ownsRow w.heap.size 9 1 v (idleL l d).length ((idleL l d).map Value.string)
end Go.Proofs.YteliiknlpfjlkaaGreatDoor
