/- Texts of one subject in one: Group, TreeBel, TreeI; what each shows stands at its head. No condition. -/
import Derived.Test.YtcecpodbmjghhaaGreatMapB
import Derived.Test.YtcecpodbmjghhaaGreatProg
import Derived.StringKeys
import Derived.Maps.Keyed
import Derived.Test.YtcecpodbmjghhaaGreatTreeGH
import Derived.Deep.AppendLies
/- Maps from strings to lists of strings that a call makes; a look-up and a store as steps of a region that draws its order. No condition. -/
set_option linter.unusedVariables false
set_option linter.unusedSimpArgs false
namespace Go.Proofs.YtcecpodbmjghhaaGreat
open Go Go.RowKit
open Go.Maps (Keyed)
section
variable {α : Type} {P : Program} {ops : Array Oper} {o : Oper} {a : Act} {w : World} {K' : Act → World → Prop} {Q : Exit → Act → World → Prop} {E : Prop}
theorem step_look (hgd : o.guard = none) (mo x : Operand) (t : TypeId) (hop : o.op = Op.lookup t mo x false) {k e : TypeId} (K : Keyed P k) (ht : P.underlying t = some (.map k e)) {z : Value} (hz : (zeroValue e).run P w = .ok z w)
    {kv : α → Value} {b n : Nat} {m : α → Option Value} (hown : MapIs P k kv w b n m) (hm : a.eval mo = .map (some b)) (q : α) {kl : Lit} (hkey : keyOf P k (kv q) = some kl) (hx : a.eval x = kv q) {v : Value} (hv : (m q).getD z = v)
    (h : K' (a.put o.dst v) w) : if Region.wanted o (yielded ops a.tmps) = true then Oper.wp P o a w K' Q else E := by
  have hw : Region.wanted o (yielded ops a.tmps) = true := by simp [Region.wanted, hgd]
  rw [if_pos hw]
  have hrun := hown.look K ht hz q hkey
  rw [hv] at hrun
  unfold Oper.wp
  simp [execOp, hop, hm, hx, hrun, Result.andThen]
  exact h
theorem step_update [DecidableEq α] (hgd : o.guard = none) (mo x v : Operand) (t : TypeId) (hop : o.op = Op.mapUpdate t mo x v) {k e : TypeId} (K : Keyed P k) (ht : P.underlying t = some (.map k e))
    {kv : α → Value} (hinj : ∀ a a', kv a = kv a' → a = a') {b n : Nat} {m : α → Option Value} (hown : MapIs P k kv w b n m) (hn : n < maxLen) (hm : a.eval mo = .map (some b)) (q : α) {kl : Lit} (hkey : keyOf P k (kv q) = some kl) (hx : a.eval x = kv q) (val : Value) (hv : a.eval v = val)
    (h : ∀ w', MapIs P k kv w' b (n + 1) (setM m q val) → w.grownBy w' (some b) → K' (a.put o.dst undef) w') : if Region.wanted o (yielded ops a.tmps) = true then Oper.wp P o a w K' Q else E := by
  have hw : Region.wanted o (yielded ops a.tmps) = true := by simp [Region.wanted, hgd]
  rw [if_pos hw]
  obtain ⟨w', hrun, r1, r2⟩ := hown.store K hinj ht hn q hkey val
  unfold Oper.wp
  simp [execOp, hop, hm, hx, hv, hrun, Result.andThen]
  exact h _ r1 r2
end
theorem strKeyed : Keyed Tryz.prog 9 := Maps.string_keyed Tryz.underlying9
theorem strKey (s : ByteArray) (h : s.size ≤ maxLen) : ∃ kl, keyOf Tryz.prog 9 (Value.string s) = some kl := ⟨_, WideMaps.keyOf_string_mk Tryz.underlying9 h⟩
theorem str_inj : ∀ a a' : ByteArray, Value.string a = Value.string a' → a = a' := fun a a' h => by cases h; rfl
/-- block b is a map of at most n entries that holds the list G k at the key k; each list lies in a row of its own from block base on -/
def GMap (w : World) (b n base : Nat) (G : ByteArray → List ByteArray) : Prop :=
  ∃ m : ByteArray → Option Value, MapIs Tryz.prog 9 Value.string w b n m ∧ (∀ k, w.ownsRow base 9 1 ((m k).getD (.slice none 0 0)) (G k).length ((G k).map Value.string)) ∧
    (∀ k k', k ≠ k' → ∀ g, ((m k).getD (.slice none 0 0)).ownBlock = some g → ((m k').getD (.slice none 0 0)).ownBlock ≠ some g) ∧ b < base
theorem GMap.made (w : World) (base : Nat) (hb : w.heap.size < base) : GMap (w.alloc (.map #[] 0)) w.heap.size 0 base (fun _ => []) := by
  refine ⟨fun _ => none, MapIs.made w _ _ _, fun _ => World.ownsRow_nil _ _ _ _, ?_, hb⟩
  intro k k' hk g h
  simp [Value.ownBlock] at h
theorem GMap.below {w w' : World} {b n base B : Nat} {G : ByteArray → List ByteArray} (h : GMap w b n base G) (hB : Below B w w') (hs : w.heap.size ≤ B) : GMap w' b n base G := by
  obtain ⟨m, h1, h2, h3, h4⟩ := h
  have hBm := hB.mono hs
  exact ⟨m, h1.below hBm h1.lt, fun k => own_below (h2 k) hBm, h3, h4⟩
theorem GMap.mono {w : World} {b n n' base : Nat} {G : ByteArray → List ByteArray} (h : GMap w b n base G) (hn : n ≤ n') : GMap w b n' base G := by
  obtain ⟨m, h1, h2⟩ := h
  exact ⟨m, h1.mono hn, h2⟩
theorem GMap.congr {w : World} {b n base : Nat} {G G' : ByteArray → List ByteArray} (h : GMap w b n base G) (hG : ∀ k, G k = G' k) : GMap w b n base G' := by
  have : G = G' := funext hG
  rw [← this]; exact h
/-- behind an append to the list at a key and the store of what it gives -/
theorem gmap_add {w w1 w2 : World} {b base g cap : Nat} {G : ByteArray → List ByteArray} {m : ByteArray → Option Value} {key c : ByteArray} {v : Value}
    (h2 : ∀ k, w.ownsRow base 9 1 ((m k).getD (.slice none 0 0)) (G k).length ((G k).map Value.string)) (h3 : ∀ k k', k ≠ k' → ∀ g, ((m k).getD (.slice none 0 0)).ownBlock = some g → ((m k').getD (.slice none 0 0)).ownBlock ≠ some g) (h4 : b < base)
    (hv : (m key).getD (.slice none 0 0) = v) (ho : w1.ownsRow base 9 1 (.slice (some ⟨g, 0, none⟩) ((G key).length + 1) cap) ((G key).length + 1) ((G key).map Value.string ++ [.string c])) (hg : w.grownBy w1 v.ownBlock)
    (hat : v.ownBlock = some g ∨ g = w.heap.size) (hg2 : w1.grownBy w2 (some b)) :
    (∀ k, w2.ownsRow base 9 1 ((setM m key (.slice (some ⟨g, 0, none⟩) ((G key).length + 1) cap) k).getD (.slice none 0 0)) (if k = key then G key ++ [c] else G k).length ((if k = key then G key ++ [c] else G k).map Value.string)) ∧
    (∀ k k', k ≠ k' → ∀ q, ((setM m key (.slice (some ⟨g, 0, none⟩) ((G key).length + 1) cap) k).getD (.slice none 0 0)).ownBlock = some q → ((setM m key (.slice (some ⟨g, 0, none⟩) ((G key).length + 1) cap) k').getD (.slice none 0 0)).ownBlock ≠ some q) := by
  have hkb : ∀ (k : ByteArray) (W : World) (xs : List Value) (v : Value) (q : Nat), W.ownsRow base 9 1 v q xs → v.ownBlock = none ∨ v.ownBlock ≠ some b := fun k W xs v q ho => by
    cases hv : v.ownBlock with
    | none => exact .inl rfl
    | some c => right; have := (ho.lt c hv).1; simp; omega
  have hothers : ∀ k, k ≠ key → ((m k).getD (.slice none 0 0)).ownBlock = none ∨ ((m k).getD (.slice none 0 0)).ownBlock ≠ v.ownBlock := fun k hk => by
    cases hkv : ((m k).getD (.slice none 0 0)).ownBlock with
    | none => exact .inl rfl
    | some c => right; intro e; exact h3 k key hk c hkv (by rw [hv]; exact e.symm)
  refine ⟨fun k => ?_, fun k k' hkk q hq => ?_⟩
  · unfold setM
    by_cases hk : k = key
    · subst hk
      simp only [if_pos rfl, Option.getD_some, if_true]
      rw [List.length_append, List.length_singleton, List.map_append]
      exact ho.kept hg2 (hkb k _ _ _ _ ho)
    · simp only [if_neg hk]
      exact ((h2 k).kept hg (hothers k hk)).kept hg2 (hkb k _ _ _ _ (h2 k))
  · unfold setM at hq ⊢
    have hnew : ∀ k, k ≠ key → ((m k).getD (.slice none 0 0)).ownBlock ≠ some g := fun k hk e => by
      rcases hat with h5 | h5
      · rcases hothers k hk with h6 | h6
        · rw [h6] at e; cases e
        · exact h6 (e.trans h5.symm)
      · have := ((h2 k).lt g e).2; omega
    by_cases hk : k = key
    · subst hk
      simp only [if_pos rfl, Option.getD_some, if_true] at hq
      rw [if_neg (Ne.symm hkk)]
      intro e
      have : g = q := by simpa [Value.ownBlock] using hq
      subst this
      exact hnew k' (Ne.symm hkk) e
    · rw [if_neg hk] at hq
      by_cases hk' : k' = key
      · subst hk'
        simp only [if_pos rfl, Option.getD_some, if_true]
        intro e
        have : g = q := by simpa [Value.ownBlock] using e
        subst this
        exact hnew k hk hq
      · rw [if_neg hk']; exact h3 k k' hkk q hq
end Go.Proofs.YtcecpodbmjghhaaGreat
/- Walk of package tree: the customers below each splitter. -/
namespace Go.Proofs.YtcecpodbmjghhaaGreat
open Go Go.RowKit
open Go.Maps (Keyed)
/-- as GMap; no list lies in the blocks from B1 to B2 -/
def GMapX (w : World) (b n base B1 B2 : Nat) (G : ByteArray → List ByteArray) : Prop :=
  ∃ m : ByteArray → Option Value, MapIs Tryz.prog 9 Value.string w b n m ∧ (∀ k, w.ownsRow base 9 1 ((m k).getD (.slice none 0 0)) (G k).length ((G k).map Value.string)) ∧
    (∀ k k', k ≠ k' → ∀ g, ((m k).getD (.slice none 0 0)).ownBlock = some g → ((m k').getD (.slice none 0 0)).ownBlock ≠ some g) ∧ b < base ∧ ∀ k g, ((m k).getD (.slice none 0 0)).ownBlock = some g → g < B1 ∨ B2 ≤ g
theorem GMap.avoid {w : World} {b n base : Nat} {G : ByteArray → List ByteArray} (h : GMap w b n base G) (B2 : Nat) : GMapX w b n base w.heap.size B2 G := by
  obtain ⟨m, h1, h2, h3, h4⟩ := h
  exact ⟨m, h1, h2, h3, h4, fun k g e => .inl ((h2 k).lt g e).2⟩
theorem GMapX.all {w : World} {b n base B1 B2 : Nat} {G : ByteArray → List ByteArray} (h : GMapX w b n base B1 B2 G) : GMap w b n base G := by
  obtain ⟨m, h1, h2, h3, h4, _⟩ := h
  exact ⟨m, h1, h2, h3, h4⟩
theorem GMapX.below {w w' : World} {b n base B1 B2 B : Nat} {G : ByteArray → List ByteArray} (h : GMapX w b n base B1 B2 G) (hB : Below B w w') (hs : w.heap.size ≤ B) : GMapX w' b n base B1 B2 G := by
  obtain ⟨m, h1, h2, h3, h4, h5⟩ := h
  have hBm := hB.mono hs
  exact ⟨m, h1.below hBm h1.lt, fun k => own_below (h2 k) hBm, h3, h4, h5⟩
theorem GMapX.mono {w : World} {b n n' base B1 B2 : Nat} {G : ByteArray → List ByteArray} (h : GMapX w b n base B1 B2 G) (hn : n ≤ n') : GMapX w b n' base B1 B2 G := by
  obtain ⟨m, h1, h2⟩ := h
  exact ⟨m, h1.mono hn, h2⟩
theorem setM_avoid {m : ByteArray → Option Value} {key : ByteArray} {g n cap B1 B2 H : Nat} {v : Value} (hv : (m key).getD (.slice none 0 0) = v) (hav : ∀ k q, ((m k).getD (.slice none 0 0)).ownBlock = some q → q < B1 ∨ B2 ≤ q) (hat : v.ownBlock = some g ∨ g = H) (hH : B2 ≤ H) :
    ∀ k q, ((setM m key (.slice (some ⟨g, 0, none⟩) n cap) k).getD (.slice none 0 0)).ownBlock = some q → q < B1 ∨ B2 ≤ q := by
  intro k q hq
  unfold setM at hq
  by_cases hk : k = key
  · rw [if_pos hk] at hq
    simp only [Option.getD_some, Value.ownBlock, Option.some.injEq] at hq
    subst hq
    rcases hat with h | h
    · exact hav key g (by rw [hv]; exact h)
    · right; omega
  · rw [if_neg hk] at hq; exact hav k q hq
/-! ### plain -/
theorem belowL_succ {l : List Splt} {d : List Drp} {k : Nat} (hk : k < d.length) (key : ByteArray) : belowL l (d.take (k + 1)) key = belowL l (d.take k) key ++ (if isUp l key d[k] then [d[k].cust] else []) := by
  unfold belowL
  rw [List.take_succ_eq_append_getElem hk, List.filter_append, List.map_append]
  congr 1
  by_cases h : isUp l key d[k] = true
  · rw [List.filter_cons_of_pos h, if_pos h]; rfl
  · rw [List.filter_cons_of_neg h, if_neg h]; rfl
/-- what stands below a key when part of a chain has been gone through -/
def belJ (l : List Splt) (d : List Drp) (k j : Nat) (C : List Splt) (c : ByteArray) (key : ByteArray) : List ByteArray := belowL l (d.take k) key ++ (if (C.take j).any (fun s => decide (s.key = key)) then [c] else [])
theorem belJ_step {l : List Splt} {d : List Drp} {k j : Nat} {C : List Splt} {c : ByteArray} (hj : j < C.length) (hn : (C.map (·.key)).Nodup) (key : ByteArray) :
    (if key = C[j].key then belJ l d k j C c C[j].key ++ [c] else belJ l d k j C c key) = belJ l d k (j + 1) C c key := by
  have h0 : (C.take j).any (fun s => decide (s.key = C[j].key)) = false := by
    rw [List.any_eq_false]
    intro s hs
    obtain ⟨i, hi, rfl⟩ := List.mem_iff_getElem.1 hs
    rw [List.getElem_take]
    rw [List.length_take] at hi
    simp only [decide_eq_true_eq]
    intro e
    unfold List.Nodup at hn
    rw [List.pairwise_iff_getElem] at hn
    have := hn i j (by simp; omega) (by simpa using hj) (by omega)
    simp only [List.getElem_map] at this
    exact this e
  unfold belJ
  rw [List.take_succ_eq_append_getElem hj, List.any_append]
  by_cases hk : key = C[j].key
  · subst hk
    rw [if_pos rfl, h0]
    simp
  · rw [if_neg hk]
    have : (decide (C[j].key = key)) = false := by simp; exact fun e => hk e.symm
    simp [this]
theorem belJ_end {l : List Splt} {d : List Drp} {k : Nat} (hk : k < d.length) (key : ByteArray) : belJ l d k (chainV l d[k].spl).length (chainV l d[k].spl) d[k].cust key = belowL l (d.take (k + 1)) key := by
  unfold belJ
  rw [belowL_succ hk, List.take_length]
  congr 1
  unfold isUp chainV
  rw [List.any_reverse]
theorem belJ_len (l : List Splt) (d : List Drp) (k j : Nat) (C : List Splt) (c key : ByteArray) (hk : k ≤ 5000) : (belJ l d k j C c key).length ≤ 5001 := by
  unfold belJ belowL
  rw [List.length_append, List.length_map]
  have h1 := List.length_filter_le (isUp l key) (d.take k)
  have h2 : (d.take k).length ≤ k := by rw [List.length_take]; omega
  split <;> simp <;> omega
theorem own_sliceB {W : World} {B sz n : Nat} {e : TypeId} {v : Value} {xs : List Value} (h : W.ownsRow B e sz v n xs) : ∃ a cap, v = .slice a n cap := by
  rcases h.2 with ⟨hv, h0⟩ | ⟨g, cap, cur, rfl, _⟩
  · exact ⟨none, 0, by rw [hv, h0]⟩
  · exact ⟨_, cap, rfl⟩
theorem infoStrB : (Tryz.prog.info? 9).map (fun i => (i.zero, i.size, i.bytes)) = some (some (.string ⟨#[]⟩), 1, 16) := by kernel_rfl
theorem zeroStrs (w : World) : (zeroValue 60).run Tryz.prog w = .ok (.slice none 0 0) w := by kernel_rfl
theorem arr_keep {α : Type} {cells : α → List Value} {sz : Nat} {w w' : World} {l : List α} {v : Value} {B1 B2 : Nat} (h : Arr cells sz w l v) (hs : w.heap.size ≤ w'.heap.size) (h1 : ∀ b off n cap, v = .slice (some ⟨b, off, none⟩) n cap → B1 ≤ b) (h2 : ∀ k (hk : k < l.length) b off n cap, v = .slice (some ⟨b, off, none⟩) n cap → b < B2) (hk : ∀ k, B1 ≤ k → k < B2 → w'.heap[k]? = w.heap[k]?) : Arr cells sz w' l v := by
  obtain ⟨a, cap, rfl, g2, g3, g4⟩ := h
  refine ⟨a, cap, rfl, g2, g3, fun k hkl => ?_⟩
  obtain ⟨b, off, ha, hb, hc⟩ := g4 k hkl
  have e1 := h1 b off l.length cap (by rw [ha])
  have e2 := h2 k hkl b off l.length cap (by rw [ha])
  exact ⟨b, off, ha, by omega, fun j u hu => (World.cell?_of_block (w := w) (a := ⟨b, _, none⟩) (hk b e1 e2)).trans (hc j u hu)⟩
def BelPost (l : List Splt) (d : List Drp) (w : World) (e : Ending) (w' : World) : Prop := ∃ mb n, e = .returned (.map (some mb)) ∧ GMap w' mb n (mb + 1) (belowL l d) ∧ w.heap.size ≤ mb ∧ Below w.heap.size w w'
set_option maxHeartbeats 8000000 in
set_option maxRecDepth 100000 in
theorem below_any (v1 v2 : Value) (l : List Splt) (d : List Drp) (w : World) (h1 : Arr Splt.cells 4 w l v1) (h2 : Arr Drp.cells 3 w d v2) (ok : TOk l d) : Calls Tryz.prog 105 #[.agg #[v1, v2]] w (BelPost l d w) := by
  have HA := Lib.hid (And.intro h1 h2)
  obtain ⟨a2, cap2, rfl, hcap2, hmax2, hc2⟩ := h2
  unfold maxLen at hmax2
  have HC := Lib.hid hc2
  have HOK := Lib.hid ok
  have hl5 := ok.s.len
  have hd5 : d.length ≤ 5000 := by
    have := ok.dr
    unfold dropsF at this
    split at this <;> omega
  clear h1 hc2 ok
  obtain ⟨i0, hi, hj0, hj1, hj2⟩ := info_parts infoStrB
  have hmm := @run_makeMap Tryz.prog
  have hbx : Blk (w.alloc (.cells #[v1, .slice a2 d.length cap2] 29)) w.heap.size #[v1, .slice a2 d.length cap2] 29 := Blk.new _ _ _
  have HBX := Lib.hid hbx
  clear hbx
  go_enter Tryz.func105, Tryz.ntmps105
  go_wp2
  have HG0 : Hid (GMap ((w.alloc (.cells #[v1, .slice a2 d.length cap2] 29)).alloc (.map #[] 0)) (w.heap.size + 1) 0 (w.heap.size + 2) (fun _ => [])) := by
    have := GMap.made (w.alloc (.cells #[v1, .slice a2 d.length cap2] 29)) (w.heap.size + 2) (by simp)
    unfold Hid
    simpa using this
  go_loopw [12] (fun i wr => ∃ k : Nat, k ≤ d.length ∧ i = .int .i64 k ∧ GMap wr (w.heap.size + 1) (500 * k) (w.heap.size + 2) (fun key => belowL l (d.take k) key) ∧ Below (w.heap.size + 1) (w.alloc (.cells #[v1, .slice a2 d.length cap2] 29)) wr) (fun i _ => d.length - (intOf i).toNat)
  case atStart => exact ⟨0, by omega, rfl, HG0.out.congr (fun k => by simp [belowL]), below_alloc (Below.refl _ _) _ (by simp)⟩
  case round =>
    obtain ⟨k, hk, rfl, hG, hB⟩ := hrel
    have hsz := hB.size
    simp only [World.size_alloc] at hsz
    have hmb : w.heap.size + 1 < wr.heap.size := by obtain ⟨m, h1, _⟩ := hG; exact h1.lt
    have hBw : Below w.heap.size w wr := below_at (below_alloc (Below.refl _ _) _ (Nat.le_refl _)) hB (by omega)
    have hbw := HBX.out.below hB (by omega)
    have t0 := hbw.cell 0 _ rfl
    have t1 := hbw.cell 1 _ rfl
    have HS := Lib.hid (And.intro hG (And.intro hB (And.intro hBw hbw)))
    have hlt0 : w.heap.size < wr.heap.size := by omega
    clear hG hB hBw hbw
    by_cases hlt : k < d.length
    · obtain ⟨b, off, rfl, hb, hcc⟩ := HC.out k hlt
      obtain ⟨c0, c1, c2⟩ := drp_at hcc
      replace c0 := (HS.out.2.2.1.cell (p := ⟨b, _, none⟩) hb).trans c0
      replace c1 := (HS.out.2.2.1.cell (p := ⟨b, _, none⟩) hb).trans c1
      replace c2 := (HS.out.2.2.1.cell (p := ⟨b, _, none⟩) hb).trans c2
      clear hcc
      obtain ⟨s0, hs0⟩ : ∃ s, getS l d[k].spl = some s := by
        obtain ⟨_, _, _, _, _, s, _, hg, _⟩ := HOK.out.drop hlt
        exact ⟨s, hg⟩
      have hen := HOK.out.ends hs0
      have HND : Hid (((chainV l d[k].spl).map (·.key)).Nodup) := by
        have := upC_nodup hen
        unfold Hid chainV
        rw [List.map_reverse]
        unfold List.Nodup at this ⊢
        rw [List.pairwise_reverse]
        exact this.imp (fun h => h.symm)
      have HKS : Hid (∀ s ∈ chainV l d[k].spl, s.key.size ≤ 40) := fun s hs => by
        have := upC_mem hen s (List.mem_reverse.1 hs)
        exact (keyB_size (HOK.out.s.keys s this).1).2
      have hcl : (chainV l d[k].spl).length ≤ 500 := by
        have := upC_le hen
        unfold chainV
        rw [List.length_reverse]; omega
      have HEN := Lib.hid (fun key => belJ_end (l := l) hlt key)
      have HE := Lib.hid hen
      clear hen hs0
      go_wp2_with fail
      refine (chain_any _ _ l d[k].spl _ (by exact HA.out.1.below (by have h3 := HS.out.2.2.1; (repeat (first | exact Below.refl _ _ | assumption | refine below_draws ?_ _ | refine Below.drew ?_ | refine below_alloc ?_ _ (by first | omega | (simp; done) | (simp; omega)) | refine Below.setCell ?_ (by first | omega | (simp; done) | (simp; omega)) _ | refine below_at ?_ (by assumption) (by first | omega | (simp; done) | (simp; omega)))))) HOK.out.s HE.out).mono ?_
      rintro e w1 ⟨vc, rfl, ⟨hAc, hlow⟩, hb1⟩
      have hz1 : wr.heap.size + 1 ≤ w1.heap.size := by have := hb1.size; simpa using this
      have hup : ∀ j (hj : j < (chainV l d[k].spl).length) b off n cap, vc = .slice (some ⟨b, off, none⟩) n cap → b < w1.heap.size := fun j hj b off n cap e => by
        obtain ⟨a', c', he, _, _, hc⟩ := hAc
        rw [e] at he
        simp only [Value.slice.injEq] at he
        obtain ⟨b', off', ha, hb', _⟩ := hc j hj
        have h5 := he.1.trans ha
        simp only [Option.some.injEq, Addr.mk.injEq] at h5
        omega
      obtain ⟨ac, cc, rfl, -, hcm, -⟩ := id hAc
      unfold maxLen at hcm
      have hGX := (HS.out.1.avoid w1.heap.size).below (below_at (below_alloc (Below.refl wr.heap.size wr) (.cells #[.string d[k].cust, .string d[k].spl, .int .i64 d[k].port] 36) (Nat.le_refl _)) hb1 (by simp)) (Nat.le_refl _)
      have hD1 := (Blk.new wr #[.string d[k].cust, .string d[k].spl, .int .i64 d[k].port] 36).below hb1 (by simp)
      have hB1 : Below (w.heap.size + 1) (w.alloc (.cells #[v1, .slice (some ⟨b, off, none⟩) d.length cap2] 29)) w1 := below_at (below_alloc HS.out.2.1 _ (by omega)) hb1 (by simp; omega)
      have H1 := Lib.hid (And.intro hGX (And.intro hD1 (And.intro hB1 (And.intro hAc (And.intro hlow hup)))))
      generalize hC : chainV l d[k].spl = C at *
      have HCC := Lib.hid hC
      clear hGX hD1 hB1 hAc hlow hup hb1 t0 t1 c0 c1 c2 hC
      go_wp2
      obtain ⟨wo, rfl⟩ : ∃ wo : World, wo = wr := ⟨_, rfl⟩
      go_loopw [21] (fun i ws => ∃ j : Nat, j ≤ C.length ∧ i = .int .i64 j ∧ GMapX ws (w.heap.size + 1) (500 * k + j) (w.heap.size + 2) wo.heap.size w1.heap.size (belJ l d k j C d[k].cust) ∧ Blk ws wo.heap.size #[.string d[k].cust, .string d[k].spl, .int .i64 d[k].port] 36 ∧ Below (w.heap.size + 1) (w.alloc (.cells #[v1, .slice (some ⟨b, off, none⟩) d.length cap2] 29)) ws ∧ Arr Splt.cells 4 ws C (.slice ac C.length cc) ∧ w1.heap.size ≤ ws.heap.size) (fun i _ => C.length - (intOf i).toNat)
      case atStart =>
        refine ⟨0, by omega, rfl, ?_, H1.out.2.1, H1.out.2.2.1, H1.out.2.2.2.1, Nat.le_refl _⟩
        have : belJ l d k 0 C d[k].cust = fun key => belowL l (d.take k) key := by funext key; simp [belJ]
        rw [this]; exact H1.out.1
      case round =>
        obtain ⟨j, hj, rfl, hG, hD, hB, hA, hzs⟩ := hrel
        obtain ⟨ws0, rfl⟩ : ∃ ws0 : World, ws0 = wr := ⟨_, rfl⟩
        have hls := hD.lt
        have HI := Lib.hid (And.intro hG (And.intro hD (And.intro hB hA)))
        have x0 := hD.cell 0 _ rfl
        by_cases hjl : j < C.length
        · obtain ⟨a', c', he, _, _, hcA⟩ := hA
          obtain ⟨b', off', ha, hb', hcc⟩ := hcA j hjl
          have he1 := he
          simp only [Value.slice.injEq] at he1
          obtain rfl : ac = some ⟨b', off', none⟩ := he1.1.trans ha
          obtain ⟨y0, y1, y2, y3⟩ := splt_at hcc
          have hjc : (j : Int) < C.length := by omega
          have hks := HKS.out C[j] (List.getElem_mem _)
          obtain ⟨kl, hkl⟩ := strKey C[j].key (by unfold maxLen; omega)
          have HKL := Lib.hid hkl
          clear hG hD hB hcA hcc he he1 ha hkl
          go_wp2_with fail
          obtain ⟨mm, hM, hO, hDi, -, hAv⟩ := HI.out.1
          have HLT := Lib.hid (fun k g e => ((hO k).lt g e).2)
          have hbl := belJ_len l d k j C d[k].cust C[j].key (by omega)
          obtain ⟨va, vcap, hv⟩ := own_sliceB (hO C[j].key)
          have HV := Lib.hid hv
          generalize hbn : (belJ l d k j C d[k].cust C[j].key).length = bn at *
          have HBN := Lib.hid hbn
          have hD7 : Blk (ws0.alloc (.cells #[.string C[j].key, .int .i64 C[j].ways, .string C[j].par, .int .i64 C[j].port] 58)).drew ws0.heap.size #[.string C[j].key, .int .i64 C[j].ways, .string C[j].par, .int .i64 C[j].port] 58 := Blk.new ws0 _ _
          have hDd : Blk (ws0.alloc (.cells #[.string C[j].key, .int .i64 C[j].ways, .string C[j].par, .int .i64 C[j].port] 58)).drew wo.heap.size #[.string d[k].cust, .string d[k].spl, .int .i64 d[k].port] 36 := HI.out.2.1.alloc _
          have HW := Lib.hid (And.intro (MapIs.drew (hM.alloc (.cells #[.string C[j].key, .int .i64 C[j].ways, .string C[j].par, .int .i64 C[j].port] 58))) (And.intro (fun key => (show (ws0.alloc (.cells #[.string C[j].key, .int .i64 C[j].ways, .string C[j].par, .int .i64 C[j].port] 58)).drew.ownsRow (w.heap.size + 2) 9 1 ((mm key).getD (.slice none 0 0)) (belJ l d k j C d[k].cust key).length ((belJ l d k j C d[k].cust key).map Value.string) from (hO key).alloc _)) (And.intro hDi (And.intro hAv (And.intro hD7 hDd)))))
          have hB7 : Below (w.heap.size + 1) (w.alloc (.cells #[v1, .slice (some ⟨b, off, none⟩) d.length cap2] 29)) (ws0.alloc (.cells #[.string C[j].key, .int .i64 C[j].ways, .string C[j].par, .int .i64 C[j].port] 58)).drew := Below.drew (below_alloc HI.out.2.2.1 _ (by omega))
          have hA7 : Arr Splt.cells 4 (ws0.alloc (.cells #[.string C[j].key, .int .i64 C[j].ways, .string C[j].par, .int .i64 C[j].port] 58)).drew C (.slice (some ⟨b', off', none⟩) C.length cc) := (HI.out.2.2.2.below (below_alloc (Below.refl _ _) _ (Nat.le_refl _))).drew
          have HZ := Lib.hid (And.intro hB7 hA7)
          have hzz : ws0.heap.size < (ws0.alloc (.cells #[.string C[j].key, .int .i64 C[j].ways, .string C[j].par, .int .i64 C[j].port] 58)).drew.heap.size := by simp
          refine WalkT.start (fun w' => w'.cell? ⟨ws0.heap.size, 0, none⟩ = some (.string C[j].key) ∧ w'.cell? ⟨wo.heap.size, 0, none⟩ = some (.string d[k].cust)) [11] (by kernel_rfl) ?_
          clear hM hO hDi hAv hD7 hDd hv hbn x0 y0 y1 y2 y3 hB7 hA7
          generalize (ws0.alloc (.cells #[.string C[j].key, .int .i64 C[j].ways, .string C[j].par, .int .i64 C[j].port] 58)).drew = W0 at *
          generalize ws0.heap.size = t7 at *
          have hS1 : W0.cell? ⟨t7, 0, none⟩ = some (.string C[j].key) ∧ W0.cell? ⟨wo.heap.size, 0, none⟩ = some (.string d[k].cust) := ⟨HW.out.2.2.2.2.1.cell 0 _ rfl, HW.out.2.2.2.2.2.cell 0 _ rfl⟩
          (refine WalkT.quiet (i := 0) (v := ?_) rfl (by kernel_rfl) (by kernel_rfl) (by kernel_rfl) (fun _ _ _ h => h) (Or.inl ⟨by rfl, ?_⟩) ?_; rotate_left; (· (intro wS hSw; (try dsimp only at hSw); go_simp; try with_reducible rfl)); try simp only [Act.put, pu1, pu2, pu3, pu4, pu5, pu6])
          (refine WalkT.quiet (i := 1) (v := ?_) rfl (by kernel_rfl) (by kernel_rfl) (by kernel_rfl) (fun _ _ _ h => h) (Or.inl ⟨by rfl, ?_⟩) ?_; rotate_left; (· (intro wS hSw; (try dsimp only at hSw); go_simp; try with_reducible rfl)); try simp only [Act.put, pu1, pu2, pu3, pu4, pu5, pu6])
          (refine WalkT.take (i := 2) (v := ?_) rfl (by kernel_rfl) (by kernel_rfl) (by kernel_rfl) (by kernel_rfl) (fun _ _ _ h => h) hS1 (Or.inl ⟨by rfl, ?_⟩) ?_; rotate_left; (· (intro wS hSw; (try dsimp only at hSw); obtain ⟨t0, t1⟩ := hSw; go_simp; try with_reducible rfl)); try simp only [Act.put, pu1, pu2, pu3, pu4, pu5, pu6])
          (refine WalkT.quiet (i := 3) (v := ?_) rfl (by kernel_rfl) (by kernel_rfl) (by kernel_rfl) (fun _ _ _ h => h) (Or.inl ⟨by rfl, ?_⟩) ?_; rotate_left; (· (intro wS hSw; (try dsimp only at hSw); go_simp; try with_reducible rfl)); try simp only [Act.put, pu1, pu2, pu3, pu4, pu5, pu6])
          (refine WalkT.quiet (i := 4) (v := ?_) rfl (by kernel_rfl) (by kernel_rfl) (by kernel_rfl) (fun _ _ _ h => h) (Or.inl ⟨by rfl, ?_⟩) ?_; rotate_left; (· (intro wS hSw; (try dsimp only at hSw); go_simp; try with_reducible rfl)); try simp only [Act.put, pu1, pu2, pu3, pu4, pu5, pu6])
          (refine WalkT.take (i := 5) (v := ?_) rfl (by kernel_rfl) (by kernel_rfl) (by kernel_rfl) (by kernel_rfl) (fun _ _ _ h => h) hS1 (Or.inl ⟨by rfl, ?_⟩) ?_; rotate_left; (· (intro wS hSw; (try dsimp only at hSw); obtain ⟨t0, t1⟩ := hSw; go_simp; try with_reducible rfl)); try simp only [Act.put, pu1, pu2, pu3, pu4, pu5, pu6])
          (refine WalkT.quiet (i := 7) (v := ?_) rfl (by kernel_rfl) (by kernel_rfl) (by kernel_rfl) (fun _ _ _ h => h) (Or.inl ⟨by rfl, ?_⟩) ?_; rotate_left; (· (intro wS hSw; (try dsimp only at hSw); go_simp; try with_reducible rfl)); try simp only [Act.put, pu1, pu2, pu3, pu4, pu5, pu6])
          (refine WalkT.take (i := 8) (v := ?_) rfl (by kernel_rfl) (by kernel_rfl) (by kernel_rfl) (by kernel_rfl) (fun _ _ _ h => h) hS1 (Or.inl ⟨by rfl, ?_⟩) ?_; rotate_left; (· (intro wS hSw; (try dsimp only at hSw); obtain ⟨t0, t1⟩ := hSw; go_simp; try with_reducible rfl)); try simp only [Act.put, pu1, pu2, pu3, pu4, pu5, pu6])
          refine WalkT.ready (rs := [6, 9]) (by kernel_rfl) (by simp) ?_
          refine AllT.cons rfl (fun K hK => ?_) ?_
          · refine step_look (by rfl) _ _ _ (by rfl) strKeyed Tryz.underlying140 (zeroStrs _) HW.out.1 (by rfl) C[j].key HKL.out (by rfl) HV.out ?_
            (refine hK.out _ _ (fun _ _ => hS1) ?_; clear hK K; try simp only [Act.put, pu1, pu2, pu3, pu4, pu5, pu6])
            (refine WalkT.ready (rs := [9]) (by kernel_rfl) (by simp) (AllT.cons rfl (fun K hK => ?_) AllT.nil); go_simp)
            (refine hK.out _ _ (fun _ _ => ⟨(HW.out.2.2.2.2.1.alloc _).cell 0 _ rfl, (HW.out.2.2.2.2.2.alloc _).cell 0 _ rfl⟩) ?_; clear hK K; try simp only [Act.put, pu1, pu2, pu3, pu4, pu5, pu6])
            (have ho9 := (HW.out.2.1 C[j].key).alloc (.cells #[.string d[k].cust] 9); rw [HV.out, HBN.out] at ho9; have hlv := HLT.out C[j].key; rw [HV.out] at hlv; have hav := HW.out.2.2.2.1 C[j].key; rw [HV.out] at hav; (refine WalkT.ready (rs := [10]) (by kernel_rfl) (by simp) (AllT.cons rfl (fun K hK => ?_) AllT.nil)); refine step_append_lies _ (by rfl) _ _ _ (by rfl) (w.heap.size + 2) 9 _ _ 1 16 Tryz.underlying60 hi hj0 hj1 hj2 rfl (by decide) _ bn _ (by rfl) ho9 ⟨_, 0, none⟩ 1 1 [.string d[k].cust] (by rfl) rfl (by exact news_at rfl rfl) (by simp [Value.oneCell']) (by omega) (by unfold maxLen; omega) (by omega) (by simp; omega) _ rfl ?_; intro g5 cap5 w5 hown5 hg5 hat5 hlt5; have ne7 : some t7 ≠ (Value.slice va bn vcap).ownBlock := fun e => (by have := hlv t7 e.symm; omega); have ned : some wo.heap.size ≠ (Value.slice va bn vcap).ownBlock := fun e => (by have := hav wo.heap.size e.symm; omega); have nem : some (w.heap.size + 1) ≠ (Value.slice va bn vcap).ownBlock := fun e => (by have := (ho9.lt _ e.symm).1; omega); (refine hK.out _ _ (fun _ _ => ⟨((HW.out.2.2.2.2.1.alloc _).grown hg5 ne7).cell 0 _ rfl, ((HW.out.2.2.2.2.2.alloc _).grown hg5 ned).cell 0 _ rfl⟩) ?_; clear hK K; try simp only [Act.put, pu1, pu2, pu3, pu4, pu5, pu6]); (refine WalkT.ready (rs := [11]) (by kernel_rfl) (by simp) (AllT.cons rfl (fun K hK => ?_) AllT.nil)); refine step_update (by rfl) _ _ _ _ (by rfl) strKeyed Tryz.underlying140 str_inj ((HW.out.1.alloc _).kept hg5 nem) (by unfold maxLen; omega) (by rfl) C[j].key HKL.out (by rfl) _ (by rfl) ?_; intro w6 hM6 hg6; (refine hK.out _ _ (fun h => absurd h (by decide)) ?_; clear hK K; try simp only [Act.put, pu1, pu2, pu3, pu4, pu5, pu6]); refine WalkT.done (by kernel_rfl) ?_; rw [← HBN.out] at hown5 hM6; have hga := gmap_add (w := W0.alloc (.cells #[.string d[k].cust] 9)) (b := w.heap.size + 1) (base := w.heap.size + 2) (G := belJ l d k j C d[k].cust) (m := mm) (fun key => (HW.out.2.1 key).alloc _) HW.out.2.2.1 (by omega) HV.out hown5 hg5 hat5 hg6; have hs5 := hg5.size; have hs6 := hg6.size; simp only [World.size_alloc] at hs5; have hkeep : ∀ q, wo.heap.size ≤ q → q < w1.heap.size → w6.heap[q]? = W0.heap[q]? := fun q hq1 hq2 => (hg6.block q (by omega) (by simp; omega)).trans ((hg5.block q (by simp; omega) (fun e => by have := hav q e.symm; omega)).trans (Below.heap_alloc _ _ _ (by omega))); have HFIN : Hid (GMapX w6 (w.heap.size + 1) (500 * k + (j + 1)) (w.heap.size + 2) wo.heap.size w1.heap.size (belJ l d k (j + 1) C d[k].cust)) := ⟨_, hM6, fun key => (by have := hga.1 key; rw [belJ_step hjl HND.out] at this; exact this), hga.2, by omega, setM_avoid HV.out HW.out.2.2.2.1 hat5 (by simp; omega)⟩; have HF2 : Hid (Blk w6 wo.heap.size #[.string d[k].cust, .string d[k].spl, .int .i64 d[k].port] 36) := (((HW.out.2.2.2.2.2.alloc _).grown hg5 ned).grown hg6 (by simp; omega)); have HF3 : Hid (Below (w.heap.size + 1) (w.alloc (.cells #[v1, .slice (some ⟨b, off, none⟩) d.length cap2] 29)) w6) := below_at (below_at (below_alloc HZ.out.1 _ (by omega)) (Below.grown (Below.refl (w.heap.size + 2) _) hg5 (by simp; omega) (fun q e => (ho9.lt q e).1)) (by omega)) (grown_row hg6 (Nat.le_refl _) (by omega)) (Nat.le_refl _); have HF4 : Hid (Arr Splt.cells 4 w6 C (.slice (some ⟨b', off', none⟩) C.length cc)) := arr_keep HZ.out.2 (by omega) (B1 := wo.heap.size) (B2 := w1.heap.size) (fun b off n cap e => by have := H1.out.2.2.2.2.1 b off n cap e; simp only [World.size_alloc] at this; omega) H1.out.2.2.2.2.2 hkeep; clear hga hkeep hown5 hM6 hg5 hg6 hat5 ho9 hlv hav hS1; go_wp2; exact ⟨⟨j + 1, by omega, by go_num, HFIN.out, HF2.out, HF3.out, HF4.out, by omega⟩, by simp [intOf]; omega⟩)
          refine AllT.cons rfl (fun K hK => ?_) AllT.nil
          · go_simp
            (refine hK.out _ _ (fun _ _ => ⟨(HW.out.2.2.2.2.1.alloc _).cell 0 _ rfl, (HW.out.2.2.2.2.2.alloc _).cell 0 _ rfl⟩) ?_; clear hK K; try simp only [Act.put, pu1, pu2, pu3, pu4, pu5, pu6])
            (refine WalkT.ready (rs := [6]) (by kernel_rfl) (by simp) (AllT.cons rfl (fun K hK => ?_) AllT.nil))
            refine step_look (by rfl) _ _ _ (by rfl) strKeyed Tryz.underlying140 (zeroStrs _) (HW.out.1.alloc _) (by rfl) C[j].key HKL.out (by rfl) HV.out ?_
            (refine hK.out _ _ (fun _ _ => ⟨(HW.out.2.2.2.2.1.alloc _).cell 0 _ rfl, (HW.out.2.2.2.2.2.alloc _).cell 0 _ rfl⟩) ?_; clear hK K; try simp only [Act.put, pu1, pu2, pu3, pu4, pu5, pu6])
            (have ho9 := (HW.out.2.1 C[j].key).alloc (.cells #[.string d[k].cust] 9); rw [HV.out, HBN.out] at ho9; have hlv := HLT.out C[j].key; rw [HV.out] at hlv; have hav := HW.out.2.2.2.1 C[j].key; rw [HV.out] at hav; (refine WalkT.ready (rs := [10]) (by kernel_rfl) (by simp) (AllT.cons rfl (fun K hK => ?_) AllT.nil)); refine step_append_lies _ (by rfl) _ _ _ (by rfl) (w.heap.size + 2) 9 _ _ 1 16 Tryz.underlying60 hi hj0 hj1 hj2 rfl (by decide) _ bn _ (by rfl) ho9 ⟨_, 0, none⟩ 1 1 [.string d[k].cust] (by rfl) rfl (by exact news_at rfl rfl) (by simp [Value.oneCell']) (by omega) (by unfold maxLen; omega) (by omega) (by simp; omega) _ rfl ?_; intro g5 cap5 w5 hown5 hg5 hat5 hlt5; have ne7 : some t7 ≠ (Value.slice va bn vcap).ownBlock := fun e => (by have := hlv t7 e.symm; omega); have ned : some wo.heap.size ≠ (Value.slice va bn vcap).ownBlock := fun e => (by have := hav wo.heap.size e.symm; omega); have nem : some (w.heap.size + 1) ≠ (Value.slice va bn vcap).ownBlock := fun e => (by have := (ho9.lt _ e.symm).1; omega); (refine hK.out _ _ (fun _ _ => ⟨((HW.out.2.2.2.2.1.alloc _).grown hg5 ne7).cell 0 _ rfl, ((HW.out.2.2.2.2.2.alloc _).grown hg5 ned).cell 0 _ rfl⟩) ?_; clear hK K; try simp only [Act.put, pu1, pu2, pu3, pu4, pu5, pu6]); (refine WalkT.ready (rs := [11]) (by kernel_rfl) (by simp) (AllT.cons rfl (fun K hK => ?_) AllT.nil)); refine step_update (by rfl) _ _ _ _ (by rfl) strKeyed Tryz.underlying140 str_inj ((HW.out.1.alloc _).kept hg5 nem) (by unfold maxLen; omega) (by rfl) C[j].key HKL.out (by rfl) _ (by rfl) ?_; intro w6 hM6 hg6; (refine hK.out _ _ (fun h => absurd h (by decide)) ?_; clear hK K; try simp only [Act.put, pu1, pu2, pu3, pu4, pu5, pu6]); refine WalkT.done (by kernel_rfl) ?_; rw [← HBN.out] at hown5 hM6; have hga := gmap_add (w := W0.alloc (.cells #[.string d[k].cust] 9)) (b := w.heap.size + 1) (base := w.heap.size + 2) (G := belJ l d k j C d[k].cust) (m := mm) (fun key => (HW.out.2.1 key).alloc _) HW.out.2.2.1 (by omega) HV.out hown5 hg5 hat5 hg6; have hs5 := hg5.size; have hs6 := hg6.size; simp only [World.size_alloc] at hs5; have hkeep : ∀ q, wo.heap.size ≤ q → q < w1.heap.size → w6.heap[q]? = W0.heap[q]? := fun q hq1 hq2 => (hg6.block q (by omega) (by simp; omega)).trans ((hg5.block q (by simp; omega) (fun e => by have := hav q e.symm; omega)).trans (Below.heap_alloc _ _ _ (by omega))); have HFIN : Hid (GMapX w6 (w.heap.size + 1) (500 * k + (j + 1)) (w.heap.size + 2) wo.heap.size w1.heap.size (belJ l d k (j + 1) C d[k].cust)) := ⟨_, hM6, fun key => (by have := hga.1 key; rw [belJ_step hjl HND.out] at this; exact this), hga.2, by omega, setM_avoid HV.out HW.out.2.2.2.1 hat5 (by simp; omega)⟩; have HF2 : Hid (Blk w6 wo.heap.size #[.string d[k].cust, .string d[k].spl, .int .i64 d[k].port] 36) := (((HW.out.2.2.2.2.2.alloc _).grown hg5 ned).grown hg6 (by simp; omega)); have HF3 : Hid (Below (w.heap.size + 1) (w.alloc (.cells #[v1, .slice (some ⟨b, off, none⟩) d.length cap2] 29)) w6) := below_at (below_at (below_alloc HZ.out.1 _ (by omega)) (Below.grown (Below.refl (w.heap.size + 2) _) hg5 (by simp; omega) (fun q e => (ho9.lt q e).1)) (by omega)) (grown_row hg6 (Nat.le_refl _) (by omega)) (Nat.le_refl _); have HF4 : Hid (Arr Splt.cells 4 w6 C (.slice (some ⟨b', off', none⟩) C.length cc)) := arr_keep HZ.out.2 (by omega) (B1 := wo.heap.size) (B2 := w1.heap.size) (fun b off n cap e => by have := H1.out.2.2.2.2.1 b off n cap e; simp only [World.size_alloc] at this; omega) H1.out.2.2.2.2.2 hkeep; clear hga hkeep hown5 hM6 hg5 hg6 hat5 ho9 hlv hav hS1; go_wp2; exact ⟨⟨j + 1, by omega, by go_num, HFIN.out, HF2.out, HF3.out, HF4.out, by omega⟩, by simp [intOf]; omega⟩)
        · obtain rfl : j = C.length := by omega
          go_wp2
          refine ⟨⟨k + 1, by omega, by go_num, ?_, HI.out.2.2.1⟩, by simp [intOf]; omega⟩
          refine (HI.out.1.all.congr (fun key => ?_)).mono (by omega)
          exact HEN.out key
    · obtain rfl : k = d.length := by omega
      go_wp2
      go_ret
      refine ⟨w.heap.size + 1, 500 * d.length, rfl, ?_, by omega, HS.out.2.2.1⟩
      have h := HS.out.1
      rw [List.take_length] at h
      exact h
end Go.Proofs.YtcecpodbmjghhaaGreat
/- Walk of package tree: the splitters that no customer lies below. -/
namespace Go.Proofs.YtcecpodbmjghhaaGreat
open Go Go.RowKit
open Go.Maps (Keyed)
theorem own_low {W : World} {B B' sz n : Nat} {e : TypeId} {v : Value} {xs : List Value} (h : W.ownsRow B e sz v n xs) (hb : B' ≤ B) : W.ownsRow B' e sz v n xs := by
  rcases h.2 with h0 | ⟨g, cap, cur, h1, h2, h3⟩
  · exact ⟨h.1, .inl h0⟩
  · exact ⟨h.1, .inr ⟨g, cap, cur, h1, by omega, h3⟩⟩
/-- the idle splitters among the first k -/
def idleK (l : List Splt) (d : List Drp) (k : Nat) : List ByteArray := ((l.take k).filter fun s => (belowL l d s.key).isEmpty).map (·.key)
theorem idleK_succ {l : List Splt} {d : List Drp} {k : Nat} (hk : k < l.length) : idleK l d (k + 1) = idleK l d k ++ (if (belowL l d l[k].key).isEmpty then [l[k].key] else []) := by
  unfold idleK
  rw [List.take_succ_eq_append_getElem hk, List.filter_append, List.map_append]
  congr 1
  by_cases h : (belowL l d l[k].key).isEmpty = true
  · simp [h]
  · simp [h]
theorem idleK_len (l : List Splt) (d : List Drp) (k : Nat) : (idleK l d k).length ≤ k := by
  unfold idleK
  rw [List.length_map]
  have h1 := List.length_filter_le (fun s => (belowL l d s.key).isEmpty) (l.take k)
  rw [List.length_take] at h1; omega
def IdlePost (l : List Splt) (d : List Drp) (v : Value) (w w' : World) : Prop := w'.ownsRow w.heap.size 9 1 v (idleL l d).length ((idleL l d).map Value.string)
set_option maxHeartbeats 4000000 in
set_option maxRecDepth 100000 in
theorem idle_any (v1 v2 : Value) (l : List Splt) (d : List Drp) (w : World) (h1 : Arr Splt.cells 4 w l v1) (h2 : Arr Drp.cells 3 w d v2) (ok : TOk l d) : Calls Tryz.prog 58 #[.agg #[v1, v2]] w (Ret (fun v w' => IdlePost l d v w w') w) := by
  have HA := Lib.hid (And.intro h1 (And.intro h2 ok))
  obtain ⟨a1, cap1, rfl, hcap1, hmax1, hc1⟩ := h1
  unfold maxLen at hmax1
  have HC := Lib.hid hc1
  have hl5 := ok.s.len
  have HKS : Hid (∀ k (hk : k < l.length), l[k].key.size ≤ 40) := fun k hk => (keyB_size (ok.s.keys l[k] (List.getElem_mem _)).1).2
  clear h2 hc1 ok
  obtain ⟨i0, hi, hz0, hz1, hz2⟩ := info_parts infoStrB
  have hbx : Blk (w.alloc (.cells #[.slice a1 l.length cap1, v2] 29)) w.heap.size #[.slice a1 l.length cap1, v2] 29 := Blk.new _ _ _
  have HBX := Lib.hid hbx
  have b0 := hbx.cell 0 _ rfl
  have b1 := hbx.cell 1 _ rfl
  clear hbx
  go_enter Tryz.func58, Tryz.ntmps58
  go_wp2_with fail
  refine (below_any _ _ l d _ (HA.out.1.below (below_alloc (Below.refl _ _) _ (Nat.le_refl _))) (HA.out.2.1.below (below_alloc (Below.refl _ _) _ (Nat.le_refl _))) HA.out.2.2).mono ?_
  rintro e w1 ⟨mb, n, rfl, hG, hmb, hb1⟩
  simp only [World.size_alloc] at hmb
  have hq1 := hb1.size
  simp only [World.size_alloc] at hq1
  have hbw1 := HBX.out.below hb1 (by simp)
  have hBw1 : Below w.heap.size w w1 := below_at (below_alloc (Below.refl _ _) _ (Nat.le_refl _)) hb1 (by simp)
  have H1 := Lib.hid (And.intro hG (And.intro hbw1 hBw1))
  clear hG hbw1 hBw1 hb1 b0 b1
  have b0 := H1.out.2.1.cell 0 _ rfl
  go_wp2
  go_loopw [4, 12] (fun ov i wr => ∃ k : Nat, k ≤ l.length ∧ i = .int .i64 k ∧ wr.ownsRow w1.heap.size 9 1 ov (idleK l d k).length ((idleK l d k).map Value.string) ∧ Below w1.heap.size w1 wr) (fun _ i _ => l.length - (intOf i).toNat)
  case atStart => exact ⟨0, by omega, rfl, World.ownsRow_nil _ _ _ _, Below.refl _ _⟩
  case round =>
    obtain ⟨k, hk, rfl, hown, hB⟩ := hrel
    have hsz := hB.size
    have HS := Lib.hid (And.intro hown hB)
    have hil := idleK_len l d k
    clear hown hB
    by_cases hlt : k < l.length
    · obtain ⟨b, off, rfl, hb, hcc⟩ := HC.out k hlt
      obtain ⟨y0, y1, y2, y3⟩ := splt_at hcc
      have hBw := H1.out.2.2.trans (HS.out.2.mono (by omega))
      replace y0 := (hBw.cell (p := ⟨b, _, none⟩) hb).trans y0
      replace y1 := (hBw.cell (p := ⟨b, _, none⟩) hb).trans y1
      replace y2 := (hBw.cell (p := ⟨b, _, none⟩) hb).trans y2
      replace y3 := (hBw.cell (p := ⟨b, _, none⟩) hb).trans y3
      have hks := HKS.out k hlt
      obtain ⟨kl, hkl⟩ := strKey l[k].key (by unfold maxLen; omega)
      have HKL := Lib.hid hkl
      have hGr := H1.out.1.below HS.out.2 (Nat.le_refl _)
      obtain ⟨mm, hM, hO, -, -⟩ := hGr
      obtain ⟨va, vcap, hv⟩ := own_sliceB (hO l[k].key)
      have HV := Lib.hid hv
      have HM := Lib.hid (hM.alloc (.cells #[.string l[k].key, .int .i64 l[k].ways, .string l[k].par, .int .i64 l[k].port] 58))
      have hs5 := idleK_succ (d := d) hlt
      have hbel : (belowL l d l[k].key).length ≤ 5000 := by
        have hd5 : d.length ≤ 5000 := by
          have := HA.out.2.2.dr
          unfold dropsF at this
          split at this <;> omega
        unfold belowL
        rw [List.length_map]
        exact Nat.le_trans (List.length_filter_le _ _) hd5
      have hem : (belowL l d l[k].key).isEmpty = decide ((belowL l d l[k].key).length = 0) := by cases belowL l d l[k].key <;> simp
      have HX := Lib.hid (And.intro hs5 hem)
      have hX := Blk.new wr #[.string l[k].key, .int .i64 l[k].ways, .string l[k].par, .int .i64 l[k].port] 58
      have z0 := hX.cell 0 _ rfl
      have hfin := Nat.lt_of_lt_of_le hq1 hsz
      clear hcc hBw hkl hM hO hv hs5 hX hem
      generalize hbl : (belowL l d l[k].key).length = bl at *
      have HBL := Lib.hid hbl
      clear hbl
      by_cases h0 : bl = 0
      · subst h0
        go_wp2_with (first
          | (at_lookup; refine wpList_look (by rfl) _ _ _ rfl strKeyed Tryz.underlying140 (zeroStrs _) HM.out rfl l[k].key HKL.out rfl HV.out ?_)
          | ((at_builtin; go_must (refine wpList_append_own _ rfl _ _ 60 rfl _ 9 _ (.string ⟨#[]⟩) 1 16 Tryz.underlying60 hi hz0 hz1 hz2 rfl (by decide) _ _ _ rfl ((HS.out.1.alloc _).alloc _) ⟨(wr.heap.size + 1), 0, none⟩ 1 1 [.string l[k].key] rfl rfl (by exact news_at (by first | rfl | simp) (by rfl)) (by simp [Value.oneCell']) (by unfold maxLen; omega) (by omega) (by first | omega | (simp; done) | (simp; omega)) ?_)); intro v' w6 hown6 hgrow _))
        have e0 : (belowL l d l[k].key).isEmpty = true := by rw [HX.out.2]; simp [HBL.out]
        have e1 := HX.out.1
        rw [e0, if_pos rfl] at e1
        refine ⟨⟨k + 1, by omega, by go_num, ?_, ?_⟩, by simp [intOf]; omega⟩
        · rw [e1, List.length_append, List.length_singleton, List.map_append]; exact hown6
        · exact below_grown (below_alloc (below_alloc HS.out.2 _ (by omega)) _ (by simp; omega)) ((HS.out.1.alloc _).alloc _) hgrow (Nat.le_refl _) (by simp; omega)
      · go_wp2_with (first
          | (at_lookup; refine wpList_look (by rfl) _ _ _ rfl strKeyed Tryz.underlying140 (zeroStrs _) HM.out rfl l[k].key HKL.out rfl HV.out ?_))
        have e0 : (belowL l d l[k].key).isEmpty = false := by rw [HX.out.2]; simp [HBL.out, h0]
        have e1 := HX.out.1
        rw [e0, if_neg (by simp), List.append_nil] at e1
        refine ⟨⟨k + 1, by omega, by go_num, ?_, below_alloc HS.out.2 _ (by omega)⟩, by simp [intOf]; omega⟩
        rw [e1]; exact HS.out.1.alloc _
    · obtain rfl : k = l.length := by omega
      go_wp2
      go_ret
      refine ⟨_, rfl, ?_, H1.out.2.2.trans (HS.out.2.mono (by omega))⟩
      have h := HS.out.1
      unfold IdlePost
      unfold idleK at h
      rw [List.take_length] at h
      exact own_low h (by omega)
end Go.Proofs.YtcecpodbmjghhaaGreat
