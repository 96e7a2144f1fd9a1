/- Texts of one subject in one: TreeA, TreeB, TreeC, TreeD, TreeE, TreeF; what each shows stands at its head. No condition. -/
import Derived.Test.YtcecpodbmjghhaaGreatPlainT
import Derived.Test.YtcecpodbmjghhaaGreatShelf
import Derived.Test.YtcecpodbmjghhaaGreatMemAll
import Derived.Test.YtcecpodbmjghhaaGreatRefBAll
import Derived.Lib.SliceRun
import Derived.Test.YtcecpodbmjghhaaGreatMapB
import Derived.Test.YtcecpodbmjghhaaGreatWalkAll
import Derived.Test.YtcecpodbmjghhaaGreatOrders
import Derived.Test.YtcecpodbmjghhaaGreatKeysAll
import Derived.Deep.RegionHeld3
/- Walks of package tree: the binary search by a key. -/
set_option linter.unusedVariables false
set_option linter.unusedSimpArgs false
namespace Go.Proofs.YtcecpodbmjghhaaGreat
open Go Go.RowKit
theorem splt_at {w : World} {b off k : Nat} {p : Splt} (h : ∀ j u, p.cells[j]? = some u → w.cell? ⟨b, off + k * 4 + j, none⟩ = some u) :
    w.cell? ⟨b, off + k * 4, none⟩ = some (.string p.key) ∧ w.cell? ⟨b, off + k * 4 + 1, none⟩ = some (.int .i64 p.ways) ∧ w.cell? ⟨b, off + k * 4 + 2, none⟩ = some (.string p.par) ∧ w.cell? ⟨b, off + k * 4 + 3, none⟩ = some (.int .i64 p.port) :=
  ⟨h 0 _ rfl, h 1 _ rfl, h 2 _ rfl, h 3 _ rfl⟩
theorem drp_at {w : World} {b off k : Nat} {p : Drp} (h : ∀ j u, p.cells[j]? = some u → w.cell? ⟨b, off + k * 3 + j, none⟩ = some u) :
    w.cell? ⟨b, off + k * 3, none⟩ = some (.string p.cust) ∧ w.cell? ⟨b, off + k * 3 + 1, none⟩ = some (.string p.spl) ∧ w.cell? ⟨b, off + k * 3 + 2, none⟩ = some (.int .i64 p.port) :=
  ⟨h 0 _ rfl, h 1 _ rfl, h 2 _ rfl⟩
def hitAt {α : Type} (c : α → Int) (l : List α) (pos : Nat) : Bool := match l[pos]? with | some x => c x == 0 | none => false
theorem hitAt_in {α : Type} {c : α → Int} {l : List α} {pos : Nat} (h : pos < l.length) : hitAt c l pos = (c l[pos] == 0) := by unfold hitAt; rw [List.getElem?_eq_getElem h]
theorem hitAt_out {α : Type} {c : α → Int} {l : List α} {pos : Nat} (h : l.length ≤ pos) : hitAt c l pos = false := by unfold hitAt; rw [List.getElem?_eq_none h]
set_option maxHeartbeats 1000000 in
set_option maxRecDepth 100000 in
theorem bsearch_splt (v tv : Value) (l : List Splt) (c : Splt → Int) (pos : Nat) (F : FuncId) (cp : Array Value) (w : World) (h : Arr Splt.cells 4 w l v) (hl : l.length ≤ 1000000) (hpos : pos ≤ l.length)
    (hmono : ∀ k (hk : k < l.length), (c l[k] < 0 ↔ k < pos)) (hF : ∀ (args : Array Value) (w : World), (callFunc F args).run Tryz.prog w = .ok (.enter F args) w)
    (hcall : ∀ (x : Splt) (w' : World), x ∈ l → Below w.heap.size w w' → Calls Tryz.prog F (#[.agg ⟨Splt.cells x⟩, tv] ++ cp) w' fun e w'' => e = .returned (.int .i64 (c x)) ∧ Below w'.heap.size w' w'') :
    Calls Tryz.prog 103 #[v, tv, .func (.func F) #[] cp] w
      fun e w' => e = .returned (.tuple #[.int .i64 pos, .bool (hitAt c l pos)]) ∧ Below w.heap.size w w' := by
  obtain ⟨a, cap, rfl, hcap, hmax, hc⟩ := h
  have hlen : l.length ≤ maxLen := by omega
  unfold maxLen at hlen hmax
  have HC := Lib.hid (And.intro hcall hmono)
  clear hcall hmono
  go_enter Tryz.func103, Tryz.ntmps103
  go_wp2
  go_loopw [9, 10] (fun i j wr => ∃ a b : Nat, a ≤ pos ∧ pos ≤ b ∧ b ≤ l.length ∧ i = .int .i64 a ∧ j = .int .i64 b ∧ Below w.heap.size w wr) (fun i j _ => (intOf j).toNat - (intOf i).toNat)
  case atStart => exact ⟨0, l.length, by omega, by omega, by omega, rfl, rfl, Below.refl _ _⟩
  case round =>
    obtain ⟨lo, hi, h1, h2, h3, rfl, rfl, hB⟩ := hrel
    have hsz := hB.size
    by_cases hlt : lo < hi
    · have hm : (lo + hi) / 2 < l.length := by omega
      have hm1 : lo ≤ (lo + hi) / 2 := by omega
      have hm2 : (lo + hi) / 2 < hi := by omega
      obtain ⟨b, off, rfl, hb, hcc⟩ := hc ((lo + hi) / 2) hm
      obtain ⟨c0, c1, c2, c3⟩ := splt_at hcc
      replace c0 := (hB.cell (p := ⟨b, _, none⟩) hb).trans c0
      replace c1 := (hB.cell (p := ⟨b, _, none⟩) hb).trans c1
      replace c2 := (hB.cell (p := ⟨b, _, none⟩) hb).trans c2
      replace c3 := (hB.cell (p := ⟨b, _, none⟩) hb).trans c3
      have hmo := HC.out.2 ((lo + hi) / 2) hm
      have hmem : l[(lo + hi) / 2] ∈ l := List.getElem_mem _
      clear hc hcc
      have HM := Lib.hid hmem
      clear hmem
      by_cases hx : c l[(lo + hi) / 2] < 0
      · have hp : (lo + hi) / 2 < pos := hmo.1 hx
        clear hmo
        go_wp2_with fail
        refine (HC.out.1 l[(lo + hi) / 2] _ HM.out ?_).mono ?_
        · (repeat (first | exact Below.refl _ _ | assumption | refine below_draws ?_ _ | refine Below.drew ?_ | refine below_alloc ?_ _ (by first | omega | (simp; done) | (simp; omega)) | refine Below.setCell ?_ (by first | omega | (simp; done) | (simp; omega)) _ | refine below_at ?_ (by assumption) (by first | omega | (simp; done) | (simp; omega))))
        rintro e w1 ⟨rfl, hb1⟩
        go_wp2
        exact ⟨⟨(lo + hi) / 2 + 1, hi, by omega, by omega, by omega, by go_num, rfl, by (repeat (first | exact Below.refl _ _ | assumption | refine below_draws ?_ _ | refine Below.drew ?_ | refine below_alloc ?_ _ (by first | omega | (simp; done) | (simp; omega)) | refine Below.setCell ?_ (by first | omega | (simp; done) | (simp; omega)) _ | refine below_at ?_ (by assumption) (by first | omega | (simp; done) | (simp; omega))))⟩, by simp [intOf]; omega⟩
      · have hp : pos ≤ (lo + hi) / 2 := by have := fun h => hx (hmo.2 h); omega
        clear hmo
        go_wp2_with fail
        refine (HC.out.1 l[(lo + hi) / 2] _ HM.out ?_).mono ?_
        · (repeat (first | exact Below.refl _ _ | assumption | refine below_draws ?_ _ | refine Below.drew ?_ | refine below_alloc ?_ _ (by first | omega | (simp; done) | (simp; omega)) | refine Below.setCell ?_ (by first | omega | (simp; done) | (simp; omega)) _ | refine below_at ?_ (by assumption) (by first | omega | (simp; done) | (simp; omega))))
        rintro e w1 ⟨rfl, hb1⟩
        go_wp2
        exact ⟨⟨lo, (lo + hi) / 2, by omega, by omega, by omega, by go_num, by go_num, by (repeat (first | exact Below.refl _ _ | assumption | refine below_draws ?_ _ | refine Below.drew ?_ | refine below_alloc ?_ _ (by first | omega | (simp; done) | (simp; omega)) | refine Below.setCell ?_ (by first | omega | (simp; done) | (simp; omega)) _ | refine below_at ?_ (by assumption) (by first | omega | (simp; done) | (simp; omega))))⟩, by simp [intOf]; omega⟩
    · obtain rfl : lo = pos := by omega
      by_cases hin : lo < l.length
      · obtain ⟨b, off, rfl, hb, hcc⟩ := hc lo hin
        obtain ⟨c0, c1, c2, c3⟩ := splt_at hcc
        replace c0 := (hB.cell (p := ⟨b, _, none⟩) hb).trans c0
        replace c1 := (hB.cell (p := ⟨b, _, none⟩) hb).trans c1
        replace c2 := (hB.cell (p := ⟨b, _, none⟩) hb).trans c2
        replace c3 := (hB.cell (p := ⟨b, _, none⟩) hb).trans c3
        have HM : Hid (l[lo] ∈ l) := List.getElem_mem _
        have HG := Lib.hid (hitAt_in (c := c) hin)
        clear hc hcc
        go_wp2_with fail
        refine (HC.out.1 l[lo] _ HM.out ?_).mono ?_
        · (repeat (first | exact Below.refl _ _ | assumption | refine below_draws ?_ _ | refine Below.drew ?_ | refine below_alloc ?_ _ (by first | omega | (simp; done) | (simp; omega)) | refine Below.setCell ?_ (by first | omega | (simp; done) | (simp; omega)) _ | refine below_at ?_ (by assumption) (by first | omega | (simp; done) | (simp; omega))))
        rintro e w1 ⟨rfl, hb1⟩
        go_wp2
        go_ret2
        exact ⟨ret_ib rfl HG.out.symm, by (repeat (first | exact Below.refl _ _ | assumption | refine below_draws ?_ _ | refine Below.drew ?_ | refine below_alloc ?_ _ (by first | omega | (simp; done) | (simp; omega)) | refine Below.setCell ?_ (by first | omega | (simp; done) | (simp; omega)) _ | refine below_at ?_ (by assumption) (by first | omega | (simp; done) | (simp; omega))))⟩
      · have HG := Lib.hid (hitAt_out (c := c) (show l.length ≤ lo by omega))
        go_wp2
        go_ret2
        exact ⟨ret_ib rfl HG.out.symm, hB⟩
theorem Calls.conv {P : Program} {f : FuncId} {args : Array Value} {w : World} {R R' : Ending → World → Prop} (h : Calls P f args w R) (hr : ∀ e w', R e w' → R' e w') : Calls P f args w R' := h.mono hr
set_option maxHeartbeats 1000000 in
theorem findClos_any (s : Splt) (key : ByteArray) (w : World) : Calls Tryz.prog 104 #[.agg #[.string s.key, .int .i64 s.ways, .string s.par, .int .i64 s.port], .string key] w
    fun e w' => e = .returned (.int .i64 (cmpB s.key key)) ∧ Below w.heap.size w w' := by
  go_enter Tryz.func104, Tryz.ntmps104
  go_wp2_with (go_at_call 53; refine (Tryz.strings_Compare _ _ _).mono ?_; rintro e w' ⟨rfl, rfl⟩)
  go_ret
  exact ⟨rfl, by (repeat (first | exact Below.refl _ _ | assumption | refine below_draws ?_ _ | refine Below.drew ?_ | refine below_alloc ?_ _ (by first | omega | (simp; done) | (simp; omega)) | refine Below.setCell ?_ (by first | omega | (simp; done) | (simp; omega)) _ | refine below_at ?_ (by assumption) (by first | omega | (simp; done) | (simp; omega))))⟩
/-- where a key stands among rising keys -/
def posS (l : List Splt) (key : ByteArray) : Nat := (l.takeWhile fun s => lessB s.key key).length
theorem posS_le (l : List Splt) (key : ByteArray) : posS l key ≤ l.length := (List.takeWhile_sublist _).length_le
theorem takeWhile_mono {α : Type} {p : α → Bool} : ∀ {l : List α}, l.Pairwise (fun a b => p b = true → p a = true) → ∀ k (hk : k < l.length), (p l[k] = true ↔ k < (l.takeWhile p).length)
  | [], _, k, hk => by simp at hk
  | x :: l, hp, 0, _ => by
    cases hx : p x <;> simp [hx]
  | x :: l, hp, k + 1, hk => by
    have h2 := List.pairwise_cons.1 hp
    have ih := takeWhile_mono h2.2 k (by simpa using hk)
    cases hx : p x
    · simp only [List.takeWhile_cons, hx, List.getElem_cons_succ]
      constructor
      · intro h
        have := h2.1 _ (List.getElem_mem (by simpa using hk)) h
        rw [hx] at this; cases this
      · intro h; simp at h
    · simp only [List.takeWhile_cons, hx, List.getElem_cons_succ, if_true, List.length_cons]
      rw [ih]; omega
theorem rising_mono {l : List Splt} (h : Rising (l.map (·.key))) (key : ByteArray) : l.Pairwise (fun a b => lessB b.key key = true → lessB a.key key = true) := by
  unfold Rising at h
  rw [List.pairwise_map] at h
  exact h.imp fun h1 h2 => lessB_trans h1 h2
theorem idxF_pos {α : Type} {p : α → Bool} {l : List α} {k : Nat} (h : k < l.length) (h1 : p l[k] = true) (h0 : ∀ j (hj : j < k), p (l[j]'(by omega)) = false) : idxF p l = k := by
  refine idxF_hit h ?_ h1
  rw [List.any_eq_false]
  intro x hx
  obtain ⟨j, hj, rfl⟩ := List.mem_iff_getElem.1 hx
  rw [List.getElem_take]
  rw [List.length_take] at hj
  simp [h0 j (by omega)]
theorem findS_pos {l : List Splt} (h : Rising (l.map (·.key))) (key : ByteArray) : findS l key = if hitAt (fun s => cmpB s.key key) l (posS l key) then (posS l key : Int) else -1 := by
  have hm := takeWhile_mono (rising_mono h key)
  have hr := h
  unfold Rising at hr
  rw [List.pairwise_map, List.pairwise_iff_getElem] at hr
  unfold findS
  split
  · rename_i hh
    have hlt : posS l key < l.length := by
      rcases Nat.lt_or_ge (posS l key) l.length with h1 | h1
      · exact h1
      · rw [hitAt_out h1] at hh; cases hh
    rw [hitAt_in hlt] at hh
    have hk : l[posS l key].key = key := (cmpB_eq0 _ _).1 (by simpa using hh)
    refine idxF_pos hlt (by simp [hk]) (fun j hj => ?_)
    have := hr j (posS l key) (by omega) hlt hj
    rw [hk] at this
    simp only [decide_eq_false_iff_not]
    intro e
    rw [e, lessB_irrefl] at this; cases this
  · rename_i hh
    refine idxF_none ?_
    rw [List.any_eq_false]
    intro x hx
    obtain ⟨j, hj, rfl⟩ := List.mem_iff_getElem.1 hx
    simp only [decide_eq_true_eq]
    intro e
    apply hh
    have h1 : ¬ j < posS l key := by
      intro h2
      have := (hm j hj).2 h2
      rw [e, lessB_irrefl] at this; cases this
    have h2 : j = posS l key := by
      rcases Nat.lt_or_ge (posS l key) j with h3 | h3
      · have h4 := hr _ j (by omega) hj h3
        rw [e] at h4
        have := (hm _ (by omega)).1 h4
        unfold posS at this; omega
      · omega
    subst h2
    rw [hitAt_in hj]
    simp [(cmpB_eq0 _ _).2 e]
set_option maxHeartbeats 1000000 in
theorem find_any (v1 v2 : Value) (l : List Splt) (key : ByteArray) (w : World) (h : Arr Splt.cells 4 w l v1) (hl : l.length ≤ 1000000) (hr : Rising (l.map (·.key))) : Calls Tryz.prog 57 #[.agg #[v1, v2], .string key] w
    fun e w' => e = .returned (.int .i64 (findS l key)) ∧ Below w.heap.size w w' := by
  have HF : Hid (∀ (args : Array Value) (w : World), (callFunc 104 args).run Tryz.prog w = .ok (.enter 104 args) w) := run_fn Tryz.func104 (by kernel_rfl) rfl
  have hm : ∀ k (hk : k < l.length), (cmpB l[k].key key < 0 ↔ k < posS l key) := fun k hk => (cmpB_less _ _).trans (takeWhile_mono (rising_mono hr key) k hk)
  have HM := Lib.hid hm
  have HP := Lib.hid (findS_pos hr key)
  clear hm hr
  have hp := posS_le l key
  cases hh : hitAt (fun s => cmpB s.key key) l (posS l key)
  · have HR : Hid (findS l key = -1) := by have := HP.out; rw [hh] at this; exact this
    have HH := Lib.hid hh
    clear hh
    go_enter Tryz.func57, Tryz.ntmps57
    go_wp2_with fail
    refine (bsearch_splt _ _ l (fun s => cmpB s.key key) (posS l key) _ #[] _ (h.below (by (repeat (first | exact Below.refl _ _ | assumption | refine below_draws ?_ _ | refine Below.drew ?_ | refine below_alloc ?_ _ (by first | omega | (simp; done) | (simp; omega)) | refine Below.setCell ?_ (by first | omega | (simp; done) | (simp; omega)) _ | refine below_at ?_ (by assumption) (by first | omega | (simp; done) | (simp; omega)))))) hl hp HM.out HF.out (fun x w' hx hb => (findClos_any x key w').mono fun e w'' h => h)).mono ?_
    rintro e w1 ⟨rfl, hb1⟩
    rw [HH.out]
    go_wp2
    go_ret
    exact ⟨ret_int HR.out.symm, by (repeat (first | exact Below.refl _ _ | assumption | refine below_draws ?_ _ | refine Below.drew ?_ | refine below_alloc ?_ _ (by first | omega | (simp; done) | (simp; omega)) | refine Below.setCell ?_ (by first | omega | (simp; done) | (simp; omega)) _ | refine below_at ?_ (by assumption) (by first | omega | (simp; done) | (simp; omega))))⟩
  · have HR : Hid (findS l key = posS l key) := by have := HP.out; rw [hh] at this; exact this
    have HH := Lib.hid hh
    clear hh
    go_enter Tryz.func57, Tryz.ntmps57
    go_wp2_with fail
    refine (bsearch_splt _ _ l (fun s => cmpB s.key key) (posS l key) _ #[] _ (h.below (by (repeat (first | exact Below.refl _ _ | assumption | refine below_draws ?_ _ | refine Below.drew ?_ | refine below_alloc ?_ _ (by first | omega | (simp; done) | (simp; omega)) | refine Below.setCell ?_ (by first | omega | (simp; done) | (simp; omega)) _ | refine below_at ?_ (by assumption) (by first | omega | (simp; done) | (simp; omega)))))) hl hp HM.out HF.out (fun x w' hx hb => (findClos_any x key w').mono fun e w'' h => h)).mono ?_
    rintro e w1 ⟨rfl, hb1⟩
    rw [HH.out]
    go_wp2
    go_ret
    exact ⟨ret_int HR.out.symm, by (repeat (first | exact Below.refl _ _ | assumption | refine below_draws ?_ _ | refine Below.drew ?_ | refine below_alloc ?_ _ (by first | omega | (simp; done) | (simp; omega)) | refine Below.setCell ?_ (by first | omega | (simp; done) | (simp; omega)) _ | refine below_at ?_ (by assumption) (by first | omega | (simp; done) | (simp; omega))))⟩
end Go.Proofs.YtcecpodbmjghhaaGreat
/- Walk of package tree: what is wrong with the parents of splitters. -/
namespace Go.Proofs.YtcecpodbmjghhaaGreat
open Go Go.RowKit
open Go.Maps (Keyed)
theorem quiet_left {P : Program} {f : FuncId} {args : Array Value} {w : World} {n : Nat} {v : Value}
    (h : Calls P f args (w.drewN n) fun e w' => e = .returned v ∧ w.drewN n = w') : Calls P f args (w.drewN n) fun e w'' => e = .returned v ∧ ∃ m, w'' = w.drewN m :=
  h.mono fun _ _ ⟨he, hm⟩ => ⟨he, n, hm.symm⟩
theorem laidOutT : laidOutB Tryz.prog = true := by kernel_rfl
theorem portKeyed : Keyed Tryz.prog 134 := Keyed.of_law (deep_law_laid laidOutT (m := 3) (by omega) (of_decide_eq_true (by kernel_rfl)) (by kernel_rfl) (by kernel_rfl))
def portV (q : PortK) : Value := .agg #[.string q.1, .int .i64 q.2]
theorem portV_inj (a a' : PortK) (h : portV a = portV a') : a = a' := by
  obtain ⟨a1, a2⟩ := a
  obtain ⟨b1, b2⟩ := a'
  simp [portV] at h
  simp [h]
theorem portKey (q : PortK) (h1 : q.1.size ≤ maxLen) (h2 : (Lit.int .i64 q.2).wf = true) : ∃ kl, keyOf Tryz.prog 134 (portV q) = some kl :=
  keyOf_pair (ts := 9) (ti := 3) Tryz.underlying134 Tryz.underlying9 Tryz.underlying3 (by kernel_rfl) (by kernel_rfl) (by kernel_rfl) (by kernel_rfl) (of_decide_eq_true (by kernel_rfl)) (by rfl) (by decide +kernel) q.1 q.2 h1 h2
theorem zeroBool (w : World) : (zeroValue 4).run Tryz.prog w = .ok (.bool false) w := by kernel_rfl
def boolM (p : PortK → Bool) (q : PortK) : Option Value := if p q then some (.bool true) else none
theorem boolM_get (p : PortK → Bool) (q : PortK) : (boolM p q).getD (.bool false) = .bool (p q) := by unfold boolM; cases p q <;> rfl
theorem boolM_set {p p' : PortK → Bool} {q : PortK} (h : ∀ x, p' x = (p x || decide (x = q))) (x : PortK) : setM (boolM p) q (.bool true) x = boolM p' x := by
  unfold setM boolM
  rw [h x]
  by_cases hx : x = q <;> simp [hx]
abbrev PMap (w : World) (b n : Nat) (p : PortK → Bool) : Prop := MapIs Tryz.prog 134 portV w b n (boolM p)
theorem seenP_succ (l : List Splt) (k : Nat) (h : k < l.length) (x : PortK) : seenP l (k + 1) x = (seenP l k x || (decide (l[k].par.size ≠ 0) && decide ((l[k].par, l[k].port) = x))) := by
  unfold seenP
  rw [List.take_succ_eq_append_getElem h, List.any_append]; simp
theorem seenP_skip (l : List Splt) (k : Nat) (h : k < l.length) (h0 : l[k].par.size = 0) : seenP l (k + 1) = seenP l k := by
  funext x; rw [seenP_succ l k h]; simp [h0]
theorem dupAt_skip (l : List Splt) (k : Nat) (h : k < l.length) (h0 : l[k].par.size = 0) : dupAt l k = false := by
  unfold dupAt; rw [List.getElem?_eq_getElem h]; simp [h0]
theorem dupAt_in (l : List Splt) (k : Nat) (h : k < l.length) (h0 : l[k].par.size ≠ 0) : dupAt l k = seenP l k (l[k].par, l[k].port) := by
  unfold dupAt; rw [List.getElem?_eq_getElem h]; simp [h0]
theorem pmap_start (w : World) {b : Nat} (hb : b = w.heap.size) {p : PortK → Bool} (hp : ∀ q, p q = false) : PMap (w.alloc (.map #[] 0)) b 0 p := by
  subst hb
  exact (MapIs.made _ _ _ _).congr fun q => by simp [boolM, hp]
set_option maxHeartbeats 8000000 in
set_option maxRecDepth 100000 in
theorem parentsFault_any (v1 v2 : Value) (l : List Splt) (w : World) (h : Arr Splt.cells 4 w l v1) (hl : l.length ≤ 500) (hr : Rising (l.map (·.key))) (hk : ∀ s ∈ l, keyB s.key = true ∧ waysB s.ways = true) : Calls Tryz.prog 96 #[.agg #[v1, v2]] w
    fun e w' => e = .returned (.int .i64 (parentsF l)) ∧ Below w.heap.size w w' := by
  have hA := h
  obtain ⟨a, cap, rfl, hcap, hmax, hc⟩ := h
  unfold maxLen at hmax
  have HK := Lib.hid (And.intro hr (And.intro hk hA))
  clear hr hk hA
  have hmm := @run_makeMap Tryz.prog
  go_enter Tryz.func96, Tryz.ntmps96
  go_wp2
  have hbx : Blk (w.alloc (.cells #[.slice a l.length cap, v2] 29)) w.heap.size #[.slice a l.length cap, v2] 29 := Blk.new _ _ _
  have HBX := Lib.hid hbx
  clear hbx
  go_loopw [4, 16] (fun tw i wr => ∃ k : Nat, k ≤ l.length ∧ i = .int .i64 k ∧ tw = .bool (twiceB l k) ∧ faultAt (parFault l) k = 0 ∧ PMap wr (w.heap.size + 1) k (seenP l k) ∧ Below (w.heap.size + 1) (w.alloc (.cells #[.slice a l.length cap, v2] 29)) wr) (fun _ i _ => l.length - (intOf i).toNat)
  case atStart => exact ⟨0, by omega, rfl, rfl, rfl, pmap_start _ (by simp) (fun q => by simp [seenP]), below_alloc (Below.refl _ _) _ (by simp)⟩
  case round =>
    obtain ⟨k, hk, rfl, rfl, hz, hM, hB⟩ := hrel
    have hsz := hB.size
    simp only [World.size_alloc] at hsz
    have hBw : Below w.heap.size w wr := below_at (below_alloc (Below.refl _ _) _ (Nat.le_refl _)) hB (by omega)
    have hbw := HBX.out.below hB (by omega)
    have t0 := hbw.cell 0 _ rfl
    have t1 := hbw.cell 1 _ rfl
    have HS := Lib.hid (And.intro hz (And.intro hM (And.intro hB (And.intro hBw hbw))))
    have hlt0 : w.heap.size < wr.heap.size := by omega
    clear hz hM hB hBw hbw
    by_cases hlt : k < l.length
    · obtain ⟨b, off, rfl, hb, hcc⟩ := hc k hlt
      obtain ⟨c0, c1, c2, c3⟩ := splt_at hcc
      replace c0 := (HS.out.2.2.2.1.cell (p := ⟨b, _, none⟩) hb).trans c0
      replace c1 := (HS.out.2.2.2.1.cell (p := ⟨b, _, none⟩) hb).trans c1
      replace c2 := (HS.out.2.2.2.1.cell (p := ⟨b, _, none⟩) hb).trans c2
      replace c3 := (HS.out.2.2.2.1.cell (p := ⟨b, _, none⟩) hb).trans c3
      have HC := Lib.hid hc
      clear hc hcc
      by_cases hpar : l[k].par.size = 0
      · have he : l[k].par.toList.isEmpty = true := by rw [isEmpty_size]; simp [hpar]
        have HN : Hid (faultAt (parFault l) (k + 1) = 0 ∧ seenP l (k + 1) = seenP l k ∧ twiceB l (k + 1) = twiceB l k) := by
          refine ⟨?_, seenP_skip l k hlt hpar, ?_⟩
          · rw [faultAt_succ HS.out.1]; unfold parFault; rw [List.getElem?_eq_getElem hlt]; simp [hpar]
          · rw [twiceB_succ, dupAt_skip l k hlt hpar]; simp
        clear hpar
        go_wp2
        refine ⟨⟨k + 1, by omega, by go_num, by rw [HN.out.2.2], HN.out.1, ?_, ?_⟩, by simp [intOf]; omega⟩
        · rw [HN.out.2.1]; exact (HS.out.2.1.alloc _).mono (by omega)
        · exact below_alloc HS.out.2.2.1 _ (by omega)
      · have he : l[k].par.toList.isEmpty = false := by rw [isEmpty_size]; simp [hpar]
        have HP := Lib.hid hpar
        clear hpar
        go_wp2_with fail
        refine (find_any _ _ l l[k].par _ ?_ (by omega) HK.out.1).mono ?_
        · exact HK.out.2.2.below (by have h4 := HS.out.2.2.2.1; (repeat (first | exact Below.refl _ _ | assumption | refine below_draws ?_ _ | refine Below.drew ?_ | refine below_alloc ?_ _ (by first | omega | (simp; done) | (simp; omega)) | refine Below.setCell ?_ (by first | omega | (simp; done) | (simp; omega)) _ | refine below_at ?_ (by assumption) (by first | omega | (simp; done) | (simp; omega)))))
        rintro e w2 ⟨rfl, hb2⟩
        have hz2 := hb2.size
        simp only [World.size_alloc] at hz2
        have hB2 : Below (w.heap.size + 1) (w.alloc (.cells #[.slice (some ⟨b, off, none⟩) l.length cap, v2] 29)) w2 := by have h3 := HS.out.2.2.1; (repeat (first | exact Below.refl _ _ | assumption | refine below_draws ?_ _ | refine Below.drew ?_ | refine below_alloc ?_ _ (by first | omega | (simp; done) | (simp; omega)) | refine Below.setCell ?_ (by first | omega | (simp; done) | (simp; omega)) _ | refine below_at ?_ (by assumption) (by first | omega | (simp; done) | (simp; omega))))
        have hBw2 : Below w.heap.size w w2 := below_at (below_alloc (Below.refl _ _) _ (Nat.le_refl _)) hB2 (by omega)
        have hbx2 := HBX.out.below hB2 (by omega)
        have hxx2 : Blk w2 wr.heap.size #[.string l[k].key, .int .i64 l[k].ways, .string l[k].par, .int .i64 l[k].port] 58 := (Blk.new wr _ _).below hb2 (by simp)
        have hM2 : PMap w2 (w.heap.size + 1) k (seenP l k) := (HS.out.2.1.alloc _).below hb2 (by simp; omega)
        have p0 := hbx2.cell 0 _ rfl
        have p1 := hbx2.cell 1 _ rfl
        have x0 := hxx2.cell 0 _ rfl
        have x1 := hxx2.cell 1 _ rfl
        have x2 := hxx2.cell 2 _ rfl
        have x3 := hxx2.cell 3 _ rfl
        have HS2 := Lib.hid (And.intro hB2 (And.intro hBw2 (And.intro hbx2 (And.intro hxx2 hM2))))
        have l1 : w.heap.size < w2.heap.size := by omega
        have l2 : wr.heap.size < w2.heap.size := by omega
        clear hB2 hBw2 hbx2 hxx2 hM2 t0 t1 c0 c1 c2 c3
        have hF : ∀ n : Int, n ≠ 0 → parFault l k = n → Hid (parentsF l = n) := fun n hn hp => by
          have h1 := faultAt_hit hlt HS.out.1 (by rw [hp]; exact hn)
          unfold parentsF
          rw [h1, if_pos (by rw [hp]; exact hn), hp]
          exact rfl
        have HFF := Lib.hid hF
        clear hF
        rcases findS_get l l[k].par with ⟨hneg, hnone⟩ | ⟨j, hj, hfj, hget, -⟩
        · have hbad : parFault l k = 8 := by
            unfold parFault
            rw [List.getElem?_eq_getElem hlt]
            simp only [if_neg HP.out, hnone]
          have HR := HFF.out 8 (by omega) hbad
          clear hbad hnone
          go_wp2
          go_ret
          exact ⟨ret_int HR.out.symm, HS2.out.2.1⟩
        · rw [hfj]
          have HJ := Lib.hid (And.intro hfj hget)
          clear hfj hget
          have hj1 : (0 : Int) ≤ (j : Int) := by omega
          have hj2 : ¬ ((j : Int) < 0) := by omega
          have hj3 : (j : Int) < (l.length : Int) := by omega
          obtain ⟨b', off', hbe, hbb, hcc⟩ := HC.out j hj
          obtain ⟨rfl, rfl⟩ : b = b' ∧ off = off' := by simpa using hbe
          obtain ⟨-, d1, -, -⟩ := splt_at hcc
          replace d1 := (HS2.out.2.1.cell (p := ⟨b, _, none⟩) hb).trans d1
          clear hcc hbe hbb
          go_wp2
          go_quiet ((go_at_call 128; exact quiet_left (out_any _ _ _ _)))
          generalize hw3 : w2.drewN nq = w3 at *
          have hB3 : Below (w.heap.size + 1) (w.alloc (.cells #[.slice (some ⟨b, off, none⟩) l.length cap, v2] 29)) w3 := by rw [← hw3]; exact below_draws HS2.out.1 _
          have hBw3 : Below w.heap.size w w3 := by rw [← hw3]; exact below_draws HS2.out.2.1 _
          have hxx3 : Blk w3 wr.heap.size #[.string l[k].key, .int .i64 l[k].ways, .string l[k].par, .int .i64 l[k].port] 58 := by rw [← hw3]; exact HS2.out.2.2.2.1.drewN _
          have hM3 : PMap w3 (w.heap.size + 1) k (seenP l k) := by rw [← hw3]; exact HS2.out.2.2.2.2.drewN _
          clear hw3 HS2 p0 p1 x0 x1 x2 x3 d1
          have x0 := hxx3.cell 0 _ rfl
          have x1 := hxx3.cell 1 _ rfl
          have x2 := hxx3.cell 2 _ rfl
          have x3 := hxx3.cell 3 _ rfl
          have l3 : wr.heap.size < w3.heap.size := hxx3.lt
          have l4 : w.heap.size + 1 < w3.heap.size := by omega
          have HS3 := Lib.hid (And.intro hB3 (And.intro hBw3 hM3))
          clear hB3 hBw3 hxx3 hM3
          cases ho : outB l[k].port 1 l[j].ways
          · have hgood : parFault l k = 0 := by
              unfold parFault
              rw [List.getElem?_eq_getElem hlt]
              simp only [if_neg HP.out, HJ.out.2, ho, if_true, Bool.false_eq_true, if_false]
            have HN : Hid (faultAt (parFault l) (k + 1) = 0) := by rw [faultAt_succ HS.out.1]; exact hgood
            have HD := Lib.hid (dupAt_in l k hlt HP.out)
            have HT := Lib.hid (twiceB_succ l k)
            have HSe := Lib.hid (seenP_succ l k hlt)
            obtain ⟨o1, o2⟩ := outB_false.1 ho
            have hwf : (Lit.int .i64 l[k].port).wf = true := by
              have h1 := waysB_le (HK.out.2.1 l[j] (List.getElem_mem _)).2
              exact WalkArith.wf_i64 (by omega)
            have hsize : l[k].par.size ≤ maxLen := by
              rcases findS_get l l[k].par with ⟨_, h2⟩ | ⟨j', hj', _, _, h4⟩
              · rw [HJ.out.2] at h2; cases h2
              · have h5 := keyB_size (HK.out.2.1 l[j'] (List.getElem_mem _)).1
                rw [h4] at h5
                unfold maxLen; omega
            obtain ⟨kl, hkl⟩ := portKey (l[k].par, l[k].port) hsize hwf
            have HKL := Lib.hid hkl
            clear hgood hkl hsize
            cases htw : twiceB l k
            · have HTW := Lib.hid htw
              clear htw
              go_wp2_with (first
                | (at_lookup; refine wpList_look (by rfl) _ _ _ rfl portKeyed Tryz.underlying161 (zeroBool _) (HS3.out.2.2.alloc _) rfl (l[k].par, l[k].port) HKL.out rfl (boolM_get _ _) ?_)
                | (at_mapUpdate; refine wpList_update (by rfl) _ _ _ _ rfl portKeyed Tryz.underlying161 portV_inj (HS3.out.2.2.alloc _) (by unfold maxLen; omega) rfl (l[k].par, l[k].port) HKL.out rfl _ rfl ?_; intro w4 hM4 hg4))
              refine ⟨⟨k + 1, by omega, by go_num, ?_, HN.out, ?_, ?_⟩, by simp [intOf]; omega⟩
              · rw [HT.out, HTW.out, HD.out]; rfl
              · exact hM4.congr (boolM_set fun x => by rw [HSe.out]; simp [HP.out, eq_comm])
              · exact below_at (below_alloc HS3.out.1 _ (by omega)) (grown_row hg4 (Nat.le_refl _) (by simp; omega)) (Nat.le_refl _)
            · have HTW := Lib.hid htw
              clear htw
              go_wp2_with (first
                | (at_mapUpdate; refine wpList_update (by rfl) _ _ _ _ rfl portKeyed Tryz.underlying161 portV_inj (HS3.out.2.2.alloc _) (by unfold maxLen; omega) rfl (l[k].par, l[k].port) HKL.out rfl _ rfl ?_; intro w4 hM4 hg4))
              refine ⟨⟨k + 1, by omega, by go_num, ?_, HN.out, ?_, ?_⟩, by simp [intOf]; omega⟩
              · rw [HT.out, HTW.out]; rfl
              · exact hM4.congr (boolM_set fun x => by rw [HSe.out]; simp [HP.out, eq_comm])
              · exact below_at (below_alloc HS3.out.1 _ (by omega)) (grown_row hg4 (Nat.le_refl _) (by simp; omega)) (Nat.le_refl _)
          · have hbad : parFault l k = 1 := by
              unfold parFault
              rw [List.getElem?_eq_getElem hlt]
              simp only [if_neg HP.out, HJ.out.2, ho, if_true, Bool.false_eq_true, if_false]
            have HR := HFF.out 1 (by omega) hbad
            clear hbad
            go_wp2
            go_ret
            exact ⟨ret_int HR.out.symm, HS3.out.2.1⟩
    · obtain rfl : k = l.length := by omega
      have hP := parOk_of HS.out.1
      have hz0 := HS.out.1
      cases htw : twiceB l l.length
      · have hRl : parentsF l = if l.any (loopAt l) then 14 else 0 := by
          unfold parentsF; rw [if_neg (by omega), htw, if_neg (by simp)]
        have HTW := Lib.hid (And.intro hRl hP)
        clear htw hRl hP hz0
        go_wp2
        obtain ⟨wo, rfl⟩ : ∃ wo : World, wo = wr := ⟨_, rfl⟩
        go_loopw [58] (fun i wr => ∃ k : Nat, k ≤ l.length ∧ i = .int .i64 k ∧ (l.take k).any (loopAt l) = false ∧ Below (w.heap.size + 1) (w.alloc (.cells #[.slice a l.length cap, v2] 29)) wr) (fun i _ => l.length - (intOf i).toNat)
        case atStart => exact ⟨0, by omega, rfl, rfl, HS.out.2.2.1⟩
        case round =>
          obtain ⟨k, hk, rfl, hz, hB⟩ := hrel
          have hsz := hB.size
          simp only [World.size_alloc] at hsz
          have hBw : Below w.heap.size w wr := below_at (below_alloc (Below.refl _ _) _ (Nat.le_refl _)) hB (by omega)
          have hbw := HBX.out.below hB (by omega)
          have r0 := hbw.cell 0 _ rfl
          have r1 := hbw.cell 1 _ rfl
          have HR := Lib.hid (And.intro hz (And.intro hB (And.intro hBw hbw)))
          have hlt0 : w.heap.size < wr.heap.size := by omega
          clear hz hB hBw hbw t0 t1
          by_cases hlt : k < l.length
          · obtain ⟨b, off, rfl, hb, hcc⟩ := hc k hlt
            obtain ⟨c0, c1, c2, c3⟩ := splt_at hcc
            replace c0 := (HR.out.2.2.1.cell (p := ⟨b, _, none⟩) hb).trans c0
            replace c1 := (HR.out.2.2.1.cell (p := ⟨b, _, none⟩) hb).trans c1
            replace c2 := (HR.out.2.2.1.cell (p := ⟨b, _, none⟩) hb).trans c2
            replace c3 := (HR.out.2.2.1.cell (p := ⟨b, _, none⟩) hb).trans c3
            have HC := Lib.hid hc
            have HMm : Hid (l[k] ∈ l) := List.getElem_mem _
            clear hc hcc
            go_wp2
            obtain ⟨wp, rfl⟩ : ∃ wp : World, wp = wr := ⟨_, rfl⟩
            go_loopw [66] (fun i wr => ∃ j : Nat, j ≤ l.length ∧ i = .int .i64 j ∧ Blk wr (wp.heap.size + 1) #[.string (upN l j l[k]).key, .int .i64 (upN l j l[k]).ways, .string (upN l j l[k]).par, .int .i64 (upN l j l[k]).port] 58 ∧ Below (w.heap.size + 1) (w.alloc (.cells #[.slice (some ⟨b, off, none⟩) l.length cap, v2] 29)) wr) (fun i _ => l.length - (intOf i).toNat)
            case atStart => exact ⟨0, by omega, rfl, Blk.newAt (by simp), below_alloc (below_alloc HR.out.2.1 _ (by omega)) _ (by simp; omega)⟩
            case round =>
              obtain ⟨j, hj, rfl, hX, hB⟩ := hrel
              have hXs := hX.lt
              have hBw : Below w.heap.size w wr := below_at (below_alloc (Below.refl _ _) _ (Nat.le_refl _)) hB (by omega)
              have hbw := HBX.out.below hB (by omega)
              have q0 := hbw.cell 0 _ rfl
              have q1 := hbw.cell 1 _ rfl
              have x0 := hX.cell 0 _ rfl
              have x1 := hX.cell 1 _ rfl
              have x2 := hX.cell 2 _ rfl
              have x3 := hX.cell 3 _ rfl
              have HI := Lib.hid (And.intro hX (And.intro hB (And.intro hBw hbw)))
              have hlt1 : w.heap.size < wr.heap.size := by omega
              clear hX hB hBw hbw r0 r1 c0 c1 c2 c3
              by_cases hstop : (upN l j l[k]).par.size = 0
              · have he : (upN l j l[k]).par.toList.isEmpty = true := by rw [isEmpty_size]; simp [hstop]
                have hend : loopAt l l[k] = false := by
                  unfold loopAt
                  rw [show l.length = j + (l.length - j) by omega, upN_stay hstop, decide_eq_false_iff_not]
                  exact fun h => h hstop
                have HE : Hid ((l.take (k + 1)).any (loopAt l) = false) := by rw [any_take_succ _ l k hlt HR.out.1]; exact hend
                clear hend hstop
                by_cases hjn : j < l.length
                all_goals
                  go_wp2
                  exact ⟨⟨k + 1, by omega, by go_num, HE.out, HI.out.2.1⟩, by simp [intOf]; omega⟩
              · have he : (upN l j l[k]).par.toList.isEmpty = false := by rw [isEmpty_size]; simp [hstop]
                by_cases hjn : j < l.length
                · have HS9 := Lib.hid hstop
                  clear hstop
                  go_wp2_with fail
                  have hmemj := upN_mem HTW.out.2 HMm.out j
                  refine WalkT.start (fun w' => w'.cell? ⟨w.heap.size, 0, none⟩ = some (.slice (some ⟨b, off, none⟩) l.length cap) ∧ w'.cell? ⟨w.heap.size, 1, none⟩ = some v2 ∧ w'.cell? ⟨wp.heap.size + 1, 2, none⟩ = some (.string (upN l j l[k]).par)) [8] (by kernel_rfl) ?_
                  have hS0 : wr.drew.cell? ⟨w.heap.size, 0, none⟩ = some (.slice (some ⟨b, off, none⟩) l.length cap) ∧ wr.drew.cell? ⟨w.heap.size, 1, none⟩ = some v2 ∧ wr.drew.cell? ⟨wp.heap.size + 1, 2, none⟩ = some (.string (upN l j l[k]).par) := ⟨q0, q1, x2⟩
                  have HS0 := Lib.hid hS0
                  have HMj := Lib.hid hmemj
                  clear hS0 hmemj
                  refine WalkT.quiet (i := 0) (v := ?_) rfl (by kernel_rfl) (by kernel_rfl) (by kernel_rfl) (fun _ _ _ h => h) (Or.inl ⟨by rfl, ?_⟩) ?_; rotate_left; (· (intro wS hSw; (try dsimp only at hSw); go_simp; try with_reducible rfl)); try simp only [Act.put, List.setIfInBounds_toArray, List.set_cons_zero, List.set_cons_succ]
                  refine WalkT.take (i := 1) (v := ?_) rfl (by kernel_rfl) (by kernel_rfl) (by kernel_rfl) (by kernel_rfl) (fun _ _ _ h => h) (HS0.out) (Or.inl ⟨by rfl, ?_⟩) ?_; rotate_left; (· (intro wS hSw; (try dsimp only at hSw); go_simp; try with_reducible rfl)); try simp only [Act.put, List.setIfInBounds_toArray, List.set_cons_zero, List.set_cons_succ]
                  refine WalkT.take (i := 2) (v := ?_) rfl (by kernel_rfl) (by kernel_rfl) (by kernel_rfl) (by kernel_rfl) (fun _ _ _ h => h) (HS0.out) (Or.inl ⟨by rfl, ?_⟩) ?_; rotate_left; (· (intro wS hSw; (try dsimp only at hSw); go_simp; try with_reducible rfl)); try simp only [Act.put, List.setIfInBounds_toArray, List.set_cons_zero, List.set_cons_succ]
                  refine WalkT.quiet (i := 3) (v := ?_) rfl (by kernel_rfl) (by kernel_rfl) (by kernel_rfl) (fun _ _ _ h => h) (Or.inl ⟨by rfl, ?_⟩) ?_; rotate_left; (· (intro wS hSw; (try dsimp only at hSw); go_simp; try with_reducible rfl)); try simp only [Act.put, List.setIfInBounds_toArray, List.set_cons_zero, List.set_cons_succ]
                  refine WalkT.take (i := 4) (v := ?_) rfl (by kernel_rfl) (by kernel_rfl) (by kernel_rfl) (by kernel_rfl) (fun _ _ _ h => h) (HS0.out) (Or.inl ⟨by rfl, ?_⟩) ?_; rotate_left; (· (intro wS hSw; (try dsimp only at hSw); go_simp; try with_reducible rfl)); try simp only [Act.put, List.setIfInBounds_toArray, List.set_cons_zero, List.set_cons_succ]
                  refine WalkT.ready (rs := [5]) (by kernel_rfl) (by simp) (AllT.cons rfl (fun K hK => ?_) AllT.nil); go_simp
                  refine (find_any _ _ l (upN l j l[k]).par _ ?_ (by omega) HK.out.1).mono ?_
                  · exact HK.out.2.2.below (by have h4 := HI.out.2.2.1; (repeat (first | exact Below.refl _ _ | assumption | refine below_draws ?_ _ | refine Below.drew ?_ | refine below_alloc ?_ _ (by first | omega | (simp; done) | (simp; omega)) | refine Below.setCell ?_ (by first | omega | (simp; done) | (simp; omega)) _ | refine below_at ?_ (by assumption) (by first | omega | (simp; done) | (simp; omega)))))
                  rintro e w5 ⟨rfl, hb5⟩
                  have hz5 : wr.heap.size ≤ w5.heap.size := hb5.size
                  have hX5 := HI.out.1.drew.below hb5 (by simp; omega)
                  have hB5 : Below (w.heap.size + 1) (w.alloc (.cells #[.slice (some ⟨b, off, none⟩) l.length cap, v2] 29)) w5 := by
                    have h3 := HI.out.2.1
                    exact below_at (Below.drew h3) hb5 (by simp; omega)
                  have hBw5 : Below w.heap.size w w5 := below_at (below_alloc (Below.refl _ _) _ (Nat.le_refl _)) hB5 (by omega)
                  rcases findS_get l (upN l j l[k]).par with ⟨hneg, hnone⟩ | ⟨j', hj', hfj, hget, -⟩
                  · obtain ⟨y, -, hy⟩ := HTW.out.2 _ HMj.out HS9.out
                    rw [hnone] at hy; cases hy
                  rw [hfj]
                  have hup : upN l (j + 1) l[k] = l[j'] := by
                    show upS l (upN l j l[k]) = _
                    unfold upS; rw [if_neg HS9.out, hget]; rfl
                  have HU := Lib.hid hup
                  clear hup hfj hget
                  refine hK.out _ _ (fun _ _ => ?_) ?_
                  · exact ⟨(hb5.cell (p := ⟨_, _, none⟩) (by simp; omega)).trans q0, (hb5.cell (p := ⟨_, _, none⟩) (by simp; omega)).trans q1, (hb5.cell (p := ⟨_, _, none⟩) (by simp; omega)).trans x2⟩
                  clear hK K
                  try simp only [Act.put, List.setIfInBounds_toArray, List.set_cons_zero, List.set_cons_succ]
                  have hj1 : (0 : Int) ≤ (j' : Int) := by omega
                  have hj3 : (j' : Int) < (l.length : Int) := by omega
                  obtain ⟨b', off', hbe, hbb, hcc⟩ := HC.out j' hj'
                  obtain ⟨rfl, rfl⟩ : b = b' ∧ off = off' := by simpa using hbe
                  obtain ⟨d0, d1, d2, d3⟩ := splt_at hcc
                  replace d0 := (hBw5.cell (p := ⟨b, _, none⟩) hb).trans d0
                  replace d1 := (hBw5.cell (p := ⟨b, _, none⟩) hb).trans d1
                  replace d2 := (hBw5.cell (p := ⟨b, _, none⟩) hb).trans d2
                  replace d3 := (hBw5.cell (p := ⟨b, _, none⟩) hb).trans d3
                  clear hcc hbe hbb x0 x1 x2 x3 q0 q1
                  have x0 := hX5.cell 0 _ rfl
                  have x1 := hX5.cell 1 _ rfl
                  have x2 := hX5.cell 2 _ rfl
                  have x3 := hX5.cell 3 _ rfl
                  have xf := fun o => hX5.free o
                  have H5 := Lib.hid (And.intro hX5 (And.intro hB5 hBw5))
                  clear hX5 hB5 hBw5
                  refine WalkT.quiet (i := 6) (v := ?_) rfl (by kernel_rfl) (by kernel_rfl) (by kernel_rfl) (fun _ _ _ h => h) (Or.inl ⟨by rfl, ?_⟩) ?_; rotate_left; (· (intro wS hSw; (try dsimp only at hSw); go_simp; try with_reducible rfl)); try simp only [Act.put, List.setIfInBounds_toArray, List.set_cons_zero, List.set_cons_succ]
                  refine WalkT.ready (rs := [7]) (by kernel_rfl) (by simp) (AllT.cons rfl (fun K hK => ?_) AllT.nil); go_simp
                  refine hK.out _ _ (fun _ h => h) ?_
                  clear hK K
                  try simp only [Act.put, List.setIfInBounds_toArray, List.set_cons_zero, List.set_cons_succ]
                  refine WalkT.ready (rs := [8]) (by kernel_rfl) (by simp) (AllT.cons rfl (fun K hK => ?_) AllT.nil); go_simp
                  refine hK.out _ _ (fun h => absurd h (by decide)) ?_
                  clear hK K
                  try simp only [Act.put, List.setIfInBounds_toArray, List.set_cons_zero, List.set_cons_succ]
                  refine WalkT.done (by kernel_rfl) ?_
                  go_wp2
                  refine ⟨⟨j + 1, by omega, by go_num, ?_, ?_⟩, by simp [intOf]; omega⟩
                  · rw [HU.out]
                    exact (((H5.out.1.set 0 _).set 1 _).set 2 _).set 3 _
                  · exact Below.setCell (Below.setCell (Below.setCell (Below.setCell H5.out.2.1 (by simp; omega) _) (by simp; omega) _) (by simp; omega) _) (by simp; omega) _
                · obtain rfl : j = l.length := by omega
                  have hbad : parentsF l = 14 := by
                    rw [HTW.out.1, if_pos]
                    rw [List.any_eq_true]
                    exact ⟨l[k], HMm.out, by unfold loopAt; simpa using hstop⟩
                  have HFi := Lib.hid hbad
                  clear hbad hstop
                  go_wp2
                  go_ret
                  exact ⟨ret_int HFi.out.symm, HI.out.2.2.1⟩
          · obtain rfl : k = l.length := by omega
            have hfin : parentsF l = 0 := by
              have h1 := HR.out.1
              rw [List.take_of_length_le (Nat.le_refl _)] at h1
              rw [HTW.out.1, h1, if_neg (by simp)]
            have HFi := Lib.hid hfin
            clear hfin
            go_wp2
            go_ret
            exact ⟨ret_int HFi.out.symm, HR.out.2.2.1⟩
      · have hfin : parentsF l = 6 := by
          unfold parentsF; rw [if_neg (by omega), htw, if_pos rfl]
        have HFi := Lib.hid hfin
        clear hfin htw hP hz0
        go_wp2
        go_ret
        exact ⟨ret_int HFi.out.symm, HS.out.2.2.2.1⟩
end Go.Proofs.YtcecpodbmjghhaaGreat
/- Walk of package tree: what is wrong with the drops of a tree. -/
namespace Go.Proofs.YtcecpodbmjghhaaGreat
open Go Go.RowKit
open Go.Maps (Keyed)
/-- the state inside a round over the drops -/
structure DSt (w W0 : World) (xb k : Nat) (c0 c1 : Value) (x : Drp) (p : PortK → Bool) (W : World) : Prop where
  b1 : Below (w.heap.size + 1) W0 W
  b2 : Below w.heap.size w W
  bx : Blk W w.heap.size #[c0, c1] 29
  xx : Blk W xb #[.string x.cust, .string x.spl, .int .i64 x.port] 36
  m : PMap W (w.heap.size + 1) k p
theorem DSt.drewN {w W0 W : World} {xb k : Nat} {c0 c1 : Value} {x : Drp} {p : PortK → Bool} (h : DSt w W0 xb k c0 c1 x p W) (n : Nat) : DSt w W0 xb k c0 c1 x p (W.drewN n) :=
  ⟨below_draws h.b1 n, below_draws h.b2 n, h.bx.drewN n, h.xx.drewN n, h.m.drewN n⟩
set_option maxHeartbeats 8000000 in
set_option maxRecDepth 100000 in
theorem dropsFault_any (v1 v2 : Value) (l : List Splt) (d : List Drp) (w : World) (h : Arr Splt.cells 4 w l v1) (hd : Arr Drp.cells 3 w d v2) (ok : SOk l) (hz : faultAt (parFault l) l.length = 0) : Calls Tryz.prog 97 #[.agg #[v1, v2]] w
    fun e w' => e = .returned (.int .i64 (dropsF l d)) ∧ Below w.heap.size w w' := by
  have hA := h
  have hl := ok.len
  obtain ⟨a, cap, rfl, hcap, hmax, hc⟩ := h
  obtain ⟨a2, cap2, rfl, hcap2, hmax2, hc2⟩ := hd
  unfold maxLen at hmax hmax2
  have HK := Lib.hid (And.intro ok (And.intro hz hA))
  have HC := Lib.hid hc
  have HC2 := Lib.hid hc2
  clear ok hz hA hc hc2
  have hmm := @run_makeMap Tryz.prog
  have hbx : Blk (w.alloc (.cells #[.slice a l.length cap, .slice a2 d.length cap2] 29)) w.heap.size #[.slice a l.length cap, .slice a2 d.length cap2] 29 := Blk.new _ _ _
  have HBX := Lib.hid hbx
  clear hbx
  by_cases hbig : 5000 < d.length
  · have hR : dropsF l d = 2 := by unfold dropsF; rw [if_pos hbig]
    have HR := Lib.hid hR
    clear hR
    go_enter Tryz.func97, Tryz.ntmps97
    go_wp2
    go_ret
    exact ⟨ret_int HR.out.symm, by (repeat (first | exact Below.refl _ _ | assumption | refine below_draws ?_ _ | refine Below.drew ?_ | refine below_alloc ?_ _ (by first | omega | (simp; done) | (simp; omega)) | refine Below.setCell ?_ (by first | omega | (simp; done) | (simp; omega)) _ | refine below_at ?_ (by assumption) (by first | omega | (simp; done) | (simp; omega))))⟩
  have hd5 : d.length ≤ 5000 := by omega
  go_enter Tryz.func97, Tryz.ntmps97
  go_wp2
  go_loopw [19] (fun i wr => ∃ k : Nat, k ≤ l.length ∧ i = .int .i64 k ∧ PMap wr (w.heap.size + 1) k (seenP l k) ∧ Below (w.heap.size + 1) (w.alloc (.cells #[.slice a l.length cap, .slice a2 d.length cap2] 29)) wr) (fun i _ => l.length - (intOf i).toNat)
  case atStart => exact ⟨0, by omega, rfl, pmap_start _ (by simp) (fun q => by simp [seenP]), below_alloc (Below.refl _ _) _ (by simp)⟩
  case round =>
    obtain ⟨k, hk, rfl, hM, hB⟩ := hrel
    have hsz := hB.size
    simp only [World.size_alloc] at hsz
    have hBw : Below w.heap.size w wr := below_at (below_alloc (Below.refl _ _) _ (Nat.le_refl _)) hB (by omega)
    have hbw := HBX.out.below hB (by omega)
    have t0 := hbw.cell 0 _ rfl
    have t1 := hbw.cell 1 _ rfl
    have HS := Lib.hid (And.intro hM (And.intro hB (And.intro hBw hbw)))
    have hlt0 : w.heap.size < wr.heap.size := by omega
    clear hM hB hBw hbw
    by_cases hlt : k < l.length
    · obtain ⟨b, off, rfl, hb, hcc⟩ := HC.out k hlt
      obtain ⟨c0, c1, c2, c3⟩ := splt_at hcc
      replace c0 := (HS.out.2.2.1.cell (p := ⟨b, _, none⟩) hb).trans c0
      replace c1 := (HS.out.2.2.1.cell (p := ⟨b, _, none⟩) hb).trans c1
      replace c2 := (HS.out.2.2.1.cell (p := ⟨b, _, none⟩) hb).trans c2
      replace c3 := (HS.out.2.2.1.cell (p := ⟨b, _, none⟩) hb).trans c3
      clear hcc
      by_cases hpar : l[k].par.size = 0
      · have he : l[k].par.toList.isEmpty = true := by rw [isEmpty_size]; simp [hpar]
        have HN := Lib.hid (seenP_skip l k hlt hpar)
        clear hpar
        go_wp2
        refine ⟨⟨k + 1, by omega, by go_num, ?_, ?_⟩, by simp [intOf]; omega⟩
        · rw [HN.out]; exact (HS.out.1.alloc _).mono (by omega)
        · exact below_alloc HS.out.2.1 _ (by omega)
      · have he : l[k].par.toList.isEmpty = false := by rw [isEmpty_size]; simp [hpar]
        have hp := HK.out.1.par HK.out.2.1 (List.getElem_mem hlt) hpar
        obtain ⟨kl, hkl⟩ := portKey (l[k].par, l[k].port) (by unfold maxLen; simp only; omega) (WalkArith.wf_i64 (by simp only; omega))
        have HKL := Lib.hid (And.intro hkl hpar)
        have HSe := Lib.hid (seenP_succ l k hlt)
        clear hkl hpar hp
        go_wp2_with ((at_mapUpdate; refine wpList_update (by rfl) _ _ _ _ rfl portKeyed Tryz.underlying161 portV_inj (HS.out.1.alloc _) (by unfold maxLen; omega) rfl (l[k].par, l[k].port) HKL.out.1 rfl _ rfl ?_; intro w4 hM4 hg4))
        refine ⟨⟨k + 1, by omega, by go_num, ?_, ?_⟩, by simp [intOf]; omega⟩
        · exact hM4.congr (boolM_set fun x => by rw [HSe.out]; simp [HKL.out.2, eq_comm])
        · exact below_at (below_alloc HS.out.2.1 _ (by omega)) (grown_row hg4 (Nat.le_refl _) (by simp; omega)) (Nat.le_refl _)
    · obtain rfl : k = l.length := by omega
      go_wp2
      obtain ⟨wo, rfl⟩ : ∃ wo : World, wo = wr := ⟨_, rfl⟩
      go_loopw [6, 36] (fun tw i wr => ∃ k : Nat, k ≤ d.length ∧ i = .int .i64 k ∧ tw = .bool (twiceD l d k) ∧ faultAt (dropFault l d) k = 0 ∧ PMap wr (w.heap.size + 1) (l.length + k) (seenD l d k) ∧ Below (w.heap.size + 1) (w.alloc (.cells #[.slice a l.length cap, .slice a2 d.length cap2] 29)) wr) (fun _ i _ => d.length - (intOf i).toNat)
      case atStart => exact ⟨0, by omega, rfl, rfl, rfl, HS.out.1.congr (fun q => by simp [boolM, seenD]), HS.out.2.1⟩
      case round =>
        obtain ⟨k, hk, rfl, rfl, hz, hM, hB⟩ := hrel
        have hsz := hB.size
        simp only [World.size_alloc] at hsz
        have hBw : Below w.heap.size w wr := below_at (below_alloc (Below.refl _ _) _ (Nat.le_refl _)) hB (by omega)
        have hbw := HBX.out.below hB (by omega)
        have r0 := hbw.cell 0 _ rfl
        have r1 := hbw.cell 1 _ rfl
        have HR := Lib.hid (And.intro hz (And.intro hM (And.intro hB (And.intro hBw hbw))))
        have hlt1 : w.heap.size < wr.heap.size := by omega
        clear hz hM hB hBw hbw t0 t1
        by_cases hlt : k < d.length
        · obtain ⟨b, off, rfl, hb, hcc⟩ := HC2.out k hlt
          obtain ⟨c0, c1, c2⟩ := drp_at hcc
          replace c0 := (HR.out.2.2.2.1.cell (p := ⟨b, _, none⟩) hb).trans c0
          replace c1 := (HR.out.2.2.2.1.cell (p := ⟨b, _, none⟩) hb).trans c1
          replace c2 := (HR.out.2.2.2.1.cell (p := ⟨b, _, none⟩) hb).trans c2
          clear hcc
          go_wp2_with fail
          refine (find_any _ _ l d[k].spl _ ?_ (by omega) HK.out.1.rise).mono ?_
          · exact HK.out.2.2.below (by have h4 := HR.out.2.2.2.1; (repeat (first | exact Below.refl _ _ | assumption | refine below_draws ?_ _ | refine Below.drew ?_ | refine below_alloc ?_ _ (by first | omega | (simp; done) | (simp; omega)) | refine Below.setCell ?_ (by first | omega | (simp; done) | (simp; omega)) _ | refine below_at ?_ (by assumption) (by first | omega | (simp; done) | (simp; omega)))))
          rintro e w2 ⟨rfl, hb2⟩
          have hz2 := hb2.size
          simp only [World.size_alloc] at hz2
          have hB2 : Below (w.heap.size + 1) (w.alloc (.cells #[.slice a l.length cap, .slice (some ⟨b, off, none⟩) d.length cap2] 29)) w2 := by have h3 := HR.out.2.2.1; (repeat (first | exact Below.refl _ _ | assumption | refine below_draws ?_ _ | refine Below.drew ?_ | refine below_alloc ?_ _ (by first | omega | (simp; done) | (simp; omega)) | refine Below.setCell ?_ (by first | omega | (simp; done) | (simp; omega)) _ | refine below_at ?_ (by assumption) (by first | omega | (simp; done) | (simp; omega))))
          have hBw2 : Below w.heap.size w w2 := below_at (below_alloc (Below.refl _ _) _ (Nat.le_refl _)) hB2 (by omega)
          have hbx2 := HBX.out.below hB2 (by omega)
          have hxx2 : Blk w2 wr.heap.size #[.string d[k].cust, .string d[k].spl, .int .i64 d[k].port] 36 := (Blk.new wr _ _).below hb2 (by simp)
          have hM2 : PMap w2 (w.heap.size + 1) (l.length + k) (seenD l d k) := (HR.out.2.1.alloc _).below hb2 (by simp; omega)
          have HS2 := Lib.hid (DSt.mk hB2 hBw2 hbx2 hxx2 hM2)
          clear hB2 hBw2 hbx2 hxx2 hM2 r0 r1 c0 c1 c2
          have p0 := HS2.out.bx.cell 0 _ rfl; have p1 := HS2.out.bx.cell 1 _ rfl; have x0 := HS2.out.xx.cell 0 _ rfl; have x1 := HS2.out.xx.cell 1 _ rfl; have x2 := HS2.out.xx.cell 2 _ rfl; have l1 := HS2.out.bx.lt; have l2 := HS2.out.xx.lt; have l3 := HS2.out.m.lt
          have hF : ∀ n : Int, n ≠ 0 → dropFault l d k = n → Hid (dropsF l d = n) := fun n hn hp => by
            have h1 := faultAt_hit hlt HR.out.1 (by rw [hp]; exact hn)
            unfold dropsF
            rw [if_neg hbig, h1, if_pos (by rw [hp]; exact hn), hp]
            exact rfl
          have HFF := Lib.hid hF
          have hdk : dropFault l d k = if keyB d[k].cust = false then 5 else match getS l d[k].spl with
              | none => 8
              | some s => if outB d[k].port 1 s.ways then 1 else if 0 < k ∧ leB d[k].cust (d[k - 1]?.getD default).cust = true then 7 else 0 := by
            unfold dropFault; rw [List.getElem?_eq_getElem hlt]; rfl
          have HDK := Lib.hid hdk
          clear hF hdk
          cases hkey : keyB d[k].cust
          · have HR9 := HFF.out 5 (by omega) (by rw [HDK.out, if_pos hkey])
            go_wp2_with (go_at_call 45; refine (key_any _ _).mono ?_; rintro e w' ⟨rfl, rfl⟩)
            go_ret
            exact ⟨ret_int HR9.out.symm, HS2.out.b2⟩
          · rcases findS_get l d[k].spl with ⟨hneg, hnone⟩ | ⟨j, hj, hfj, hget, -⟩
            · have HR9 := HFF.out 8 (by omega) (by rw [HDK.out, if_neg (by simp [hkey]), hnone])
              clear hnone
              go_wp2_with (go_at_call 45; refine (key_any _ _).mono ?_; rintro e w' ⟨rfl, rfl⟩)
              go_ret
              exact ⟨ret_int HR9.out.symm, HS2.out.b2⟩
            · rw [hfj]
              have HJ := Lib.hid (And.intro hfj hget)
              clear hfj hget
              have hj1 : (0 : Int) ≤ (j : Int) := by omega
              have hj2 : ¬ ((j : Int) < 0) := by omega
              have hj3 : (j : Int) < (l.length : Int) := by omega
              obtain ⟨b', off', rfl, hbb, hcc⟩ := HC.out j hj
              obtain ⟨-, d1, -, -⟩ := splt_at hcc
              replace d1 := (HS2.out.b2.cell (p := ⟨b', _, none⟩) hbb).trans d1
              clear hcc
              go_wp2_with (go_at_call 45; refine (key_any _ _).mono ?_; rintro e w' ⟨rfl, rfl⟩)
              go_quiet ((go_at_call 128; exact quiet_left (out_any _ _ _ _)))
              have hs3 := HS2.out.drewN nq
              generalize w2.drewN nq = w3 at *
              have HS3 := Lib.hid hs3
              clear hs3 HS2 p0 p1 x0 x1 x2 d1 l1 l2 l3
              have p0 := HS3.out.bx.cell 0 _ rfl; have p1 := HS3.out.bx.cell 1 _ rfl; have x0 := HS3.out.xx.cell 0 _ rfl; have x1 := HS3.out.xx.cell 1 _ rfl; have x2 := HS3.out.xx.cell 2 _ rfl; have l1 := HS3.out.bx.lt; have l2 := HS3.out.xx.lt; have l3 := HS3.out.m.lt
              cases ho : outB d[k].port 1 l[j].ways
              · have hdk2 : dropFault l d k = if 0 < k ∧ leB d[k].cust (d[k - 1]?.getD default).cust = true then 7 else 0 := by
                  rw [HDK.out, if_neg (by simp [hkey]), HJ.out.2]
                  simp only [ho, Bool.false_eq_true, if_false]
                have HDK2 := Lib.hid hdk2
                clear hdk2
                obtain ⟨o1, o2⟩ := outB_false.1 ho
                have hway := (waysB_le (HK.out.1.keys _ (List.getElem_mem hj)).2).2
                have hget := HK.out.1.get HJ.out.2
                obtain ⟨kl, hkl⟩ := portKey (d[k].spl, d[k].port) (by unfold maxLen; simp only; omega) (WalkArith.wf_i64 (by simp only; omega))
                have HKL := Lib.hid hkl
                have HD := Lib.hid (dupD_in l d k hlt)
                have HT := Lib.hid (twiceD_succ l d k)
                have HSe := Lib.hid (seenD_succ l d k hlt)
                clear hkl hget
                by_cases hk0 : k = 0
                · have hd0 : decide ((0 : Int) < (k : Int)) = false := by simp; omega
                  have hd1 : decide (0 < k) = false := by simp; omega
                  have HN : Hid (faultAt (dropFault l d) (k + 1) = 0) := by rw [faultAt_succ HR.out.1, HDK2.out, if_neg (by omega)]; exact rfl
                  clear hk0
                  go_wp2
                  go_quiet (fail)
                  have hs4 := HS3.out.drewN nq; generalize w3.drewN nq = w4 at *; have HS4 := Lib.hid hs4; clear hs4 HS3 p0 p1 x0 x1 x2 l1 l2 l3; have p0 := HS4.out.bx.cell 0 _ rfl; have p1 := HS4.out.bx.cell 1 _ rfl; have x0 := HS4.out.xx.cell 0 _ rfl; have x1 := HS4.out.xx.cell 1 _ rfl; have x2 := HS4.out.xx.cell 2 _ rfl; have l1 := HS4.out.bx.lt; have l2 := HS4.out.xx.lt; have l3 := HS4.out.m.lt
                  cases htw : twiceD l d k
                  · have HTW := Lib.hid htw
                    clear htw
                    go_wp2_with (first
                      | (at_lookup; refine wpList_look (by rfl) _ _ _ rfl portKeyed Tryz.underlying161 (zeroBool _) (HS4.out.m.alloc _) rfl (d[k].spl, d[k].port) HKL.out rfl (boolM_get _ _) ?_)
                      | (at_mapUpdate; refine wpList_update (by rfl) _ _ _ _ rfl portKeyed Tryz.underlying161 portV_inj (HS4.out.m.alloc _) (by unfold maxLen; omega) rfl (d[k].spl, d[k].port) HKL.out rfl _ rfl ?_; intro w5 hM5 hg5))
                    refine ⟨⟨k + 1, by omega, by go_num, ?_, HN.out, ?_, ?_⟩, by simp [intOf]; omega⟩
                    · rw [HT.out, HTW.out, HD.out]; rfl
                    · exact hM5.congr (boolM_set fun x => by rw [HSe.out]; simp [eq_comm])
                    · exact below_at (below_alloc HS4.out.b1 _ (by omega)) (grown_row hg5 (Nat.le_refl _) (by simp; omega)) (Nat.le_refl _)
                  · have HTW := Lib.hid htw
                    clear htw
                    go_wp2_with ((at_mapUpdate; refine wpList_update (by rfl) _ _ _ _ rfl portKeyed Tryz.underlying161 portV_inj (HS4.out.m.alloc _) (by unfold maxLen; omega) rfl (d[k].spl, d[k].port) HKL.out rfl _ rfl ?_; intro w5 hM5 hg5))
                    refine ⟨⟨k + 1, by omega, by go_num, ?_, HN.out, ?_, ?_⟩, by simp [intOf]; omega⟩
                    · rw [HT.out, HTW.out]; rfl
                    · exact hM5.congr (boolM_set fun x => by rw [HSe.out]; simp [eq_comm])
                    · exact below_at (below_alloc HS4.out.b1 _ (by omega)) (grown_row hg5 (Nat.le_refl _) (by simp; omega)) (Nat.le_refl _)
                · have hd0 : decide ((0 : Int) < (k : Int)) = true := by simp; omega
                  have hd1 : decide (0 < k) = true := by simp; omega
                  have hk1 : 1 ≤ k := by omega
                  have hpl : k - 1 < d.length := by omega
                  have hpg : (d[k - 1]?.getD default) = d[k - 1] := by rw [List.getElem?_eq_getElem hpl]; rfl
                  have HPG := Lib.hid hpg
                  obtain ⟨b'', off'', hbe, hbb'', hcc⟩ := HC2.out (k - 1) hpl
                  obtain ⟨rfl, rfl⟩ : b = b'' ∧ off = off'' := by simpa using hbe
                  obtain ⟨e0, -, -⟩ := drp_at hcc
                  replace e0 := (HS3.out.b2.cell (p := ⟨b, _, none⟩) hb).trans e0
                  clear hcc hbe hpg hk0
                  have hi1 : (0 : Int) ≤ (k : Int) - 1 := by omega
                  have hi2 : (k : Int) - 1 < (d.length : Int) := by omega
                  cases hle : leB d[k].cust d[k - 1].cust
                  · have HN : Hid (faultAt (dropFault l d) (k + 1) = 0) := by
                      rw [faultAt_succ HR.out.1, HDK2.out, HPG.out, if_neg (by simp [hle])]; exact rfl
                    have hle' : (Op.bytesLess d[k].cust.toList d[k - 1].cust.toList || d[k].cust.toList == d[k - 1].cust.toList) = false := hle
                    clear hle
                    go_wp2
                    go_quiet (fail)
                    clear e0 hle'
                    have hs4 := HS3.out.drewN nq; generalize w3.drewN nq = w4 at *; have HS4 := Lib.hid hs4; clear hs4 HS3 p0 p1 x0 x1 x2 l1 l2 l3; have p0 := HS4.out.bx.cell 0 _ rfl; have p1 := HS4.out.bx.cell 1 _ rfl; have x0 := HS4.out.xx.cell 0 _ rfl; have x1 := HS4.out.xx.cell 1 _ rfl; have x2 := HS4.out.xx.cell 2 _ rfl; have l1 := HS4.out.bx.lt; have l2 := HS4.out.xx.lt; have l3 := HS4.out.m.lt
                    cases htw : twiceD l d k
                    · have HTW := Lib.hid htw
                      clear htw
                      go_wp2_with (first
                        | (at_lookup; refine wpList_look (by rfl) _ _ _ rfl portKeyed Tryz.underlying161 (zeroBool _) (HS4.out.m.alloc _) rfl (d[k].spl, d[k].port) HKL.out rfl (boolM_get _ _) ?_)
                        | (at_mapUpdate; refine wpList_update (by rfl) _ _ _ _ rfl portKeyed Tryz.underlying161 portV_inj (HS4.out.m.alloc _) (by unfold maxLen; omega) rfl (d[k].spl, d[k].port) HKL.out rfl _ rfl ?_; intro w5 hM5 hg5))
                      refine ⟨⟨k + 1, by omega, by go_num, ?_, HN.out, ?_, ?_⟩, by simp [intOf]; omega⟩
                      · rw [HT.out, HTW.out, HD.out]; rfl
                      · exact hM5.congr (boolM_set fun x => by rw [HSe.out]; simp [eq_comm])
                      · exact below_at (below_alloc HS4.out.b1 _ (by omega)) (grown_row hg5 (Nat.le_refl _) (by simp; omega)) (Nat.le_refl _)
                    · have HTW := Lib.hid htw
                      clear htw
                      go_wp2_with ((at_mapUpdate; refine wpList_update (by rfl) _ _ _ _ rfl portKeyed Tryz.underlying161 portV_inj (HS4.out.m.alloc _) (by unfold maxLen; omega) rfl (d[k].spl, d[k].port) HKL.out rfl _ rfl ?_; intro w5 hM5 hg5))
                      refine ⟨⟨k + 1, by omega, by go_num, ?_, HN.out, ?_, ?_⟩, by simp [intOf]; omega⟩
                      · rw [HT.out, HTW.out]; rfl
                      · exact hM5.congr (boolM_set fun x => by rw [HSe.out]; simp [eq_comm])
                      · exact below_at (below_alloc HS4.out.b1 _ (by omega)) (grown_row hg5 (Nat.le_refl _) (by simp; omega)) (Nat.le_refl _)
                  · have HR9 := HFF.out 7 (by omega) (by rw [HDK2.out, HPG.out, if_pos ⟨by omega, hle⟩])
                    have hle' : (Op.bytesLess d[k].cust.toList d[k - 1].cust.toList || d[k].cust.toList == d[k - 1].cust.toList) = true := hle
                    clear hle
                    go_wp2
                    go_quiet (fail)
                    go_wp2
                    go_ret
                    exact ⟨ret_int HR9.out.symm, below_draws HS3.out.b2 _⟩
              · have HR9 := HFF.out 1 (by omega) (by
                  rw [HDK.out, if_neg (by simp [hkey]), HJ.out.2]
                  simp only [ho, if_true])
                go_wp2
                go_ret
                exact ⟨ret_int HR9.out.symm, HS3.out.b2⟩
        · obtain rfl : k = d.length := by omega
          cases htw : twiceD l d d.length
          · have hfin : dropsF l d = 0 := by unfold dropsF; rw [if_neg hbig, if_neg (by have := HR.out.1; omega), htw, if_neg (by simp)]
            have HFi := Lib.hid hfin
            clear hfin htw
            go_wp2
            go_ret
            exact ⟨ret_int HFi.out.symm, HR.out.2.2.2.1⟩
          · have hfin : dropsF l d = 6 := by unfold dropsF; rw [if_neg hbig, if_neg (by have := HR.out.1; omega), htw, if_pos rfl]
            have HFi := Lib.hid hfin
            clear hfin htw
            go_wp2
            go_ret
            exact ⟨ret_int HFi.out.symm, HR.out.2.2.2.1⟩
end Go.Proofs.YtcecpodbmjghhaaGreat
/- Walk of package tree: what is wrong with a tree. -/
namespace Go.Proofs.YtcecpodbmjghhaaGreat
open Go Go.RowKit
/-- the state inside a round over the splitters -/
structure CSt (w : World) (xb : Nat) (c0 c1 : Value) (x : Splt) (W : World) : Prop where
  b2 : Below w.heap.size w W
  bx : Blk W w.heap.size #[c0, c1] 29
  xx : Blk W xb #[.string x.key, .int .i64 x.ways, .string x.par, .int .i64 x.port] 58
set_option maxHeartbeats 8000000 in
set_option maxRecDepth 100000 in
theorem checkTree_any (v1 v2 : Value) (l : List Splt) (d : List Drp) (w : World) (h : Arr Splt.cells 4 w l v1) (hd : Arr Drp.cells 3 w d v2) : Calls Tryz.prog 44 #[.agg #[v1, v2]] w
    fun e w' => e = .returned (.int .i64 (treeF l d)) ∧ Below w.heap.size w w' := by
  have hA := h
  have hD := hd
  obtain ⟨a, cap, rfl, hcap, hmax, hc⟩ := h
  obtain ⟨a2, cap2, rfl, hcap2, hmax2, hc2⟩ := hd
  unfold maxLen at hmax hmax2
  have HA := Lib.hid (And.intro hA hD)
  have HC := Lib.hid hc
  clear hA hD hc hc2
  have hbx : Blk (w.alloc (.cells #[.slice a l.length cap, .slice a2 d.length cap2] 29)) w.heap.size #[.slice a l.length cap, .slice a2 d.length cap2] 29 := Blk.new _ _ _
  have HBX := Lib.hid hbx
  clear hbx
  by_cases hbig : 500 < l.length
  · have hR : treeF l d = 2 := by unfold treeF spltsFault; rw [if_pos hbig, if_pos (by omega)]
    have HR := Lib.hid hR
    clear hR
    go_enter Tryz.func44, Tryz.ntmps44
    go_wp2
    go_ret
    exact ⟨ret_int HR.out.symm, by (repeat (first | exact Below.refl _ _ | assumption | refine below_draws ?_ _ | refine Below.drew ?_ | refine below_alloc ?_ _ (by first | omega | (simp; done) | (simp; omega)) | refine Below.setCell ?_ (by first | omega | (simp; done) | (simp; omega)) _ | refine below_at ?_ (by assumption) (by first | omega | (simp; done) | (simp; omega))))⟩
  have hl5 : l.length ≤ 500 := by omega
  go_enter Tryz.func44, Tryz.ntmps44
  go_wp2
  go_loopw [13] (fun i wr => ∃ k : Nat, k ≤ l.length ∧ i = .int .i64 k ∧ faultAt (spltFault l) k = 0 ∧ Below (w.heap.size + 1) (w.alloc (.cells #[.slice a l.length cap, .slice a2 d.length cap2] 29)) wr) (fun i _ => l.length - (intOf i).toNat)
  case atStart => exact ⟨0, by omega, rfl, rfl, Below.refl _ _⟩
  case round =>
    obtain ⟨k, hk, rfl, hz, hB⟩ := hrel
    have hsz := hB.size
    simp only [World.size_alloc] at hsz
    have hBw : Below w.heap.size w wr := below_at (below_alloc (Below.refl _ _) _ (Nat.le_refl _)) hB (by omega)
    have hbw := HBX.out.below hB (by omega)
    have t0 := hbw.cell 0 _ rfl
    have t1 := hbw.cell 1 _ rfl
    have HS := Lib.hid (And.intro hz (And.intro hB (And.intro hBw hbw)))
    have hlt0 : w.heap.size < wr.heap.size := by omega
    clear hz hB hBw hbw
    by_cases hlt : k < l.length
    · obtain ⟨b, off, rfl, hb, hcc⟩ := HC.out k hlt
      obtain ⟨c0, c1, c2, c3⟩ := splt_at hcc
      replace c0 := (HS.out.2.2.1.cell (p := ⟨b, _, none⟩) hb).trans c0
      replace c1 := (HS.out.2.2.1.cell (p := ⟨b, _, none⟩) hb).trans c1
      replace c2 := (HS.out.2.2.1.cell (p := ⟨b, _, none⟩) hb).trans c2
      replace c3 := (HS.out.2.2.1.cell (p := ⟨b, _, none⟩) hb).trans c3
      clear hcc
      have HFF : Hid (∀ n : Int, n ≠ 0 → spltFault l k = n → Hid (treeF l d = n)) := fun n hn hp => by
        have h1 := faultAt_hit hlt HS.out.1 (by rw [hp]; exact hn)
        unfold treeF spltsFault
        rw [if_neg hbig, h1, if_pos (by rw [hp]; exact hn), hp]
        exact rfl
      have HDK := Lib.hid (spltFault_in hlt)
      have hB9 : Below w.heap.size w (wr.alloc (.cells #[.string l[k].key, .int .i64 l[k].ways, .string l[k].par, .int .i64 l[k].port] 58)) := by have h3 := HS.out.2.2.1; (repeat (first | exact Below.refl _ _ | assumption | refine below_draws ?_ _ | refine Below.drew ?_ | refine below_alloc ?_ _ (by first | omega | (simp; done) | (simp; omega)) | refine Below.setCell ?_ (by first | omega | (simp; done) | (simp; omega)) _ | refine below_at ?_ (by assumption) (by first | omega | (simp; done) | (simp; omega))))
      have HB9 := Lib.hid hB9
      clear hB9
      cases hkey : keyB l[k].key
      · have HR9 := HFF.out 5 (by omega) (by rw [HDK.out, if_pos hkey])
        go_wp2_with (first | (go_at_call 45; refine (key_any _ _).mono ?_; rintro e w' ⟨rfl, rfl⟩) | (go_at_call 95; refine (ways_any _ _).mono ?_; rintro e w' ⟨rfl, rfl⟩))
        go_ret
        exact ⟨ret_int HR9.out.symm, HB9.out⟩
      cases hway : waysB l[k].ways
      · have HR9 := HFF.out 1 (by omega) (by rw [HDK.out, if_neg (by simp [hkey]), if_pos hway])
        go_wp2_with (first | (go_at_call 45; refine (key_any _ _).mono ?_; rintro e w' ⟨rfl, rfl⟩) | (go_at_call 95; refine (ways_any _ _).mono ?_; rintro e w' ⟨rfl, rfl⟩))
        go_ret
        exact ⟨ret_int HR9.out.symm, HB9.out⟩
      rcases (show (l[k].par.size = 0 ∧ l[k].port ≠ 0) ∨ (l[k].par.size = 0 ∧ l[k].port = 0) ∨ l[k].par.size ≠ 0 by omega) with ⟨g1, g2⟩ | hgood
      · have HR9 := HFF.out 3 (by omega) (by rw [HDK.out, if_neg (by simp [hkey]), if_neg (by simp [hway]), if_pos ⟨g1, g2⟩])
        have he : l[k].par.toList.isEmpty = true := by rw [isEmpty_size]; simp [g1]
        have hp : (l[k].port != 0) = true := by simp [g2]
        clear g1 g2
        go_wp2_with (first | (go_at_call 45; refine (key_any _ _).mono ?_; rintro e w' ⟨rfl, rfl⟩) | (go_at_call 95; refine (ways_any _ _).mono ?_; rintro e w' ⟨rfl, rfl⟩))
        go_ret
        exact ⟨ret_int HR9.out.symm, HB9.out⟩
      have hdk2 : spltFault l k = if 0 < k ∧ leB l[k].key (l[k - 1]?.getD default).key = true then 7 else 0 := by
        rw [HDK.out, if_neg (by simp [hkey]), if_neg (by simp [hway]), if_neg (by omega)]
      have HDK2 := Lib.hid hdk2
      clear hdk2
      have hgo : (l[k].par.toList.isEmpty = true ∧ (l[k].port != 0) = false) ∨ l[k].par.toList.isEmpty = false := by
        rcases hgood with ⟨g1, g2⟩ | g1
        · exact .inl ⟨by rw [isEmpty_size]; simp [g1], by simp [g2]⟩
        · exact .inr (by rw [isEmpty_size]; simp [g1])
      clear hgood
      by_cases hk0 : k = 0
      · have hd0 : decide ((0 : Int) < (k : Int)) = false := by simp; omega
        have hd1 : decide (0 < k) = false := by simp; omega
        have HN : Hid (faultAt (spltFault l) (k + 1) = 0) := by rw [faultAt_succ HS.out.1, HDK2.out, if_neg (by omega)]; exact rfl
        clear hk0
        rcases hgo with ⟨he, hp⟩ | he
        all_goals
          go_wp2_with (first | (go_at_call 45; refine (key_any _ _).mono ?_; rintro e w' ⟨rfl, rfl⟩) | (go_at_call 95; refine (ways_any _ _).mono ?_; rintro e w' ⟨rfl, rfl⟩))
          go_quiet (fail)
          go_wp2
          exact ⟨⟨k + 1, by omega, by go_num, HN.out, below_draws (below_alloc HS.out.2.1 _ (by omega)) _⟩, by simp [intOf]; omega⟩
      · have hd0 : decide ((0 : Int) < (k : Int)) = true := by simp; omega
        have hd1 : decide (0 < k) = true := by simp; omega
        have hk1 : 1 ≤ k := by omega
        have hpl : k - 1 < l.length := by omega
        have hpg : (l[k - 1]?.getD default) = l[k - 1] := by rw [List.getElem?_eq_getElem hpl]; rfl
        have HPG := Lib.hid hpg
        obtain ⟨b'', off'', hbe, hbb'', hcc⟩ := HC.out (k - 1) hpl
        obtain ⟨rfl, rfl⟩ : b = b'' ∧ off = off'' := by simpa using hbe
        obtain ⟨e0, -, -, -⟩ := splt_at hcc
        replace e0 := (HS.out.2.2.1.cell (p := ⟨b, _, none⟩) hb).trans e0
        clear hcc hbe hpg hk0
        have hi1 : (0 : Int) ≤ (k : Int) - 1 := by omega
        have hi2 : (k : Int) - 1 < (l.length : Int) := by omega
        have hbsz : b < wr.heap.size := Nat.lt_of_lt_of_le hb (by omega)
        cases hle : leB l[k].key l[k - 1].key
        · have HN : Hid (faultAt (spltFault l) (k + 1) = 0) := by
            rw [faultAt_succ HS.out.1, HDK2.out, HPG.out, if_neg (by simp [hle])]; exact rfl
          have hle' : (Op.bytesLess l[k].key.toList l[k - 1].key.toList || l[k].key.toList == l[k - 1].key.toList) = false := hle
          clear hle
          rcases hgo with ⟨he, hp⟩ | he
          all_goals
            go_wp2_with (first | (go_at_call 45; refine (key_any _ _).mono ?_; rintro e w' ⟨rfl, rfl⟩) | (go_at_call 95; refine (ways_any _ _).mono ?_; rintro e w' ⟨rfl, rfl⟩))
            go_quiet (fail)
            go_wp2
            exact ⟨⟨k + 1, by omega, by go_num, HN.out, below_draws (below_alloc HS.out.2.1 _ (by omega)) _⟩, by simp [intOf]; omega⟩
        · have HR9 := HFF.out 7 (by omega) (by rw [HDK2.out, HPG.out, if_pos ⟨by omega, hle⟩])
          have hle' : (Op.bytesLess l[k].key.toList l[k - 1].key.toList || l[k].key.toList == l[k - 1].key.toList) = true := hle
          clear hle
          rcases hgo with ⟨he, hp⟩ | he
          all_goals
            go_wp2_with (first | (go_at_call 45; refine (key_any _ _).mono ?_; rintro e w' ⟨rfl, rfl⟩) | (go_at_call 95; refine (ways_any _ _).mono ?_; rintro e w' ⟨rfl, rfl⟩))
            go_quiet (fail)
            go_wp2
            go_ret
            exact ⟨ret_int HR9.out.symm, below_draws HB9.out _⟩
    · obtain rfl : k = l.length := by omega
      have ok := sok_of hl5 HS.out.1
      have HOK := Lib.hid ok
      have hsp : spltsFault l = 0 := by unfold spltsFault; rw [if_neg hbig]; exact HS.out.1
      have HSP := Lib.hid hsp
      clear ok hsp
      go_wp2_with fail
      refine (parentsFault_any _ _ l _ (by exact HA.out.1.below (by have h3 := HS.out.2.2.1; (repeat (first | exact Below.refl _ _ | assumption | refine below_draws ?_ _ | refine Below.drew ?_ | refine below_alloc ?_ _ (by first | omega | (simp; done) | (simp; omega)) | refine Below.setCell ?_ (by first | omega | (simp; done) | (simp; omega)) _ | refine below_at ?_ (by assumption) (by first | omega | (simp; done) | (simp; omega)))))) hl5 HOK.out.rise HOK.out.keys).mono ?_
      rintro e w2 ⟨rfl, hb2⟩
      have hz2 := hb2.size
      have hBw2 : Below w.heap.size w w2 := by have h3 := HS.out.2.2.1; (repeat (first | exact Below.refl _ _ | assumption | refine below_draws ?_ _ | refine Below.drew ?_ | refine below_alloc ?_ _ (by first | omega | (simp; done) | (simp; omega)) | refine Below.setCell ?_ (by first | omega | (simp; done) | (simp; omega)) _ | refine below_at ?_ (by assumption) (by first | omega | (simp; done) | (simp; omega))))
      have hbx2 := HS.out.2.2.2.below hb2 hlt0
      have p0 := hbx2.cell 0 _ rfl
      have p1 := hbx2.cell 1 _ rfl
      have HB2 := Lib.hid (And.intro hBw2 hbx2)
      clear hBw2 hbx2 t0 t1
      by_cases hp0 : parentsF l = 0
      · have hp1 : (parentsF l != 0) = false := by simp [hp0]
        have HR9 : Hid (treeF l d = dropsF l d) := by unfold treeF; rw [if_neg (by have := HSP.out; omega), if_neg (by omega)]; exact rfl
        have HP := Lib.hid (parentsF_zero hp0)
        clear hp0
        go_wp2_with fail
        refine (dropsFault_any _ _ l d _ (by exact HA.out.1.below HB2.out.1) (by exact HA.out.2.below HB2.out.1) HOK.out HP.out.1).mono ?_
        rintro e w3 ⟨rfl, hb3⟩
        go_wp2
        go_ret
        exact ⟨ret_int HR9.out.symm, by have h3 := HB2.out.1; have h4 := h3.size; (repeat (first | exact Below.refl _ _ | assumption | refine below_draws ?_ _ | refine Below.drew ?_ | refine below_alloc ?_ _ (by first | omega | (simp; done) | (simp; omega)) | refine Below.setCell ?_ (by first | omega | (simp; done) | (simp; omega)) _ | refine below_at ?_ (by assumption) (by first | omega | (simp; done) | (simp; omega))))⟩
      · have hp1 : (parentsF l != 0) = true := by simp [hp0]
        have HR9 : Hid (treeF l d = parentsF l) := by unfold treeF; rw [if_neg (by have := HSP.out; omega), if_pos hp0]; exact rfl
        clear hp0
        go_wp2
        go_ret
        exact ⟨ret_int HR9.out.symm, HB2.out.1⟩
end Go.Proofs.YtcecpodbmjghhaaGreat
/- Walks of package tree: what is at the ports of a splitter. -/
namespace Go.Proofs.YtcecpodbmjghhaaGreat
open Go Go.RowKit
set_option maxHeartbeats 1000000 in
set_option maxRecDepth 100000 in
theorem splitterFault_any (v1 v2 : Value) (l : List Splt) (d : List Drp) (key : ByteArray) (w : World) (h : Arr Splt.cells 4 w l v1) (hd : Arr Drp.cells 3 w d v2) : Calls Tryz.prog 56 #[.agg #[v1, v2], .string key] w
    fun e w' => e = .returned (.int .i64 (splitterF l d key)) ∧ Below w.heap.size w w' := by
  have HA := Lib.hid (And.intro h hd)
  clear h hd
  have hbx : Blk (w.alloc (.cells #[v1, v2] 29)) w.heap.size #[v1, v2] 29 := Blk.new _ _ _
  have HBX := Lib.hid hbx
  clear hbx
  go_enter Tryz.func56, Tryz.ntmps56
  go_wp2_with fail
  refine (checkTree_any _ _ l d _ (by exact HA.out.1.below (by (repeat (first | exact Below.refl _ _ | assumption | refine below_draws ?_ _ | refine Below.drew ?_ | refine below_alloc ?_ _ (by first | omega | (simp; done) | (simp; omega)) | refine Below.setCell ?_ (by first | omega | (simp; done) | (simp; omega)) _ | refine below_at ?_ (by assumption) (by first | omega | (simp; done) | (simp; omega)))))) (by exact HA.out.2.below (by (repeat (first | exact Below.refl _ _ | assumption | refine below_draws ?_ _ | refine Below.drew ?_ | refine below_alloc ?_ _ (by first | omega | (simp; done) | (simp; omega)) | refine Below.setCell ?_ (by first | omega | (simp; done) | (simp; omega)) _ | refine below_at ?_ (by assumption) (by first | omega | (simp; done) | (simp; omega))))))).mono ?_
  rintro e w2 ⟨rfl, hb2⟩
  have hz2 := hb2.size
  simp only [World.size_alloc] at hz2
  have hBw2 : Below w.heap.size w w2 := by (repeat (first | exact Below.refl _ _ | assumption | refine below_draws ?_ _ | refine Below.drew ?_ | refine below_alloc ?_ _ (by first | omega | (simp; done) | (simp; omega)) | refine Below.setCell ?_ (by first | omega | (simp; done) | (simp; omega)) _ | refine below_at ?_ (by assumption) (by first | omega | (simp; done) | (simp; omega))))
  have hbx2 := HBX.out.below hb2 (by simp)
  have p0 := hbx2.cell 0 _ rfl
  have p1 := hbx2.cell 1 _ rfl
  have HB2 := Lib.hid (And.intro hBw2 hbx2)
  clear hBw2 hbx2
  by_cases hf : treeF l d = 0
  · have hf1 : (treeF l d == 0) = true := by simp [hf]
    have ok := tok_of hf
    have HF := Lib.hid (And.intro hf ok)
    clear hf ok
    go_wp2_with fail
    refine (find_any _ _ l key _ (by exact HA.out.1.below HB2.out.1) (by have := HF.out.2.s.len; omega) HF.out.2.s.rise).mono ?_
    rintro e w3 ⟨rfl, hb3⟩
    have hz3 := hb3.size
    have hBw3 : Below w.heap.size w w3 := by have h3 := HB2.out.1; (repeat (first | exact Below.refl _ _ | assumption | refine below_draws ?_ _ | refine Below.drew ?_ | refine below_alloc ?_ _ (by first | omega | (simp; done) | (simp; omega)) | refine Below.setCell ?_ (by first | omega | (simp; done) | (simp; omega)) _ | refine below_at ?_ (by assumption) (by first | omega | (simp; done) | (simp; omega))))
    have HB3 := Lib.hid hBw3
    clear hBw3
    rcases findS_get l key with ⟨hneg, hnone⟩ | ⟨j, hj, hfj, hget, -⟩
    · have HR : Hid (splitterF l d key = 8) := by unfold splitterF; rw [if_neg (by have := HF.out.1; omega), hnone]; exact rfl
      have hdn : decide (findS l key < 0) = true := by simpa using hneg
      clear hnone
      go_wp2
      go_ret
      exact ⟨ret_int HR.out.symm, HB3.out⟩
    · have HR : Hid (splitterF l d key = 0) := by unfold splitterF; rw [if_neg (by have := HF.out.1; omega), hget]; exact rfl
      have HF0 := Lib.hid HF.out.1
      rw [hfj]
      have hjn : ¬ (j : Int) < 0 := by omega
      clear hget hfj
      go_wp2
      go_ret
      exact ⟨ret_int (by rw [HR.out, HF0.out]), HB3.out⟩
  · have hf1 : (treeF l d == 0) = false := by simp [hf]
    have HR : Hid (splitterF l d key = treeF l d) := by unfold splitterF; rw [if_pos hf]; exact rfl
    clear hf
    go_wp2
    go_ret
    exact ⟨ret_int HR.out.symm, HB2.out.1⟩
abbrev SMap (w : World) (b n : Nat) (m : PortK → Option ByteArray) : Prop := MapIs Tryz.prog 134 portV w b n (fun q => (m q).map Value.string)
theorem zeroStr (w : World) : (zeroValue 9).run Tryz.prog w = .ok (.string ⟨#[]⟩) w := by kernel_rfl
theorem smap_get (m : PortK → Option ByteArray) (q : PortK) : ((m q).map Value.string).getD (.string ⟨#[]⟩) = .string ((m q).getD ⟨#[]⟩) := by cases m q <;> rfl
theorem smap_set {m m' : PortK → Option ByteArray} {q : PortK} {s : ByteArray} (h : ∀ x, m' x = if q = x then some s else m x) (x : PortK) : setM (fun q => (m q).map Value.string) q (.string s) x = (m' x).map Value.string := by
  unfold setM
  rw [h x]
  by_cases hx : x = q
  · subst hx; simp
  · rw [if_neg hx, if_neg (Ne.symm hx)]
theorem smap_start (w : World) {b : Nat} (hb : b = w.heap.size) {m : PortK → Option ByteArray} (hm : ∀ q, m q = none) : SMap (w.alloc (.map #[] 0)) b 0 m := by
  subst hb
  exact (MapIs.made _ _ _ _).congr fun q => by simp [hm]
/-- a map of what is at each port is returned -/
def TakenPost (l : List Splt) (d : List Drp) (w : World) (e : Ending) (w' : World) : Prop := ∃ b n, e = .returned (.map (some b)) ∧ w.heap.size ≤ b ∧ SMap w' b n (takenV l d d.length) ∧ Below w.heap.size w w'
theorem takenS_skip (l : List Splt) (k : Nat) (h : k < l.length) (h0 : l[k].par.size = 0) : takenS l (k + 1) = takenS l k := by
  funext q; rw [takenS_succ l k h]; simp [h0]
set_option maxHeartbeats 4000000 in
set_option maxRecDepth 100000 in
theorem taken_any (v1 v2 : Value) (l : List Splt) (d : List Drp) (w : World) (h : Arr Splt.cells 4 w l v1) (hd : Arr Drp.cells 3 w d v2) (ok : TOk l d) : Calls Tryz.prog 47 #[.agg #[v1, v2]] w (TakenPost l d w) := by
  have hl := ok.s.len
  have hd5 : d.length ≤ 5000 := by
    have := ok.dr
    unfold dropsF at this
    split at this
    · omega
    · omega
  obtain ⟨a, cap, rfl, hcap, hmax, hc⟩ := h
  obtain ⟨a2, cap2, rfl, hcap2, hmax2, hc2⟩ := hd
  unfold maxLen at hmax hmax2
  have HK := Lib.hid ok
  have HC := Lib.hid hc
  have HC2 := Lib.hid hc2
  clear ok hc hc2
  have hmm := @run_makeMap Tryz.prog
  have hbx : Blk (w.alloc (.cells #[.slice a l.length cap, .slice a2 d.length cap2] 29)) w.heap.size #[.slice a l.length cap, .slice a2 d.length cap2] 29 := Blk.new _ _ _
  have HBX := Lib.hid hbx
  clear hbx
  go_enter Tryz.func47, Tryz.ntmps47
  go_wp2
  go_loopw [12] (fun i wr => ∃ k : Nat, k ≤ l.length ∧ i = .int .i64 k ∧ SMap wr (w.heap.size + 1) k (takenS l k) ∧ Below (w.heap.size + 1) (w.alloc (.cells #[.slice a l.length cap, .slice a2 d.length cap2] 29)) wr) (fun i _ => l.length - (intOf i).toNat)
  case atStart => exact ⟨0, by omega, rfl, smap_start _ (by simp) (fun q => by simp [takenS]), below_alloc (Below.refl _ _) _ (by simp)⟩
  case round =>
    obtain ⟨k, hk, rfl, hM, hB⟩ := hrel
    have hsz := hB.size
    simp only [World.size_alloc] at hsz
    have hBw : Below w.heap.size w wr := below_at (below_alloc (Below.refl _ _) _ (Nat.le_refl _)) hB (by omega)
    have hbw := HBX.out.below hB (by omega)
    have t0 := hbw.cell 0 _ rfl
    have t1 := hbw.cell 1 _ rfl
    have HS := Lib.hid (And.intro hM (And.intro hB (And.intro hBw hbw)))
    have hlt0 : w.heap.size < wr.heap.size := by omega
    clear hM hB hBw hbw
    by_cases hlt : k < l.length
    · obtain ⟨b, off, rfl, hb, hcc⟩ := HC.out k hlt
      obtain ⟨c0, c1, c2, c3⟩ := splt_at hcc
      replace c0 := (HS.out.2.2.1.cell (p := ⟨b, _, none⟩) hb).trans c0
      replace c1 := (HS.out.2.2.1.cell (p := ⟨b, _, none⟩) hb).trans c1
      replace c2 := (HS.out.2.2.1.cell (p := ⟨b, _, none⟩) hb).trans c2
      replace c3 := (HS.out.2.2.1.cell (p := ⟨b, _, none⟩) hb).trans c3
      clear hcc
      by_cases hpar : l[k].par.size = 0
      · have he : l[k].par.toList.isEmpty = true := by rw [isEmpty_size]; simp [hpar]
        have HN := Lib.hid (takenS_skip l k hlt hpar)
        clear hpar
        go_wp2
        refine ⟨⟨k + 1, by omega, by go_num, ?_, ?_⟩, by simp [intOf]; omega⟩
        · rw [HN.out]; exact (HS.out.1.alloc _).mono (by omega)
        · exact below_alloc HS.out.2.1 _ (by omega)
      · have he : l[k].par.toList.isEmpty = false := by rw [isEmpty_size]; simp [hpar]
        have hp := HK.out.s.par HK.out.par (List.getElem_mem hlt) hpar
        have hks := keyB_size (HK.out.s.keys _ (List.getElem_mem hlt)).1
        obtain ⟨kl, hkl⟩ := portKey (l[k].par, l[k].port) (by unfold maxLen; simp only; omega) (WalkArith.wf_i64 (by simp only; omega))
        have HKL := Lib.hid (And.intro hkl hpar)
        have HSe := Lib.hid (takenS_succ l k hlt)
        clear hkl hpar hp
        go_wp2_with ((at_mapUpdate; refine wpList_update (by rfl) _ _ _ _ rfl portKeyed Tryz.underlying79 portV_inj (HS.out.1.alloc _) (by unfold maxLen; omega) rfl (l[k].par, l[k].port) HKL.out.1 rfl _ rfl ?_; intro w4 hM4 hg4))
        refine ⟨⟨k + 1, by omega, by go_num, ?_, ?_⟩, by simp [intOf]; omega⟩
        · exact hM4.congr (smap_set fun x => by rw [HSe.out]; simp [HKL.out.2])
        · exact below_at (below_alloc HS.out.2.1 _ (by omega)) (grown_row hg4 (Nat.le_refl _) (by simp; omega)) (Nat.le_refl _)
    · obtain rfl : k = l.length := by omega
      go_wp2
      obtain ⟨wo, rfl⟩ : ∃ wo : World, wo = wr := ⟨_, rfl⟩
      go_loopw [32] (fun i wr => ∃ k : Nat, k ≤ d.length ∧ i = .int .i64 k ∧ SMap wr (w.heap.size + 1) (l.length + k) (takenV l d k) ∧ Below (w.heap.size + 1) (w.alloc (.cells #[.slice a l.length cap, .slice a2 d.length cap2] 29)) wr) (fun i _ => d.length - (intOf i).toNat)
      case atStart => exact ⟨0, by omega, rfl, HS.out.1.congr (fun q => by simp [takenV]), HS.out.2.1⟩
      case round =>
        obtain ⟨k, hk, rfl, hM, hB⟩ := hrel
        have hsz := hB.size
        simp only [World.size_alloc] at hsz
        have hBw : Below w.heap.size w wr := below_at (below_alloc (Below.refl _ _) _ (Nat.le_refl _)) hB (by omega)
        have hbw := HBX.out.below hB (by omega)
        have r0 := hbw.cell 0 _ rfl
        have r1 := hbw.cell 1 _ rfl
        have HR := Lib.hid (And.intro hM (And.intro hB (And.intro hBw hbw)))
        have hlt1 : w.heap.size < wr.heap.size := by omega
        clear hM hB hBw hbw t0 t1
        by_cases hlt : k < d.length
        · obtain ⟨b, off, rfl, hb, hcc⟩ := HC2.out k hlt
          obtain ⟨c0, c1, c2⟩ := drp_at hcc
          replace c0 := (HR.out.2.2.1.cell (p := ⟨b, _, none⟩) hb).trans c0
          replace c1 := (HR.out.2.2.1.cell (p := ⟨b, _, none⟩) hb).trans c1
          replace c2 := (HR.out.2.2.1.cell (p := ⟨b, _, none⟩) hb).trans c2
          clear hcc
          have hp := HK.out.drop hlt
          obtain ⟨kl, hkl⟩ := portKey (d[k].spl, d[k].port) (by unfold maxLen; simp only; omega) (WalkArith.wf_i64 (by simp only; omega))
          have HKL := Lib.hid hkl
          have HSe := Lib.hid (takenV_succ l d k hlt)
          clear hkl hp
          go_wp2_with ((at_mapUpdate; refine wpList_update (by rfl) _ _ _ _ rfl portKeyed Tryz.underlying79 portV_inj (HR.out.1.alloc _) (by unfold maxLen; omega) rfl (d[k].spl, d[k].port) HKL.out rfl _ rfl ?_; intro w4 hM4 hg4))
          refine ⟨⟨k + 1, by omega, by go_num, ?_, ?_⟩, by simp [intOf]; omega⟩
          · exact hM4.congr (smap_set fun x => HSe.out x)
          · exact below_at (below_alloc HR.out.2.1 _ (by omega)) (grown_row hg4 (Nat.le_refl _) (by simp; omega)) (Nat.le_refl _)
        · obtain rfl : k = d.length := by omega
          go_wp2
          go_ret
          exact ⟨w.heap.size + 1, _, rfl, by omega, HR.out.1, HR.out.2.2.1⟩
end Go.Proofs.YtcecpodbmjghhaaGreat
/- Walks of package tree: the ports of a splitter, as the statements ask them. -/
namespace Go.Proofs.YtcecpodbmjghhaaGreat
open Go Go.RowKit
def portsL (l : List Splt) (d : List Drp) (key : ByteArray) : List ByteArray := if splitterF l d key = 0 then portsV l d key else []
/-- a list of strings and an error are returned -/
def StrsPost (L : List ByteArray) (F : Int) (w : World) (e : Ending) (w' : World) : Prop := ∃ v, e = .returned (.tuple #[v, .int .i64 F]) ∧ Arr strCells 1 w' L v ∧ Below w.heap.size w w'
theorem infoStr : (Tryz.prog.info? 9).map (fun i => (i.zero, i.size, i.bytes)) = some (some (.string ⟨#[]⟩), 1, 16) := by kernel_rfl
theorem map_str (l : List ByteArray) : l.flatMap strCells = l.map Value.string := flat_one Value.string l
theorem Arr.of_strs {w : World} {base : Nat} {e : TypeId} {l : List ByteArray} {v : Value} {n : Nat} (ho : w.ownsRow base e 1 v n (l.map Value.string)) : Arr strCells 1 w l v := by
  have hn : n = l.length := by have := ho.1; simp at this; omega
  subst hn
  refine Arr.of_own (cells := strCells) (fun _ => rfl) (base := base) (e := e) ?_
  rw [map_str]; exact ho
set_option maxHeartbeats 4000000 in
set_option maxRecDepth 100000 in
theorem ports_any (v1 v2 : Value) (l : List Splt) (d : List Drp) (key : ByteArray) (w : World) (h : Arr Splt.cells 4 w l v1) (hd : Arr Drp.cells 3 w d v2) : Calls Tryz.prog 64 #[.agg #[v1, v2], .string key] w (StrsPost (portsL l d key) (splitterF l d key) w) := by
  have HA := Lib.hid (And.intro h hd)
  obtain ⟨a, cap, rfl, hcap, hmax, hc⟩ := h
  unfold maxLen at hmax
  have HC := Lib.hid hc
  clear hd hc
  obtain ⟨i0, hi, hz0, hz1, hz2⟩ := info_parts infoStr
  have hbx : Blk (w.alloc (.cells #[.slice a l.length cap, v2] 29)) w.heap.size #[.slice a l.length cap, v2] 29 := Blk.new _ _ _
  have HBX := Lib.hid hbx
  clear hbx
  go_enter Tryz.func64, Tryz.ntmps64
  go_wp2_with fail
  refine (splitterFault_any _ _ l d key _ (by exact HA.out.1.below (by (repeat (first | exact Below.refl _ _ | assumption | refine below_draws ?_ _ | refine Below.drew ?_ | refine below_alloc ?_ _ (by first | omega | (simp; done) | (simp; omega)) | refine Below.setCell ?_ (by first | omega | (simp; done) | (simp; omega)) _ | refine below_at ?_ (by assumption) (by first | omega | (simp; done) | (simp; omega)))))) (by exact HA.out.2.below (by (repeat (first | exact Below.refl _ _ | assumption | refine below_draws ?_ _ | refine Below.drew ?_ | refine below_alloc ?_ _ (by first | omega | (simp; done) | (simp; omega)) | refine Below.setCell ?_ (by first | omega | (simp; done) | (simp; omega)) _ | refine below_at ?_ (by assumption) (by first | omega | (simp; done) | (simp; omega))))))).mono ?_
  rintro e w2 ⟨rfl, hb2⟩
  have hz2' := hb2.size
  simp only [World.size_alloc] at hz2'
  have hBw2 : Below w.heap.size w w2 := by (repeat (first | exact Below.refl _ _ | assumption | refine below_draws ?_ _ | refine Below.drew ?_ | refine below_alloc ?_ _ (by first | omega | (simp; done) | (simp; omega)) | refine Below.setCell ?_ (by first | omega | (simp; done) | (simp; omega)) _ | refine below_at ?_ (by assumption) (by first | omega | (simp; done) | (simp; omega))))
  have hbx2 := HBX.out.below hb2 (by simp)
  have p0 := hbx2.cell 0 _ rfl
  have p1 := hbx2.cell 1 _ rfl
  have HB2 := Lib.hid (And.intro hBw2 hbx2)
  clear hBw2 hbx2
  by_cases hf : splitterF l d key = 0
  · have hf1 : (splitterF l d key != 0) = false := by simp [hf]
    have HL : Hid (portsL l d key = portsV l d key) := by unfold portsL; rw [if_pos hf]; exact rfl
    have htree : treeF l d = 0 := by
      unfold splitterF at hf
      split at hf
      · rename_i h1; exact absurd hf h1
      · omega
    have ok := tok_of htree
    have hget : ∃ s, getS l key = some s := by
      unfold splitterF at hf
      rw [if_neg (by omega)] at hf
      cases hg : getS l key with
      | none => rw [hg] at hf; simp at hf
      | some s => exact ⟨s, rfl⟩
    have HF := Lib.hid (And.intro hf ok)
    have HG := Lib.hid hget
    clear hf htree ok hget
    go_wp2_with fail
    refine (taken_any _ _ l d _ (by exact HA.out.1.below HB2.out.1) (by exact HA.out.2.below HB2.out.1) HF.out.2).mono ?_
    rintro e w3 ⟨mb, mn, rfl, hmb, hM, hb3⟩
    have hz3 := hb3.size
    have hBw3 : Below w.heap.size w w3 := by have h3 := HB2.out.1; (repeat (first | exact Below.refl _ _ | assumption | refine below_draws ?_ _ | refine Below.drew ?_ | refine below_alloc ?_ _ (by first | omega | (simp; done) | (simp; omega)) | refine Below.setCell ?_ (by first | omega | (simp; done) | (simp; omega)) _ | refine below_at ?_ (by assumption) (by first | omega | (simp; done) | (simp; omega))))
    have hbx3 := HB2.out.2.below hb3 (by omega)
    have q0 := hbx3.cell 0 _ rfl
    have q1 := hbx3.cell 1 _ rfl
    have hml := hM.lt
    have HB3 := Lib.hid (And.intro hBw3 (And.intro hbx3 hM))
    clear hBw3 hbx3 hM p0 p1
    have hl0 : w.heap.size < w3.heap.size := by omega
    obtain ⟨sx, hsx⟩ := HG.out
    rcases findS_get l key with ⟨_, hnone⟩ | ⟨j, hj, hfj, hget, hkj⟩
    · rw [hnone] at hsx; cases hsx
    have hks : key.size ≤ 40 := (HF.out.2.s.get hsx).1
    have hways := (waysB_le (HF.out.2.s.keys _ (List.getElem_mem hj)).2)
    obtain ⟨hw1, hw2⟩ := hways
    have hpv : portsV l d key = (List.range l[j].ways.toNat).map fun (i : Nat) => atPort l d (key, (i : Int) + 1) := by
      unfold portsV; rw [hget]; rfl
    have HJ := Lib.hid (And.intro hfj hpv)
    obtain ⟨b, off, rfl, hb, hcc⟩ := HC.out j hj
    obtain ⟨-, d1, -, -⟩ := splt_at hcc
    replace d1 := (HB3.out.1.cell (p := ⟨b, _, none⟩) hb).trans d1
    have hb3' : b < w3.heap.size := by omega
    have hj1 : (0 : Int) ≤ (j : Int) := by omega
    have hj3 : (j : Int) < (l.length : Int) := by omega
    clear hcc hfj hpv hget hsx hkj
    go_wp2
    go_region_held3 (fun w' => w'.cell? ⟨w.heap.size, 0, none⟩ = some (.slice (some ⟨b, off, none⟩) l.length cap) ∧ w'.cell? ⟨w.heap.size, 1, none⟩ = some v2 ∧ w'.cell? ⟨b, off + j * 4 + 1, none⟩ = some (.int .i64 l[j].ways)) (go_keep)
      (first
        | (go_at_call 57; refine (find_any _ _ l key _ ?_ ?_ ?_).mono ?_; (exact HA.out.1.below (by have h3 := HB3.out.1; (repeat (first | exact Below.refl _ _ | assumption | refine below_draws ?_ _ | refine Below.drew ?_ | refine below_alloc ?_ _ (by first | omega | (simp; done) | (simp; omega)) | refine Below.setCell ?_ (by first | omega | (simp; done) | (simp; omega)) _ | refine below_at ?_ (by assumption) (by first | omega | (simp; done) | (simp; omega)))))); (have := HF.out.2.s.len; omega); (exact HF.out.2.s.rise); rintro e w4 ⟨rfl, hb4⟩; rw [HJ.out.1]; have s4 : w.heap.size < w4.heap.size := (by have := hb4.size; (try simp at this); omega); have hc4 := bcellAt hb4 w.heap.size (by first | omega | (simp; done) | (simp; omega)); have hc5 := bcellAt hb4 b (by first | omega | (simp; done) | (simp; omega))))
    have hz4 : w3.heap.size ≤ w4.heap.size := hb4.size
    have hB4 : Below w.heap.size w w4 := by have h3 := HB3.out.1; (repeat (first | exact Below.refl _ _ | assumption | refine below_draws ?_ _ | refine Below.drew ?_ | refine below_alloc ?_ _ (by first | omega | (simp; done) | (simp; omega)) | refine Below.setCell ?_ (by first | omega | (simp; done) | (simp; omega)) _ | refine below_at ?_ (by assumption) (by first | omega | (simp; done) | (simp; omega))))
    have hM4 := HB3.out.2.2.drew.below hb4 hml
    have HB4 := Lib.hid (And.intro hB4 hM4)
    clear hB4 hM4 hb4 hc4 hc5 d1 q0 q1
    go_wp2
    obtain ⟨n, hn⟩ : ∃ n : Nat, l[j].ways = n := ⟨l[j].ways.toNat, by omega⟩
    rw [hn] at hw1 hw2 ⊢
    have HN := Lib.hid hn
    clear hn
    go_loopw [8, 26] (fun v i wr => ∃ k : Nat, k ≤ n ∧ i = .int .i64 k ∧ wr.ownsRow w4.heap.size 9 1 v k (((List.range k).map fun (i : Nat) => atPort l d (key, (i : Int) + 1)).map Value.string) ∧ Below w.heap.size w wr ∧ SMap wr mb mn (takenV l d d.length) ∧ w4.heap.size ≤ wr.heap.size) (fun _ i _ => n - (intOf i).toNat)
    case atStart => exact ⟨0, by omega, rfl, World.ownsRow_nil _ _ _ _, HB4.out.1, HB4.out.2, Nat.le_refl _⟩
    case round =>
      obtain ⟨k, hk, rfl, hown, hB, hMr, hzr⟩ := hrel
      have HR := Lib.hid (And.intro hown (And.intro hB hMr))
      clear hown hB hMr
      by_cases hlt : k < n
      · obtain ⟨kl, hkl⟩ := portKey (key, (k : Int) + 1) (by unfold maxLen; simp only; omega) (WalkArith.wf_i64 (by simp only; omega))
        have HKL := Lib.hid hkl
        clear hkl
        go_wp2_with (first
          | (at_lookup; refine wpList_look (by rfl) _ _ _ rfl portKeyed Tryz.underlying79 (zeroStr _) HR.out.2.2 rfl (key, (k : Int) + 1) HKL.out rfl (smap_get _ _) ?_)
          | ((at_builtin; go_must (refine wpList_append_own _ rfl _ _ 60 rfl _ 9 _ (.string ⟨#[]⟩) 1 16 Tryz.underlying60 hi hz0 hz1 hz2 rfl (by decide) _ _ _ rfl (own_below HR.out.1 (by (repeat (first | exact Below.refl _ _ | assumption | refine below_draws ?_ _ | refine Below.drew ?_ | refine below_alloc ?_ _ (by first | omega | (simp; done) | (simp; omega)) | refine Below.setCell ?_ (by first | omega | (simp; done) | (simp; omega)) _ | refine below_at ?_ (by assumption) (by first | omega | (simp; done) | (simp; omega)))))) ⟨wr.heap.size, 0, none⟩ 1 1 [.string (atPort l d (key, (k : Int) + 1))] rfl rfl (by exact news_at (by first | rfl | simp) (by rfl)) (by simp [Value.oneCell']) (by unfold maxLen; omega) (by omega) (by first | omega | (simp; done) | (simp; omega)) ?_)); intro v' w5 hown5 hgrow _))
        have hmw : mb < wr.heap.size := HR.out.2.2.lt
        refine ⟨⟨k + 1, by omega, by go_num, ?_, ?_, ?_, ?_⟩, by simp [intOf]; omega⟩
        · rw [List.range_succ]; simpa using hown5
        · exact below_grown (below_alloc HR.out.2.1 _ HR.out.2.1.size) (own_below HR.out.1 (by (repeat (first | exact Below.refl _ _ | assumption | refine below_draws ?_ _ | refine Below.drew ?_ | refine below_alloc ?_ _ (by first | omega | (simp; done) | (simp; omega)) | refine Below.setCell ?_ (by first | omega | (simp; done) | (simp; omega)) _ | refine below_at ?_ (by assumption) (by first | omega | (simp; done) | (simp; omega)))))) hgrow (by omega) (by simp; omega)
        · refine (HR.out.2.2.alloc _).kept hgrow ?_
          intro e
          have := (HR.out.1.lt mb e.symm).1
          omega
        · have := hgrow.size; simp at this; omega
      · obtain rfl : k = n := by omega
        go_wp2
        go_ret2
        refine ⟨u8, by rw [HF.out.1]; exact rfl, ?_, HR.out.2.1⟩
        rw [HL.out, HJ.out.2, HN.out]
        exact Arr.of_strs HR.out.1
  · have hf1 : (splitterF l d key != 0) = true := by simp [hf]
    have HL : Hid (portsL l d key = []) := by unfold portsL; rw [if_neg hf]; exact rfl
    clear hf
    go_wp2
    go_ret2
    exact ⟨_, rfl, by rw [HL.out]; exact Arr.nil _ _ _, HB2.out.1⟩
end Go.Proofs.YtcecpodbmjghhaaGreat
