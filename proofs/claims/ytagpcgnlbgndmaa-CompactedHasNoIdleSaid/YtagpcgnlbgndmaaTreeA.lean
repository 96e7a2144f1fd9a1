/- Walks of package tree: the binary search by a key. -/
import Derived.Test.YtagpcgnlbgndmaaPlainT
import Derived.Test.YtagpcgnlbgndmaaShelf
import Derived.Test.YtagpcgnlbgndmaaMem
import Derived.Test.YtagpcgnlbgndmaaRefB5
import Derived.Lib.SliceRun
set_option linter.unusedVariables false
set_option linter.unusedSimpArgs false
namespace Go.Proofs.Ytagpcgnlbgndmaa
open Go Go.RowKit

theorem splt_at {w : World} {b off k : Nat} {p : Splt} (h : ∀ j u, p.cells[j]? = some u → w.cell? ⟨b, off + k * 4 + j, none⟩ = some u) :
    w.cell? ⟨b, off + k * 4, none⟩ = some (.string p.key) ∧ w.cell? ⟨b, off + k * 4 + 1, none⟩ = some (.int .i64 p.ways) ∧ w.cell? ⟨b, off + k * 4 + 2, none⟩ = some (.string p.par) ∧ w.cell? ⟨b, off + k * 4 + 3, none⟩ = some (.int .i64 p.port) :=
  ⟨h 0 _ rfl, h 1 _ rfl, h 2 _ rfl, h 3 _ rfl⟩
theorem drp_at {w : World} {b off k : Nat} {p : Drp} (h : ∀ j u, p.cells[j]? = some u → w.cell? ⟨b, off + k * 3 + j, none⟩ = some u) :
    w.cell? ⟨b, off + k * 3, none⟩ = some (.string p.cust) ∧ w.cell? ⟨b, off + k * 3 + 1, none⟩ = some (.string p.spl) ∧ w.cell? ⟨b, off + k * 3 + 2, none⟩ = some (.int .i64 p.port) :=
  ⟨h 0 _ rfl, h 1 _ rfl, h 2 _ rfl⟩

def hitAt {α : Type} (c : α → Int) (l : List α) (pos : Nat) : Bool := match l[pos]? with | some x => c x == 0 | none => false
theorem hitAt_in {α : Type} {c : α → Int} {l : List α} {pos : Nat} (h : pos < l.length) : hitAt c l pos = (c l[pos] == 0) := by unfold hitAt; rw [List.getElem?_eq_getElem h]
theorem hitAt_out {α : Type} {c : α → Int} {l : List α} {pos : Nat} (h : l.length ≤ pos) : hitAt c l pos = false := by unfold hitAt; rw [List.getElem?_eq_none h]
set_option maxHeartbeats 1000000 in
set_option maxRecDepth 100000 in
theorem bsearch_splt (v tv : Value) (l : List Splt) (c : Splt → Int) (pos : Nat) (F : FuncId) (cp : Array Value) (w : World) (h : Arr Splt.cells 4 w l v) (hl : l.length ≤ 1000000) (hpos : pos ≤ l.length)
    (hmono : ∀ k (hk : k < l.length), (c l[k] < 0 ↔ k < pos)) (hF : ∀ (args : Array Value) (w : World), (callFunc F args).run Try.prog w = .ok (.enter F args) w)
    (hcall : ∀ (x : Splt) (w' : World), x ∈ l → Below w.heap.size w w' → Calls Try.prog F (#[.agg ⟨Splt.cells x⟩, tv] ++ cp) w' fun e w'' => e = .returned (.int .i64 (c x)) ∧ Below w'.heap.size w' w'') :
    Calls Try.prog 159 #[v, tv, .func (.func F) #[] cp] w
      fun e w' => e = .returned (.tuple #[.int .i64 pos, .bool (hitAt c l pos)]) ∧ Below w.heap.size w w' := by
  obtain ⟨a, cap, rfl, hcap, hmax, hc⟩ := h
  have hlen : l.length ≤ maxLen := by omega
  unfold maxLen at hlen hmax
  have HC := Lib.hid (And.intro hcall hmono)
  clear hcall hmono
  go_enter Try.func159, Try.ntmps159
  go_wp2
  go_loopw [9, 10] (fun i j wr => ∃ a b : Nat, a ≤ pos ∧ pos ≤ b ∧ b ≤ l.length ∧ i = .int .i64 a ∧ j = .int .i64 b ∧ Below w.heap.size w wr) (fun i j _ => (intOf j).toNat - (intOf i).toNat)
  case atStart => exact ⟨0, l.length, by omega, by omega, by omega, rfl, rfl, Below.refl _ _⟩
  case round =>
    obtain ⟨lo, hi, h1, h2, h3, rfl, rfl, hB⟩ := hrel
    have hsz := hB.size
    by_cases hlt : lo < hi
    · have hm : (lo + hi) / 2 < l.length := by omega
      have hm1 : lo ≤ (lo + hi) / 2 := by omega
      have hm2 : (lo + hi) / 2 < hi := by omega
      obtain ⟨b, off, rfl, hb, hcc⟩ := hc ((lo + hi) / 2) hm
      obtain ⟨c0, c1, c2, c3⟩ := splt_at hcc
      replace c0 := (hB.cell (p := ⟨b, _, none⟩) hb).trans c0
      replace c1 := (hB.cell (p := ⟨b, _, none⟩) hb).trans c1
      replace c2 := (hB.cell (p := ⟨b, _, none⟩) hb).trans c2
      replace c3 := (hB.cell (p := ⟨b, _, none⟩) hb).trans c3
      have hmo := HC.out.2 ((lo + hi) / 2) hm
      have hmem : l[(lo + hi) / 2] ∈ l := List.getElem_mem _
      clear hc hcc
      have HM := Lib.hid hmem
      clear hmem
      by_cases hx : c l[(lo + hi) / 2] < 0
      · have hp : (lo + hi) / 2 < pos := hmo.1 hx
        clear hmo
        go_wp2_with fail
        refine (HC.out.1 l[(lo + hi) / 2] _ HM.out ?_).mono ?_
        · (repeat (first | exact Below.refl _ _ | assumption | refine below_draws ?_ _ | refine Below.drew ?_ | refine below_alloc ?_ _ (by first | omega | (simp; done) | (simp; omega)) | refine Below.setCell ?_ (by first | omega | (simp; done) | (simp; omega)) _ | refine below_at ?_ (by assumption) (by first | omega | (simp; done) | (simp; omega))))
        rintro e w1 ⟨rfl, hb1⟩
        go_wp2
        exact ⟨⟨(lo + hi) / 2 + 1, hi, by omega, by omega, by omega, by go_num, rfl, by (repeat (first | exact Below.refl _ _ | assumption | refine below_draws ?_ _ | refine Below.drew ?_ | refine below_alloc ?_ _ (by first | omega | (simp; done) | (simp; omega)) | refine Below.setCell ?_ (by first | omega | (simp; done) | (simp; omega)) _ | refine below_at ?_ (by assumption) (by first | omega | (simp; done) | (simp; omega))))⟩, by simp [intOf]; omega⟩
      · have hp : pos ≤ (lo + hi) / 2 := by have := fun h => hx (hmo.2 h); omega
        clear hmo
        go_wp2_with fail
        refine (HC.out.1 l[(lo + hi) / 2] _ HM.out ?_).mono ?_
        · (repeat (first | exact Below.refl _ _ | assumption | refine below_draws ?_ _ | refine Below.drew ?_ | refine below_alloc ?_ _ (by first | omega | (simp; done) | (simp; omega)) | refine Below.setCell ?_ (by first | omega | (simp; done) | (simp; omega)) _ | refine below_at ?_ (by assumption) (by first | omega | (simp; done) | (simp; omega))))
        rintro e w1 ⟨rfl, hb1⟩
        go_wp2
        exact ⟨⟨lo, (lo + hi) / 2, by omega, by omega, by omega, by go_num, by go_num, by (repeat (first | exact Below.refl _ _ | assumption | refine below_draws ?_ _ | refine Below.drew ?_ | refine below_alloc ?_ _ (by first | omega | (simp; done) | (simp; omega)) | refine Below.setCell ?_ (by first | omega | (simp; done) | (simp; omega)) _ | refine below_at ?_ (by assumption) (by first | omega | (simp; done) | (simp; omega))))⟩, by simp [intOf]; omega⟩
    · obtain rfl : lo = pos := by omega
      by_cases hin : lo < l.length
      · obtain ⟨b, off, rfl, hb, hcc⟩ := hc lo hin
        obtain ⟨c0, c1, c2, c3⟩ := splt_at hcc
        replace c0 := (hB.cell (p := ⟨b, _, none⟩) hb).trans c0
        replace c1 := (hB.cell (p := ⟨b, _, none⟩) hb).trans c1
        replace c2 := (hB.cell (p := ⟨b, _, none⟩) hb).trans c2
        replace c3 := (hB.cell (p := ⟨b, _, none⟩) hb).trans c3
        have HM : Hid (l[lo] ∈ l) := List.getElem_mem _
        have HG := Lib.hid (hitAt_in (c := c) hin)
        clear hc hcc
        go_wp2_with fail
        refine (HC.out.1 l[lo] _ HM.out ?_).mono ?_
        · (repeat (first | exact Below.refl _ _ | assumption | refine below_draws ?_ _ | refine Below.drew ?_ | refine below_alloc ?_ _ (by first | omega | (simp; done) | (simp; omega)) | refine Below.setCell ?_ (by first | omega | (simp; done) | (simp; omega)) _ | refine below_at ?_ (by assumption) (by first | omega | (simp; done) | (simp; omega))))
        rintro e w1 ⟨rfl, hb1⟩
        go_wp2
        go_ret2
        exact ⟨ret_ib rfl HG.out.symm, by (repeat (first | exact Below.refl _ _ | assumption | refine below_draws ?_ _ | refine Below.drew ?_ | refine below_alloc ?_ _ (by first | omega | (simp; done) | (simp; omega)) | refine Below.setCell ?_ (by first | omega | (simp; done) | (simp; omega)) _ | refine below_at ?_ (by assumption) (by first | omega | (simp; done) | (simp; omega))))⟩
      · have HG := Lib.hid (hitAt_out (c := c) (show l.length ≤ lo by omega))
        go_wp2
        go_ret2
        exact ⟨ret_ib rfl HG.out.symm, hB⟩

theorem Calls.conv {P : Program} {f : FuncId} {args : Array Value} {w : World} {R R' : Ending → World → Prop} (h : Calls P f args w R) (hr : ∀ e w', R e w' → R' e w') : Calls P f args w R' := h.mono hr

set_option maxHeartbeats 1000000 in
theorem findClos_any (s : Splt) (key : ByteArray) (w : World) : Calls Try.prog 160 #[.agg #[.string s.key, .int .i64 s.ways, .string s.par, .int .i64 s.port], .string key] w
    fun e w' => e = .returned (.int .i64 (cmpB s.key key)) ∧ Below w.heap.size w w' := by
  go_enter Try.func160, Try.ntmps160
  go_wp2_with (go_at_call 161; refine (Try.strings_Compare _ _ _).mono ?_; rintro e w' ⟨rfl, rfl⟩)
  go_ret
  exact ⟨rfl, by (repeat (first | exact Below.refl _ _ | assumption | refine below_draws ?_ _ | refine Below.drew ?_ | refine below_alloc ?_ _ (by first | omega | (simp; done) | (simp; omega)) | refine Below.setCell ?_ (by first | omega | (simp; done) | (simp; omega)) _ | refine below_at ?_ (by assumption) (by first | omega | (simp; done) | (simp; omega))))⟩

/-- where a key stands among rising keys -/
def posS (l : List Splt) (key : ByteArray) : Nat := (l.takeWhile fun s => lessB s.key key).length
theorem posS_le (l : List Splt) (key : ByteArray) : posS l key ≤ l.length := (List.takeWhile_sublist _).length_le
theorem takeWhile_mono {α : Type} {p : α → Bool} : ∀ {l : List α}, l.Pairwise (fun a b => p b = true → p a = true) → ∀ k (hk : k < l.length), (p l[k] = true ↔ k < (l.takeWhile p).length)
  | [], _, k, hk => by simp at hk
  | x :: l, hp, 0, _ => by
    cases hx : p x <;> simp [hx]
  | x :: l, hp, k + 1, hk => by
    have h2 := List.pairwise_cons.1 hp
    have ih := takeWhile_mono h2.2 k (by simpa using hk)
    cases hx : p x
    · simp only [List.takeWhile_cons, hx, List.getElem_cons_succ]
      constructor
      · intro h
        have := h2.1 _ (List.getElem_mem (by simpa using hk)) h
        rw [hx] at this; cases this
      · intro h; simp at h
    · simp only [List.takeWhile_cons, hx, List.getElem_cons_succ, if_true, List.length_cons]
      rw [ih]; omega
theorem rising_mono {l : List Splt} (h : Rising (l.map (·.key))) (key : ByteArray) : l.Pairwise (fun a b => lessB b.key key = true → lessB a.key key = true) := by
  unfold Rising at h
  rw [List.pairwise_map] at h
  exact h.imp fun h1 h2 => lessB_trans h1 h2
theorem idxF_pos {α : Type} {p : α → Bool} {l : List α} {k : Nat} (h : k < l.length) (h1 : p l[k] = true) (h0 : ∀ j (hj : j < k), p (l[j]'(by omega)) = false) : idxF p l = k := by
  refine idxF_hit h ?_ h1
  rw [List.any_eq_false]
  intro x hx
  obtain ⟨j, hj, rfl⟩ := List.mem_iff_getElem.1 hx
  rw [List.getElem_take]
  rw [List.length_take] at hj
  simp [h0 j (by omega)]
theorem findS_pos {l : List Splt} (h : Rising (l.map (·.key))) (key : ByteArray) : findS l key = if hitAt (fun s => cmpB s.key key) l (posS l key) then (posS l key : Int) else -1 := by
  have hm := takeWhile_mono (rising_mono h key)
  have hr := h
  unfold Rising at hr
  rw [List.pairwise_map, List.pairwise_iff_getElem] at hr
  unfold findS
  split
  · rename_i hh
    have hlt : posS l key < l.length := by
      rcases Nat.lt_or_ge (posS l key) l.length with h1 | h1
      · exact h1
      · rw [hitAt_out h1] at hh; cases hh
    rw [hitAt_in hlt] at hh
    have hk : l[posS l key].key = key := (cmpB_eq0 _ _).1 (by simpa using hh)
    refine idxF_pos hlt (by simp [hk]) (fun j hj => ?_)
    have := hr j (posS l key) (by omega) hlt hj
    rw [hk] at this
    simp only [decide_eq_false_iff_not]
    intro e
    rw [e, lessB_irrefl] at this; cases this
  · rename_i hh
    refine idxF_none ?_
    rw [List.any_eq_false]
    intro x hx
    obtain ⟨j, hj, rfl⟩ := List.mem_iff_getElem.1 hx
    simp only [decide_eq_true_eq]
    intro e
    apply hh
    have h1 : ¬ j < posS l key := by
      intro h2
      have := (hm j hj).2 h2
      rw [e, lessB_irrefl] at this; cases this
    have h2 : j = posS l key := by
      rcases Nat.lt_or_ge (posS l key) j with h3 | h3
      · have h4 := hr _ j (by omega) hj h3
        rw [e] at h4
        have := (hm _ (by omega)).1 h4
        unfold posS at this; omega
      · omega
    subst h2
    rw [hitAt_in hj]
    simp [(cmpB_eq0 _ _).2 e]

set_option maxHeartbeats 1000000 in
theorem find_any (v1 v2 : Value) (l : List Splt) (key : ByteArray) (w : World) (h : Arr Splt.cells 4 w l v1) (hl : l.length ≤ 1000000) (hr : Rising (l.map (·.key))) : Calls Try.prog 126 #[.agg #[v1, v2], .string key] w
    fun e w' => e = .returned (.int .i64 (findS l key)) ∧ Below w.heap.size w w' := by
  have HF : Hid (∀ (args : Array Value) (w : World), (callFunc 160 args).run Try.prog w = .ok (.enter 160 args) w) := run_fn Try.func160 (by kernel_rfl) rfl
  have hm : ∀ k (hk : k < l.length), (cmpB l[k].key key < 0 ↔ k < posS l key) := fun k hk => (cmpB_less _ _).trans (takeWhile_mono (rising_mono hr key) k hk)
  have HM := Lib.hid hm
  have HP := Lib.hid (findS_pos hr key)
  clear hm hr
  have hp := posS_le l key
  cases hh : hitAt (fun s => cmpB s.key key) l (posS l key)
  · have HR : Hid (findS l key = -1) := by have := HP.out; rw [hh] at this; exact this
    have HH := Lib.hid hh
    clear hh
    go_enter Try.func126, Try.ntmps126
    go_wp2_with fail
    refine (bsearch_splt _ _ l (fun s => cmpB s.key key) (posS l key) _ #[] _ (h.below (by (repeat (first | exact Below.refl _ _ | assumption | refine below_draws ?_ _ | refine Below.drew ?_ | refine below_alloc ?_ _ (by first | omega | (simp; done) | (simp; omega)) | refine Below.setCell ?_ (by first | omega | (simp; done) | (simp; omega)) _ | refine below_at ?_ (by assumption) (by first | omega | (simp; done) | (simp; omega)))))) hl hp HM.out HF.out (fun x w' hx hb => (findClos_any x key w').mono fun e w'' h => h)).mono ?_
    rintro e w1 ⟨rfl, hb1⟩
    rw [HH.out]
    go_wp2
    go_ret
    exact ⟨ret_int HR.out.symm, by (repeat (first | exact Below.refl _ _ | assumption | refine below_draws ?_ _ | refine Below.drew ?_ | refine below_alloc ?_ _ (by first | omega | (simp; done) | (simp; omega)) | refine Below.setCell ?_ (by first | omega | (simp; done) | (simp; omega)) _ | refine below_at ?_ (by assumption) (by first | omega | (simp; done) | (simp; omega))))⟩
  · have HR : Hid (findS l key = posS l key) := by have := HP.out; rw [hh] at this; exact this
    have HH := Lib.hid hh
    clear hh
    go_enter Try.func126, Try.ntmps126
    go_wp2_with fail
    refine (bsearch_splt _ _ l (fun s => cmpB s.key key) (posS l key) _ #[] _ (h.below (by (repeat (first | exact Below.refl _ _ | assumption | refine below_draws ?_ _ | refine Below.drew ?_ | refine below_alloc ?_ _ (by first | omega | (simp; done) | (simp; omega)) | refine Below.setCell ?_ (by first | omega | (simp; done) | (simp; omega)) _ | refine below_at ?_ (by assumption) (by first | omega | (simp; done) | (simp; omega)))))) hl hp HM.out HF.out (fun x w' hx hb => (findClos_any x key w').mono fun e w'' h => h)).mono ?_
    rintro e w1 ⟨rfl, hb1⟩
    rw [HH.out]
    go_wp2
    go_ret
    exact ⟨ret_int HR.out.symm, by (repeat (first | exact Below.refl _ _ | assumption | refine below_draws ?_ _ | refine Below.drew ?_ | refine below_alloc ?_ _ (by first | omega | (simp; done) | (simp; omega)) | refine Below.setCell ?_ (by first | omega | (simp; done) | (simp; omega)) _ | refine below_at ?_ (by assumption) (by first | omega | (simp; done) | (simp; omega))))⟩
end Go.Proofs.Ytagpcgnlbgndmaa
