/- Texts of one subject in one: SortP, SortS, SortD, StabS, StabD; what each shows stands at its head. No condition. -/
import Derived.Test.YtcecpodbmjghhaaGreatPlainT
import Derived.Test.YtcecpodbmjghhaaGreatMemAll
import Derived.Test.YtcecpodbmjghhaaGreatTreeAll
import Derived.Test.YtcecpodbmjghhaaGreatOrders
import Derived.Test.YtcecpodbmjghhaaGreatProg
/- Plain: sorting by insertion, step by step; what is sorted and the same up to order is one. No program. -/
set_option linter.unusedVariables false
set_option linter.unusedSimpArgs false
namespace Go.Proofs.YtcecpodbmjghhaaGreat
section
variable {α : Type} (key : α → ByteArray)
/-- two neighbours change places -/
def swapL (L : List α) (j : Nat) (h : j + 1 < L.length) : List α := (L.set (j + 1) L[j]).set j L[j + 1]
theorem swapL_len (L : List α) (j : Nat) (h : j + 1 < L.length) : (swapL L j h).length = L.length := by simp [swapL]
theorem swapL_get (L : List α) (j : Nat) (h : j + 1 < L.length) (q : Nat) (hq : q < (swapL L j h).length) : (swapL L j h)[q] = if q = j then L[j + 1] else if q = j + 1 then L[j] else L[q]'(by rw [swapL_len] at hq; exact hq) := by
  have hq2 : q < ((L.set (j + 1) L[j]).set j L[j + 1]).length := hq
  show ((L.set (j + 1) L[j]).set j L[j + 1])[q]'hq2 = _
  by_cases h1 : q = j
  · subst h1; rw [if_pos rfl, List.getElem_set_self]
  · rw [if_neg h1, List.getElem_set_ne (fun e => h1 e.symm)]
    by_cases h2 : q = j + 1
    · subst h2; rw [if_pos rfl, List.getElem_set_self]
    · rw [if_neg h2, List.getElem_set_ne (fun e => h2 e.symm)]
theorem swapL_perm (L : List α) (j : Nat) (h : j + 1 < L.length) : (swapL L j h).Perm L := by
  have e : L = L.take j ++ L[j] :: L[j + 1] :: L.drop (j + 2) := by
    rw [List.getElem_cons_drop, List.getElem_cons_drop, List.take_append_drop]
  have e2 : swapL L j h = L.take j ++ L[j + 1] :: L[j] :: L.drop (j + 2) := by
    apply List.ext_getElem
    · rw [swapL_len]; simp; omega
    · intro q h1 h2
      rw [swapL_get]
      rcases Nat.lt_trichotomy q j with h3 | h3 | h3
      · rw [if_neg (by omega), if_neg (by omega), List.getElem_append_left (by simp; omega), List.getElem_take]
      · subst h3
        have hl : (L.take q).length = q := by rw [List.length_take]; omega
        rw [if_pos rfl, List.getElem_append_right (by omega)]
        have e5 : q - (L.take q).length = 0 := by omega
        simp only [e5]; rfl
      · rw [if_neg (by omega), List.getElem_append_right (by simp; omega)]
        have hl : (L.take j).length = j := by rw [List.length_take]; omega
        by_cases h4 : q = j + 1
        · subst h4
          have e5 : j + 1 - (L.take j).length = 1 := by omega
          rw [if_pos rfl]; simp only [e5]; rfl
        · rw [if_neg h4]
          obtain ⟨m, rfl⟩ : ∃ m, q = j + 2 + m := ⟨q - j - 2, by omega⟩
          have e5 : j + 2 + m - (L.take j).length = m + 2 := by rw [hl]; omega
          simp only [e5, List.getElem_cons_succ, List.getElem_drop]
  rw [e2]
  conv => rhs; rw [e]
  exact (List.Perm.swap _ _ _).append_left _
/-- the first n stand in order -/
def SortTo (L : List α) (n : Nat) : Prop := ∀ p q (_ : p < q) (_ : q < n) (h : n ≤ L.length), lessB (key L[q]) (key L[p]) = false
/-- element j of the first i + 1 is on its way down -/
structure InsAt (L0 L : List α) (i j : Nat) : Prop where
  perm : L.Perm L0
  ji : j ≤ i
  il : i < L.length
  part : ∀ p q (hp : p < q) (hq : q ≤ i), q ≠ j → lessB (key L[q]) (key L[p]) = false
variable {key}
theorem lessB_asym {a b : ByteArray} (h : lessB a b = true) : lessB b a = false := by
  cases hb : lessB b a
  · rfl
  · have := lessB_trans h hb; rw [lessB_irrefl] at this; cases this
theorem lessB_nle {a b c : ByteArray} (h1 : lessB c b = false) (h2 : lessB b a = false) : lessB c a = false := by
  cases h : lessB c a
  · rfl
  · rcases lessB_total a b with h3 | h3 | h3
    · have := lessB_trans h h3; rw [this] at h1; cases h1
    · rw [← h3, h] at h1; cases h1
    · rw [h3] at h2; cases h2
theorem InsAt.start {L0 L : List α} {i : Nat} (hp : L.Perm L0) (hi : i < L.length) (h : SortTo key L i) : InsAt key L0 L i i :=
  ⟨hp, Nat.le_refl _, hi, fun p q hpq hq hne => h p q hpq (by omega) (by omega)⟩
theorem InsAt.step {L0 L : List α} {i j : Nat} (h : InsAt key L0 L i (j + 1)) (hl : j + 1 < L.length) (hc : lessB (key L[j + 1]) (key L[j]) = true) : InsAt key L0 (swapL L j hl) i j := by
  have hi := h.il
  have hj := h.ji
  refine ⟨(swapL_perm L j hl).trans h.perm, by omega, by rw [swapL_len]; exact hi, fun p q hpq hq hne => ?_⟩
  rw [swapL_get, swapL_get, if_neg hne]
  by_cases h1 : q = j + 1
  · subst h1
    rw [if_pos rfl]
    by_cases h2 : p = j
    · subst h2; rw [if_pos rfl]; exact lessB_asym hc
    · rw [if_neg h2, if_neg (by omega)]
      exact h.part p j (by omega) (by omega) (by omega)
  · rw [if_neg h1]
    by_cases h2 : p = j
    · subst h2; rw [if_pos rfl]; exact h.part (p + 1) q (by omega) hq h1
    · rw [if_neg h2]
      by_cases h3 : p = j + 1
      · subst h3; rw [if_pos rfl]; exact h.part j q (by omega) hq h1
      · rw [if_neg h3]; exact h.part p q hpq hq h1
theorem InsAt.stop {L0 L : List α} {i j : Nat} (h : InsAt key L0 L i j) (hc : ∀ k (hk : j = k + 1), lessB (key (L[k + 1]'(by have := h.il; have := h.ji; omega))) (key (L[k]'(by have := h.il; have := h.ji; omega))) = false) : SortTo key L (i + 1) := by
  intro p q hpq hq hlen
  have hji := h.ji
  by_cases hqj : q = j
  · subst hqj
    obtain ⟨k, rfl⟩ : ∃ k, q = k + 1 := ⟨q - 1, by omega⟩
    have h1 := hc k rfl
    by_cases hpk : p = k
    · subst hpk; exact h1
    · exact lessB_nle h1 (h.part p k (by omega) (by omega) (by omega))
  · exact h.part p q hpq (by omega) hqj
/-- two lists in order with the same elements are one, where keys tell elements apart -/
theorem sort_uniq : ∀ {L M : List α}, L.Perm M → L.Pairwise (fun a b => lessB (key b) (key a) = false) → M.Pairwise (fun a b => lessB (key b) (key a) = false) → (∀ x ∈ M, ∀ y ∈ M, key x = key y → x = y) → L = M
  | [], M, hp, _, _, _ => by rw [List.nil_perm.1 hp]
  | x :: L, [], hp, _, _, _ => by have := hp.length_eq; simp at this
  | x :: L, y :: M, hp, h1, h2, h3 => by
    rw [List.pairwise_cons] at h1 h2
    have hx : x ∈ y :: M := hp.mem_iff.1 List.mem_cons_self
    have hy : y ∈ x :: L := hp.mem_iff.2 List.mem_cons_self
    have hxy : x = y := by
      rcases List.mem_cons.1 hx with e | hx'
      · exact e
      rcases List.mem_cons.1 hy with e | hy'
      · exact e.symm
      have e1 := h1.1 y hy'
      have e2 := h2.1 x hx'
      rcases lessB_total (key x) (key y) with h | h | h
      · rw [h] at e2; cases e2
      · exact h3 x hx y List.mem_cons_self h
      · rw [h] at e1; cases e1
    subst hxy
    rw [sort_uniq (List.perm_cons _ |>.1 hp) h1.2 h2.2 (fun a ha b hb => h3 a (List.mem_cons_of_mem _ ha) b (List.mem_cons_of_mem _ hb))]
theorem sortTo_pw {L : List α} (h : SortTo key L L.length) : L.Pairwise (fun a b => lessB (key b) (key a) = false) := by
  rw [List.pairwise_iff_getElem]
  intro i j hi hj hij
  exact h i j hij hj (Nat.le_refl _)
end
/-- neighbours that are one are put together -/
def ccL {α : Type} [DecidableEq α] : List α → List α
  | [] => []
  | [x] => [x]
  | x :: y :: l => if x = y then ccL (y :: l) else x :: ccL (y :: l)
end Go.Proofs.YtcecpodbmjghhaaGreat
--TWIN --!def AT = drp_at
--TWIN --!def PY = ⟨y0, y1, y2⟩
--TWIN --!def PX = ⟨x0, x1, x2⟩
--TWIN --!def YX = ⟨y0, y1, y2, x0, x1, x2⟩
--TWIN --!def YXS = y0 y1 y2 x0 x1 x2
--TWIN --!def SS = ⟨s0, s1, s2, s3, s4, s5⟩
--TWIN --!def SC = fun W => W.cell? ⟨g, (q + 1) * 3, none⟩ = some (.string L[q + 1].cust) ∧ W.cell? ⟨g, (q + 1) * 3 + 1, none⟩ = some (.string L[q + 1].spl) ∧ W.cell? ⟨g, (q + 1) * 3 + 2, none⟩ = some (.int .i64 L[q + 1].port) ∧ W.cell? ⟨g, q * 3, none⟩ = some (.string L[q].cust) ∧ W.cell? ⟨g, q * 3 + 1, none⟩ = some (.string L[q].spl) ∧ W.cell? ⟨g, q * 3 + 2, none⟩ = some (.int .i64 L[q].port)
--TWIN --!def ST(W,o,x) = ((($W$).setCell ⟨g, $o$, none⟩ (.string ($x$).cust)).setCell ⟨g, $o$ + 1, none⟩ (.string ($x$).spl)).setCell ⟨g, $o$ + 2, none⟩ (.int .i64 ($x$).port)
/- Walk: slices.insertionSortCmpFunc of all of a row. -/
namespace Go.Proofs.YtcecpodbmjghhaaGreat
open Go Go.RowKit
set_option maxHeartbeats 4000000 in
set_option maxRecDepth 100000 in
theorem isort_splt (g cap : Nat) (l : List Splt) (F : FuncId) (w : World) (hrow : Row Splt.cells 4 w g l) (hc : l.length ≤ cap) (hm : cap ≤ maxLen) (hl : l.length ≤ 100000)
    (hF : ∀ (args : Array Value) (w : World), (callFunc F args).run Tryz.prog w = .ok (.enter F args) w)
    (hcall : ∀ (x y : Splt) (w' : World), Calls Tryz.prog F #[.agg #[.string (x).key, .int .i64 (x).ways, .string (x).par, .int .i64 (x).port], .agg #[.string (y).key, .int .i64 (y).ways, .string (y).par, .int .i64 (y).port]] w' fun e w'' => e = .returned (.int .i64 (cmpB x.key y.key)) ∧ Below w'.heap.size w' w'') :
    Calls Tryz.prog 135 #[.slice (some ⟨g, 0, none⟩) l.length cap, .int .i64 0, .int .i64 l.length, .func (.func F) #[] #[]] w
    fun e w' => e = .returned (.tuple #[]) ∧ ∃ L, L.Perm l ∧ SortTo Splt.key L L.length ∧ Row Splt.cells 4 w' g L ∧ w.grownBy w' (some g) := by
  have HF := Lib.hid hF
  have HC := Lib.hid hcall
  unfold maxLen at hm
  have HR := Lib.hid hrow
  clear hF hcall hrow
  go_enter Tryz.func135, Tryz.ntmps135
  go_wp2
  go_loopw [8] (fun iv wr => ∃ (i : Nat) (L : List Splt), 1 ≤ i ∧ i ≤ max l.length 1 ∧ iv = .int .i64 i ∧ L.Perm l ∧ SortTo Splt.key L i ∧ Row Splt.cells 4 wr g L ∧ w.grownBy wr (some g)) (fun iv _ => l.length - (intOf iv).toNat)
  case atStart => exact ⟨1, l, by omega, by omega, rfl, List.Perm.refl _, fun p q h1 h2 _ => by omega, HR.out, grown_below _ (Below.refl _ _)⟩
  case round =>
    obtain ⟨i, L, hi1, hi2, rfl, hp, hs, hr, hg⟩ := hrel
    have hln := hp.length_eq
    have HI := Lib.hid (And.intro hp (And.intro hs (And.intro hr hg)))
    by_cases hlt : i < l.length
    · have hst := InsAt.start hp (by omega) hs
      have HS := Lib.hid hst
      clear hp hs hr hg hst
      go_wp2_with fail
      go_loopw [9] (fun jv wr => ∃ (j : Nat) (L : List Splt), jv = .int .i64 j ∧ InsAt Splt.key l L i j ∧ Row Splt.cells 4 wr g L ∧ w.grownBy wr (some g)) (fun jv _ => (intOf jv).toNat)
      case atStart => exact ⟨i, L, rfl, HS.out, HI.out.2.2.1, HI.out.2.2.2⟩
      case round =>
        clear HS HI hln
        obtain ⟨j, L, rfl, hA, hr, hg⟩ := hrel
        have hln := hA.perm.length_eq
        have hji := hA.ji
        have HA := Lib.hid (And.intro hA (And.intro hr hg))
        clear hA hr hg
        rcases Nat.eq_zero_or_pos j with rfl | hpos
        · go_wp2_with fail
          refine WalkT.start (fun _ => True) [] (by kernel_rfl) ?_
          have HAd : Hid (InsAt Splt.key l L i 0 ∧ Row Splt.cells 4 wr.drew g L ∧ w.grownBy wr.drew (some g)) := ⟨HA.out.1, HA.out.2.1.kept rfl (Nat.le_refl _), grown_trans HA.out.2.2 (grown_below _ (Below.drew (Below.refl _ _)))⟩
          generalize wr.drew = w1 at *
          refine WalkT.quiet (i := 0) (v := ?_) rfl (by kernel_rfl) (by kernel_rfl) (by kernel_rfl) (fun _ _ _ h => h) (Or.inl ⟨by rfl, ?_⟩) ?_; rotate_left; (· (intro wS hSw; (try dsimp only at hSw); go_simp; try with_reducible rfl)); try simp only [Act.put, pu1, pu2, pu3, pu4, pu5, pu6]
          refine WalkT.quiet (i := 1) (v := ?_) rfl (by kernel_rfl) (by kernel_rfl) (by kernel_rfl) (fun _ _ _ h => h) (Or.inl ⟨by rfl, ?_⟩) ?_; rotate_left; (· (intro wS hSw; (try dsimp only at hSw); go_simp; try with_reducible rfl)); try simp only [Act.put, pu1, pu2, pu3, pu4, pu5, pu6]
          refine WalkT.quiet (i := 2) (v := ?_) rfl (by kernel_rfl) (by kernel_rfl) (by kernel_rfl) (fun _ _ _ h => h) (Or.inl ⟨by rfl, ?_⟩) ?_; rotate_left; (· (intro wS hSw; (try dsimp only at hSw); go_simp; try with_reducible rfl)); try simp only [Act.put, pu1, pu2, pu3, pu4, pu5, pu6]
          refine WalkT.quiet (i := 3) (v := ?_) rfl (by kernel_rfl) (by kernel_rfl) (by kernel_rfl) (fun _ _ _ h => h) (Or.inl ⟨by rfl, ?_⟩) ?_; rotate_left; (· (intro wS hSw; (try dsimp only at hSw); go_simp; try with_reducible rfl)); try simp only [Act.put, pu1, pu2, pu3, pu4, pu5, pu6]
          refine WalkT.quiet (i := 4) (v := undef) rfl (by kernel_rfl) (by kernel_rfl) (by kernel_rfl) (fun _ _ _ h => h) (Or.inr ⟨by go_simp, rfl⟩) ?_; try simp only [Act.put, pu1, pu2, pu3, pu4, pu5, pu6]
          refine WalkT.quiet (i := 5) (v := undef) rfl (by kernel_rfl) (by kernel_rfl) (by kernel_rfl) (fun _ _ _ h => h) (Or.inr ⟨by go_simp, rfl⟩) ?_; try simp only [Act.put, pu1, pu2, pu3, pu4, pu5, pu6]
          refine WalkT.quiet (i := 6) (v := undef) rfl (by kernel_rfl) (by kernel_rfl) (by kernel_rfl) (fun _ _ _ h => h) (Or.inr ⟨by go_simp, rfl⟩) ?_; try simp only [Act.put, pu1, pu2, pu3, pu4, pu5, pu6]
          refine WalkT.quiet (i := 7) (v := undef) rfl (by kernel_rfl) (by kernel_rfl) (by kernel_rfl) (fun _ _ _ h => h) (Or.inr ⟨by go_simp, rfl⟩) ?_; try simp only [Act.put, pu1, pu2, pu3, pu4, pu5, pu6]
          refine WalkT.quiet (i := 8) (v := undef) rfl (by kernel_rfl) (by kernel_rfl) (by kernel_rfl) (fun _ _ _ h => h) (Or.inr ⟨by go_simp, rfl⟩) ?_; try simp only [Act.put, pu1, pu2, pu3, pu4, pu5, pu6]
          refine WalkT.quiet (i := 9) (v := undef) rfl (by kernel_rfl) (by kernel_rfl) (by kernel_rfl) (fun _ _ _ h => h) (Or.inr ⟨by go_simp, rfl⟩) ?_; try simp only [Act.put, pu1, pu2, pu3, pu4, pu5, pu6]
          refine WalkT.quiet (i := 10) (v := undef) rfl (by kernel_rfl) (by kernel_rfl) (by kernel_rfl) (fun _ _ _ h => h) (Or.inr ⟨by go_simp, rfl⟩) ?_; try simp only [Act.put, pu1, pu2, pu3, pu4, pu5, pu6]
          refine WalkT.quiet (i := 11) (v := undef) rfl (by kernel_rfl) (by kernel_rfl) (by kernel_rfl) (fun _ _ _ h => h) (Or.inr ⟨by go_simp, rfl⟩) ?_; try simp only [Act.put, pu1, pu2, pu3, pu4, pu5, pu6]
          refine WalkT.quiet (i := 12) (v := undef) rfl (by kernel_rfl) (by kernel_rfl) (by kernel_rfl) (fun _ _ _ h => h) (Or.inr ⟨by go_simp, rfl⟩) ?_; try simp only [Act.put, pu1, pu2, pu3, pu4, pu5, pu6]
          refine WalkT.quiet (i := 13) (v := undef) rfl (by kernel_rfl) (by kernel_rfl) (by kernel_rfl) (fun _ _ _ h => h) (Or.inr ⟨by go_simp, rfl⟩) ?_; try simp only [Act.put, pu1, pu2, pu3, pu4, pu5, pu6]
          refine WalkT.quiet (i := 14) (v := undef) rfl (by kernel_rfl) (by kernel_rfl) (by kernel_rfl) (fun _ _ _ h => h) (Or.inr ⟨by go_simp, rfl⟩) ?_; try simp only [Act.put, pu1, pu2, pu3, pu4, pu5, pu6]
          refine WalkT.quiet (i := 15) (v := undef) rfl (by kernel_rfl) (by kernel_rfl) (by kernel_rfl) (fun _ _ _ h => h) (Or.inr ⟨by go_simp, rfl⟩) ?_; try simp only [Act.put, pu1, pu2, pu3, pu4, pu5, pu6]
          refine WalkT.quiet (i := 16) (v := ?_) rfl (by kernel_rfl) (by kernel_rfl) (by kernel_rfl) (fun _ _ _ h => h) (Or.inl ⟨by go_simp, ?_⟩) ?_; rotate_left; (· (intro wS hSw; (try dsimp only at hSw); go_simp; try with_reducible rfl)); try simp only [Act.put, pu1, pu2, pu3, pu4, pu5, pu6]
          refine WalkT.done (by kernel_rfl) ?_
          go_wp2
          exact ⟨⟨i + 1, L, by omega, by omega, by go_num, HAd.out.1.perm, HAd.out.1.stop (fun k hk => by omega), HAd.out.2.1, HAd.out.2.2⟩, by simp [intOf]; omega⟩
        · obtain ⟨q, rfl⟩ : ∃ q, j = q + 1 := ⟨j - 1, by omega⟩
          have hql : q + 1 < L.length := by omega
          have hq0 : q < L.length := by omega
          go_wp2_with fail
          have b1 : (0 : Int) ≤ (q : Int) + 1 := by omega
          have b2 : (q : Int) + 1 < (l.length : Int) := by omega
          have b3 : (q : Int) < (l.length : Int) := by omega
          have b4 : (0 : Int) ≤ (q : Int) := by omega
          have b5 : IntKind.i64.wrap (q : Int) = (q : Int) := IntWalk.i64_in _ (by omega)
          refine WalkT.start (fun W => W.cell? ⟨g, (q + 1) * 4, none⟩ = some (.string L[q + 1].key) ∧ W.cell? ⟨g, (q + 1) * 4 + 1, none⟩ = some (.int .i64 L[q + 1].ways) ∧ W.cell? ⟨g, (q + 1) * 4 + 2, none⟩ = some (.string L[q + 1].par) ∧ W.cell? ⟨g, (q + 1) * 4 + 3, none⟩ = some (.int .i64 L[q + 1].port) ∧ W.cell? ⟨g, q * 4, none⟩ = some (.string L[q].key) ∧ W.cell? ⟨g, q * 4 + 1, none⟩ = some (.int .i64 L[q].ways) ∧ W.cell? ⟨g, q * 4 + 2, none⟩ = some (.string L[q].par) ∧ W.cell? ⟨g, q * 4 + 3, none⟩ = some (.int .i64 L[q].port)) [14] (by kernel_rfl) ?_
          have HRd := Lib.hid (And.intro (HA.out.2.1.kept (w' := wr.drew) rfl (Nat.le_refl _)) (grown_trans HA.out.2.2 (grown_below (some g) (Below.drew (Below.refl _ wr)))))
          generalize wr.drew = w1 at *
          obtain ⟨y0, y1, y2, y3⟩ := splt_at (HRd.out.1.1 (q + 1) hql)
          obtain ⟨x0, x1, x2, x3⟩ := splt_at (HRd.out.1.1 q hq0)
          simp only [Nat.zero_add] at y0 y1 y2 y3 x0 x1 x2 x3
          refine WalkT.quiet (i := 0) (v := ?_) rfl (by kernel_rfl) (by kernel_rfl) (by kernel_rfl) (fun _ _ _ h => h) (Or.inl ⟨by rfl, ?_⟩) ?_; rotate_left; (· (intro wS hSw; (try dsimp only at hSw); go_simp; try with_reducible rfl)); try simp only [Act.put, pu1, pu2, pu3, pu4, pu5, pu6]
          refine WalkT.quiet (i := 1) (v := ?_) rfl (by kernel_rfl) (by kernel_rfl) (by kernel_rfl) (fun _ _ _ h => h) (Or.inl ⟨by rfl, ?_⟩) ?_; rotate_left; (· (intro wS hSw; (try dsimp only at hSw); go_simp; try with_reducible rfl)); try simp only [Act.put, pu1, pu2, pu3, pu4, pu5, pu6]
          refine WalkT.quiet (i := 2) (v := ?_) rfl (by kernel_rfl) (by kernel_rfl) (by kernel_rfl) (fun _ _ _ h => h) (Or.inl ⟨by rfl, ?_⟩) ?_; rotate_left; (· (intro wS hSw; (try dsimp only at hSw); go_simp; try with_reducible rfl)); try simp only [Act.put, pu1, pu2, pu3, pu4, pu5, pu6]
          refine WalkT.quiet (i := 3) (v := ?_) rfl (by kernel_rfl) (by kernel_rfl) (by kernel_rfl) (fun _ _ _ h => h) (Or.inl ⟨by rfl, ?_⟩) ?_; rotate_left; (· (intro wS hSw; (try dsimp only at hSw); go_simp; try with_reducible rfl)); try simp only [Act.put, pu1, pu2, pu3, pu4, pu5, pu6]
          refine WalkT.quiet (i := 4) (v := ?_) rfl (by kernel_rfl) (by kernel_rfl) (by kernel_rfl) (fun _ _ _ h => h) (Or.inl ⟨by go_simp, ?_⟩) ?_; rotate_left; (· (intro wS hSw; (try dsimp only at hSw); go_simp; try with_reducible rfl)); try simp only [Act.put, pu1, pu2, pu3, pu4, pu5, pu6]
          refine WalkT.quiet (i := 5) (v := ?_) rfl (by kernel_rfl) (by kernel_rfl) (by kernel_rfl) (fun _ _ _ h => h) (Or.inl ⟨by go_simp, ?_⟩) ?_; rotate_left; (· (intro wS hSw; (try dsimp only at hSw); go_simp; try with_reducible rfl)); try simp only [Act.put, pu1, pu2, pu3, pu4, pu5, pu6]
          refine WalkT.quiet (i := 6) (v := ?_) rfl (by kernel_rfl) (by kernel_rfl) (by kernel_rfl) (fun _ _ _ h => h) (Or.inl ⟨by go_simp, ?_⟩) ?_; rotate_left; (· (intro wS hSw; (try dsimp only at hSw); go_simp; try with_reducible rfl)); try simp only [Act.put, pu1, pu2, pu3, pu4, pu5, pu6]
          refine WalkT.quiet (i := 7) (v := ?_) rfl (by kernel_rfl) (by kernel_rfl) (by kernel_rfl) (fun _ _ _ h => h) (Or.inl ⟨by go_simp, ?_⟩) ?_; rotate_left; (· (intro wS hSw; (try dsimp only at hSw); go_simp; try with_reducible rfl)); try simp only [Act.put, pu1, pu2, pu3, pu4, pu5, pu6]
          refine WalkT.take (i := 8) (v := ?_) rfl (by kernel_rfl) (by kernel_rfl) (by kernel_rfl) (by kernel_rfl) (fun _ _ _ h => h) (⟨y0, y1, y2, y3, x0, x1, x2, x3⟩) (Or.inl ⟨by go_simp, ?_⟩) ?_; rotate_left; (· (intro wS hSw; obtain ⟨s0, s1, s2, s3, s4, s5, s6, s7⟩ := hSw; go_simp; try with_reducible rfl)); try simp only [Act.put, pu1, pu2, pu3, pu4, pu5, pu6]
          refine WalkT.quiet (i := 9) (v := ?_) rfl (by kernel_rfl) (by kernel_rfl) (by kernel_rfl) (fun _ _ _ h => h) (Or.inl ⟨by go_simp, ?_⟩) ?_; rotate_left; (· (intro wS hSw; (try dsimp only at hSw); go_simp; try with_reducible rfl)); try simp only [Act.put, pu1, pu2, pu3, pu4, pu5, pu6]
          refine WalkT.quiet (i := 10) (v := ?_) rfl (by kernel_rfl) (by kernel_rfl) (by kernel_rfl) (fun _ _ _ h => h) (Or.inl ⟨by go_simp, ?_⟩) ?_; rotate_left; (· (intro wS hSw; (try dsimp only at hSw); go_simp; try with_reducible rfl)); try simp only [Act.put, pu1, pu2, pu3, pu4, pu5, pu6]
          refine WalkT.quiet (i := 11) (v := ?_) rfl (by kernel_rfl) (by kernel_rfl) (by kernel_rfl) (fun _ _ _ h => h) (Or.inl ⟨by go_simp, ?_⟩) ?_; rotate_left; (· (intro wS hSw; (try dsimp only at hSw); go_simp; try with_reducible rfl)); try simp only [Act.put, pu1, pu2, pu3, pu4, pu5, pu6]
          refine WalkT.quiet (i := 12) (v := ?_) rfl (by kernel_rfl) (by kernel_rfl) (by kernel_rfl) (fun _ _ _ h => h) (Or.inl ⟨by go_simp, ?_⟩) ?_; rotate_left; (· (intro wS hSw; (try dsimp only at hSw); go_simp; try with_reducible rfl)); try simp only [Act.put, pu1, pu2, pu3, pu4, pu5, pu6]
          refine WalkT.take (i := 13) (v := ?_) rfl (by kernel_rfl) (by kernel_rfl) (by kernel_rfl) (by kernel_rfl) (fun _ _ _ h => h) (⟨y0, y1, y2, y3, x0, x1, x2, x3⟩) (Or.inl ⟨by go_simp, ?_⟩) ?_; rotate_left; (· (intro wS hSw; obtain ⟨s0, s1, s2, s3, s4, s5, s6, s7⟩ := hSw; go_simp; try with_reducible rfl)); try simp only [Act.put, pu1, pu2, pu3, pu4, pu5, pu6]
          have hF := HF.out
          refine WalkT.ready (rs := [14]) (by kernel_rfl) (by simp) (AllT.cons rfl (fun K hK => ?_) AllT.nil); go_simp
          refine (HC.out L[q + 1] L[q] _).mono ?_
          rintro e w2 ⟨rfl, hb2⟩
          have HR2 := Lib.hid (And.intro (HRd.out.1.below hb2 HRd.out.1.2.2) (grown_trans HRd.out.2 (grown_below (some g) hb2)))
          clear hb2 y0 y1 y2 y3 x0 x1 x2 x3 HRd hF
          refine hK.out _ _ (fun h => absurd h (by decide)) ?_; clear hK K; try simp only [Act.put, pu1, pu2, pu3, pu4, pu5, pu6]
          refine WalkT.quiet (i := 15) (v := ?_) rfl (by kernel_rfl) (by kernel_rfl) (by kernel_rfl) (fun _ _ _ h => h) (Or.inl ⟨by go_simp, ?_⟩) ?_; rotate_left; (· (intro wS hSw; (try dsimp only at hSw); go_simp; try with_reducible rfl)); try simp only [Act.put, pu1, pu2, pu3, pu4, pu5, pu6]
          refine WalkT.quiet (i := 16) (v := ?_) rfl (by kernel_rfl) (by kernel_rfl) (by kernel_rfl) (fun _ _ _ h => h) (Or.inl ⟨by go_simp, ?_⟩) ?_; rotate_left; (· (intro wS hSw; (try dsimp only at hSw); go_simp; try with_reducible rfl)); try simp only [Act.put, pu1, pu2, pu3, pu4, pu5, pu6]
          refine WalkT.done (by kernel_rfl) ?_
          have hcm := cmpB_less L[q + 1].key L[q].key
          by_cases hx : cmpB L[q + 1].key L[q].key < 0
          · have HST := Lib.hid (HA.out.1.step hql (hcm.1 hx))
            have hx1 : decide (cmpB L[q + 1].key L[q].key < 0) = true := by simpa using hx
            clear hcm
            go_wp2_with fail
            obtain ⟨y0, y1, y2, y3⟩ := splt_at (HR2.out.1.1 (q + 1) hql)
            obtain ⟨x0, x1, x2, x3⟩ := splt_at (HR2.out.1.1 q hq0)
            simp only [Nat.zero_add] at y0 y1 y2 y3 x0 x1 x2 x3
            refine WalkT.start (fun W => W.cell? ⟨g, (q + 1) * 4, none⟩ = some (.string L[q + 1].key) ∧ W.cell? ⟨g, (q + 1) * 4 + 1, none⟩ = some (.int .i64 L[q + 1].ways) ∧ W.cell? ⟨g, (q + 1) * 4 + 2, none⟩ = some (.string L[q + 1].par) ∧ W.cell? ⟨g, (q + 1) * 4 + 3, none⟩ = some (.int .i64 L[q + 1].port) ∧ W.cell? ⟨g, q * 4, none⟩ = some (.string L[q].key) ∧ W.cell? ⟨g, q * 4 + 1, none⟩ = some (.int .i64 L[q].ways) ∧ W.cell? ⟨g, q * 4 + 2, none⟩ = some (.string L[q].par) ∧ W.cell? ⟨g, q * 4 + 3, none⟩ = some (.int .i64 L[q].port)) [15, 17] (by kernel_rfl) ?_
            have HR3 := Lib.hid (And.intro (HR2.out.1.kept (w' := w2.drew) rfl (Nat.le_refl _)) (grown_trans HR2.out.2 (grown_below (some g) (Below.drew (Below.refl _ w2)))))
            clear y0 y1 y2 y3 x0 x1 x2 x3
            generalize w2.drew = w3 at *
            obtain ⟨y0, y1, y2, y3⟩ := splt_at (HR3.out.1.1 (q + 1) hql)
            obtain ⟨x0, x1, x2, x3⟩ := splt_at (HR3.out.1.1 q hq0)
            have fz := HR3.out.1.2.1
            simp only [Nat.zero_add] at y0 y1 y2 y3 x0 x1 x2 x3
            refine WalkT.quiet (i := 0) (v := ?_) rfl (by kernel_rfl) (by kernel_rfl) (by kernel_rfl) (fun _ _ _ h => h) (Or.inl ⟨by rfl, ?_⟩) ?_; rotate_left; (· (intro wS hSw; (try dsimp only at hSw); go_simp; try with_reducible rfl)); try simp only [Act.put, pu1, pu2, pu3, pu4, pu5, pu6]
            refine WalkT.quiet (i := 1) (v := ?_) rfl (by kernel_rfl) (by kernel_rfl) (by kernel_rfl) (fun _ _ _ h => h) (Or.inl ⟨by rfl, ?_⟩) ?_; rotate_left; (· (intro wS hSw; (try dsimp only at hSw); go_simp; try with_reducible rfl)); try simp only [Act.put, pu1, pu2, pu3, pu4, pu5, pu6]
            refine WalkT.quiet (i := 2) (v := ?_) rfl (by kernel_rfl) (by kernel_rfl) (by kernel_rfl) (fun _ _ _ h => h) (Or.inl ⟨by rfl, ?_⟩) ?_; rotate_left; (· (intro wS hSw; (try dsimp only at hSw); go_simp; try with_reducible rfl)); try simp only [Act.put, pu1, pu2, pu3, pu4, pu5, pu6]
            refine WalkT.quiet (i := 3) (v := ?_) rfl (by kernel_rfl) (by kernel_rfl) (by kernel_rfl) (fun _ _ _ h => h) (Or.inl ⟨by rfl, ?_⟩) ?_; rotate_left; (· (intro wS hSw; (try dsimp only at hSw); go_simp; try with_reducible rfl)); try simp only [Act.put, pu1, pu2, pu3, pu4, pu5, pu6]
            refine WalkT.quiet (i := 4) (v := ?_) rfl (by kernel_rfl) (by kernel_rfl) (by kernel_rfl) (fun _ _ _ h => h) (Or.inl ⟨by rfl, ?_⟩) ?_; rotate_left; (· (intro wS hSw; (try dsimp only at hSw); go_simp; try with_reducible rfl)); try simp only [Act.put, pu1, pu2, pu3, pu4, pu5, pu6]
            refine WalkT.quiet (i := 5) (v := ?_) rfl (by kernel_rfl) (by kernel_rfl) (by kernel_rfl) (fun _ _ _ h => h) (Or.inl ⟨by rfl, ?_⟩) ?_; rotate_left; (· (intro wS hSw; (try dsimp only at hSw); go_simp; try with_reducible rfl)); try simp only [Act.put, pu1, pu2, pu3, pu4, pu5, pu6]
            refine WalkT.quiet (i := 6) (v := ?_) rfl (by kernel_rfl) (by kernel_rfl) (by kernel_rfl) (fun _ _ _ h => h) (Or.inl ⟨by rfl, ?_⟩) ?_; rotate_left; (· (intro wS hSw; (try dsimp only at hSw); go_simp; try with_reducible rfl)); try simp only [Act.put, pu1, pu2, pu3, pu4, pu5, pu6]
            refine WalkT.quiet (i := 7) (v := ?_) rfl (by kernel_rfl) (by kernel_rfl) (by kernel_rfl) (fun _ _ _ h => h) (Or.inl ⟨by rfl, ?_⟩) ?_; rotate_left; (· (intro wS hSw; (try dsimp only at hSw); go_simp; try with_reducible rfl)); try simp only [Act.put, pu1, pu2, pu3, pu4, pu5, pu6]
            refine WalkT.quiet (i := 8) (v := ?_) rfl (by kernel_rfl) (by kernel_rfl) (by kernel_rfl) (fun _ _ _ h => h) (Or.inl ⟨by rfl, ?_⟩) ?_; rotate_left; (· (intro wS hSw; (try dsimp only at hSw); go_simp; try with_reducible rfl)); try simp only [Act.put, pu1, pu2, pu3, pu4, pu5, pu6]
            refine WalkT.take (i := 9) (v := ?_) rfl (by kernel_rfl) (by kernel_rfl) (by kernel_rfl) (by kernel_rfl) (fun _ _ _ h => h) (⟨y0, y1, y2, y3, x0, x1, x2, x3⟩) (Or.inl ⟨by rfl, ?_⟩) ?_; rotate_left; (· (intro wS hSw; obtain ⟨s0, s1, s2, s3, s4, s5, s6, s7⟩ := hSw; go_simp; try with_reducible rfl)); try simp only [Act.put, pu1, pu2, pu3, pu4, pu5, pu6]
            refine WalkT.quiet (i := 10) (v := ?_) rfl (by kernel_rfl) (by kernel_rfl) (by kernel_rfl) (fun _ _ _ h => h) (Or.inl ⟨by rfl, ?_⟩) ?_; rotate_left; (· (intro wS hSw; (try dsimp only at hSw); go_simp; try with_reducible rfl)); try simp only [Act.put, pu1, pu2, pu3, pu4, pu5, pu6]
            refine WalkT.quiet (i := 11) (v := ?_) rfl (by kernel_rfl) (by kernel_rfl) (by kernel_rfl) (fun _ _ _ h => h) (Or.inl ⟨by rfl, ?_⟩) ?_; rotate_left; (· (intro wS hSw; (try dsimp only at hSw); go_simp; try with_reducible rfl)); try simp only [Act.put, pu1, pu2, pu3, pu4, pu5, pu6]
            refine WalkT.quiet (i := 12) (v := ?_) rfl (by kernel_rfl) (by kernel_rfl) (by kernel_rfl) (fun _ _ _ h => h) (Or.inl ⟨by rfl, ?_⟩) ?_; rotate_left; (· (intro wS hSw; (try dsimp only at hSw); go_simp; try with_reducible rfl)); try simp only [Act.put, pu1, pu2, pu3, pu4, pu5, pu6]
            refine WalkT.take (i := 13) (v := ?_) rfl (by kernel_rfl) (by kernel_rfl) (by kernel_rfl) (by kernel_rfl) (fun _ _ _ h => h) (⟨y0, y1, y2, y3, x0, x1, x2, x3⟩) (Or.inl ⟨by rfl, ?_⟩) ?_; rotate_left; (· (intro wS hSw; obtain ⟨s0, s1, s2, s3, s4, s5, s6, s7⟩ := hSw; go_simp; try with_reducible rfl)); try simp only [Act.put, pu1, pu2, pu3, pu4, pu5, pu6]
            refine WalkT.quiet (i := 14) (v := ?_) rfl (by kernel_rfl) (by kernel_rfl) (by kernel_rfl) (fun _ _ _ h => h) (Or.inl ⟨by rfl, ?_⟩) ?_; rotate_left; (· (intro wS hSw; (try dsimp only at hSw); go_simp; try with_reducible rfl)); try simp only [Act.put, pu1, pu2, pu3, pu4, pu5, pu6]
            refine WalkT.ready (rs := [15]) (by kernel_rfl) (by simp) (AllT.cons rfl (fun K hK => ?_) AllT.nil); go_simp
            refine hK.out _ _ (fun h => absurd h (by decide)) ?_; clear hK K; try simp only [Act.put, pu1, pu2, pu3, pu4, pu5, pu6]
            refine WalkT.quiet (i := 16) (v := ?_) rfl (by kernel_rfl) (by kernel_rfl) (by kernel_rfl) (fun _ _ _ h => h) (Or.inl ⟨by rfl, ?_⟩) ?_; rotate_left; (· (intro wS hSw; (try dsimp only at hSw); go_simp; try with_reducible rfl)); try simp only [Act.put, pu1, pu2, pu3, pu4, pu5, pu6]
            refine WalkT.ready (rs := [17]) (by kernel_rfl) (by simp) (AllT.cons rfl (fun K hK => ?_) AllT.nil); go_simp
            refine hK.out _ _ (fun h => absurd h (by decide)) ?_; clear hK K; try simp only [Act.put, pu1, pu2, pu3, pu4, pu5, pu6]
            refine WalkT.done (by kernel_rfl) ?_
            have hrow2 := Row.set Splt.cells_len (Row.set Splt.cells_len HR3.out.1 (q + 1) hql L[q]) q (by rw [List.length_set]; exact hq0) L[q + 1]
            have hgr := grown_trans HR3.out.2 (grown_trans (grown_setCells g (Splt.cells L[q]) ((q + 1) * 4) w3) (grown_setCells g (Splt.cells L[q + 1]) (q * 4) _))
            have HFIN : Hid (Row Splt.cells 4 (((((((((w3).setCell ⟨g, ((q + 1) * 4), none⟩ (.string (L[q]).key)).setCell ⟨g, ((q + 1) * 4) + 1, none⟩ (.int .i64 (L[q]).ways)).setCell ⟨g, ((q + 1) * 4) + 2, none⟩ (.string (L[q]).par)).setCell ⟨g, ((q + 1) * 4) + 3, none⟩ (.int .i64 (L[q]).port)).setCell ⟨g, (q * 4), none⟩ (.string (L[q + 1]).key)).setCell ⟨g, (q * 4) + 1, none⟩ (.int .i64 (L[q + 1]).ways)).setCell ⟨g, (q * 4) + 2, none⟩ (.string (L[q + 1]).par)).setCell ⟨g, (q * 4) + 3, none⟩ (.int .i64 (L[q + 1]).port)) g (swapL L q hql) ∧ w.grownBy (((((((((w3).setCell ⟨g, ((q + 1) * 4), none⟩ (.string (L[q]).key)).setCell ⟨g, ((q + 1) * 4) + 1, none⟩ (.int .i64 (L[q]).ways)).setCell ⟨g, ((q + 1) * 4) + 2, none⟩ (.string (L[q]).par)).setCell ⟨g, ((q + 1) * 4) + 3, none⟩ (.int .i64 (L[q]).port)).setCell ⟨g, (q * 4), none⟩ (.string (L[q + 1]).key)).setCell ⟨g, (q * 4) + 1, none⟩ (.int .i64 (L[q + 1]).ways)).setCell ⟨g, (q * 4) + 2, none⟩ (.string (L[q + 1]).par)).setCell ⟨g, (q * 4) + 3, none⟩ (.int .i64 (L[q + 1]).port)) (some g)) := ⟨hrow2, hgr⟩
            clear hrow2 hgr y0 y1 y2 y3 x0 x1 x2 x3 fz
            go_wp2
            exact ⟨⟨q, swapL L q hql, by go_num, HST.out, HFIN.out.1, HFIN.out.2⟩, by simp [intOf]⟩
          · have hx1 : decide (cmpB L[q + 1].key L[q].key < 0) = false := by simpa using hx
            have hxf : lessB L[q + 1].key L[q].key = false := by
              cases h : lessB L[q + 1].key L[q].key
              · rfl
              · exact absurd (hcm.2 h) hx
            have HXF := Lib.hid hxf
            clear hcm hxf
            go_wp2
            exact ⟨⟨i + 1, L, by omega, by omega, by go_num, HA.out.1.perm, HA.out.1.stop (fun k hk => by have e := Nat.succ.inj hk; subst e; exact HXF.out), HR2.out.1, HR2.out.2⟩, by simp [intOf]; omega⟩
    · go_wp2
      ((try simp only [Exit.inBlock, Exit.then]); refine bodyPost_end (results_none rfl _ _ _) rfl ?_)
      obtain rfl | hn : i = l.length ∨ l.length = 0 := by omega
      · exact ⟨rfl, L, HI.out.1, by rw [hln]; exact HI.out.2.1, HI.out.2.2.1, HI.out.2.2.2⟩
      · exact ⟨rfl, L, HI.out.1, (fun p q h1 h2 _ => by omega), HI.out.2.2.1, HI.out.2.2.2⟩
end Go.Proofs.YtcecpodbmjghhaaGreat
/- Walk: slices.insertionSortCmpFunc of all of a row. -/
namespace Go.Proofs.YtcecpodbmjghhaaGreat
open Go Go.RowKit
set_option maxHeartbeats 4000000 in
set_option maxRecDepth 100000 in
theorem isort_drp (g cap : Nat) (l : List Drp) (F : FuncId) (w : World) (hrow : Row Drp.cells 3 w g l) (hc : l.length ≤ cap) (hm : cap ≤ maxLen) (hl : l.length ≤ 100000)
    (hF : ∀ (args : Array Value) (w : World), (callFunc F args).run Tryz.prog w = .ok (.enter F args) w)
    (hcall : ∀ (x y : Drp) (w' : World), Calls Tryz.prog F #[.agg #[.string (x).cust, .string (x).spl, .int .i64 (x).port], .agg #[.string (y).cust, .string (y).spl, .int .i64 (y).port]] w' fun e w'' => e = .returned (.int .i64 (cmpB x.cust y.cust)) ∧ Below w'.heap.size w' w'') :
    Calls Tryz.prog 137 #[.slice (some ⟨g, 0, none⟩) l.length cap, .int .i64 0, .int .i64 l.length, .func (.func F) #[] #[]] w
    fun e w' => e = .returned (.tuple #[]) ∧ ∃ L, L.Perm l ∧ SortTo Drp.cust L L.length ∧ Row Drp.cells 3 w' g L ∧ w.grownBy w' (some g) := by
  have HF := Lib.hid hF
  have HC := Lib.hid hcall
  unfold maxLen at hm
  have HR := Lib.hid hrow
  clear hF hcall hrow
  go_enter Tryz.func137, Tryz.ntmps137
  go_wp2
  go_loopw [8] (fun iv wr => ∃ (i : Nat) (L : List Drp), 1 ≤ i ∧ i ≤ max l.length 1 ∧ iv = .int .i64 i ∧ L.Perm l ∧ SortTo Drp.cust L i ∧ Row Drp.cells 3 wr g L ∧ w.grownBy wr (some g)) (fun iv _ => l.length - (intOf iv).toNat)
  case atStart => exact ⟨1, l, by omega, by omega, rfl, List.Perm.refl _, fun p q h1 h2 _ => by omega, HR.out, grown_below _ (Below.refl _ _)⟩
  case round =>
    obtain ⟨i, L, hi1, hi2, rfl, hp, hs, hr, hg⟩ := hrel
    have hln := hp.length_eq
    have HI := Lib.hid (And.intro hp (And.intro hs (And.intro hr hg)))
    by_cases hlt : i < l.length
    · have hst := InsAt.start hp (by omega) hs
      have HS := Lib.hid hst
      clear hp hs hr hg hst
      go_wp2_with fail
      go_loopw [9] (fun jv wr => ∃ (j : Nat) (L : List Drp), jv = .int .i64 j ∧ InsAt Drp.cust l L i j ∧ Row Drp.cells 3 wr g L ∧ w.grownBy wr (some g)) (fun jv _ => (intOf jv).toNat)
      case atStart => exact ⟨i, L, rfl, HS.out, HI.out.2.2.1, HI.out.2.2.2⟩
      case round =>
        clear HS HI hln
        obtain ⟨j, L, rfl, hA, hr, hg⟩ := hrel
        have hln := hA.perm.length_eq
        have hji := hA.ji
        have HA := Lib.hid (And.intro hA (And.intro hr hg))
        clear hA hr hg
        rcases Nat.eq_zero_or_pos j with rfl | hpos
        · go_wp2_with fail
          refine WalkT.start (fun _ => True) [] (by kernel_rfl) ?_
          have HAd : Hid (InsAt Drp.cust l L i 0 ∧ Row Drp.cells 3 wr.drew g L ∧ w.grownBy wr.drew (some g)) := ⟨HA.out.1, HA.out.2.1.kept rfl (Nat.le_refl _), grown_trans HA.out.2.2 (grown_below _ (Below.drew (Below.refl _ _)))⟩
          generalize wr.drew = w1 at *
          refine WalkT.quiet (i := 0) (v := ?_) rfl (by kernel_rfl) (by kernel_rfl) (by kernel_rfl) (fun _ _ _ h => h) (Or.inl ⟨by rfl, ?_⟩) ?_; rotate_left; (· (intro wS hSw; (try dsimp only at hSw); go_simp; try with_reducible rfl)); try simp only [Act.put, pu1, pu2, pu3, pu4, pu5, pu6]
          refine WalkT.quiet (i := 1) (v := ?_) rfl (by kernel_rfl) (by kernel_rfl) (by kernel_rfl) (fun _ _ _ h => h) (Or.inl ⟨by rfl, ?_⟩) ?_; rotate_left; (· (intro wS hSw; (try dsimp only at hSw); go_simp; try with_reducible rfl)); try simp only [Act.put, pu1, pu2, pu3, pu4, pu5, pu6]
          refine WalkT.quiet (i := 2) (v := ?_) rfl (by kernel_rfl) (by kernel_rfl) (by kernel_rfl) (fun _ _ _ h => h) (Or.inl ⟨by rfl, ?_⟩) ?_; rotate_left; (· (intro wS hSw; (try dsimp only at hSw); go_simp; try with_reducible rfl)); try simp only [Act.put, pu1, pu2, pu3, pu4, pu5, pu6]
          refine WalkT.quiet (i := 3) (v := ?_) rfl (by kernel_rfl) (by kernel_rfl) (by kernel_rfl) (fun _ _ _ h => h) (Or.inl ⟨by rfl, ?_⟩) ?_; rotate_left; (· (intro wS hSw; (try dsimp only at hSw); go_simp; try with_reducible rfl)); try simp only [Act.put, pu1, pu2, pu3, pu4, pu5, pu6]
          refine WalkT.quiet (i := 4) (v := undef) rfl (by kernel_rfl) (by kernel_rfl) (by kernel_rfl) (fun _ _ _ h => h) (Or.inr ⟨by go_simp, rfl⟩) ?_; try simp only [Act.put, pu1, pu2, pu3, pu4, pu5, pu6]
          refine WalkT.quiet (i := 5) (v := undef) rfl (by kernel_rfl) (by kernel_rfl) (by kernel_rfl) (fun _ _ _ h => h) (Or.inr ⟨by go_simp, rfl⟩) ?_; try simp only [Act.put, pu1, pu2, pu3, pu4, pu5, pu6]
          refine WalkT.quiet (i := 6) (v := undef) rfl (by kernel_rfl) (by kernel_rfl) (by kernel_rfl) (fun _ _ _ h => h) (Or.inr ⟨by go_simp, rfl⟩) ?_; try simp only [Act.put, pu1, pu2, pu3, pu4, pu5, pu6]
          refine WalkT.quiet (i := 7) (v := undef) rfl (by kernel_rfl) (by kernel_rfl) (by kernel_rfl) (fun _ _ _ h => h) (Or.inr ⟨by go_simp, rfl⟩) ?_; try simp only [Act.put, pu1, pu2, pu3, pu4, pu5, pu6]
          refine WalkT.quiet (i := 8) (v := undef) rfl (by kernel_rfl) (by kernel_rfl) (by kernel_rfl) (fun _ _ _ h => h) (Or.inr ⟨by go_simp, rfl⟩) ?_; try simp only [Act.put, pu1, pu2, pu3, pu4, pu5, pu6]
          refine WalkT.quiet (i := 9) (v := undef) rfl (by kernel_rfl) (by kernel_rfl) (by kernel_rfl) (fun _ _ _ h => h) (Or.inr ⟨by go_simp, rfl⟩) ?_; try simp only [Act.put, pu1, pu2, pu3, pu4, pu5, pu6]
          refine WalkT.quiet (i := 10) (v := undef) rfl (by kernel_rfl) (by kernel_rfl) (by kernel_rfl) (fun _ _ _ h => h) (Or.inr ⟨by go_simp, rfl⟩) ?_; try simp only [Act.put, pu1, pu2, pu3, pu4, pu5, pu6]
          refine WalkT.quiet (i := 11) (v := undef) rfl (by kernel_rfl) (by kernel_rfl) (by kernel_rfl) (fun _ _ _ h => h) (Or.inr ⟨by go_simp, rfl⟩) ?_; try simp only [Act.put, pu1, pu2, pu3, pu4, pu5, pu6]
          refine WalkT.quiet (i := 12) (v := undef) rfl (by kernel_rfl) (by kernel_rfl) (by kernel_rfl) (fun _ _ _ h => h) (Or.inr ⟨by go_simp, rfl⟩) ?_; try simp only [Act.put, pu1, pu2, pu3, pu4, pu5, pu6]
          refine WalkT.quiet (i := 13) (v := undef) rfl (by kernel_rfl) (by kernel_rfl) (by kernel_rfl) (fun _ _ _ h => h) (Or.inr ⟨by go_simp, rfl⟩) ?_; try simp only [Act.put, pu1, pu2, pu3, pu4, pu5, pu6]
          refine WalkT.quiet (i := 14) (v := undef) rfl (by kernel_rfl) (by kernel_rfl) (by kernel_rfl) (fun _ _ _ h => h) (Or.inr ⟨by go_simp, rfl⟩) ?_; try simp only [Act.put, pu1, pu2, pu3, pu4, pu5, pu6]
          refine WalkT.quiet (i := 15) (v := undef) rfl (by kernel_rfl) (by kernel_rfl) (by kernel_rfl) (fun _ _ _ h => h) (Or.inr ⟨by go_simp, rfl⟩) ?_; try simp only [Act.put, pu1, pu2, pu3, pu4, pu5, pu6]
          refine WalkT.quiet (i := 16) (v := ?_) rfl (by kernel_rfl) (by kernel_rfl) (by kernel_rfl) (fun _ _ _ h => h) (Or.inl ⟨by go_simp, ?_⟩) ?_; rotate_left; (· (intro wS hSw; (try dsimp only at hSw); go_simp; try with_reducible rfl)); try simp only [Act.put, pu1, pu2, pu3, pu4, pu5, pu6]
          refine WalkT.done (by kernel_rfl) ?_
          go_wp2
          exact ⟨⟨i + 1, L, by omega, by omega, by go_num, HAd.out.1.perm, HAd.out.1.stop (fun k hk => by omega), HAd.out.2.1, HAd.out.2.2⟩, by simp [intOf]; omega⟩
        · obtain ⟨q, rfl⟩ : ∃ q, j = q + 1 := ⟨j - 1, by omega⟩
          have hql : q + 1 < L.length := by omega
          have hq0 : q < L.length := by omega
          go_wp2_with fail
          have b1 : (0 : Int) ≤ (q : Int) + 1 := by omega
          have b2 : (q : Int) + 1 < (l.length : Int) := by omega
          have b3 : (q : Int) < (l.length : Int) := by omega
          have b4 : (0 : Int) ≤ (q : Int) := by omega
          have b5 : IntKind.i64.wrap (q : Int) = (q : Int) := IntWalk.i64_in _ (by omega)
          refine WalkT.start (fun W => W.cell? ⟨g, (q + 1) * 3, none⟩ = some (.string L[q + 1].cust) ∧ W.cell? ⟨g, (q + 1) * 3 + 1, none⟩ = some (.string L[q + 1].spl) ∧ W.cell? ⟨g, (q + 1) * 3 + 2, none⟩ = some (.int .i64 L[q + 1].port) ∧ W.cell? ⟨g, q * 3, none⟩ = some (.string L[q].cust) ∧ W.cell? ⟨g, q * 3 + 1, none⟩ = some (.string L[q].spl) ∧ W.cell? ⟨g, q * 3 + 2, none⟩ = some (.int .i64 L[q].port)) [14] (by kernel_rfl) ?_
          have HRd := Lib.hid (And.intro (HA.out.2.1.kept (w' := wr.drew) rfl (Nat.le_refl _)) (grown_trans HA.out.2.2 (grown_below (some g) (Below.drew (Below.refl _ wr)))))
          generalize wr.drew = w1 at *
          obtain ⟨y0, y1, y2⟩ := drp_at (HRd.out.1.1 (q + 1) hql)
          obtain ⟨x0, x1, x2⟩ := drp_at (HRd.out.1.1 q hq0)
          simp only [Nat.zero_add] at y0 y1 y2 x0 x1 x2
          refine WalkT.quiet (i := 0) (v := ?_) rfl (by kernel_rfl) (by kernel_rfl) (by kernel_rfl) (fun _ _ _ h => h) (Or.inl ⟨by rfl, ?_⟩) ?_; rotate_left; (· (intro wS hSw; (try dsimp only at hSw); go_simp; try with_reducible rfl)); try simp only [Act.put, pu1, pu2, pu3, pu4, pu5, pu6]
          refine WalkT.quiet (i := 1) (v := ?_) rfl (by kernel_rfl) (by kernel_rfl) (by kernel_rfl) (fun _ _ _ h => h) (Or.inl ⟨by rfl, ?_⟩) ?_; rotate_left; (· (intro wS hSw; (try dsimp only at hSw); go_simp; try with_reducible rfl)); try simp only [Act.put, pu1, pu2, pu3, pu4, pu5, pu6]
          refine WalkT.quiet (i := 2) (v := ?_) rfl (by kernel_rfl) (by kernel_rfl) (by kernel_rfl) (fun _ _ _ h => h) (Or.inl ⟨by rfl, ?_⟩) ?_; rotate_left; (· (intro wS hSw; (try dsimp only at hSw); go_simp; try with_reducible rfl)); try simp only [Act.put, pu1, pu2, pu3, pu4, pu5, pu6]
          refine WalkT.quiet (i := 3) (v := ?_) rfl (by kernel_rfl) (by kernel_rfl) (by kernel_rfl) (fun _ _ _ h => h) (Or.inl ⟨by rfl, ?_⟩) ?_; rotate_left; (· (intro wS hSw; (try dsimp only at hSw); go_simp; try with_reducible rfl)); try simp only [Act.put, pu1, pu2, pu3, pu4, pu5, pu6]
          refine WalkT.quiet (i := 4) (v := ?_) rfl (by kernel_rfl) (by kernel_rfl) (by kernel_rfl) (fun _ _ _ h => h) (Or.inl ⟨by go_simp, ?_⟩) ?_; rotate_left; (· (intro wS hSw; (try dsimp only at hSw); go_simp; try with_reducible rfl)); try simp only [Act.put, pu1, pu2, pu3, pu4, pu5, pu6]
          refine WalkT.quiet (i := 5) (v := ?_) rfl (by kernel_rfl) (by kernel_rfl) (by kernel_rfl) (fun _ _ _ h => h) (Or.inl ⟨by go_simp, ?_⟩) ?_; rotate_left; (· (intro wS hSw; (try dsimp only at hSw); go_simp; try with_reducible rfl)); try simp only [Act.put, pu1, pu2, pu3, pu4, pu5, pu6]
          refine WalkT.quiet (i := 6) (v := ?_) rfl (by kernel_rfl) (by kernel_rfl) (by kernel_rfl) (fun _ _ _ h => h) (Or.inl ⟨by go_simp, ?_⟩) ?_; rotate_left; (· (intro wS hSw; (try dsimp only at hSw); go_simp; try with_reducible rfl)); try simp only [Act.put, pu1, pu2, pu3, pu4, pu5, pu6]
          refine WalkT.quiet (i := 7) (v := ?_) rfl (by kernel_rfl) (by kernel_rfl) (by kernel_rfl) (fun _ _ _ h => h) (Or.inl ⟨by go_simp, ?_⟩) ?_; rotate_left; (· (intro wS hSw; (try dsimp only at hSw); go_simp; try with_reducible rfl)); try simp only [Act.put, pu1, pu2, pu3, pu4, pu5, pu6]
          refine WalkT.take (i := 8) (v := ?_) rfl (by kernel_rfl) (by kernel_rfl) (by kernel_rfl) (by kernel_rfl) (fun _ _ _ h => h) (⟨y0, y1, y2, x0, x1, x2⟩) (Or.inl ⟨by go_simp, ?_⟩) ?_; rotate_left; (· (intro wS hSw; obtain ⟨s0, s1, s2, s3, s4, s5⟩ := hSw; go_simp; try with_reducible rfl)); try simp only [Act.put, pu1, pu2, pu3, pu4, pu5, pu6]
          refine WalkT.quiet (i := 9) (v := ?_) rfl (by kernel_rfl) (by kernel_rfl) (by kernel_rfl) (fun _ _ _ h => h) (Or.inl ⟨by go_simp, ?_⟩) ?_; rotate_left; (· (intro wS hSw; (try dsimp only at hSw); go_simp; try with_reducible rfl)); try simp only [Act.put, pu1, pu2, pu3, pu4, pu5, pu6]
          refine WalkT.quiet (i := 10) (v := ?_) rfl (by kernel_rfl) (by kernel_rfl) (by kernel_rfl) (fun _ _ _ h => h) (Or.inl ⟨by go_simp, ?_⟩) ?_; rotate_left; (· (intro wS hSw; (try dsimp only at hSw); go_simp; try with_reducible rfl)); try simp only [Act.put, pu1, pu2, pu3, pu4, pu5, pu6]
          refine WalkT.quiet (i := 11) (v := ?_) rfl (by kernel_rfl) (by kernel_rfl) (by kernel_rfl) (fun _ _ _ h => h) (Or.inl ⟨by go_simp, ?_⟩) ?_; rotate_left; (· (intro wS hSw; (try dsimp only at hSw); go_simp; try with_reducible rfl)); try simp only [Act.put, pu1, pu2, pu3, pu4, pu5, pu6]
          refine WalkT.quiet (i := 12) (v := ?_) rfl (by kernel_rfl) (by kernel_rfl) (by kernel_rfl) (fun _ _ _ h => h) (Or.inl ⟨by go_simp, ?_⟩) ?_; rotate_left; (· (intro wS hSw; (try dsimp only at hSw); go_simp; try with_reducible rfl)); try simp only [Act.put, pu1, pu2, pu3, pu4, pu5, pu6]
          refine WalkT.take (i := 13) (v := ?_) rfl (by kernel_rfl) (by kernel_rfl) (by kernel_rfl) (by kernel_rfl) (fun _ _ _ h => h) (⟨y0, y1, y2, x0, x1, x2⟩) (Or.inl ⟨by go_simp, ?_⟩) ?_; rotate_left; (· (intro wS hSw; obtain ⟨s0, s1, s2, s3, s4, s5⟩ := hSw; go_simp; try with_reducible rfl)); try simp only [Act.put, pu1, pu2, pu3, pu4, pu5, pu6]
          have hF := HF.out
          refine WalkT.ready (rs := [14]) (by kernel_rfl) (by simp) (AllT.cons rfl (fun K hK => ?_) AllT.nil); go_simp
          refine (HC.out L[q + 1] L[q] _).mono ?_
          rintro e w2 ⟨rfl, hb2⟩
          have HR2 := Lib.hid (And.intro (HRd.out.1.below hb2 HRd.out.1.2.2) (grown_trans HRd.out.2 (grown_below (some g) hb2)))
          clear hb2 y0 y1 y2 x0 x1 x2 HRd hF
          refine hK.out _ _ (fun h => absurd h (by decide)) ?_; clear hK K; try simp only [Act.put, pu1, pu2, pu3, pu4, pu5, pu6]
          refine WalkT.quiet (i := 15) (v := ?_) rfl (by kernel_rfl) (by kernel_rfl) (by kernel_rfl) (fun _ _ _ h => h) (Or.inl ⟨by go_simp, ?_⟩) ?_; rotate_left; (· (intro wS hSw; (try dsimp only at hSw); go_simp; try with_reducible rfl)); try simp only [Act.put, pu1, pu2, pu3, pu4, pu5, pu6]
          refine WalkT.quiet (i := 16) (v := ?_) rfl (by kernel_rfl) (by kernel_rfl) (by kernel_rfl) (fun _ _ _ h => h) (Or.inl ⟨by go_simp, ?_⟩) ?_; rotate_left; (· (intro wS hSw; (try dsimp only at hSw); go_simp; try with_reducible rfl)); try simp only [Act.put, pu1, pu2, pu3, pu4, pu5, pu6]
          refine WalkT.done (by kernel_rfl) ?_
          have hcm := cmpB_less L[q + 1].cust L[q].cust
          by_cases hx : cmpB L[q + 1].cust L[q].cust < 0
          · have HST := Lib.hid (HA.out.1.step hql (hcm.1 hx))
            have hx1 : decide (cmpB L[q + 1].cust L[q].cust < 0) = true := by simpa using hx
            clear hcm
            go_wp2_with fail
            obtain ⟨y0, y1, y2⟩ := drp_at (HR2.out.1.1 (q + 1) hql)
            obtain ⟨x0, x1, x2⟩ := drp_at (HR2.out.1.1 q hq0)
            simp only [Nat.zero_add] at y0 y1 y2 x0 x1 x2
            refine WalkT.start (fun W => W.cell? ⟨g, (q + 1) * 3, none⟩ = some (.string L[q + 1].cust) ∧ W.cell? ⟨g, (q + 1) * 3 + 1, none⟩ = some (.string L[q + 1].spl) ∧ W.cell? ⟨g, (q + 1) * 3 + 2, none⟩ = some (.int .i64 L[q + 1].port) ∧ W.cell? ⟨g, q * 3, none⟩ = some (.string L[q].cust) ∧ W.cell? ⟨g, q * 3 + 1, none⟩ = some (.string L[q].spl) ∧ W.cell? ⟨g, q * 3 + 2, none⟩ = some (.int .i64 L[q].port)) [15, 17] (by kernel_rfl) ?_
            have HR3 := Lib.hid (And.intro (HR2.out.1.kept (w' := w2.drew) rfl (Nat.le_refl _)) (grown_trans HR2.out.2 (grown_below (some g) (Below.drew (Below.refl _ w2)))))
            clear y0 y1 y2 x0 x1 x2
            generalize w2.drew = w3 at *
            obtain ⟨y0, y1, y2⟩ := drp_at (HR3.out.1.1 (q + 1) hql)
            obtain ⟨x0, x1, x2⟩ := drp_at (HR3.out.1.1 q hq0)
            have fz := HR3.out.1.2.1
            simp only [Nat.zero_add] at y0 y1 y2 x0 x1 x2
            refine WalkT.quiet (i := 0) (v := ?_) rfl (by kernel_rfl) (by kernel_rfl) (by kernel_rfl) (fun _ _ _ h => h) (Or.inl ⟨by rfl, ?_⟩) ?_; rotate_left; (· (intro wS hSw; (try dsimp only at hSw); go_simp; try with_reducible rfl)); try simp only [Act.put, pu1, pu2, pu3, pu4, pu5, pu6]
            refine WalkT.quiet (i := 1) (v := ?_) rfl (by kernel_rfl) (by kernel_rfl) (by kernel_rfl) (fun _ _ _ h => h) (Or.inl ⟨by rfl, ?_⟩) ?_; rotate_left; (· (intro wS hSw; (try dsimp only at hSw); go_simp; try with_reducible rfl)); try simp only [Act.put, pu1, pu2, pu3, pu4, pu5, pu6]
            refine WalkT.quiet (i := 2) (v := ?_) rfl (by kernel_rfl) (by kernel_rfl) (by kernel_rfl) (fun _ _ _ h => h) (Or.inl ⟨by rfl, ?_⟩) ?_; rotate_left; (· (intro wS hSw; (try dsimp only at hSw); go_simp; try with_reducible rfl)); try simp only [Act.put, pu1, pu2, pu3, pu4, pu5, pu6]
            refine WalkT.quiet (i := 3) (v := ?_) rfl (by kernel_rfl) (by kernel_rfl) (by kernel_rfl) (fun _ _ _ h => h) (Or.inl ⟨by rfl, ?_⟩) ?_; rotate_left; (· (intro wS hSw; (try dsimp only at hSw); go_simp; try with_reducible rfl)); try simp only [Act.put, pu1, pu2, pu3, pu4, pu5, pu6]
            refine WalkT.quiet (i := 4) (v := ?_) rfl (by kernel_rfl) (by kernel_rfl) (by kernel_rfl) (fun _ _ _ h => h) (Or.inl ⟨by rfl, ?_⟩) ?_; rotate_left; (· (intro wS hSw; (try dsimp only at hSw); go_simp; try with_reducible rfl)); try simp only [Act.put, pu1, pu2, pu3, pu4, pu5, pu6]
            refine WalkT.quiet (i := 5) (v := ?_) rfl (by kernel_rfl) (by kernel_rfl) (by kernel_rfl) (fun _ _ _ h => h) (Or.inl ⟨by rfl, ?_⟩) ?_; rotate_left; (· (intro wS hSw; (try dsimp only at hSw); go_simp; try with_reducible rfl)); try simp only [Act.put, pu1, pu2, pu3, pu4, pu5, pu6]
            refine WalkT.quiet (i := 6) (v := ?_) rfl (by kernel_rfl) (by kernel_rfl) (by kernel_rfl) (fun _ _ _ h => h) (Or.inl ⟨by rfl, ?_⟩) ?_; rotate_left; (· (intro wS hSw; (try dsimp only at hSw); go_simp; try with_reducible rfl)); try simp only [Act.put, pu1, pu2, pu3, pu4, pu5, pu6]
            refine WalkT.quiet (i := 7) (v := ?_) rfl (by kernel_rfl) (by kernel_rfl) (by kernel_rfl) (fun _ _ _ h => h) (Or.inl ⟨by rfl, ?_⟩) ?_; rotate_left; (· (intro wS hSw; (try dsimp only at hSw); go_simp; try with_reducible rfl)); try simp only [Act.put, pu1, pu2, pu3, pu4, pu5, pu6]
            refine WalkT.quiet (i := 8) (v := ?_) rfl (by kernel_rfl) (by kernel_rfl) (by kernel_rfl) (fun _ _ _ h => h) (Or.inl ⟨by rfl, ?_⟩) ?_; rotate_left; (· (intro wS hSw; (try dsimp only at hSw); go_simp; try with_reducible rfl)); try simp only [Act.put, pu1, pu2, pu3, pu4, pu5, pu6]
            refine WalkT.take (i := 9) (v := ?_) rfl (by kernel_rfl) (by kernel_rfl) (by kernel_rfl) (by kernel_rfl) (fun _ _ _ h => h) (⟨y0, y1, y2, x0, x1, x2⟩) (Or.inl ⟨by rfl, ?_⟩) ?_; rotate_left; (· (intro wS hSw; obtain ⟨s0, s1, s2, s3, s4, s5⟩ := hSw; go_simp; try with_reducible rfl)); try simp only [Act.put, pu1, pu2, pu3, pu4, pu5, pu6]
            refine WalkT.quiet (i := 10) (v := ?_) rfl (by kernel_rfl) (by kernel_rfl) (by kernel_rfl) (fun _ _ _ h => h) (Or.inl ⟨by rfl, ?_⟩) ?_; rotate_left; (· (intro wS hSw; (try dsimp only at hSw); go_simp; try with_reducible rfl)); try simp only [Act.put, pu1, pu2, pu3, pu4, pu5, pu6]
            refine WalkT.quiet (i := 11) (v := ?_) rfl (by kernel_rfl) (by kernel_rfl) (by kernel_rfl) (fun _ _ _ h => h) (Or.inl ⟨by rfl, ?_⟩) ?_; rotate_left; (· (intro wS hSw; (try dsimp only at hSw); go_simp; try with_reducible rfl)); try simp only [Act.put, pu1, pu2, pu3, pu4, pu5, pu6]
            refine WalkT.quiet (i := 12) (v := ?_) rfl (by kernel_rfl) (by kernel_rfl) (by kernel_rfl) (fun _ _ _ h => h) (Or.inl ⟨by rfl, ?_⟩) ?_; rotate_left; (· (intro wS hSw; (try dsimp only at hSw); go_simp; try with_reducible rfl)); try simp only [Act.put, pu1, pu2, pu3, pu4, pu5, pu6]
            refine WalkT.take (i := 13) (v := ?_) rfl (by kernel_rfl) (by kernel_rfl) (by kernel_rfl) (by kernel_rfl) (fun _ _ _ h => h) (⟨y0, y1, y2, x0, x1, x2⟩) (Or.inl ⟨by rfl, ?_⟩) ?_; rotate_left; (· (intro wS hSw; obtain ⟨s0, s1, s2, s3, s4, s5⟩ := hSw; go_simp; try with_reducible rfl)); try simp only [Act.put, pu1, pu2, pu3, pu4, pu5, pu6]
            refine WalkT.quiet (i := 14) (v := ?_) rfl (by kernel_rfl) (by kernel_rfl) (by kernel_rfl) (fun _ _ _ h => h) (Or.inl ⟨by rfl, ?_⟩) ?_; rotate_left; (· (intro wS hSw; (try dsimp only at hSw); go_simp; try with_reducible rfl)); try simp only [Act.put, pu1, pu2, pu3, pu4, pu5, pu6]
            refine WalkT.ready (rs := [15]) (by kernel_rfl) (by simp) (AllT.cons rfl (fun K hK => ?_) AllT.nil); go_simp
            refine hK.out _ _ (fun h => absurd h (by decide)) ?_; clear hK K; try simp only [Act.put, pu1, pu2, pu3, pu4, pu5, pu6]
            refine WalkT.quiet (i := 16) (v := ?_) rfl (by kernel_rfl) (by kernel_rfl) (by kernel_rfl) (fun _ _ _ h => h) (Or.inl ⟨by rfl, ?_⟩) ?_; rotate_left; (· (intro wS hSw; (try dsimp only at hSw); go_simp; try with_reducible rfl)); try simp only [Act.put, pu1, pu2, pu3, pu4, pu5, pu6]
            refine WalkT.ready (rs := [17]) (by kernel_rfl) (by simp) (AllT.cons rfl (fun K hK => ?_) AllT.nil); go_simp
            refine hK.out _ _ (fun h => absurd h (by decide)) ?_; clear hK K; try simp only [Act.put, pu1, pu2, pu3, pu4, pu5, pu6]
            refine WalkT.done (by kernel_rfl) ?_
            have hrow2 := Row.set Drp.cells_len (Row.set Drp.cells_len HR3.out.1 (q + 1) hql L[q]) q (by rw [List.length_set]; exact hq0) L[q + 1]
            have hgr := grown_trans HR3.out.2 (grown_trans (grown_setCells g (Drp.cells L[q]) ((q + 1) * 3) w3) (grown_setCells g (Drp.cells L[q + 1]) (q * 3) _))
            have HFIN : Hid (Row Drp.cells 3 (((((((w3).setCell ⟨g, ((q + 1) * 3), none⟩ (.string (L[q]).cust)).setCell ⟨g, ((q + 1) * 3) + 1, none⟩ (.string (L[q]).spl)).setCell ⟨g, ((q + 1) * 3) + 2, none⟩ (.int .i64 (L[q]).port)).setCell ⟨g, (q * 3), none⟩ (.string (L[q + 1]).cust)).setCell ⟨g, (q * 3) + 1, none⟩ (.string (L[q + 1]).spl)).setCell ⟨g, (q * 3) + 2, none⟩ (.int .i64 (L[q + 1]).port)) g (swapL L q hql) ∧ w.grownBy (((((((w3).setCell ⟨g, ((q + 1) * 3), none⟩ (.string (L[q]).cust)).setCell ⟨g, ((q + 1) * 3) + 1, none⟩ (.string (L[q]).spl)).setCell ⟨g, ((q + 1) * 3) + 2, none⟩ (.int .i64 (L[q]).port)).setCell ⟨g, (q * 3), none⟩ (.string (L[q + 1]).cust)).setCell ⟨g, (q * 3) + 1, none⟩ (.string (L[q + 1]).spl)).setCell ⟨g, (q * 3) + 2, none⟩ (.int .i64 (L[q + 1]).port)) (some g)) := ⟨hrow2, hgr⟩
            clear hrow2 hgr y0 y1 y2 x0 x1 x2 fz
            go_wp2
            exact ⟨⟨q, swapL L q hql, by go_num, HST.out, HFIN.out.1, HFIN.out.2⟩, by simp [intOf]⟩
          · have hx1 : decide (cmpB L[q + 1].cust L[q].cust < 0) = false := by simpa using hx
            have hxf : lessB L[q + 1].cust L[q].cust = false := by
              cases h : lessB L[q + 1].cust L[q].cust
              · rfl
              · exact absurd (hcm.2 h) hx
            have HXF := Lib.hid hxf
            clear hcm hxf
            go_wp2
            exact ⟨⟨i + 1, L, by omega, by omega, by go_num, HA.out.1.perm, HA.out.1.stop (fun k hk => by have e := Nat.succ.inj hk; subst e; exact HXF.out), HR2.out.1, HR2.out.2⟩, by simp [intOf]; omega⟩
    · go_wp2
      ((try simp only [Exit.inBlock, Exit.then]); refine bodyPost_end (results_none rfl _ _ _) rfl ?_)
      obtain rfl | hn : i = l.length ∨ l.length = 0 := by omega
      · exact ⟨rfl, L, HI.out.1, by rw [hln]; exact HI.out.2.1, HI.out.2.2.1, HI.out.2.2.2⟩
      · exact ⟨rfl, L, HI.out.1, (fun p q h1 h2 _ => by omega), HI.out.2.2.1, HI.out.2.2.2⟩
end Go.Proofs.YtcecpodbmjghhaaGreat
--TWIN --!def BY = tree.byCustomer
/- Walk: slices.SortStableFunc of less than twenty. -/
--TWIN import Derived.Test.YtcecpodbmjghhaaGreatSortD
namespace Go.Proofs.YtcecpodbmjghhaaGreat
open Go Go.RowKit
set_option maxHeartbeats 4000000 in
set_option maxRecDepth 100000 in
theorem isort0_splt (F : FuncId) (w : World) : Calls Tryz.prog 135 #[.slice none 0 0, .int .i64 0, .int .i64 0, .func (.func F) #[] #[]] w fun e w' => e = .returned (.tuple #[]) ∧ w' = w := by
  go_enter Tryz.func135, Tryz.ntmps135
  go_wp2
  go_loopw [8] (fun iv wr => iv = .int .i64 1 ∧ wr = w) (fun _ _ => 0)
  case atStart => exact ⟨rfl, rfl⟩
  case round =>
    obtain ⟨rfl, hw⟩ := hrel
    have hw := hw.symm
    subst hw
    go_wp2
    ((try simp only [Exit.inBlock, Exit.then]); refine bodyPost_end (results_none rfl _ _ _) rfl ?_)
    exact ⟨rfl, rfl⟩
theorem isortV_splt (v : Value) (l : List Splt) (F : FuncId) (base : Nat) (w : World) (hv : RowV Splt.cells 4 base w v l) (hl : l.length ≤ 100000)
    (hF : ∀ (args : Array Value) (w : World), (callFunc F args).run Tryz.prog w = .ok (.enter F args) w)
    (hcall : ∀ (x y : Splt) (w' : World), Calls Tryz.prog F #[.agg #[.string (x).key, .int .i64 (x).ways, .string (x).par, .int .i64 (x).port], .agg #[.string (y).key, .int .i64 (y).ways, .string (y).par, .int .i64 (y).port]] w' fun e w'' => e = .returned (.int .i64 (cmpB x.key y.key)) ∧ Below w'.heap.size w' w'') :
    Calls Tryz.prog 135 #[v, .int .i64 0, .int .i64 l.length, .func (.func F) #[] #[]] w
    fun e w' => e = .returned (.tuple #[]) ∧ ∃ L, L.Perm l ∧ SortTo Splt.key L L.length ∧ RowV Splt.cells 4 base w' v L ∧ w.grownBy w' v.ownBlock := by
  rcases hv with ⟨rfl, rfl⟩ | ⟨g, cap, rfl, hg, hc, hm, hr⟩
  · refine (isort0_splt F w).mono ?_
    rintro e w' ⟨rfl, rfl⟩
    exact ⟨rfl, [], List.Perm.refl _, (fun p q h1 h2 _ => by simp at h2), .inl ⟨rfl, rfl⟩, grown_below _ (Below.refl _ _)⟩
  · refine (isort_splt g cap l F w hr hc hm hl hF hcall).mono ?_
    rintro e w' ⟨rfl, L, hp, hs, hr2, hg2⟩
    exact ⟨rfl, L, hp, hs, .inr ⟨g, cap, by rw [hp.length_eq], hg, by rw [hp.length_eq]; exact hc, hm, hr2⟩, hg2⟩
set_option maxHeartbeats 4000000 in
set_option maxRecDepth 100000 in
theorem stab_splt (v : Value) (l : List Splt) (F : FuncId) (base : Nat) (w : World) (hv : RowV Splt.cells 4 base w v l) (hl : l.length < 20)
    (hF : ∀ (args : Array Value) (w : World), (callFunc F args).run Tryz.prog w = .ok (.enter F args) w)
    (hcall : ∀ (x y : Splt) (w' : World), Calls Tryz.prog F #[.agg #[.string (x).key, .int .i64 (x).ways, .string (x).par, .int .i64 (x).port], .agg #[.string (y).key, .int .i64 (y).ways, .string (y).par, .int .i64 (y).port]] w' fun e w'' => e = .returned (.int .i64 (cmpB x.key y.key)) ∧ Below w'.heap.size w' w'') :
    Calls Tryz.prog 115 #[v, .int .i64 l.length, .func (.func F) #[] #[]] w
    fun e w' => e = .returned (.tuple #[]) ∧ ∃ L, L.Perm l ∧ SortTo Splt.key L L.length ∧ RowV Splt.cells 4 base w' v L ∧ w.grownBy w' v.ownBlock := by
  have HV := Lib.hid (And.intro hv (And.intro hF hcall))
  clear hv hF hcall
  go_enter Tryz.func115, Tryz.ntmps115
  go_wp2
  go_loopw [7, 8] (fun av bv wr => av = .int .i64 0 ∧ bv = .int .i64 20 ∧ wr = w) (fun _ _ _ => 0)
  case atStart => exact ⟨rfl, rfl, rfl⟩
  case round =>
    obtain ⟨rfl, rfl, hw⟩ := hrel
    have hw := hw.symm
    subst hw
    go_wp2_with fail
    refine (isortV_splt v l F base _ HV.out.1 (by omega) HV.out.2.1 HV.out.2.2).mono ?_
    rintro e w1 ⟨rfl, L, hp, hs, hr, hg⟩
    have HR := Lib.hid (And.intro hp (And.intro hs (And.intro hr hg)))
    clear hp hs hr hg
    go_wp2
    go_loopw [6] (fun kv wr => kv = .int .i64 20 ∧ wr = w1) (fun _ _ => 0)
    case atStart => exact ⟨rfl, rfl⟩
    case round =>
      obtain ⟨rfl, hw⟩ := hrel
      have hw := hw.symm
      subst hw
      go_wp2
      ((try simp only [Exit.inBlock, Exit.then]); refine bodyPost_end (results_none rfl _ _ _) rfl ?_)
      exact ⟨rfl, L, HR.out.1, HR.out.2.1, HR.out.2.2.1, HR.out.2.2.2⟩
theorem by_splt (x y : Splt) (w : World) : Calls Tryz.prog 79 #[.agg #[.string (x).key, .int .i64 (x).ways, .string (x).par, .int .i64 (x).port], .agg #[.string (y).key, .int .i64 (y).ways, .string (y).par, .int .i64 (y).port]] w fun e w'' => e = .returned (.int .i64 (cmpB x.key y.key)) ∧ Below w.heap.size w w'' := by
  go_enter Tryz.func79, Tryz.ntmps79
  go_wp2_with (go_at_call 53; refine (Tryz.strings_Compare _ _ _).mono ?_; rintro e w' ⟨rfl, rfl⟩)
  go_ret
  exact ⟨rfl, by (repeat (first | exact Below.refl _ _ | assumption | refine below_draws ?_ _ | refine Below.drew ?_ | refine below_alloc ?_ _ (by first | omega | (simp; done) | (simp; omega)) | refine Below.setCell ?_ (by first | omega | (simp; done) | (simp; omega)) _ | refine below_at ?_ (by assumption) (by first | omega | (simp; done) | (simp; omega))))⟩
set_option maxHeartbeats 1000000 in
theorem stable_splt (v : Value) (l : List Splt) (base : Nat) (w : World) (hv : RowV Splt.cells 4 base w v l) (hl : l.length < 20) :
    Calls Tryz.prog 78 #[v, .func (.func 79) #[] #[]] w
    fun e w' => e = .returned (.tuple #[]) ∧ ∃ L, L.Perm l ∧ SortTo Splt.key L L.length ∧ RowV Splt.cells 4 base w' v L ∧ w.grownBy w' v.ownBlock := by
  have HV := Lib.hid hv
  obtain ⟨a, cap, rfl⟩ := hv.slice
  have hF : ∀ (args : Array Value) (w : World), (callFunc 79 args).run Tryz.prog w = .ok (.enter 79 args) w := run_fn Tryz.func79 (by kernel_rfl) rfl
  clear hv
  go_enter Tryz.func78, Tryz.ntmps78
  go_wp2_with (refine (stab_splt _ l _ base _ HV.out hl hF by_splt).mono ?_; rintro e w1 ⟨rfl, L, hp, hs, hr, hg⟩; have HR := Lib.hid (And.intro hp (And.intro hs (And.intro hr hg))); clear hp hs hr hg)
  ((try simp only [Exit.inBlock, Exit.then]); refine bodyPost_end (results_none rfl _ _ _) rfl ?_)
  exact ⟨rfl, L, HR.out.1, HR.out.2.1, HR.out.2.2.1, HR.out.2.2.2⟩
end Go.Proofs.YtcecpodbmjghhaaGreat
/- Walk: slices.SortStableFunc of less than twenty. -/
namespace Go.Proofs.YtcecpodbmjghhaaGreat
open Go Go.RowKit
set_option maxHeartbeats 4000000 in
set_option maxRecDepth 100000 in
theorem isort0_drp (F : FuncId) (w : World) : Calls Tryz.prog 137 #[.slice none 0 0, .int .i64 0, .int .i64 0, .func (.func F) #[] #[]] w fun e w' => e = .returned (.tuple #[]) ∧ w' = w := by
  go_enter Tryz.func137, Tryz.ntmps137
  go_wp2
  go_loopw [8] (fun iv wr => iv = .int .i64 1 ∧ wr = w) (fun _ _ => 0)
  case atStart => exact ⟨rfl, rfl⟩
  case round =>
    obtain ⟨rfl, hw⟩ := hrel
    have hw := hw.symm
    subst hw
    go_wp2
    ((try simp only [Exit.inBlock, Exit.then]); refine bodyPost_end (results_none rfl _ _ _) rfl ?_)
    exact ⟨rfl, rfl⟩
theorem isortV_drp (v : Value) (l : List Drp) (F : FuncId) (base : Nat) (w : World) (hv : RowV Drp.cells 3 base w v l) (hl : l.length ≤ 100000)
    (hF : ∀ (args : Array Value) (w : World), (callFunc F args).run Tryz.prog w = .ok (.enter F args) w)
    (hcall : ∀ (x y : Drp) (w' : World), Calls Tryz.prog F #[.agg #[.string (x).cust, .string (x).spl, .int .i64 (x).port], .agg #[.string (y).cust, .string (y).spl, .int .i64 (y).port]] w' fun e w'' => e = .returned (.int .i64 (cmpB x.cust y.cust)) ∧ Below w'.heap.size w' w'') :
    Calls Tryz.prog 137 #[v, .int .i64 0, .int .i64 l.length, .func (.func F) #[] #[]] w
    fun e w' => e = .returned (.tuple #[]) ∧ ∃ L, L.Perm l ∧ SortTo Drp.cust L L.length ∧ RowV Drp.cells 3 base w' v L ∧ w.grownBy w' v.ownBlock := by
  rcases hv with ⟨rfl, rfl⟩ | ⟨g, cap, rfl, hg, hc, hm, hr⟩
  · refine (isort0_drp F w).mono ?_
    rintro e w' ⟨rfl, rfl⟩
    exact ⟨rfl, [], List.Perm.refl _, (fun p q h1 h2 _ => by simp at h2), .inl ⟨rfl, rfl⟩, grown_below _ (Below.refl _ _)⟩
  · refine (isort_drp g cap l F w hr hc hm hl hF hcall).mono ?_
    rintro e w' ⟨rfl, L, hp, hs, hr2, hg2⟩
    exact ⟨rfl, L, hp, hs, .inr ⟨g, cap, by rw [hp.length_eq], hg, by rw [hp.length_eq]; exact hc, hm, hr2⟩, hg2⟩
set_option maxHeartbeats 4000000 in
set_option maxRecDepth 100000 in
theorem stab_drp (v : Value) (l : List Drp) (F : FuncId) (base : Nat) (w : World) (hv : RowV Drp.cells 3 base w v l) (hl : l.length < 20)
    (hF : ∀ (args : Array Value) (w : World), (callFunc F args).run Tryz.prog w = .ok (.enter F args) w)
    (hcall : ∀ (x y : Drp) (w' : World), Calls Tryz.prog F #[.agg #[.string (x).cust, .string (x).spl, .int .i64 (x).port], .agg #[.string (y).cust, .string (y).spl, .int .i64 (y).port]] w' fun e w'' => e = .returned (.int .i64 (cmpB x.cust y.cust)) ∧ Below w'.heap.size w' w'') :
    Calls Tryz.prog 116 #[v, .int .i64 l.length, .func (.func F) #[] #[]] w
    fun e w' => e = .returned (.tuple #[]) ∧ ∃ L, L.Perm l ∧ SortTo Drp.cust L L.length ∧ RowV Drp.cells 3 base w' v L ∧ w.grownBy w' v.ownBlock := by
  have HV := Lib.hid (And.intro hv (And.intro hF hcall))
  clear hv hF hcall
  go_enter Tryz.func116, Tryz.ntmps116
  go_wp2
  go_loopw [7, 8] (fun av bv wr => av = .int .i64 0 ∧ bv = .int .i64 20 ∧ wr = w) (fun _ _ _ => 0)
  case atStart => exact ⟨rfl, rfl, rfl⟩
  case round =>
    obtain ⟨rfl, rfl, hw⟩ := hrel
    have hw := hw.symm
    subst hw
    go_wp2_with fail
    refine (isortV_drp v l F base _ HV.out.1 (by omega) HV.out.2.1 HV.out.2.2).mono ?_
    rintro e w1 ⟨rfl, L, hp, hs, hr, hg⟩
    have HR := Lib.hid (And.intro hp (And.intro hs (And.intro hr hg)))
    clear hp hs hr hg
    go_wp2
    go_loopw [6] (fun kv wr => kv = .int .i64 20 ∧ wr = w1) (fun _ _ => 0)
    case atStart => exact ⟨rfl, rfl⟩
    case round =>
      obtain ⟨rfl, hw⟩ := hrel
      have hw := hw.symm
      subst hw
      go_wp2
      ((try simp only [Exit.inBlock, Exit.then]); refine bodyPost_end (results_none rfl _ _ _) rfl ?_)
      exact ⟨rfl, L, HR.out.1, HR.out.2.1, HR.out.2.2.1, HR.out.2.2.2⟩
theorem by_drp (x y : Drp) (w : World) : Calls Tryz.prog 81 #[.agg #[.string (x).cust, .string (x).spl, .int .i64 (x).port], .agg #[.string (y).cust, .string (y).spl, .int .i64 (y).port]] w fun e w'' => e = .returned (.int .i64 (cmpB x.cust y.cust)) ∧ Below w.heap.size w w'' := by
  go_enter Tryz.func81, Tryz.ntmps81
  go_wp2_with (go_at_call 53; refine (Tryz.strings_Compare _ _ _).mono ?_; rintro e w' ⟨rfl, rfl⟩)
  go_ret
  exact ⟨rfl, by (repeat (first | exact Below.refl _ _ | assumption | refine below_draws ?_ _ | refine Below.drew ?_ | refine below_alloc ?_ _ (by first | omega | (simp; done) | (simp; omega)) | refine Below.setCell ?_ (by first | omega | (simp; done) | (simp; omega)) _ | refine below_at ?_ (by assumption) (by first | omega | (simp; done) | (simp; omega))))⟩
set_option maxHeartbeats 1000000 in
theorem stable_drp (v : Value) (l : List Drp) (base : Nat) (w : World) (hv : RowV Drp.cells 3 base w v l) (hl : l.length < 20) :
    Calls Tryz.prog 80 #[v, .func (.func 81) #[] #[]] w
    fun e w' => e = .returned (.tuple #[]) ∧ ∃ L, L.Perm l ∧ SortTo Drp.cust L L.length ∧ RowV Drp.cells 3 base w' v L ∧ w.grownBy w' v.ownBlock := by
  have HV := Lib.hid hv
  obtain ⟨a, cap, rfl⟩ := hv.slice
  have hF : ∀ (args : Array Value) (w : World), (callFunc 81 args).run Tryz.prog w = .ok (.enter 81 args) w := run_fn Tryz.func81 (by kernel_rfl) rfl
  clear hv
  go_enter Tryz.func80, Tryz.ntmps80
  go_wp2_with (refine (stab_drp _ l _ base _ HV.out hl hF by_drp).mono ?_; rintro e w1 ⟨rfl, L, hp, hs, hr, hg⟩; have HR := Lib.hid (And.intro hp (And.intro hs (And.intro hr hg))); clear hp hs hr hg)
  ((try simp only [Exit.inBlock, Exit.then]); refine bodyPost_end (results_none rfl _ _ _) rfl ?_)
  exact ⟨rfl, L, HR.out.1, HR.out.2.1, HR.out.2.2.1, HR.out.2.2.2⟩
end Go.Proofs.YtcecpodbmjghhaaGreat
