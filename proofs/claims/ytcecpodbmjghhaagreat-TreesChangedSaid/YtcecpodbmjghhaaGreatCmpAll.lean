/- Texts of one subject in one: CompP, CmpS, CmpD, CmqS, CmqD, MergP; what each shows stands at its head. No condition. -/
import Derived.Test.YtcecpodbmjghhaaGreatSortAll
import Derived.Test.YtcecpodbmjghhaaGreatTreeAll
import Derived.Test.YtcecpodbmjghhaaGreatMemAll
import Derived.Test.YtcecpodbmjghhaaGreatOrders
import Derived.RegionTactic
import Derived.Shelf.Spec.SlicesInsert
/- Plain: neighbours that are one are put together. No program. -/
set_option linter.unusedVariables false
set_option linter.unusedSimpArgs false
namespace Go.Proofs.YtcecpodbmjghhaaGreat
section
variable {α : Type} [DecidableEq α]
theorem ccL_snoc : ∀ (A : List α) (x y : α), ccL (A ++ [x, y]) = if x = y then ccL (A ++ [x]) else ccL (A ++ [x]) ++ [y]
  | [], x, y => by
    by_cases h : x = y
    · subst h; simp [ccL]
    · simp [ccL, h]
  | [a], x, y => by
    have ih := ccL_snoc ([] : List α) x y
    simp only [List.nil_append, List.cons_append] at ih ⊢
    rw [ccL, ih]
    by_cases h : x = y
    · by_cases h2 : a = x
      · simp [ccL, h2, h]
      · simp [ccL, h2, h]
    · by_cases h2 : a = x
      · simp [ccL, h2, h]
      · simp [ccL, h2, h]
  | a :: b :: A, x, y => by
    have ih := ccL_snoc (b :: A) x y
    simp only [List.cons_append] at ih ⊢
    rw [ccL, ih]
    by_cases h : x = y
    · simp only [if_pos h]; conv => rhs; rw [ccL]
    · simp only [if_neg h]
      by_cases h2 : a = b
      · rw [if_pos h2]; conv => rhs; rw [ccL, if_pos h2]
      · rw [if_neg h2]; conv => rhs; rw [ccL, if_neg h2]
        rfl
theorem ccL_take (L : List α) (k : Nat) (h : k + 1 < L.length) : ccL (L.take (k + 2)) = if L[k] = L[k + 1] then ccL (L.take (k + 1)) else ccL (L.take (k + 1)) ++ [L[k + 1]] := by
  have h0 : k < L.length := by omega
  have e1 : L.take (k + 1) = L.take k ++ [L[k]] := List.take_succ_eq_append_getElem h0
  have e3 : L.take (k + 1 + 1) = L.take (k + 1) ++ [L[k + 1]] := List.take_succ_eq_append_getElem h
  have e2 : L.take (k + 2) = L.take k ++ [L[k], L[k + 1]] := by
    refine e3.trans ?_
    rw [e1, List.append_assoc]; rfl
  rw [e2, e1]; exact ccL_snoc _ _ _
theorem ccL_le : ∀ L : List α, (ccL L).length ≤ L.length
  | [] => by simp [ccL]
  | [x] => by simp [ccL]
  | x :: y :: L => by
    have ih := ccL_le (y :: L)
    rw [ccL]
    split
    · simp at ih ⊢; omega
    · simp at ih ⊢; omega
/-- the first p + 2 are looked at, kk of them kept in M -/
structure CompAt (L M : List α) (p kk : Nat) : Prop where
  pl : p + 1 < L.length
  len : M.length = L.length
  kl : kk = (ccL (L.take (p + 2))).length
  le : kk ≤ p + 1
  head : M.take kk = ccL (L.take (p + 2))
  tail : ∀ i (h : i < L.length), kk ≤ i → M[i]'(len ▸ h) = L[i]
theorem CompAt.start {L : List α} {p : Nat} (hp : p + 1 < L.length) (h : ccL (L.take (p + 1 + 1)) = L.take (p + 1)) : CompAt L L p (p + 1) := by
  have hl : (L.take (p + 1)).length = p + 1 := by rw [List.length_take]; omega
  exact ⟨hp, rfl, by rw [show p + 2 = p + 1 + 1 from rfl, h, hl], Nat.le_refl _, h.symm, fun i _ _ => rfl⟩
theorem CompAt.same {L M : List α} {p kk : Nat} (h : CompAt L M p kk) (hp : p + 2 < L.length) (he : L[p + 1] = L[p + 2]) : CompAt L M (p + 1) kk := by
  have h1 := ccL_take L (p + 1) hp
  rw [if_pos he] at h1
  exact ⟨hp, h.len, by rw [show p + 1 + 2 = p + 1 + 1 + 1 from rfl]; rw [h1]; exact h.kl, by have := h.le; omega, by rw [h1]; exact h.head, h.tail⟩
theorem CompAt.keep {L M : List α} {p kk : Nat} (h : CompAt L M p kk) (hp : p + 2 < L.length) (he : ¬ L[p + 1] = L[p + 2]) : CompAt L (M.set kk L[p + 2]) (p + 1) (kk + 1) := by
  have h1 := ccL_take L (p + 1) hp
  rw [if_neg he] at h1
  have hk : kk < M.length := by rw [h.len]; have := h.le; omega
  refine ⟨hp, by rw [List.length_set]; exact h.len, ?_, by have := h.le; omega, ?_, fun i hi hk2 => ?_⟩
  · rw [h1, List.length_append, ← h.kl]; rfl
  · rw [h1, ← h.head, List.take_succ_eq_append_getElem (by rw [List.length_set]; exact hk), List.getElem_set_self, List.take_set_of_le (Nat.le_refl _)]
  · rw [List.getElem_set_ne (by omega)]; exact h.tail i hi (by omega)
theorem CompAt.done {L M : List α} {p kk : Nat} (h : CompAt L M p kk) (hp : p + 2 = L.length) : M.take kk = ccL L ∧ kk = (ccL L).length := by
  have h1 := h.head
  have h2 := h.kl
  rw [hp, List.take_length] at h1 h2
  exact ⟨h1, h2⟩
end
end Go.Proofs.YtcecpodbmjghhaaGreat
--TWIN --!def AT = drp_at
--TWIN --!def PY = ⟨y0, y1, y2⟩
--TWIN --!def PX = ⟨x0, x1, x2⟩
--TWIN --!def YXS = y0 y1 y2 x0 x1 x2
--TWIN --!def YX = ⟨y0, y1, y2, x0, x1, x2⟩
--TWIN --!def SS = ⟨s0, s1, s2, s3, s4, s5⟩
--TWIN --!def SC = fun W => W.cell? ⟨g, (q + 1) * 3, none⟩ = some (.string l[q + 1].cust) ∧ W.cell? ⟨g, (q + 1) * 3 + 1, none⟩ = some (.string l[q + 1].spl) ∧ W.cell? ⟨g, (q + 1) * 3 + 2, none⟩ = some (.int .i64 l[q + 1].port) ∧ W.cell? ⟨g, q * 3, none⟩ = some (.string l[q].cust) ∧ W.cell? ⟨g, q * 3 + 1, none⟩ = some (.string l[q].spl) ∧ W.cell? ⟨g, q * 3 + 2, none⟩ = some (.int .i64 l[q].port)
--TWIN --!def NEI = x.cust.toList = y.cust.toList → x.spl.toList = y.spl.toList → ¬ x.port = y.port
--TWIN --!def XF = ⟨x1, x3, x4⟩
--TWIN --!def YF = ⟨y1, y3, y4⟩
--TWIN --!def HF = h1 h3
--TWIN --!def RWF = rw [toList_injC h1, toList_injC h3, h4]
--TWIN --!def ST(W,o,x) = ((($W$).setCell ⟨g, $o$, none⟩ (.string ($x$).cust)).setCell ⟨g, $o$ + 1, none⟩ (.string ($x$).spl)).setCell ⟨g, $o$ + 2, none⟩ (.int .i64 ($x$).port)
--TWIN --!def SCM(A,B,x,y) = fun W => W.cell? ⟨g, $A$, none⟩ = some (.string ($x$).cust) ∧ W.cell? ⟨g, $A$ + 1, none⟩ = some (.string ($x$).spl) ∧ W.cell? ⟨g, $A$ + 2, none⟩ = some (.int .i64 ($x$).port) ∧ W.cell? ⟨g, $B$, none⟩ = some (.string ($y$).cust) ∧ W.cell? ⟨g, $B$ + 1, none⟩ = some (.string ($y$).spl) ∧ W.cell? ⟨g, $B$ + 2, none⟩ = some (.int .i64 ($y$).port)
--TWIN --!def PZ = ⟨z0, z1, z2⟩
--TWIN --!def PYN = y0 y1 y2
--TWIN --!def PXN = x0 x1 x2
--TWIN --!def PZS = z0 z1 z2
/- Walk: slices.Compact of a row. -/
namespace Go.Proofs.YtcecpodbmjghhaaGreat
open Go Go.RowKit
--ONCE
theorem toList_injC {a b : ByteArray} (h : a.toList = b.toList) : a = b := data_inj (by rw [ByteArray.toList_eq, ByteArray.toList_eq] at h; exact h)
--ONCE END
theorem zeroC_splt (w : World) : (zeroValue 58).run Tryz.prog w = .ok (.agg #[.string ⟨#[]⟩, .int .i64 0, .string ⟨#[]⟩, .int .i64 0]) w := by kernel_rfl
theorem ne_splt {x y : Splt} (h : ¬ x = y) : x.key.toList = y.key.toList → x.ways = y.ways → x.par.toList = y.par.toList → ¬ x.port = y.port := by
  obtain ⟨x1, x2, x3, x4⟩ := x
  obtain ⟨y1, y2, y3, y4⟩ := y
  intro h1 h2 h3 h4
  exact h (by simp only at h1 h2 h3 h4; rw [toList_injC h1, h2, toList_injC h3, h4])
set_option maxHeartbeats 4000000 in
set_option maxRecDepth 100000 in
theorem comp_splt (g cap : Nat) (l : List Splt) (w : World) (hrow : Row Splt.cells 4 w g l) (hc : l.length ≤ cap) (hm : cap ≤ maxLen) (hl : l.length ≤ 10000) :
    Calls Tryz.prog 82 #[.slice (some ⟨g, 0, none⟩) l.length cap] w
    fun e w' => e = .returned (.slice (some ⟨g, 0, none⟩) (ccL l).length cap) ∧ Row Splt.cells 4 w' g (ccL l) ∧ w.grownBy w' (some g) := by
  have HR := Lib.hid hrow
  unfold maxLen at hm
  clear hrow
  by_cases h2 : l.length < 2
  · have he : ccL l = l := by
      match l, h2 with
      | [], _ => rfl
      | [x], _ => rfl
    rw [he]
    clear he
    go_enter Tryz.func82, Tryz.ntmps82
    go_wp2
    go_ret
    exact ⟨rfl, HR.out, grown_below _ (Below.refl _ _)⟩
  · go_enter Tryz.func82, Tryz.ntmps82
    go_wp2
    go_loopw [3] (fun kv wr => ∃ k : Nat, 1 ≤ k ∧ k ≤ l.length ∧ kv = .int .i64 k ∧ ccL (l.take k) = l.take k ∧ Below w.heap.size w wr) (fun kv _ => l.length - (intOf kv).toNat)
    case atStart => exact ⟨1, by omega, by omega, rfl, by cases l with | nil => rfl | cons x l => rfl, Below.refl _ _⟩
    case round =>
      obtain ⟨k, hk1, hk2, rfl, hcp, hB⟩ := hrel
      have HRk := Lib.hid (HR.out.below hB HR.out.2.2)
      have HK := Lib.hid (And.intro hcp hB)
      clear hcp hB
      obtain ⟨q, rfl⟩ : ∃ q, k = q + 1 := ⟨k - 1, by omega⟩
      by_cases hlt : q + 1 < l.length
      · have hq0 : q < l.length := by omega
        have HT := Lib.hid (ccL_take l q hlt)
        obtain ⟨y0, y1, y2, y3⟩ := splt_at (HRk.out.1 (q + 1) hlt)
        obtain ⟨x0, x1, x2, x3⟩ := splt_at (HRk.out.1 q hq0)
        simp only [Nat.zero_add] at y0 y1 y2 y3 x0 x1 x2 x3
        have b1 : (0 : Int) ≤ (q : Int) + 1 := by omega
        have b2 : (q : Int) + 1 < (l.length : Int) := by omega
        have b3 : (q : Int) < (l.length : Int) := by omega
        have b4 : (0 : Int) ≤ (q : Int) := by omega
        have b5 : IntKind.i64.wrap (q : Int) = (q : Int) := IntWalk.i64_in _ (by omega)
        go_wp2_with fail
        refine WalkT.start (fun W => W.cell? ⟨g, (q + 1) * 4, none⟩ = some (.string l[q + 1].key) ∧ W.cell? ⟨g, (q + 1) * 4 + 1, none⟩ = some (.int .i64 l[q + 1].ways) ∧ W.cell? ⟨g, (q + 1) * 4 + 2, none⟩ = some (.string l[q + 1].par) ∧ W.cell? ⟨g, (q + 1) * 4 + 3, none⟩ = some (.int .i64 l[q + 1].port) ∧ W.cell? ⟨g, q * 4, none⟩ = some (.string l[q].key) ∧ W.cell? ⟨g, q * 4 + 1, none⟩ = some (.int .i64 l[q].ways) ∧ W.cell? ⟨g, q * 4 + 2, none⟩ = some (.string l[q].par) ∧ W.cell? ⟨g, q * 4 + 3, none⟩ = some (.int .i64 l[q].port)) [] (by kernel_rfl) ?_
        have HRd := Lib.hid (And.intro (HRk.out.kept (w' := wr.drew) rfl (Nat.le_refl _)) (Below.drew HK.out.2))
        clear y0 y1 y2 y3 x0 x1 x2 x3
        generalize wr.drew = w1 at *
        obtain ⟨y0, y1, y2, y3⟩ := splt_at (HRd.out.1.1 (q + 1) hlt)
        obtain ⟨x0, x1, x2, x3⟩ := splt_at (HRd.out.1.1 q hq0)
        simp only [Nat.zero_add] at y0 y1 y2 y3 x0 x1 x2 x3
        refine WalkT.quiet (i := 0) (v := ?_) rfl (by kernel_rfl) (by kernel_rfl) (by kernel_rfl) (fun _ _ _ h => h) (Or.inl ⟨by rfl, ?_⟩) ?_; rotate_left; (· (intro wS hSw; (try dsimp only at hSw); go_simp; try with_reducible rfl)); try simp only [Act.put, pu1, pu2, pu3, pu4, pu5, pu6]
        refine WalkT.quiet (i := 1) (v := ?_) rfl (by kernel_rfl) (by kernel_rfl) (by kernel_rfl) (fun _ _ _ h => h) (Or.inl ⟨by rfl, ?_⟩) ?_; rotate_left; (· (intro wS hSw; (try dsimp only at hSw); go_simp; try with_reducible rfl)); try simp only [Act.put, pu1, pu2, pu3, pu4, pu5, pu6]
        refine WalkT.quiet (i := 2) (v := ?_) rfl (by kernel_rfl) (by kernel_rfl) (by kernel_rfl) (fun _ _ _ h => h) (Or.inl ⟨by rfl, ?_⟩) ?_; rotate_left; (· (intro wS hSw; (try dsimp only at hSw); go_simp; try with_reducible rfl)); try simp only [Act.put, pu1, pu2, pu3, pu4, pu5, pu6]
        refine WalkT.take (i := 3) (v := ?_) rfl (by kernel_rfl) (by kernel_rfl) (by kernel_rfl) (by kernel_rfl) (fun _ _ _ h => h) (⟨y0, y1, y2, y3, x0, x1, x2, x3⟩) (Or.inl ⟨by rfl, ?_⟩) ?_; rotate_left; (· (intro wS hSw; obtain ⟨s0, s1, s2, s3, s4, s5, s6, s7⟩ := hSw; go_simp; try with_reducible rfl)); try simp only [Act.put, pu1, pu2, pu3, pu4, pu5, pu6]
        refine WalkT.quiet (i := 4) (v := ?_) rfl (by kernel_rfl) (by kernel_rfl) (by kernel_rfl) (fun _ _ _ h => h) (Or.inl ⟨by rfl, ?_⟩) ?_; rotate_left; (· (intro wS hSw; (try dsimp only at hSw); go_simp; try with_reducible rfl)); try simp only [Act.put, pu1, pu2, pu3, pu4, pu5, pu6]
        refine WalkT.quiet (i := 5) (v := ?_) rfl (by kernel_rfl) (by kernel_rfl) (by kernel_rfl) (fun _ _ _ h => h) (Or.inl ⟨by rfl, ?_⟩) ?_; rotate_left; (· (intro wS hSw; (try dsimp only at hSw); go_simp; try with_reducible rfl)); try simp only [Act.put, pu1, pu2, pu3, pu4, pu5, pu6]
        refine WalkT.quiet (i := 6) (v := ?_) rfl (by kernel_rfl) (by kernel_rfl) (by kernel_rfl) (fun _ _ _ h => h) (Or.inl ⟨by rfl, ?_⟩) ?_; rotate_left; (· (intro wS hSw; (try dsimp only at hSw); go_simp; try with_reducible rfl)); try simp only [Act.put, pu1, pu2, pu3, pu4, pu5, pu6]
        refine WalkT.quiet (i := 7) (v := ?_) rfl (by kernel_rfl) (by kernel_rfl) (by kernel_rfl) (fun _ _ _ h => h) (Or.inl ⟨by rfl, ?_⟩) ?_; rotate_left; (· (intro wS hSw; (try dsimp only at hSw); go_simp; try with_reducible rfl)); try simp only [Act.put, pu1, pu2, pu3, pu4, pu5, pu6]
        refine WalkT.take (i := 8) (v := ?_) rfl (by kernel_rfl) (by kernel_rfl) (by kernel_rfl) (by kernel_rfl) (fun _ _ _ h => h) (⟨y0, y1, y2, y3, x0, x1, x2, x3⟩) (Or.inl ⟨by rfl, ?_⟩) ?_; rotate_left; (· (intro wS hSw; obtain ⟨s0, s1, s2, s3, s4, s5, s6, s7⟩ := hSw; go_simp; try with_reducible rfl)); try simp only [Act.put, pu1, pu2, pu3, pu4, pu5, pu6]
        by_cases he : l[q + 1] = l[q]
        · refine WalkT.quiet (i := 9) (v := .bool true) rfl (by kernel_rfl) (by kernel_rfl) (by kernel_rfl) (fun _ _ _ h => h) (Or.inl ⟨by rfl, ?_⟩) ?_; (· (intro wS hSw; clear hSw; go_simp; (try exact rfl))); try simp only [Act.put, pu1, pu2, pu3, pu4, pu5, pu6]
          refine WalkT.done (by kernel_rfl) ?_
          have HRD := HRd
          have HI : Hid (ccL (l.take (q + 1 + 1)) = l.take (q + 1)) := by
            have h1 := HT.out
            rw [if_pos he.symm, HK.out.1] at h1; exact h1
          clear y0 y1 y2 y3 x0 x1 x2 x3 he HT HRk
          go_wp2_with fail
          go_loopw [3, 5] (fun kv jv wr => ∃ (kk m : Nat) (M : List Splt), q + 1 + (m + 1) ≤ l.length ∧ kv = .int .i64 kk ∧ jv = .int .i64 ((m : Int) + 1) ∧ CompAt l M (q + m) kk ∧ Row Splt.cells 4 wr g M ∧ w.grownBy wr (some g)) (fun _ jv _ => l.length - (intOf jv).toNat)
          case atStart => exact ⟨q + 1, 0, l, by omega, by go_num, by go_num, CompAt.start hlt HI.out, HRD.out.1, grown_below _ HRD.out.2⟩
          case round =>
            obtain ⟨kk, m, M, hm1, rfl, rfl, hA, hr, hg⟩ := hrel
            have hA1 := hA.len
            have hA2 := hA.le
            have HA := Lib.hid (And.intro hA (And.intro hr hg))
            clear hA hr hg
            by_cases hlm : q + 1 + (m + 1) < l.length
            · have b6 : (m : Int) + 1 < ((l.length - (q + 1) : Nat) : Int) := by omega
              have b7 : (m : Int) < ((l.length - (q + 1) : Nat) : Int) := by omega
              have b8 : (0 : Int) ≤ (m : Int) + 1 := by omega
              have b9 : (0 : Int) ≤ (m : Int) := by omega
              have b10 : IntKind.i64.wrap (m : Int) = (m : Int) := IntWalk.i64_in _ (by omega)
              have hi2 : q + m + 2 < l.length := by omega
              have hi1 : q + m + 1 < l.length := by omega
              go_wp2_with fail
              have t2 := HA.out.1.tail (q + m + 2) hi2 (by omega)
              have t1 := HA.out.1.tail (q + m + 1) hi1 (by omega)
              have HX : Hid (∀ W : World, Row Splt.cells 4 W g M → (fun W => W.cell? ⟨g, ((q + 1) * 4 + (m + 1) * 4), none⟩ = some (.string (l[q + m + 2]).key) ∧ W.cell? ⟨g, ((q + 1) * 4 + (m + 1) * 4) + 1, none⟩ = some (.int .i64 (l[q + m + 2]).ways) ∧ W.cell? ⟨g, ((q + 1) * 4 + (m + 1) * 4) + 2, none⟩ = some (.string (l[q + m + 2]).par) ∧ W.cell? ⟨g, ((q + 1) * 4 + (m + 1) * 4) + 3, none⟩ = some (.int .i64 (l[q + m + 2]).port) ∧ W.cell? ⟨g, ((q + 1) * 4 + m * 4), none⟩ = some (.string (l[q + m + 1]).key) ∧ W.cell? ⟨g, ((q + 1) * 4 + m * 4) + 1, none⟩ = some (.int .i64 (l[q + m + 1]).ways) ∧ W.cell? ⟨g, ((q + 1) * 4 + m * 4) + 2, none⟩ = some (.string (l[q + m + 1]).par) ∧ W.cell? ⟨g, ((q + 1) * 4 + m * 4) + 3, none⟩ = some (.int .i64 (l[q + m + 1]).port)) W) := fun W hW => by
                obtain ⟨y0, y1, y2, y3⟩ := splt_at (hW.1 (q + m + 2) (by omega))
                obtain ⟨x0, x1, x2, x3⟩ := splt_at (hW.1 (q + m + 1) (by omega))
                rw [t2] at y0 y1 y2 y3
                rw [t1] at x0 x1 x2 x3
                rw [show 0 + (q + m + 2) * 4 = (q + 1) * 4 + (m + 1) * 4 by omega] at y0 y1 y2 y3
                rw [show 0 + (q + m + 1) * 4 = (q + 1) * 4 + m * 4 by omega] at x0 x1 x2 x3
                exact ⟨y0, y1, y2, y3, x0, x1, x2, x3⟩
              clear t1 t2
              have HL := Lib.hid (And.intro hA1 hA2)
              clear hA1
              refine WalkT.start (fun W => W.cell? ⟨g, ((q + 1) * 4 + (m + 1) * 4), none⟩ = some (.string (l[q + m + 2]).key) ∧ W.cell? ⟨g, ((q + 1) * 4 + (m + 1) * 4) + 1, none⟩ = some (.int .i64 (l[q + m + 2]).ways) ∧ W.cell? ⟨g, ((q + 1) * 4 + (m + 1) * 4) + 2, none⟩ = some (.string (l[q + m + 2]).par) ∧ W.cell? ⟨g, ((q + 1) * 4 + (m + 1) * 4) + 3, none⟩ = some (.int .i64 (l[q + m + 2]).port) ∧ W.cell? ⟨g, ((q + 1) * 4 + m * 4), none⟩ = some (.string (l[q + m + 1]).key) ∧ W.cell? ⟨g, ((q + 1) * 4 + m * 4) + 1, none⟩ = some (.int .i64 (l[q + m + 1]).ways) ∧ W.cell? ⟨g, ((q + 1) * 4 + m * 4) + 2, none⟩ = some (.string (l[q + m + 1]).par) ∧ W.cell? ⟨g, ((q + 1) * 4 + m * 4) + 3, none⟩ = some (.int .i64 (l[q + m + 1]).port)) [] (by kernel_rfl) ?_
              have HA2 := Lib.hid (And.intro HA.out.1 (And.intro (HA.out.2.1.kept (w' := wr.drew) rfl (Nat.le_refl _)) (grown_trans HA.out.2.2 (grown_below (some g) (Below.drew (Below.refl _ wr))))))
              generalize wr.drew = w2 at *
              obtain ⟨y0, y1, y2, y3, x0, x1, x2, x3⟩ := HX.out w2 HA2.out.2.1
              refine WalkT.quiet (i := 0) (v := ?_) rfl (by kernel_rfl) (by kernel_rfl) (by kernel_rfl) (fun _ _ _ h => h) (Or.inl ⟨by rfl, ?_⟩) ?_; rotate_left; (· (intro wS hSw; (try dsimp only at hSw); go_simp; try with_reducible rfl)); try simp only [Act.put, pu1, pu2, pu3, pu4, pu5, pu6]
              refine WalkT.quiet (i := 1) (v := ?_) rfl (by kernel_rfl) (by kernel_rfl) (by kernel_rfl) (fun _ _ _ h => h) (Or.inl ⟨by rfl, ?_⟩) ?_; rotate_left; (· (intro wS hSw; (try dsimp only at hSw); go_simp; try with_reducible rfl)); try simp only [Act.put, pu1, pu2, pu3, pu4, pu5, pu6]
              refine WalkT.quiet (i := 2) (v := ?_) rfl (by kernel_rfl) (by kernel_rfl) (by kernel_rfl) (fun _ _ _ h => h) (Or.inl ⟨by rfl, ?_⟩) ?_; rotate_left; (· (intro wS hSw; (try dsimp only at hSw); go_simp; try with_reducible rfl)); try simp only [Act.put, pu1, pu2, pu3, pu4, pu5, pu6]
              refine WalkT.take (i := 3) (v := ?_) rfl (by kernel_rfl) (by kernel_rfl) (by kernel_rfl) (by kernel_rfl) (fun _ _ _ h => h) (⟨y0, y1, y2, y3, x0, x1, x2, x3⟩) (Or.inl ⟨by rfl, ?_⟩) ?_; rotate_left; (· (intro wS hSw; obtain ⟨s0, s1, s2, s3, s4, s5, s6, s7⟩ := hSw; go_simp; try with_reducible rfl)); try simp only [Act.put, pu1, pu2, pu3, pu4, pu5, pu6]
              refine WalkT.quiet (i := 4) (v := ?_) rfl (by kernel_rfl) (by kernel_rfl) (by kernel_rfl) (fun _ _ _ h => h) (Or.inl ⟨by rfl, ?_⟩) ?_; rotate_left; (· (intro wS hSw; (try dsimp only at hSw); go_simp; try with_reducible rfl)); try simp only [Act.put, pu1, pu2, pu3, pu4, pu5, pu6]
              refine WalkT.quiet (i := 5) (v := ?_) rfl (by kernel_rfl) (by kernel_rfl) (by kernel_rfl) (fun _ _ _ h => h) (Or.inl ⟨by rfl, ?_⟩) ?_; rotate_left; (· (intro wS hSw; (try dsimp only at hSw); go_simp; try with_reducible rfl)); try simp only [Act.put, pu1, pu2, pu3, pu4, pu5, pu6]
              refine WalkT.quiet (i := 6) (v := ?_) rfl (by kernel_rfl) (by kernel_rfl) (by kernel_rfl) (fun _ _ _ h => h) (Or.inl ⟨by rfl, ?_⟩) ?_; rotate_left; (· (intro wS hSw; (try dsimp only at hSw); go_simp; try with_reducible rfl)); try simp only [Act.put, pu1, pu2, pu3, pu4, pu5, pu6]
              refine WalkT.quiet (i := 7) (v := ?_) rfl (by kernel_rfl) (by kernel_rfl) (by kernel_rfl) (fun _ _ _ h => h) (Or.inl ⟨by rfl, ?_⟩) ?_; rotate_left; (· (intro wS hSw; (try dsimp only at hSw); go_simp; try with_reducible rfl)); try simp only [Act.put, pu1, pu2, pu3, pu4, pu5, pu6]
              refine WalkT.take (i := 8) (v := ?_) rfl (by kernel_rfl) (by kernel_rfl) (by kernel_rfl) (by kernel_rfl) (fun _ _ _ h => h) (⟨y0, y1, y2, y3, x0, x1, x2, x3⟩) (Or.inl ⟨by rfl, ?_⟩) ?_; rotate_left; (· (intro wS hSw; obtain ⟨s0, s1, s2, s3, s4, s5, s6, s7⟩ := hSw; go_simp; try with_reducible rfl)); try simp only [Act.put, pu1, pu2, pu3, pu4, pu5, pu6]
              by_cases he : l[q + m + 2] = l[q + m + 1]
              · refine WalkT.quiet (i := 9) (v := .bool false) rfl (by kernel_rfl) (by kernel_rfl) (by kernel_rfl) (fun _ _ _ h => h) (Or.inl ⟨by rfl, ?_⟩) ?_; (· (intro wS hSw; clear hSw; go_simp; (try exact rfl))); try simp only [Act.put, pu1, pu2, pu3, pu4, pu5, pu6]
                refine WalkT.done (by kernel_rfl) ?_
                have HN := Lib.hid (HA2.out.1.same hi2 he.symm)
                clear y0 y1 y2 y3 x0 x1 x2 x3 he
                go_wp2
                exact ⟨⟨kk, m + 1, M, by omega, rfl, by go_num, HN.out, HA2.out.2.1, HA2.out.2.2⟩, by simp [intOf]; omega⟩
              · refine WalkT.quiet (i := 9) (v := .bool true) rfl (by kernel_rfl) (by kernel_rfl) (by kernel_rfl) (fun _ _ _ h => h) (Or.inl ⟨by rfl, ?_⟩) ?_; (· (intro wS hSw; clear hSw; go_simp; (try exact ne_splt he))); try simp only [Act.put, pu1, pu2, pu3, pu4, pu5, pu6]
                refine WalkT.done (by kernel_rfl) ?_
                have hkm : kk < M.length := by rw [HL.out.1]; omega
                obtain ⟨z0, z1, z2, z3⟩ := splt_at (HA2.out.2.1.1 kk hkm)
                simp only [Nat.zero_add] at z0 z1 z2 z3
                have fz := HA2.out.2.1.2.1
                have HN := Lib.hid (HA2.out.1.keep hi2 (fun e => he e.symm))
                have HFIN : Hid (Row Splt.cells 4 (((((w2).setCell ⟨g, (kk * 4), none⟩ (.string (l[q + m + 2]).key)).setCell ⟨g, (kk * 4) + 1, none⟩ (.int .i64 (l[q + m + 2]).ways)).setCell ⟨g, (kk * 4) + 2, none⟩ (.string (l[q + m + 2]).par)).setCell ⟨g, (kk * 4) + 3, none⟩ (.int .i64 (l[q + m + 2]).port)) g (M.set kk l[q + m + 2]) ∧ w.grownBy (((((w2).setCell ⟨g, (kk * 4), none⟩ (.string (l[q + m + 2]).key)).setCell ⟨g, (kk * 4) + 1, none⟩ (.int .i64 (l[q + m + 2]).ways)).setCell ⟨g, (kk * 4) + 2, none⟩ (.string (l[q + m + 2]).par)).setCell ⟨g, (kk * 4) + 3, none⟩ (.int .i64 (l[q + m + 2]).port)) (some g)) := ⟨Row.set Splt.cells_len HA2.out.2.1 kk hkm l[q + m + 2], grown_trans HA2.out.2.2 (grown_setCells g (Splt.cells l[q + m + 2]) (kk * 4) w2)⟩
                have c1 : (0 : Int) ≤ (kk : Int) := by omega
                have c2 : (kk : Int) < (l.length : Int) := by omega
                clear he
                go_wp2
                exact ⟨⟨kk + 1, m + 1, M.set kk l[q + m + 2], by omega, by go_num, by go_num, HN.out, HFIN.out.1, HFIN.out.2⟩, by simp [intOf]; omega⟩
            · have b6 : ¬ ((m : Int) + 1 < ((l.length - (q + 1) : Nat) : Int)) := by omega
              have b7 : ¬ (kk = cap) := by omega
              have b8 : ¬ (cap = kk) := by omega
              have b9 : kk ≤ cap := by omega
              have b10 : kk ≤ l.length := by omega
              have hd := HA.out.1.done (by omega)
              have hrun : ∀ (ty : TypeId) (c : Nat), (Builtin.clear_ #[26] ty #[.slice (some ⟨g, kk * 4, none⟩) (l.length - kk) c]).run Tryz.prog wr = .ok (.tuple #[]) (wr.setCells g (kk * 4) (Builtin.zeroCells (Value.cells (.agg #[.string ⟨#[]⟩, .int .i64 0, .string ⟨#[]⟩, .int .i64 0])) (l.length - kk)).toList) := fun ty c => by
                refine run_clear_rows (P := Tryz.prog) wr 26 58 ty _ Tryz.underlying26 zeroC_splt (by simp [Value.cells, Value.oneCell']) g (kk * 4) (l.length - kk) c (by omega) (fun j hj => ?_) (fun j => HA.out.2.1.2.1 _)
                refine row_some Splt.cells_len HA.out.2.1 (by decide) _ ?_
                have hj2 : j < (l.length - kk) * 4 := by simpa [Value.cells] using hj
                rw [hA1]; omega
              have HF : Hid (Row Splt.cells 4 (wr.setCells g (kk * 4) (Builtin.zeroCells (Value.cells (.agg #[.string ⟨#[]⟩, .int .i64 0, .string ⟨#[]⟩, .int .i64 0])) (l.length - kk)).toList) g (ccL l) ∧ w.grownBy (wr.setCells g (kk * 4) (Builtin.zeroCells (Value.cells (.agg #[.string ⟨#[]⟩, .int .i64 0, .string ⟨#[]⟩, .int .i64 0])) (l.length - kk)).toList) (some g)) := ⟨by rw [← hd.1]; exact Row.cut Splt.cells_len HA.out.2.1 kk _, grown_trans HA.out.2.2 (grown_setCells g _ _ wr)⟩
              have HD := Lib.hid hd.2
              clear hd
              go_wp2_with (simp only [hrun])
              go_ret
              exact ⟨by rw [← HD.out]; rfl, HF.out.1, HF.out.2⟩
        · refine WalkT.quiet (i := 9) (v := .bool false) rfl (by kernel_rfl) (by kernel_rfl) (by kernel_rfl) (fun _ _ _ h => h) (Or.inl ⟨by rfl, ?_⟩) ?_; (· (intro wS hSw; clear hSw; go_simp; (try exact ne_splt he))); try simp only [Act.put, pu1, pu2, pu3, pu4, pu5, pu6]
          refine WalkT.done (by kernel_rfl) ?_
          have HT2 : Hid (ccL (l.take (q + 2)) = l.take (q + 2)) := by
            have h1 := HT.out
            rw [if_neg (fun e => he e.symm), HK.out.1] at h1
            rw [h1]
            exact (List.take_succ_eq_append_getElem hlt).symm
          clear y0 y1 y2 y3 x0 x1 x2 x3
          go_wp2
          exact ⟨⟨q + 2, by omega, by omega, by go_num, HT2.out, HRd.out.2⟩, by simp [intOf]; omega⟩
      · have hql : q + 1 = l.length := by omega
        have HT2 : Hid (ccL l = l) := by
          have h1 := HK.out.1
          rw [hql, List.take_length] at h1; exact h1
        clear hql
        go_wp2
        go_ret
        exact ⟨by rw [HT2.out]; rfl, by rw [HT2.out]; exact HRk.out, grown_below _ HK.out.2⟩
end Go.Proofs.YtcecpodbmjghhaaGreat
/- Walk: slices.Compact of a row. -/
namespace Go.Proofs.YtcecpodbmjghhaaGreat
open Go Go.RowKit
theorem zeroC_drp (w : World) : (zeroValue 36).run Tryz.prog w = .ok (.agg #[.string ⟨#[]⟩, .string ⟨#[]⟩, .int .i64 0]) w := by kernel_rfl
theorem ne_drp {x y : Drp} (h : ¬ x = y) : x.cust.toList = y.cust.toList → x.spl.toList = y.spl.toList → ¬ x.port = y.port := by
  obtain ⟨x1, x3, x4⟩ := x
  obtain ⟨y1, y3, y4⟩ := y
  intro h1 h3 h4
  exact h (by simp only at h1 h3 h4; rw [toList_injC h1, toList_injC h3, h4])
set_option maxHeartbeats 4000000 in
set_option maxRecDepth 100000 in
theorem comp_drp (g cap : Nat) (l : List Drp) (w : World) (hrow : Row Drp.cells 3 w g l) (hc : l.length ≤ cap) (hm : cap ≤ maxLen) (hl : l.length ≤ 10000) :
    Calls Tryz.prog 83 #[.slice (some ⟨g, 0, none⟩) l.length cap] w
    fun e w' => e = .returned (.slice (some ⟨g, 0, none⟩) (ccL l).length cap) ∧ Row Drp.cells 3 w' g (ccL l) ∧ w.grownBy w' (some g) := by
  have HR := Lib.hid hrow
  unfold maxLen at hm
  clear hrow
  by_cases h2 : l.length < 2
  · have he : ccL l = l := by
      match l, h2 with
      | [], _ => rfl
      | [x], _ => rfl
    rw [he]
    clear he
    go_enter Tryz.func83, Tryz.ntmps83
    go_wp2
    go_ret
    exact ⟨rfl, HR.out, grown_below _ (Below.refl _ _)⟩
  · go_enter Tryz.func83, Tryz.ntmps83
    go_wp2
    go_loopw [3] (fun kv wr => ∃ k : Nat, 1 ≤ k ∧ k ≤ l.length ∧ kv = .int .i64 k ∧ ccL (l.take k) = l.take k ∧ Below w.heap.size w wr) (fun kv _ => l.length - (intOf kv).toNat)
    case atStart => exact ⟨1, by omega, by omega, rfl, by cases l with | nil => rfl | cons x l => rfl, Below.refl _ _⟩
    case round =>
      obtain ⟨k, hk1, hk2, rfl, hcp, hB⟩ := hrel
      have HRk := Lib.hid (HR.out.below hB HR.out.2.2)
      have HK := Lib.hid (And.intro hcp hB)
      clear hcp hB
      obtain ⟨q, rfl⟩ : ∃ q, k = q + 1 := ⟨k - 1, by omega⟩
      by_cases hlt : q + 1 < l.length
      · have hq0 : q < l.length := by omega
        have HT := Lib.hid (ccL_take l q hlt)
        obtain ⟨y0, y1, y2⟩ := drp_at (HRk.out.1 (q + 1) hlt)
        obtain ⟨x0, x1, x2⟩ := drp_at (HRk.out.1 q hq0)
        simp only [Nat.zero_add] at y0 y1 y2 x0 x1 x2
        have b1 : (0 : Int) ≤ (q : Int) + 1 := by omega
        have b2 : (q : Int) + 1 < (l.length : Int) := by omega
        have b3 : (q : Int) < (l.length : Int) := by omega
        have b4 : (0 : Int) ≤ (q : Int) := by omega
        have b5 : IntKind.i64.wrap (q : Int) = (q : Int) := IntWalk.i64_in _ (by omega)
        go_wp2_with fail
        refine WalkT.start (fun W => W.cell? ⟨g, (q + 1) * 3, none⟩ = some (.string l[q + 1].cust) ∧ W.cell? ⟨g, (q + 1) * 3 + 1, none⟩ = some (.string l[q + 1].spl) ∧ W.cell? ⟨g, (q + 1) * 3 + 2, none⟩ = some (.int .i64 l[q + 1].port) ∧ W.cell? ⟨g, q * 3, none⟩ = some (.string l[q].cust) ∧ W.cell? ⟨g, q * 3 + 1, none⟩ = some (.string l[q].spl) ∧ W.cell? ⟨g, q * 3 + 2, none⟩ = some (.int .i64 l[q].port)) [] (by kernel_rfl) ?_
        have HRd := Lib.hid (And.intro (HRk.out.kept (w' := wr.drew) rfl (Nat.le_refl _)) (Below.drew HK.out.2))
        clear y0 y1 y2 x0 x1 x2
        generalize wr.drew = w1 at *
        obtain ⟨y0, y1, y2⟩ := drp_at (HRd.out.1.1 (q + 1) hlt)
        obtain ⟨x0, x1, x2⟩ := drp_at (HRd.out.1.1 q hq0)
        simp only [Nat.zero_add] at y0 y1 y2 x0 x1 x2
        refine WalkT.quiet (i := 0) (v := ?_) rfl (by kernel_rfl) (by kernel_rfl) (by kernel_rfl) (fun _ _ _ h => h) (Or.inl ⟨by rfl, ?_⟩) ?_; rotate_left; (· (intro wS hSw; (try dsimp only at hSw); go_simp; try with_reducible rfl)); try simp only [Act.put, pu1, pu2, pu3, pu4, pu5, pu6]
        refine WalkT.quiet (i := 1) (v := ?_) rfl (by kernel_rfl) (by kernel_rfl) (by kernel_rfl) (fun _ _ _ h => h) (Or.inl ⟨by rfl, ?_⟩) ?_; rotate_left; (· (intro wS hSw; (try dsimp only at hSw); go_simp; try with_reducible rfl)); try simp only [Act.put, pu1, pu2, pu3, pu4, pu5, pu6]
        refine WalkT.quiet (i := 2) (v := ?_) rfl (by kernel_rfl) (by kernel_rfl) (by kernel_rfl) (fun _ _ _ h => h) (Or.inl ⟨by rfl, ?_⟩) ?_; rotate_left; (· (intro wS hSw; (try dsimp only at hSw); go_simp; try with_reducible rfl)); try simp only [Act.put, pu1, pu2, pu3, pu4, pu5, pu6]
        refine WalkT.take (i := 3) (v := ?_) rfl (by kernel_rfl) (by kernel_rfl) (by kernel_rfl) (by kernel_rfl) (fun _ _ _ h => h) (⟨y0, y1, y2, x0, x1, x2⟩) (Or.inl ⟨by rfl, ?_⟩) ?_; rotate_left; (· (intro wS hSw; obtain ⟨s0, s1, s2, s3, s4, s5⟩ := hSw; go_simp; try with_reducible rfl)); try simp only [Act.put, pu1, pu2, pu3, pu4, pu5, pu6]
        refine WalkT.quiet (i := 4) (v := ?_) rfl (by kernel_rfl) (by kernel_rfl) (by kernel_rfl) (fun _ _ _ h => h) (Or.inl ⟨by rfl, ?_⟩) ?_; rotate_left; (· (intro wS hSw; (try dsimp only at hSw); go_simp; try with_reducible rfl)); try simp only [Act.put, pu1, pu2, pu3, pu4, pu5, pu6]
        refine WalkT.quiet (i := 5) (v := ?_) rfl (by kernel_rfl) (by kernel_rfl) (by kernel_rfl) (fun _ _ _ h => h) (Or.inl ⟨by rfl, ?_⟩) ?_; rotate_left; (· (intro wS hSw; (try dsimp only at hSw); go_simp; try with_reducible rfl)); try simp only [Act.put, pu1, pu2, pu3, pu4, pu5, pu6]
        refine WalkT.quiet (i := 6) (v := ?_) rfl (by kernel_rfl) (by kernel_rfl) (by kernel_rfl) (fun _ _ _ h => h) (Or.inl ⟨by rfl, ?_⟩) ?_; rotate_left; (· (intro wS hSw; (try dsimp only at hSw); go_simp; try with_reducible rfl)); try simp only [Act.put, pu1, pu2, pu3, pu4, pu5, pu6]
        refine WalkT.quiet (i := 7) (v := ?_) rfl (by kernel_rfl) (by kernel_rfl) (by kernel_rfl) (fun _ _ _ h => h) (Or.inl ⟨by rfl, ?_⟩) ?_; rotate_left; (· (intro wS hSw; (try dsimp only at hSw); go_simp; try with_reducible rfl)); try simp only [Act.put, pu1, pu2, pu3, pu4, pu5, pu6]
        refine WalkT.take (i := 8) (v := ?_) rfl (by kernel_rfl) (by kernel_rfl) (by kernel_rfl) (by kernel_rfl) (fun _ _ _ h => h) (⟨y0, y1, y2, x0, x1, x2⟩) (Or.inl ⟨by rfl, ?_⟩) ?_; rotate_left; (· (intro wS hSw; obtain ⟨s0, s1, s2, s3, s4, s5⟩ := hSw; go_simp; try with_reducible rfl)); try simp only [Act.put, pu1, pu2, pu3, pu4, pu5, pu6]
        by_cases he : l[q + 1] = l[q]
        · refine WalkT.quiet (i := 9) (v := .bool true) rfl (by kernel_rfl) (by kernel_rfl) (by kernel_rfl) (fun _ _ _ h => h) (Or.inl ⟨by rfl, ?_⟩) ?_; (· (intro wS hSw; clear hSw; go_simp; (try exact rfl))); try simp only [Act.put, pu1, pu2, pu3, pu4, pu5, pu6]
          refine WalkT.done (by kernel_rfl) ?_
          have HRD := HRd
          have HI : Hid (ccL (l.take (q + 1 + 1)) = l.take (q + 1)) := by
            have h1 := HT.out
            rw [if_pos he.symm, HK.out.1] at h1; exact h1
          clear y0 y1 y2 x0 x1 x2 he HT HRk
          go_wp2_with fail
          go_loopw [3, 5] (fun kv jv wr => ∃ (kk m : Nat) (M : List Drp), q + 1 + (m + 1) ≤ l.length ∧ kv = .int .i64 kk ∧ jv = .int .i64 ((m : Int) + 1) ∧ CompAt l M (q + m) kk ∧ Row Drp.cells 3 wr g M ∧ w.grownBy wr (some g)) (fun _ jv _ => l.length - (intOf jv).toNat)
          case atStart => exact ⟨q + 1, 0, l, by omega, by go_num, by go_num, CompAt.start hlt HI.out, HRD.out.1, grown_below _ HRD.out.2⟩
          case round =>
            obtain ⟨kk, m, M, hm1, rfl, rfl, hA, hr, hg⟩ := hrel
            have hA1 := hA.len
            have hA2 := hA.le
            have HA := Lib.hid (And.intro hA (And.intro hr hg))
            clear hA hr hg
            by_cases hlm : q + 1 + (m + 1) < l.length
            · have b6 : (m : Int) + 1 < ((l.length - (q + 1) : Nat) : Int) := by omega
              have b7 : (m : Int) < ((l.length - (q + 1) : Nat) : Int) := by omega
              have b8 : (0 : Int) ≤ (m : Int) + 1 := by omega
              have b9 : (0 : Int) ≤ (m : Int) := by omega
              have b10 : IntKind.i64.wrap (m : Int) = (m : Int) := IntWalk.i64_in _ (by omega)
              have hi2 : q + m + 2 < l.length := by omega
              have hi1 : q + m + 1 < l.length := by omega
              go_wp2_with fail
              have t2 := HA.out.1.tail (q + m + 2) hi2 (by omega)
              have t1 := HA.out.1.tail (q + m + 1) hi1 (by omega)
              have HX : Hid (∀ W : World, Row Drp.cells 3 W g M → (fun W => W.cell? ⟨g, ((q + 1) * 3 + (m + 1) * 3), none⟩ = some (.string (l[q + m + 2]).cust) ∧ W.cell? ⟨g, ((q + 1) * 3 + (m + 1) * 3) + 1, none⟩ = some (.string (l[q + m + 2]).spl) ∧ W.cell? ⟨g, ((q + 1) * 3 + (m + 1) * 3) + 2, none⟩ = some (.int .i64 (l[q + m + 2]).port) ∧ W.cell? ⟨g, ((q + 1) * 3 + m * 3), none⟩ = some (.string (l[q + m + 1]).cust) ∧ W.cell? ⟨g, ((q + 1) * 3 + m * 3) + 1, none⟩ = some (.string (l[q + m + 1]).spl) ∧ W.cell? ⟨g, ((q + 1) * 3 + m * 3) + 2, none⟩ = some (.int .i64 (l[q + m + 1]).port)) W) := fun W hW => by
                obtain ⟨y0, y1, y2⟩ := drp_at (hW.1 (q + m + 2) (by omega))
                obtain ⟨x0, x1, x2⟩ := drp_at (hW.1 (q + m + 1) (by omega))
                rw [t2] at y0 y1 y2
                rw [t1] at x0 x1 x2
                rw [show 0 + (q + m + 2) * 3 = (q + 1) * 3 + (m + 1) * 3 by omega] at y0 y1 y2
                rw [show 0 + (q + m + 1) * 3 = (q + 1) * 3 + m * 3 by omega] at x0 x1 x2
                exact ⟨y0, y1, y2, x0, x1, x2⟩
              clear t1 t2
              have HL := Lib.hid (And.intro hA1 hA2)
              clear hA1
              refine WalkT.start (fun W => W.cell? ⟨g, ((q + 1) * 3 + (m + 1) * 3), none⟩ = some (.string (l[q + m + 2]).cust) ∧ W.cell? ⟨g, ((q + 1) * 3 + (m + 1) * 3) + 1, none⟩ = some (.string (l[q + m + 2]).spl) ∧ W.cell? ⟨g, ((q + 1) * 3 + (m + 1) * 3) + 2, none⟩ = some (.int .i64 (l[q + m + 2]).port) ∧ W.cell? ⟨g, ((q + 1) * 3 + m * 3), none⟩ = some (.string (l[q + m + 1]).cust) ∧ W.cell? ⟨g, ((q + 1) * 3 + m * 3) + 1, none⟩ = some (.string (l[q + m + 1]).spl) ∧ W.cell? ⟨g, ((q + 1) * 3 + m * 3) + 2, none⟩ = some (.int .i64 (l[q + m + 1]).port)) [] (by kernel_rfl) ?_
              have HA2 := Lib.hid (And.intro HA.out.1 (And.intro (HA.out.2.1.kept (w' := wr.drew) rfl (Nat.le_refl _)) (grown_trans HA.out.2.2 (grown_below (some g) (Below.drew (Below.refl _ wr))))))
              generalize wr.drew = w2 at *
              obtain ⟨y0, y1, y2, x0, x1, x2⟩ := HX.out w2 HA2.out.2.1
              refine WalkT.quiet (i := 0) (v := ?_) rfl (by kernel_rfl) (by kernel_rfl) (by kernel_rfl) (fun _ _ _ h => h) (Or.inl ⟨by rfl, ?_⟩) ?_; rotate_left; (· (intro wS hSw; (try dsimp only at hSw); go_simp; try with_reducible rfl)); try simp only [Act.put, pu1, pu2, pu3, pu4, pu5, pu6]
              refine WalkT.quiet (i := 1) (v := ?_) rfl (by kernel_rfl) (by kernel_rfl) (by kernel_rfl) (fun _ _ _ h => h) (Or.inl ⟨by rfl, ?_⟩) ?_; rotate_left; (· (intro wS hSw; (try dsimp only at hSw); go_simp; try with_reducible rfl)); try simp only [Act.put, pu1, pu2, pu3, pu4, pu5, pu6]
              refine WalkT.quiet (i := 2) (v := ?_) rfl (by kernel_rfl) (by kernel_rfl) (by kernel_rfl) (fun _ _ _ h => h) (Or.inl ⟨by rfl, ?_⟩) ?_; rotate_left; (· (intro wS hSw; (try dsimp only at hSw); go_simp; try with_reducible rfl)); try simp only [Act.put, pu1, pu2, pu3, pu4, pu5, pu6]
              refine WalkT.take (i := 3) (v := ?_) rfl (by kernel_rfl) (by kernel_rfl) (by kernel_rfl) (by kernel_rfl) (fun _ _ _ h => h) (⟨y0, y1, y2, x0, x1, x2⟩) (Or.inl ⟨by rfl, ?_⟩) ?_; rotate_left; (· (intro wS hSw; obtain ⟨s0, s1, s2, s3, s4, s5⟩ := hSw; go_simp; try with_reducible rfl)); try simp only [Act.put, pu1, pu2, pu3, pu4, pu5, pu6]
              refine WalkT.quiet (i := 4) (v := ?_) rfl (by kernel_rfl) (by kernel_rfl) (by kernel_rfl) (fun _ _ _ h => h) (Or.inl ⟨by rfl, ?_⟩) ?_; rotate_left; (· (intro wS hSw; (try dsimp only at hSw); go_simp; try with_reducible rfl)); try simp only [Act.put, pu1, pu2, pu3, pu4, pu5, pu6]
              refine WalkT.quiet (i := 5) (v := ?_) rfl (by kernel_rfl) (by kernel_rfl) (by kernel_rfl) (fun _ _ _ h => h) (Or.inl ⟨by rfl, ?_⟩) ?_; rotate_left; (· (intro wS hSw; (try dsimp only at hSw); go_simp; try with_reducible rfl)); try simp only [Act.put, pu1, pu2, pu3, pu4, pu5, pu6]
              refine WalkT.quiet (i := 6) (v := ?_) rfl (by kernel_rfl) (by kernel_rfl) (by kernel_rfl) (fun _ _ _ h => h) (Or.inl ⟨by rfl, ?_⟩) ?_; rotate_left; (· (intro wS hSw; (try dsimp only at hSw); go_simp; try with_reducible rfl)); try simp only [Act.put, pu1, pu2, pu3, pu4, pu5, pu6]
              refine WalkT.quiet (i := 7) (v := ?_) rfl (by kernel_rfl) (by kernel_rfl) (by kernel_rfl) (fun _ _ _ h => h) (Or.inl ⟨by rfl, ?_⟩) ?_; rotate_left; (· (intro wS hSw; (try dsimp only at hSw); go_simp; try with_reducible rfl)); try simp only [Act.put, pu1, pu2, pu3, pu4, pu5, pu6]
              refine WalkT.take (i := 8) (v := ?_) rfl (by kernel_rfl) (by kernel_rfl) (by kernel_rfl) (by kernel_rfl) (fun _ _ _ h => h) (⟨y0, y1, y2, x0, x1, x2⟩) (Or.inl ⟨by rfl, ?_⟩) ?_; rotate_left; (· (intro wS hSw; obtain ⟨s0, s1, s2, s3, s4, s5⟩ := hSw; go_simp; try with_reducible rfl)); try simp only [Act.put, pu1, pu2, pu3, pu4, pu5, pu6]
              by_cases he : l[q + m + 2] = l[q + m + 1]
              · refine WalkT.quiet (i := 9) (v := .bool false) rfl (by kernel_rfl) (by kernel_rfl) (by kernel_rfl) (fun _ _ _ h => h) (Or.inl ⟨by rfl, ?_⟩) ?_; (· (intro wS hSw; clear hSw; go_simp; (try exact rfl))); try simp only [Act.put, pu1, pu2, pu3, pu4, pu5, pu6]
                refine WalkT.done (by kernel_rfl) ?_
                have HN := Lib.hid (HA2.out.1.same hi2 he.symm)
                clear y0 y1 y2 x0 x1 x2 he
                go_wp2
                exact ⟨⟨kk, m + 1, M, by omega, rfl, by go_num, HN.out, HA2.out.2.1, HA2.out.2.2⟩, by simp [intOf]; omega⟩
              · refine WalkT.quiet (i := 9) (v := .bool true) rfl (by kernel_rfl) (by kernel_rfl) (by kernel_rfl) (fun _ _ _ h => h) (Or.inl ⟨by rfl, ?_⟩) ?_; (· (intro wS hSw; clear hSw; go_simp; (try exact ne_drp he))); try simp only [Act.put, pu1, pu2, pu3, pu4, pu5, pu6]
                refine WalkT.done (by kernel_rfl) ?_
                have hkm : kk < M.length := by rw [HL.out.1]; omega
                obtain ⟨z0, z1, z2⟩ := drp_at (HA2.out.2.1.1 kk hkm)
                simp only [Nat.zero_add] at z0 z1 z2
                have fz := HA2.out.2.1.2.1
                have HN := Lib.hid (HA2.out.1.keep hi2 (fun e => he e.symm))
                have HFIN : Hid (Row Drp.cells 3 ((((w2).setCell ⟨g, (kk * 3), none⟩ (.string (l[q + m + 2]).cust)).setCell ⟨g, (kk * 3) + 1, none⟩ (.string (l[q + m + 2]).spl)).setCell ⟨g, (kk * 3) + 2, none⟩ (.int .i64 (l[q + m + 2]).port)) g (M.set kk l[q + m + 2]) ∧ w.grownBy ((((w2).setCell ⟨g, (kk * 3), none⟩ (.string (l[q + m + 2]).cust)).setCell ⟨g, (kk * 3) + 1, none⟩ (.string (l[q + m + 2]).spl)).setCell ⟨g, (kk * 3) + 2, none⟩ (.int .i64 (l[q + m + 2]).port)) (some g)) := ⟨Row.set Drp.cells_len HA2.out.2.1 kk hkm l[q + m + 2], grown_trans HA2.out.2.2 (grown_setCells g (Drp.cells l[q + m + 2]) (kk * 3) w2)⟩
                have c1 : (0 : Int) ≤ (kk : Int) := by omega
                have c2 : (kk : Int) < (l.length : Int) := by omega
                clear he
                go_wp2
                exact ⟨⟨kk + 1, m + 1, M.set kk l[q + m + 2], by omega, by go_num, by go_num, HN.out, HFIN.out.1, HFIN.out.2⟩, by simp [intOf]; omega⟩
            · have b6 : ¬ ((m : Int) + 1 < ((l.length - (q + 1) : Nat) : Int)) := by omega
              have b7 : ¬ (kk = cap) := by omega
              have b8 : ¬ (cap = kk) := by omega
              have b9 : kk ≤ cap := by omega
              have b10 : kk ≤ l.length := by omega
              have hd := HA.out.1.done (by omega)
              have hrun : ∀ (ty : TypeId) (c : Nat), (Builtin.clear_ #[27] ty #[.slice (some ⟨g, kk * 3, none⟩) (l.length - kk) c]).run Tryz.prog wr = .ok (.tuple #[]) (wr.setCells g (kk * 3) (Builtin.zeroCells (Value.cells (.agg #[.string ⟨#[]⟩, .string ⟨#[]⟩, .int .i64 0])) (l.length - kk)).toList) := fun ty c => by
                refine run_clear_rows (P := Tryz.prog) wr 27 36 ty _ Tryz.underlying27 zeroC_drp (by simp [Value.cells, Value.oneCell']) g (kk * 3) (l.length - kk) c (by omega) (fun j hj => ?_) (fun j => HA.out.2.1.2.1 _)
                refine row_some Drp.cells_len HA.out.2.1 (by decide) _ ?_
                have hj2 : j < (l.length - kk) * 3 := by simpa [Value.cells] using hj
                rw [hA1]; omega
              have HF : Hid (Row Drp.cells 3 (wr.setCells g (kk * 3) (Builtin.zeroCells (Value.cells (.agg #[.string ⟨#[]⟩, .string ⟨#[]⟩, .int .i64 0])) (l.length - kk)).toList) g (ccL l) ∧ w.grownBy (wr.setCells g (kk * 3) (Builtin.zeroCells (Value.cells (.agg #[.string ⟨#[]⟩, .string ⟨#[]⟩, .int .i64 0])) (l.length - kk)).toList) (some g)) := ⟨by rw [← hd.1]; exact Row.cut Drp.cells_len HA.out.2.1 kk _, grown_trans HA.out.2.2 (grown_setCells g _ _ wr)⟩
              have HD := Lib.hid hd.2
              clear hd
              go_wp2_with (simp only [hrun])
              go_ret
              exact ⟨by rw [← HD.out]; rfl, HF.out.1, HF.out.2⟩
        · refine WalkT.quiet (i := 9) (v := .bool false) rfl (by kernel_rfl) (by kernel_rfl) (by kernel_rfl) (fun _ _ _ h => h) (Or.inl ⟨by rfl, ?_⟩) ?_; (· (intro wS hSw; clear hSw; go_simp; (try exact ne_drp he))); try simp only [Act.put, pu1, pu2, pu3, pu4, pu5, pu6]
          refine WalkT.done (by kernel_rfl) ?_
          have HT2 : Hid (ccL (l.take (q + 2)) = l.take (q + 2)) := by
            have h1 := HT.out
            rw [if_neg (fun e => he e.symm), HK.out.1] at h1
            rw [h1]
            exact (List.take_succ_eq_append_getElem hlt).symm
          clear y0 y1 y2 x0 x1 x2
          go_wp2
          exact ⟨⟨q + 2, by omega, by omega, by go_num, HT2.out, HRd.out.2⟩, by simp [intOf]; omega⟩
      · have hql : q + 1 = l.length := by omega
        have HT2 : Hid (ccL l = l) := by
          have h1 := HK.out.1
          rw [hql, List.take_length] at h1; exact h1
        clear hql
        go_wp2
        go_ret
        exact ⟨by rw [HT2.out]; rfl, by rw [HT2.out]; exact HRk.out, grown_below _ HK.out.2⟩
end Go.Proofs.YtcecpodbmjghhaaGreat
/- slices.Compact of what stands at the head of a row of its own. -/
--TWIN import Derived.Test.YtcecpodbmjghhaaGreatCmpD
namespace Go.Proofs.YtcecpodbmjghhaaGreat
open Go Go.RowKit
set_option maxRecDepth 100000 in
theorem comp0_splt (w : World) : Calls Tryz.prog 82 #[.slice none 0 0] w fun e w' => e = .returned (.slice none 0 0) ∧ w' = w := by
  go_enter Tryz.func82, Tryz.ntmps82
  go_wp2
  go_ret
  exact ⟨rfl, rfl⟩
theorem compV_splt (v : Value) (l : List Splt) (base : Nat) (w : World) (hv : RowV Splt.cells 4 base w v l) (hl : l.length ≤ 10000) :
    Calls Tryz.prog 82 #[v] w fun e w' => ∃ v', e = .returned v' ∧ RowV Splt.cells 4 base w' v' (ccL l) ∧ w.grownBy w' v.ownBlock ∧ v'.ownBlock = v.ownBlock := by
  rcases hv with ⟨rfl, rfl⟩ | ⟨g, cap, rfl, hg, hc, hm, hr⟩
  · refine (comp0_splt w).mono ?_
    rintro e w' ⟨rfl, rfl⟩
    exact ⟨_, rfl, .inl ⟨rfl, rfl⟩, grown_below _ (Below.refl _ _), rfl⟩
  · refine (comp_splt g cap l w hr hc hm hl).mono ?_
    rintro e w' ⟨rfl, hr2, hg2⟩
    exact ⟨_, rfl, .inr ⟨g, cap, rfl, hg, Nat.le_trans (ccL_le l) hc, hm, hr2⟩, hg2, rfl⟩
end Go.Proofs.YtcecpodbmjghhaaGreat
/- slices.Compact of what stands at the head of a row of its own. -/
namespace Go.Proofs.YtcecpodbmjghhaaGreat
open Go Go.RowKit
set_option maxRecDepth 100000 in
theorem comp0_drp (w : World) : Calls Tryz.prog 83 #[.slice none 0 0] w fun e w' => e = .returned (.slice none 0 0) ∧ w' = w := by
  go_enter Tryz.func83, Tryz.ntmps83
  go_wp2
  go_ret
  exact ⟨rfl, rfl⟩
theorem compV_drp (v : Value) (l : List Drp) (base : Nat) (w : World) (hv : RowV Drp.cells 3 base w v l) (hl : l.length ≤ 10000) :
    Calls Tryz.prog 83 #[v] w fun e w' => ∃ v', e = .returned v' ∧ RowV Drp.cells 3 base w' v' (ccL l) ∧ w.grownBy w' v.ownBlock ∧ v'.ownBlock = v.ownBlock := by
  rcases hv with ⟨rfl, rfl⟩ | ⟨g, cap, rfl, hg, hc, hm, hr⟩
  · refine (comp0_drp w).mono ?_
    rintro e w' ⟨rfl, rfl⟩
    exact ⟨_, rfl, .inl ⟨rfl, rfl⟩, grown_below _ (Below.refl _ _), rfl⟩
  · refine (comp_drp g cap l w hr hc hm hl).mono ?_
    rintro e w' ⟨rfl, hr2, hg2⟩
    exact ⟨_, rfl, .inr ⟨g, cap, rfl, hg, Nat.le_trans (ccL_le l) hc, hm, hr2⟩, hg2, rfl⟩
end Go.Proofs.YtcecpodbmjghhaaGreat
/- Plain: what rises, put beside itself, sorted, and put together again, is itself. No program. -/
namespace Go.Proofs.YtcecpodbmjghhaaGreat
section
variable {α : Type} {key : α → ByteArray}
theorem rise_key : ∀ {l : List α}, l.Pairwise (fun a b => lessB (key a) (key b) = true) → ∀ x ∈ l, ∀ y ∈ l, key x = key y → x = y := by
  intro l h x hx y hy e
  obtain ⟨i, hi, rfl⟩ := List.mem_iff_getElem.1 hx
  obtain ⟨j, hj, rfl⟩ := List.mem_iff_getElem.1 hy
  rw [List.pairwise_iff_getElem] at h
  rcases Nat.lt_trichotomy i j with hij | hij | hij
  · have := h i j hi hj hij; rw [e, lessB_irrefl] at this; cases this
  · subst hij; rfl
  · have := h j i hj hi hij; rw [e, lessB_irrefl] at this; cases this
end
end Go.Proofs.YtcecpodbmjghhaaGreat
