/- Texts of one subject in one: ChG, LawAskP, LawChgP; what each shows stands at its head. No condition. -/
import Derived.Test.YtcecpodbmjghhaaGreatChAll
import Derived.Test.YtcecpodbmjghhaaGreatAskRN
import Derived.Test.YtcecpodbmjghhaaGreatTreeRef
import Derived.Test.YtcecpodbmjghhaaGreatBelAll
import Derived.Test.YtcecpodbmjghhaaGreatCatAll
import Derived.Test.YtcecpodbmjghhaaGreatTreeGH
import Derived.Test.YtcecpodbmjghhaaGreatAskRef
import Derived.Test.YtcecpodbmjghhaaGreatStrA
import Derived.Test.YtcecpodbmjghhaaGreatTchAll
import Derived.Test.YtcecpodbmjghhaaGreatStreamYZ
import Derived.Test.YtcecpodbmjghhaaGreatHeadR
import Derived.Test.YtcecpodbmjghhaaGreatMerge
import Derived.Test.YtcecpodbmjghhaaGreatConAll
/- Walk of the reference: two trees merged. -/
set_option linter.unusedVariables false
set_option linter.unusedSimpArgs false
namespace Go.Proofs.YtcecpodbmjghhaaGreat
open Go Go.RowKit
/-- what the reference's merge is -/
def MergeRef (l : List Splt) (d : List Drp) (l' : List Splt) (d' : List Drp) (n : Int) (S : List Splt) (D : List Drp) : Prop :=
  ((Clash Splt.key l l' ∨ Clash Drp.cust d d') ∧ n = 13) ∨
  (¬ Clash Splt.key l l' ∧ ¬ Clash Drp.cust d d' ∧ S.Perm (addL Splt.key l l') ∧ SortTo Splt.key S S.length ∧ D.Perm (addL Drp.cust d d') ∧ SortTo Drp.cust D D.length ∧ n = treeF S D)
def MergeRPost (l : List Splt) (d : List Drp) (l' : List Splt) (d' : List Drp) (w : World) (e : Ending) (w' : World) : Prop := ∃ u1 u2 n S D, e = .returned (.tuple #[.agg #[u1, u2], .int .i64 n]) ∧ MergeRef l d l' d' n S D ∧
  Arr Splt.cells 4 w' (if n = 0 then S else []) u1 ∧ Arr Drp.cells 3 w' (if n = 0 then D else []) u2 ∧ Below w.heap.size w w' ∧ (∀ k, u1.ownBlock = some k → w.heap.size ≤ k) ∧ ∀ k, u2.ownBlock = some k → w.heap.size ≤ k
def addK {α : Type} (key : α → ByteArray) (l l' : List α) (k : Nat) : List α := addL key l (l'.take k)
theorem addK_zero {α : Type} (key : α → ByteArray) (l l' : List α) : addK key l l' 0 = l := by simp [addK, addL]
theorem addK_succ {α : Type} {key : α → ByteArray} {l l' : List α} {k : Nat} (hk : k < l'.length) : addK key l l' (k + 1) = addK key l l' k ++ if l.any (fun x => decide (key x = key l'[k])) then [] else [l'[k]] := by
  unfold addK addL
  rw [List.take_succ_eq_append_getElem hk, List.filter_append, List.append_assoc, List.filter_cons, List.filter_nil]
  cases l.any (fun x => decide (key x = key l'[k])) <;> simp
theorem addK_len {α : Type} (key : α → ByteArray) (l l' : List α) (k : Nat) : (addK key l l' k).length ≤ l.length + k := by
  unfold addK addL
  have h := List.length_filter_le (fun s => !l.any fun x => decide (key x = key s)) (l'.take k)
  rw [List.length_take] at h
  rw [List.length_append]; omega
theorem getS_any {l : List Splt} {k : ByteArray} : (getS l k).isSome = l.any (fun x => decide (x.key = k)) := by
  unfold getS; rw [Bool.eq_iff_iff, List.find?_isSome, List.any_eq_true]
theorem dropW_any {d : List Drp} {c : ByteArray} : (dropW d c).isSome = d.any (fun x => decide (x.cust = c)) := by
  unfold dropW; rw [Bool.eq_iff_iff, List.find?_isSome, List.any_eq_true]
  simp only [strB_iff, decide_eq_true_eq]
/-- the memory -/
structure MgSt (w W : World) (v1 v2 u1 u2 : Value) (ob : Nat) (u vd : Value) (A : List Splt) (E : List Drp) : Prop where
  be : Below w.heap.size w W
  b1 : Blk W w.heap.size #[v1, v2] 29
  b2 : Blk W (w.heap.size + 1) #[u1, u2] 29
  br : Blk W (w.heap.size + 2) #[.slice none 0 0, .slice none 0 0] 29
  bo : Blk W ob #[u, .slice none 0 0] 29
  os : W.ownsRow (w.heap.size + 3) 58 4 u A.length (A.flatMap Splt.cells)
  od : W.ownsRow (w.heap.size + 3) 36 3 vd E.length (E.flatMap Drp.cells)
  lo : w.heap.size + 3 ≤ ob
section
variable {w W W2 : World} {v1 v2 u1 u2 u vd v' : Value} {ob : Nat} {A : List Splt} {E : List Drp}
theorem MgSt.below (h : MgSt w W v1 v2 u1 u2 ob u vd A E) (hb : Below W.heap.size W W2) : MgSt w W2 v1 v2 u1 u2 ob u vd A E :=
  ⟨below_at h.be hb h.be.size, h.b1.below hb h.b1.lt, h.b2.below hb h.b2.lt, h.br.below hb h.br.lt, h.bo.below hb h.bo.lt, own_below h.os hb, own_below h.od hb, h.lo⟩
theorem MgSt.alloc (h : MgSt w W v1 v2 u1 u2 ob u vd A E) (o : Obj) : MgSt w (W.alloc o) v1 v2 u1 u2 ob u vd A E := h.below (below_alloc (Below.refl _ _) _ (Nat.le_refl _))
theorem MgSt.appS {x : Splt} (h : MgSt w W v1 v2 u1 u2 ob u vd A E) (hg : W.grownBy W2 u.ownBlock) (ho : W2.ownsRow (w.heap.size + 3) 58 4 v' (A.length + 1) (A.flatMap Splt.cells ++ [.string x.key, .int .i64 x.ways, .string x.par, .int .i64 x.port])) :
    MgSt w (W2.setCell ⟨ob, 0, none⟩ v') v1 v2 u1 u2 ob v' vd (A ++ [x]) E := by
  have hlo := h.lo
  have hos := h.os.lt
  have hod := h.od.lt
  have hbr := h.br.lt
  have no : some ob ≠ u.ownBlock := fun e => own_neM h.os h.bo (by decide) e.symm
  have hB : Below w.heap.size w W2 := below_grown h.be h.os hg (by omega) (by omega)
  have hbo2 := h.bo.grown hg no
  refine ⟨Below.setCell hB (by simp; omega) _, (h.b1.grown hg (fun e => by have := (hos _ e.symm).1; omega)).setOther (by omega) _ _, (h.b2.grown hg (fun e => by have := (hos _ e.symm).1; omega)).setOther (by omega) _ _, (h.br.grown hg (fun e => by have := (hos _ e.symm).1; omega)).setOther (by omega) _ _, hbo2.set 0 v', ?_, ?_, hlo⟩
  · have h0 := own_setNe ho (own_neM ho hbo2 (by decide)) 0 v'
    rw [List.length_append, List.length_singleton, List.flatMap_append]
    simpa [Splt.cells] using h0
  · exact own_setNe (own_keep h.od hg (fun k e1 e2 => own_apart h.od h.os (by decide) k e1 e2)) (fun e => own_neM h.od h.bo (by decide) e) _ _
theorem MgSt.appD {x : Drp} (h : MgSt w W v1 v2 u1 u2 ob u vd A E) (hg : W.grownBy W2 vd.ownBlock) (ho : W2.ownsRow (w.heap.size + 3) 36 3 v' (E.length + 1) (E.flatMap Drp.cells ++ [.string x.cust, .string x.spl, .int .i64 x.port])) :
    MgSt w W2 v1 v2 u1 u2 ob u v' A (E ++ [x]) := by
  have hlo := h.lo
  have hod := h.od.lt
  have hbr := h.br.lt
  have no : some ob ≠ vd.ownBlock := fun e => own_neM h.od h.bo (by decide) e.symm
  have hB : Below w.heap.size w W2 := below_grown h.be h.od hg (by omega) (by omega)
  refine ⟨hB, h.b1.grown hg (fun e => by have := (hod _ e.symm).1; omega), h.b2.grown hg (fun e => by have := (hod _ e.symm).1; omega), h.br.grown hg (fun e => by have := (hod _ e.symm).1; omega), h.bo.grown hg no, ?_, ?_, hlo⟩
  · exact own_keep h.os hg (fun k e1 e2 => own_apart h.os h.od (by decide) k e1 e2)
  · rw [List.length_append, List.length_singleton, List.flatMap_append]
    simpa [Drp.cells] using ho
end
theorem splt_ne {x y : Splt} (hk : x.key = y.key) (h : x ≠ y) : x.ways ≠ y.ways ∨ x.par ≠ y.par ∨ x.port ≠ y.port := by
  by_cases h1 : x.ways = y.ways
  · by_cases h2 : x.par = y.par
    · by_cases h3 : x.port = y.port
      · exact absurd (by cases x; cases y; simp_all) h
      · exact .inr (.inr h3)
    · exact .inr (.inl h2)
  · exact .inl h1
theorem drp_ne {x y : Drp} (hk : x.cust = y.cust) (h : x ≠ y) : x.spl ≠ y.spl ∨ x.port ≠ y.port := by
  by_cases h2 : x.spl = y.spl
  · by_cases h3 : x.port = y.port
    · exact absurd (by cases x; cases y; simp_all) h
    · exact .inr h3
  · exact .inl h2
theorem str_ne {a b : ByteArray} (h : a ≠ b) : ¬ a.toList = b.toList ∧ (a.toList == b.toList) = false := by
  have h1 : (a.toList == b.toList) = false := by
    cases h2 : (a.toList == b.toList)
    · rfl
    · exact absurd (strB_iff.1 h2) h
  exact ⟨fun e => by rw [e] at h1; simp at h1, h1⟩
theorem int_ne {a b : Int} (h : a ≠ b) : ¬ a = b ∧ (a == b) = false ∧ decide (a = b) = false := ⟨h, by simp [h], by simp [h]⟩
theorem infoDrpG : (Tryz.prog.info? 36).map (fun i => (i.zero, i.size, i.bytes)) = some (some (.agg #[.string ⟨#[]⟩, .string ⟨#[]⟩, .int .i64 0]), 3, 40) := by kernel_rfl
set_option maxHeartbeats 32000000 in
set_option maxRecDepth 100000 in
theorem mergedTree_any (v1 v2 u1 u2 : Value) (l : List Splt) (d : List Drp) (l' : List Splt) (d' : List Drp) (w : World) (h1 : Arr Splt.cells 4 w l v1) (h2 : Arr Drp.cells 3 w d v2) (h3 : Arr Splt.cells 4 w l' u1) (h4 : Arr Drp.cells 3 w d' u2)
    (hs : SOk l) (hr : Rising (d.map (·.cust))) (hl : l.length + l'.length ≤ 12) (hd : d.length + d'.length ≤ 12) :
    Calls Tryz.prog 25 #[.agg #[v1, v2], .agg #[u1, u2]] w (MergeRPost l d l' d' w) := by
  have HA := Lib.hid (And.intro h1 (And.intro h2 (And.intro h3 (And.intro h4 (And.intro hs hr)))))
  obtain ⟨a1, cap1, rfl, -, -, -⟩ := id h1
  obtain ⟨a2, cap2, rfl, -, -, -⟩ := id h2
  obtain ⟨a3, cap3, rfl, hcap3, hmax3, hc3⟩ := id h3
  obtain ⟨a4, cap4, rfl, hcap4, hmax4, hc4⟩ := id h4
  unfold maxLen at hmax3 hmax4
  have HC := Lib.hid (And.intro hc3 hc4)
  obtain ⟨i0, hi, hz0, hz1, hz2⟩ := info_parts infoSplt
  obtain ⟨i1, hj, hj0, hj1, hj2⟩ := info_parts infoDrpG
  have W0b : Blk (((w.alloc (.cells #[.slice a1 l.length cap1, .slice a2 d.length cap2] 29)).alloc (.cells #[.slice a3 l'.length cap3, .slice a4 d'.length cap4] 29)).alloc (.cells #[.slice none 0 0, .slice none 0 0] 29)) w.heap.size #[.slice a1 l.length cap1, .slice a2 d.length cap2] 29 := ((Blk.new w _ _).alloc _).alloc _
  have W0a : Blk (((w.alloc (.cells #[.slice a1 l.length cap1, .slice a2 d.length cap2] 29)).alloc (.cells #[.slice a3 l'.length cap3, .slice a4 d'.length cap4] 29)).alloc (.cells #[.slice none 0 0, .slice none 0 0] 29)) (w.heap.size + 1) #[.slice a3 l'.length cap3, .slice a4 d'.length cap4] 29 := (Blk.newAt (by simp)).alloc _
  have W0c : Blk (((w.alloc (.cells #[.slice a1 l.length cap1, .slice a2 d.length cap2] 29)).alloc (.cells #[.slice a3 l'.length cap3, .slice a4 d'.length cap4] 29)).alloc (.cells #[.slice none 0 0, .slice none 0 0] 29)) (w.heap.size + 2) #[.slice none 0 0, .slice none 0 0] 29 := Blk.newAt (by simp)
  have HX0 := Lib.hid (And.intro W0b (And.intro W0a W0c))
  clear h1 h2 h3 h4 hs hr hc3 hc4 W0b W0a W0c
  go_enter Tryz.func25, Tryz.ntmps25
  go_wp2_with fail
  refine (clone_splt _ l _ (by exact HA.out.1.below (by (repeat (first | exact Below.refl _ _ | assumption | refine below_draws ?_ _ | refine Below.drew ?_ | refine below_alloc ?_ _ (by first | omega | (simp; done) | (simp; omega)) | refine Below.setCell ?_ (by first | omega | (simp; done) | (simp; omega)) _ | refine below_at ?_ (by assumption) (by first | omega | (simp; done) | (simp; omega)))))) (by omega)).mono ?_
  rintro e w1 ⟨uc, rfl, ⟨ho, -⟩, hb1⟩
  have hz1' : w.heap.size + 3 ≤ w1.heap.size := by have := hb1.size; simpa using this
  have hBe : Below w.heap.size w w1 := by (repeat (first | exact Below.refl _ _ | assumption | refine below_draws ?_ _ | refine Below.drew ?_ | refine below_alloc ?_ _ (by first | omega | (simp; done) | (simp; omega)) | refine Below.setCell ?_ (by first | omega | (simp; done) | (simp; omega)) _ | refine below_at ?_ (by assumption) (by first | omega | (simp; done) | (simp; omega))))
  obtain ⟨au, cu, rfl⟩ := own_sliceB ho
  have hb12 : Below w1.heap.size w1 (w1.alloc (.cells #[.slice au l.length cu, .slice none 0 0] 29)) := below_alloc (Below.refl _ _) _ (Nat.le_refl _)
  have HX1 := Lib.hid (And.intro ((HX0.out.1.below hb1 (by simp; omega)).below hb12 (by omega)) (And.intro ((HX0.out.2.1.below hb1 (by simp)).below hb12 (by omega)) (And.intro ((HX0.out.2.2.below hb1 (by simp)).below hb12 (by omega)) (And.intro (below_at hBe hb12 (by omega)) (And.intro (own_below (own_baseH (B' := w.heap.size + 3) ho (by simp)) hb12) (Blk.new w1 #[.slice au l.length cu, .slice none 0 0] 29))))))
  have t0 := HX1.out.1.cell 0 _ rfl
  have t1 := HX1.out.1.cell 1 _ rfl
  have hob := HX1.out.2.2.2.2.2.lt
  clear hb1 hBe ho hb12 HX0
  go_wp2_with fail
  clear t0 t1
  generalize w1.alloc (.cells #[.slice au l.length cu, .slice none 0 0] 29) = W1 at *
  generalize w1.heap.size = ob at *
  refine (clone_drp _ d _ (by exact HA.out.2.1.below HX1.out.2.2.2.1) (by omega)).mono ?_
  rintro e W2 ⟨vc, rfl, ⟨hod, -⟩, hb2⟩
  obtain ⟨ad, cd, rfl⟩ := own_sliceB hod
  have hz2' := hb2.size
  have HM : Hid (MgSt w W2 (.slice a1 l.length cap1) (.slice a2 d.length cap2) (.slice a3 l'.length cap3) (.slice a4 d'.length cap4) ob (.slice au l.length cu) (.slice ad d.length cd) l d) :=
    ⟨below_at HX1.out.2.2.2.1 hb2 (by omega), HX1.out.1.below hb2 (by omega), HX1.out.2.1.below hb2 (by omega), HX1.out.2.2.1.below hb2 (by omega), HX1.out.2.2.2.2.2.below hb2 hob, own_below HX1.out.2.2.2.2.1 hb2, own_baseH hod (by omega), by omega⟩
  have p0 := HM.out.b2.cell 0 _ rfl
  clear HX1 hb2 hod
  go_wp2
  clear p0
  go_loopw [27] (fun i wr => ∃ (k : Nat) (u : Value), k ≤ l'.length ∧ i = .int .i64 k ∧ (∀ j (h : j < l'.length), j < k → ∀ x, getS l l'[j].key = some x → x = l'[j]) ∧ MgSt w wr (.slice a1 l.length cap1) (.slice a2 d.length cap2) (.slice a3 l'.length cap3) (.slice a4 d'.length cap4) ob u (.slice ad d.length cd) (addK Splt.key l l' k) d) (fun i _ => l'.length - (intOf i).toNat)
  case atStart => exact ⟨0, _, by omega, rfl, fun j h hj => by omega, by rw [addK_zero]; exact HM.out⟩
  case round =>
    obtain ⟨k, u, hk, rfl, hnc, hS⟩ := hrel
    obtain ⟨aw, cw, rfl⟩ := own_sliceB hS.os
    have HS := Lib.hid (And.intro hS hnc)
    have hwl := hS.bo.lt
    have hbr := hS.br.lt
    clear hS hnc
    by_cases hlt : k < l'.length
    · obtain ⟨b, off, rfl, hb, hcc⟩ := HC.out.1 k hlt
      obtain ⟨c0, c1, c2, c3⟩ := splt_at hcc
      replace c0 := (HS.out.1.be.cell (p := ⟨b, _, none⟩) hb).trans c0
      replace c1 := (HS.out.1.be.cell (p := ⟨b, _, none⟩) hb).trans c1
      replace c2 := (HS.out.1.be.cell (p := ⟨b, _, none⟩) hb).trans c2
      replace c3 := (HS.out.1.be.cell (p := ⟨b, _, none⟩) hb).trans c3
      have HX := Lib.hid (And.intro (Blk.new wr #[.string l'[k].key, .int .i64 l'[k].ways, .string l'[k].par, .int .i64 l'[k].port] 58) (HS.out.1.alloc (.cells #[.string l'[k].key, .int .i64 l'[k].ways, .string l'[k].par, .int .i64 l'[k].port] 58)))
      have x0 := HX.out.1.cell 0 _ rfl
      have t0 := HX.out.2.b1.cell 0 _ rfl
      have t1 := HX.out.2.b1.cell 1 _ rfl
      have hac := addK_succ (key := Splt.key) (l := l) hlt
      have HAC := Lib.hid hac
      have halen := addK_len Splt.key l l' k
      clear hcc hac
      go_wp2_with fail
      refine (splitterOf_any _ _ l l'[k].key _ (by exact HA.out.1.below HX.out.2.be)).mono ?_
      rintro e w4 ⟨rfl, hb4⟩
      have hz4 : wr.heap.size + 1 ≤ w4.heap.size := by have := hb4.size; simpa using this
      have HX4 := Lib.hid (And.intro (HX.out.1.below hb4 (by simp)) (HX.out.2.below hb4))
      clear hb4 x0 t0 t1 c0 c1 c2 c3 HX
      cases hgs : getS l l'[k].key with
      | none =>
        have hany : l.any (fun x => decide (x.key = l'[k].key)) = false := by rw [← getS_any, hgs]; rfl
        have HU : Hid (addK Splt.key l l' (k + 1) = addK Splt.key l l' k ++ [l'[k]]) := by rw [HAC.out, hany]; exact rfl
        have HN : Hid (∀ j (h : j < l'.length), j < k + 1 → ∀ x, getS l l'[j].key = some x → x = l'[j]) := fun j h hj x hx => by
          rcases Nat.lt_or_ge j k with h5 | h5
          · exact HS.out.2 j h h5 x hx
          · obtain rfl : j = k := by omega
            rw [hgs] at hx; cases hx
        clear hgs hany
        simp only [Option.getD_none, Option.isSome_none]
        have x0 := (HX4.out.1.alloc (.cells #[.string eSplt.key, .int .i64 eSplt.ways, .string eSplt.par, .int .i64 eSplt.port] 58)).cell 0 _ rfl
        have x1 := (HX4.out.1.alloc (.cells #[.string eSplt.key, .int .i64 eSplt.ways, .string eSplt.par, .int .i64 eSplt.port] 58)).cell 1 _ rfl
        have x2 := (HX4.out.1.alloc (.cells #[.string eSplt.key, .int .i64 eSplt.ways, .string eSplt.par, .int .i64 eSplt.port] 58)).cell 2 _ rfl
        have x3 := (HX4.out.1.alloc (.cells #[.string eSplt.key, .int .i64 eSplt.ways, .string eSplt.par, .int .i64 eSplt.port] 58)).cell 3 _ rfl
        have q0 := (HX4.out.2.alloc (.cells #[.string eSplt.key, .int .i64 eSplt.ways, .string eSplt.par, .int .i64 eSplt.port] 58)).bo.cell 0 _ rfl
        go_wp2_with ((at_builtin; go_must (refine wpList_append_own _ rfl _ _ 26 rfl _ 58 _ (.agg #[.string ⟨#[]⟩, .int .i64 0, .string ⟨#[]⟩, .int .i64 0]) 4 48 Tryz.underlying26 hi hz0 hz1 hz2 rfl (by decide) _ _ _ rfl ((HX4.out.2.alloc (.cells #[.string eSplt.key, .int .i64 eSplt.ways, .string eSplt.par, .int .i64 eSplt.port] 58)).alloc _).os ⟨(w4.heap.size + 1), 0, none⟩ 1 1 [.string l'[k].key, .int .i64 l'[k].ways, .string l'[k].par, .int .i64 l'[k].port] rfl rfl (by exact news_at (by first | rfl | simp) (by rfl)) (by simp [Value.oneCell']) (by unfold maxLen; omega) (by omega) (by first | omega | (simp; done) | (simp; omega)) ?_)); intro v' w6 hown6 hgrow _; obtain ⟨av6, cv6, rfl⟩ := own_sliceB hown6; have hA := ((HX4.out.2.alloc (.cells #[.string eSplt.key, .int .i64 eSplt.ways, .string eSplt.par, .int .i64 eSplt.port] 58)).alloc (.cells #[.string l'[k].key, .int .i64 l'[k].ways, .string l'[k].par, .int .i64 l'[k].port] 58)); have e1 := hA.bo.grown hgrow (fun e => own_neM hA.os hA.bo (by decide) e.symm); have e2 := e1.cell 0 _ rfl; have e3 := fun o => e1.free o; have HF := Lib.hid (hA.appS (x := l'[k]) hgrow hown6); have hl6 := e1.lt; clear hA e1 hown6 hgrow)
        refine ⟨⟨k + 1, .slice av6 ((addK Splt.key l l' k).length + 1) cv6, by omega, by go_num, HN.out, ?_⟩, by simp [intOf]; omega⟩
        rw [HU.out]; exact HF.out
      | some x =>
        have hany : l.any (fun x => decide (x.key = l'[k].key)) = true := by rw [← getS_any, hgs]; rfl
        obtain ⟨hxk, hxm⟩ := getS_key hgs
        simp only [Option.getD_some, Option.isSome_some]
        have x0 := (HX4.out.1.alloc (.cells #[.string x.key, .int .i64 x.ways, .string x.par, .int .i64 x.port] 58)).cell 0 _ rfl
        have x1 := (HX4.out.1.alloc (.cells #[.string x.key, .int .i64 x.ways, .string x.par, .int .i64 x.port] 58)).cell 1 _ rfl
        have x2 := (HX4.out.1.alloc (.cells #[.string x.key, .int .i64 x.ways, .string x.par, .int .i64 x.port] 58)).cell 2 _ rfl
        have x3 := (HX4.out.1.alloc (.cells #[.string x.key, .int .i64 x.ways, .string x.par, .int .i64 x.port] 58)).cell 3 _ rfl
        have HZ := Lib.hid (HX4.out.2.alloc (.cells #[.string x.key, .int .i64 x.ways, .string x.par, .int .i64 x.port] 58))
        by_cases hxe : x = l'[k]
        · have HU : Hid (addK Splt.key l l' (k + 1) = addK Splt.key l l' k) := by rw [HAC.out, hany, if_pos rfl, List.append_nil]; exact rfl
          have HN : Hid (∀ j (h : j < l'.length), j < k + 1 → ∀ x, getS l l'[j].key = some x → x = l'[j]) := fun j h hj y hy => by
            rcases Nat.lt_or_ge j k with h5 | h5
            · exact HS.out.2 j h h5 y hy
            · obtain rfl : j = k := by omega
              rw [hgs] at hy; cases hy; exact hxe
          rw [hxe] at HZ x0 x1 x2 x3 ⊢
          clear hgs hany hxk hxm hxe
          go_wp2
          refine ⟨⟨k + 1, .slice aw (addK Splt.key l l' k).length cw, by omega, by go_num, HN.out, ?_⟩, by simp [intOf]; omega⟩
          rw [HU.out]; exact HZ.out
        · have HCL : Hid (Clash Splt.key l l') := ⟨l'[k], List.getElem_mem hlt, x, hxm, hxk, hxe⟩
          have hne := splt_ne hxk hxe
          clear hgs hany hxm hxe
          rcases hne with hne | hne | hne
          · obtain ⟨n1, n2, n3⟩ := int_ne hne
            clear hne hxk
            (have z0 := (HZ.out).br.cell 0 _ rfl; have z1 := (HZ.out).br.cell 1 _ rfl; have zf := fun o => (HZ.out).br.free o; go_wp2; refine bodyPost_ret (v := .tuple #[.agg #[.slice none 0 0, .slice none 0 0], .int .i64 13]) ?_ rfl ⟨.slice none 0 0, .slice none 0 0, 13, [], [], rfl, .inl ⟨.inl HCL.out, rfl⟩, ?_, ?_, ?_, (fun k e => by cases e), fun k e => by cases e⟩; (· simp [results, go_sem, z0, z1]); (· exact Arr.nil _ _ _); (· exact Arr.nil _ _ _); (· have hh := (HZ.out).be; (repeat (first | exact Below.refl _ _ | assumption | refine below_draws ?_ _ | refine Below.drew ?_ | refine below_alloc ?_ _ (by first | omega | (simp; done) | (simp; omega)) | refine Below.setCell ?_ (by first | omega | (simp; done) | (simp; omega)) _ | refine below_at ?_ (by assumption) (by first | omega | (simp; done) | (simp; omega))))))
          · obtain ⟨n1, n2⟩ := str_ne hne
            clear hne hxk
            (have z0 := (HZ.out).br.cell 0 _ rfl; have z1 := (HZ.out).br.cell 1 _ rfl; have zf := fun o => (HZ.out).br.free o; go_wp2; refine bodyPost_ret (v := .tuple #[.agg #[.slice none 0 0, .slice none 0 0], .int .i64 13]) ?_ rfl ⟨.slice none 0 0, .slice none 0 0, 13, [], [], rfl, .inl ⟨.inl HCL.out, rfl⟩, ?_, ?_, ?_, (fun k e => by cases e), fun k e => by cases e⟩; (· simp [results, go_sem, z0, z1]); (· exact Arr.nil _ _ _); (· exact Arr.nil _ _ _); (· have hh := (HZ.out).be; (repeat (first | exact Below.refl _ _ | assumption | refine below_draws ?_ _ | refine Below.drew ?_ | refine below_alloc ?_ _ (by first | omega | (simp; done) | (simp; omega)) | refine Below.setCell ?_ (by first | omega | (simp; done) | (simp; omega)) _ | refine below_at ?_ (by assumption) (by first | omega | (simp; done) | (simp; omega))))))
          · obtain ⟨n1, n2, n3⟩ := int_ne hne
            clear hne hxk
            (have z0 := (HZ.out).br.cell 0 _ rfl; have z1 := (HZ.out).br.cell 1 _ rfl; have zf := fun o => (HZ.out).br.free o; go_wp2; refine bodyPost_ret (v := .tuple #[.agg #[.slice none 0 0, .slice none 0 0], .int .i64 13]) ?_ rfl ⟨.slice none 0 0, .slice none 0 0, 13, [], [], rfl, .inl ⟨.inl HCL.out, rfl⟩, ?_, ?_, ?_, (fun k e => by cases e), fun k e => by cases e⟩; (· simp [results, go_sem, z0, z1]); (· exact Arr.nil _ _ _); (· exact Arr.nil _ _ _); (· have hh := (HZ.out).be; (repeat (first | exact Below.refl _ _ | assumption | refine below_draws ?_ _ | refine Below.drew ?_ | refine below_alloc ?_ _ (by first | omega | (simp; done) | (simp; omega)) | refine Below.setCell ?_ (by first | omega | (simp; done) | (simp; omega)) _ | refine below_at ?_ (by assumption) (by first | omega | (simp; done) | (simp; omega))))))
    · obtain rfl : k = l'.length := by omega
      have hnc1 : ¬ Clash Splt.key l l' := by
        rintro ⟨s, hs, x, hx, he, hne⟩
        obtain ⟨j, hj, rfl⟩ := List.mem_iff_getElem.1 hs
        have := getS_own HA.out.2.2.2.2.1 hx
        rw [he] at this
        exact hne (HS.out.2 j hj hj x this)
      have hadd : addK Splt.key l l' l'.length = addL Splt.key l l' := by unfold addK; rw [List.take_length]
      have hM1 := HS.out.1
      have halen := addK_len Splt.key l l' l'.length
      rw [hadd] at hM1 halen
      have HM1 := Lib.hid (And.intro hM1 hnc1)
      clear hM1 hnc1 hadd HS HM
      generalize hAL : addL Splt.key l l' = AL at *
      have HAL := Lib.hid hAL
      clear hAL
      have p1 := HM1.out.1.b2.cell 1 _ rfl
      go_wp2
      clear p1
      obtain ⟨wo, rfl⟩ : ∃ wo : World, wo = wr := ⟨_, rfl⟩
      go_loopw [7, 57] (fun tv i wr => ∃ (k : Nat), k ≤ d'.length ∧ i = .int .i64 k ∧ (∀ j (h : j < d'.length), j < k → ∀ x, dropW d d'[j].cust = some x → x = d'[j]) ∧ MgSt w wr (.slice a1 l.length cap1) (.slice a2 d.length cap2) (.slice a3 l'.length cap3) (.slice a4 d'.length cap4) ob (.slice aw AL.length cw) tv AL (addK Drp.cust d d' k)) (fun _ i _ => d'.length - (intOf i).toNat)
      case atStart => exact ⟨0, by omega, rfl, fun j h hj => by omega, by rw [addK_zero]; exact HM1.out.1⟩
      case round =>
        obtain ⟨k, hk, rfl, hnc, hS⟩ := hrel
        obtain ⟨ae, ce, rfl⟩ := own_sliceB hS.od
        have HS := Lib.hid (And.intro hS hnc)
        have hwl := hS.bo.lt
        have hbr := hS.br.lt
        clear hS hnc
        by_cases hlt : k < d'.length
        · obtain ⟨b, off, rfl, hb, hcc⟩ := HC.out.2 k hlt
          obtain ⟨c0, c1, c2⟩ := drp_at hcc
          replace c0 := (HS.out.1.be.cell (p := ⟨b, _, none⟩) hb).trans c0
          replace c1 := (HS.out.1.be.cell (p := ⟨b, _, none⟩) hb).trans c1
          replace c2 := (HS.out.1.be.cell (p := ⟨b, _, none⟩) hb).trans c2
          have HX := Lib.hid (And.intro (Blk.new wr #[.string d'[k].cust, .string d'[k].spl, .int .i64 d'[k].port] 36) (HS.out.1.alloc (.cells #[.string d'[k].cust, .string d'[k].spl, .int .i64 d'[k].port] 36)))
          have x0 := HX.out.1.cell 0 _ rfl
          have t0 := HX.out.2.b1.cell 0 _ rfl
          have t1 := HX.out.2.b1.cell 1 _ rfl
          have hac := addK_succ (key := Drp.cust) (l := d) hlt
          have HAC := Lib.hid hac
          have hdlen := addK_len Drp.cust d d' k
          clear hcc hac
          go_wp2_with fail
          refine (dropOf_any _ _ d d'[k].cust _ (by exact HA.out.2.1.below HX.out.2.be)).mono ?_
          rintro e w4 ⟨rfl, hb4⟩
          have hz4 : wr.heap.size + 1 ≤ w4.heap.size := by have := hb4.size; simpa using this
          have HX4 := Lib.hid (And.intro (HX.out.1.below hb4 (by simp)) (HX.out.2.below hb4))
          clear hb4 x0 t0 t1 c0 c1 c2 HX
          cases hgs : dropW d d'[k].cust with
          | none =>
            have hany : d.any (fun x => decide (x.cust = d'[k].cust)) = false := by rw [← dropW_any, hgs]; rfl
            have HU : Hid (addK Drp.cust d d' (k + 1) = addK Drp.cust d d' k ++ [d'[k]]) := by rw [HAC.out, hany]; exact rfl
            have HN : Hid (∀ j (h : j < d'.length), j < k + 1 → ∀ x, dropW d d'[j].cust = some x → x = d'[j]) := fun j h hj x hx => by
              rcases Nat.lt_or_ge j k with h5 | h5
              · exact HS.out.2 j h h5 x hx
              · obtain rfl : j = k := by omega
                rw [hgs] at hx; cases hx
            clear hgs hany
            simp only [Option.getD_none, Option.isSome_none]
            have x0 := (HX4.out.1.alloc (.cells #[.string eDrp.cust, .string eDrp.spl, .int .i64 eDrp.port] 36)).cell 0 _ rfl
            have x1 := (HX4.out.1.alloc (.cells #[.string eDrp.cust, .string eDrp.spl, .int .i64 eDrp.port] 36)).cell 1 _ rfl
            have x2 := (HX4.out.1.alloc (.cells #[.string eDrp.cust, .string eDrp.spl, .int .i64 eDrp.port] 36)).cell 2 _ rfl
            go_wp2_with ((at_builtin; go_must (refine wpList_append_own _ rfl _ _ 27 rfl _ 36 _ (.agg #[.string ⟨#[]⟩, .string ⟨#[]⟩, .int .i64 0]) 3 40 Tryz.underlying27 hj hj0 hj1 hj2 rfl (by decide) _ _ _ rfl ((HX4.out.2.alloc (.cells #[.string eDrp.cust, .string eDrp.spl, .int .i64 eDrp.port] 36)).alloc _).od ⟨(w4.heap.size + 1), 0, none⟩ 1 1 [.string d'[k].cust, .string d'[k].spl, .int .i64 d'[k].port] rfl rfl (by exact news_at (by first | rfl | simp) (by rfl)) (by simp [Value.oneCell']) (by unfold maxLen; omega) (by omega) (by first | omega | (simp; done) | (simp; omega)) ?_)); intro v' w6 hown6 hgrow _; obtain ⟨av6, cv6, rfl⟩ := own_sliceB hown6; have hA := ((HX4.out.2.alloc (.cells #[.string eDrp.cust, .string eDrp.spl, .int .i64 eDrp.port] 36)).alloc (.cells #[.string d'[k].cust, .string d'[k].spl, .int .i64 d'[k].port] 36)); have HF := Lib.hid (hA.appD (x := d'[k]) hgrow hown6); clear hA hown6 hgrow)
            refine ⟨⟨k + 1, by omega, by go_num, HN.out, ?_⟩, by simp [intOf]; omega⟩
            rw [HU.out]; exact HF.out
          | some x =>
            have hany : d.any (fun x => decide (x.cust = d'[k].cust)) = true := by rw [← dropW_any, hgs]; rfl
            have hxk : x.cust = d'[k].cust := by have := List.find?_some hgs; exact strB_iff.1 this
            have hxm : x ∈ d := List.mem_of_find?_eq_some hgs
            simp only [Option.getD_some, Option.isSome_some]
            have x0 := (HX4.out.1.alloc (.cells #[.string x.cust, .string x.spl, .int .i64 x.port] 36)).cell 0 _ rfl
            have x1 := (HX4.out.1.alloc (.cells #[.string x.cust, .string x.spl, .int .i64 x.port] 36)).cell 1 _ rfl
            have x2 := (HX4.out.1.alloc (.cells #[.string x.cust, .string x.spl, .int .i64 x.port] 36)).cell 2 _ rfl
            have HZ := Lib.hid (HX4.out.2.alloc (.cells #[.string x.cust, .string x.spl, .int .i64 x.port] 36))
            by_cases hxe : x = d'[k]
            · have HU : Hid (addK Drp.cust d d' (k + 1) = addK Drp.cust d d' k) := by rw [HAC.out, hany, if_pos rfl, List.append_nil]; exact rfl
              have HN : Hid (∀ j (h : j < d'.length), j < k + 1 → ∀ x, dropW d d'[j].cust = some x → x = d'[j]) := fun j h hj y hy => by
                rcases Nat.lt_or_ge j k with h5 | h5
                · exact HS.out.2 j h h5 y hy
                · obtain rfl : j = k := by omega
                  rw [hgs] at hy; cases hy; exact hxe
              rw [hxe] at HZ x0 x1 x2 ⊢
              clear hgs hany hxk hxm hxe
              go_wp2
              refine ⟨⟨k + 1, by omega, by go_num, HN.out, ?_⟩, by simp [intOf]; omega⟩
              rw [HU.out]; exact HZ.out
            · have HCL : Hid (Clash Drp.cust d d') := ⟨d'[k], List.getElem_mem hlt, x, hxm, hxk, hxe⟩
              have hne := drp_ne hxk hxe
              clear hgs hany hxm hxe
              rcases hne with hne | hne
              · obtain ⟨n1, n2⟩ := str_ne hne
                clear hne hxk
                (have z0 := (HZ.out).br.cell 0 _ rfl; have z1 := (HZ.out).br.cell 1 _ rfl; have zf := fun o => (HZ.out).br.free o; go_wp2; refine bodyPost_ret (v := .tuple #[.agg #[.slice none 0 0, .slice none 0 0], .int .i64 13]) ?_ rfl ⟨.slice none 0 0, .slice none 0 0, 13, [], [], rfl, .inl ⟨.inr HCL.out, rfl⟩, ?_, ?_, ?_, (fun k e => by cases e), fun k e => by cases e⟩; (· simp [results, go_sem, z0, z1]); (· exact Arr.nil _ _ _); (· exact Arr.nil _ _ _); (· have hh := (HZ.out).be; (repeat (first | exact Below.refl _ _ | assumption | refine below_draws ?_ _ | refine Below.drew ?_ | refine below_alloc ?_ _ (by first | omega | (simp; done) | (simp; omega)) | refine Below.setCell ?_ (by first | omega | (simp; done) | (simp; omega)) _ | refine below_at ?_ (by assumption) (by first | omega | (simp; done) | (simp; omega))))))
              · obtain ⟨n1, n2, n3⟩ := int_ne hne
                clear hne hxk
                (have z0 := (HZ.out).br.cell 0 _ rfl; have z1 := (HZ.out).br.cell 1 _ rfl; have zf := fun o => (HZ.out).br.free o; go_wp2; refine bodyPost_ret (v := .tuple #[.agg #[.slice none 0 0, .slice none 0 0], .int .i64 13]) ?_ rfl ⟨.slice none 0 0, .slice none 0 0, 13, [], [], rfl, .inl ⟨.inr HCL.out, rfl⟩, ?_, ?_, ?_, (fun k e => by cases e), fun k e => by cases e⟩; (· simp [results, go_sem, z0, z1]); (· exact Arr.nil _ _ _); (· exact Arr.nil _ _ _); (· have hh := (HZ.out).be; (repeat (first | exact Below.refl _ _ | assumption | refine below_draws ?_ _ | refine Below.drew ?_ | refine below_alloc ?_ _ (by first | omega | (simp; done) | (simp; omega)) | refine Below.setCell ?_ (by first | omega | (simp; done) | (simp; omega)) _ | refine below_at ?_ (by assumption) (by first | omega | (simp; done) | (simp; omega))))))
        · obtain rfl : k = d'.length := by omega
          have hnc2 : ¬ Clash Drp.cust d d' := by
            rintro ⟨s, hs, x, hx, he, hne⟩
            obtain ⟨j, hj, rfl⟩ := List.mem_iff_getElem.1 hs
            obtain ⟨i, hi', rfl⟩ := List.mem_iff_getElem.1 hx
            have := dropW_self HA.out.2.2.2.2.2 hi'
            rw [he] at this
            exact hne (HS.out.2 j hj hj _ this)
          have hadd : addK Drp.cust d d' d'.length = addL Drp.cust d d' := by unfold addK; rw [List.take_length]
          have hM2 := HS.out.1
          have hdlen := addK_len Drp.cust d d' d'.length
          rw [hadd] at hM2 hdlen
          have HM2 := Lib.hid (And.intro hM2 hnc2)
          rw [hadd]
          clear hM2 hnc2 hadd HS
          generalize hEL : addL Drp.cust d d' = EL at *
          have HEL := Lib.hid hEL
          clear hEL
          have q0 := HM2.out.1.bo.cell 0 _ rfl
          have hF : ∀ (args : Array Value) (w : World), (callFunc 85 args).run Tryz.prog w = .ok (.enter 85 args) w := run_fn Tryz.func85 (by kernel_rfl) rfl
          go_wp2_with fail
          refine (sortF_splt _ AL _ (w.heap.size + 3) _ (RowV.of_own Splt.cells_len HM2.out.1.os) (by omega) hF byKey_any).mono ?_
          rintro e w7 ⟨rfl, S, hpS, hsS, hrS, hg7⟩
          have hno : some ob ≠ (Value.slice aw AL.length cw).ownBlock := fun e => own_neM HM2.out.1.os HM2.out.1.bo (by decide) e.symm
          have hosl := HM2.out.1.os.lt
          have hbo7 := HM2.out.1.bo.grown hg7 hno
          have hbr7 := HM2.out.1.br.grown hg7 (fun e => by have := (hosl _ e.symm).1; omega)
          have hod7 := own_keep HM2.out.1.od hg7 (fun k e1 e2 => own_apart HM2.out.1.od HM2.out.1.os (by decide) k e1 e2)
          have hbe7 : Below w.heap.size w w7 := below_grown HM2.out.1.be HM2.out.1.os hg7 (by omega) (by omega)
          have hap7 : ∀ k, (Value.slice aw AL.length cw).ownBlock = some k → (Value.slice ae EL.length ce).ownBlock ≠ some k := fun k e1 e2 => own_apart HM2.out.1.os HM2.out.1.od (by decide) k e1 e2
          have hAS := hrS.arr
          have HM7 := Lib.hid (And.intro hpS (And.intro hsS (And.intro hrS (And.intro hbo7 (And.intro hbr7 (And.intro hod7 (And.intro hbe7 hap7)))))))
          have q0' := hbo7.cell 0 _ rfl
          have q1' := hbo7.cell 1 _ rfl
          clear hpS hsS hg7 hno hosl hbo7 hbr7 hod7 hbe7 hap7 q0
          have HSL : Hid (S.length = AL.length) := HM7.out.1.length_eq
          go_wp2_with fail
          refine (withDrops_any _ _ _ S EL (w.heap.size + 3) _ (by exact HM7.out.2.2.1.arr) (fun w' hg => (HM7.out.2.2.1.grown hg (fun k e1 e2 => HM7.out.2.2.2.2.2.2.2 k e1 e2)).arr) (RowV.of_own Drp.cells_len HM7.out.2.2.2.2.2.1) (by omega) (by have := HSL.out; omega)).mono ?_
          rintro e w8 ⟨uf, D, rfl, hpD, hsD, hAf, hrD, hg8, hlo8⟩
          obtain ⟨af, cf, rfl, -, -, -⟩ := id hAf
          have hodl := HM7.out.2.2.2.2.2.1.lt
          have hno : some ob ≠ (Value.slice ae EL.length ce).ownBlock := fun e => own_neM HM7.out.2.2.2.2.2.1 HM7.out.2.2.2.1 (by decide) e.symm
          have hbo8 := HM7.out.2.2.2.1.grown hg8 hno
          have hbr8 := HM7.out.2.2.2.2.1.grown hg8 (fun e => by have := (hodl _ e.symm).1; omega)
          have hbe8 : Below w.heap.size w w8 := below_grown HM7.out.2.2.2.2.2.2.1 HM7.out.2.2.2.2.2.1 hg8 (by omega) (by have := HM7.out.2.2.2.2.1.lt; omega)
          have hob7 := HM7.out.2.2.2.1.lt
          have HLO8 := Lib.hid hlo8
          have hnf : (Value.slice af S.length cf).ownBlock ≠ some ob := fun e => by have := hlo8 _ e; omega
          have hA9 := arr_setOther (arr_setOther hAf hnf 0 (.slice af S.length cf)) hnf 1 (.slice ae EL.length ce)
          have hD9 := ((hrD.setNe (fun e => hno e.symm) 0 (.slice af S.length cf)).setNe (fun e => hno e.symm) 1 (.slice ae EL.length ce)).arr
          have hbr9 := (hbr8.setOther (show w.heap.size + 2 ≠ ob by omega) 0 (.slice af S.length cf)).setOther (show w.heap.size + 2 ≠ ob by omega) 1 (.slice ae EL.length ce)
          have hbo9 := (hbo8.set 0 (.slice af S.length cf)).set 1 (.slice ae EL.length ce)
          have hbe9 : Below w.heap.size w ((w8.setCell ⟨ob, 0, none⟩ (.slice af S.length cf)).setCell ⟨ob, 1, none⟩ (.slice ae EL.length ce)) := Below.setCell (Below.setCell hbe8 (by simp; omega) _) (by simp; omega) _
          have H9 := Lib.hid (And.intro hA9 (And.intro hD9 (And.intro hbr9 (And.intro hbo9 (And.intro hbe9 (And.intro hnf (And.intro hno (And.intro hpD hsD))))))))
          have o0 := hbo8.cell 0 _ rfl
          have o1 := hbo8.cell 1 _ rfl
          have of := fun o => hbo8.free o
          clear hA9 hD9 hbr9 hbo9 hbe9 hnf hno hpD hsD hAf hrD hg8 hbo8 hbr8 hbe8 q0' q1' hlo8 hodl
          go_wp2_with fail
          refine (rtreeFault_any _ _ S D _ (by exact H9.out.1) (by exact H9.out.2.1)).mono ?_
          rintro e wA ⟨rfl, hbA⟩
          clear o0 o1 of
          generalize (w8.setCell ⟨ob, 0, none⟩ (.slice af S.length cf)).setCell ⟨ob, 1, none⟩ (.slice ae EL.length ce) = W9 at *
          have hzA := hbA.size
          have hbrA := H9.out.2.2.1.below hbA H9.out.2.2.1.lt
          have hboA := H9.out.2.2.2.1.below hbA H9.out.2.2.2.1.lt
          have z0 := hbrA.cell 0 _ rfl
          have z1 := hbrA.cell 1 _ rfl
          have zf := fun o => hbrA.free o
          have o0 := hboA.cell 0 _ rfl
          have o1 := hboA.cell 1 _ rfl
          have HRef : Hid (MergeRef l d l' d' (treeF S D) S D) := .inr ⟨HM1.out.2, HM2.out.2, by rw [HAL.out]; exact HM7.out.1, HM7.out.2.1, by rw [HEL.out]; exact H9.out.2.2.2.2.2.2.2.1, H9.out.2.2.2.2.2.2.2.2, rfl⟩
          have hbeA := below_at H9.out.2.2.2.2.1 hbA H9.out.2.2.2.2.1.size
          have hAA := H9.out.1.below hbA
          have hDA := H9.out.2.1.below hbA
          have hlu : (Value.slice af S.length cf).ownBlock ≠ some (w.heap.size + 2) := fun e => by have := HLO8.out _ e; omega
          have hld : (Value.slice ae EL.length ce).ownBlock ≠ some (w.heap.size + 2) := fun e => by have := (HM2.out.1.od.lt _ e).1; omega
          have HA9 := Lib.hid (And.intro hbeA (And.intro hAA (And.intro hDA (And.intro hlu hld))))
          clear hbA hbrA hboA hbeA hAA hDA hlu hld
          by_cases hF0 : treeF S D = 0
          · have hq : (treeF S D != 0) = false := by simp [hF0]
            have HF0 := Lib.hid hF0
            clear hF0
            go_wp2
            refine bodyPost_ret (v := .tuple #[.agg #[.slice af S.length cf, .slice ae EL.length ce], .int .i64 0]) ?_ rfl ⟨.slice af S.length cf, .slice ae EL.length ce, 0, S, D, rfl, by have := HRef.out; rw [HF0.out] at this; exact this, ?_, ?_, ?_, (fun k e => by have := HLO8.out _ e; omega), fun k e => by have := (HM2.out.1.od.lt _ e).1; omega⟩
            · simp [results, go_sem, z0, z1]
            · rw [if_pos rfl]; exact arr_setOther (arr_setOther HA9.out.2.1 HA9.out.2.2.2.1 _ _) HA9.out.2.2.2.1 _ _
            · rw [if_pos rfl]; exact arr_setOther (arr_setOther HA9.out.2.2.1 HA9.out.2.2.2.2 _ _) HA9.out.2.2.2.2 _ _
            · exact Below.setCell (Below.setCell HA9.out.1 (by simp; omega) _) (by simp; omega) _
          · have hq : (treeF S D != 0) = true := by simp [hF0]
            have HF0 := Lib.hid hF0
            clear hF0
            go_wp2
            refine bodyPost_ret (v := .tuple #[.agg #[.slice none 0 0, .slice none 0 0], .int .i64 (treeF S D)]) ?_ rfl ⟨.slice none 0 0, .slice none 0 0, treeF S D, S, D, rfl, HRef.out, ?_, ?_, ?_, (fun k e => by cases e), fun k e => by cases e⟩
            · simp [results, go_sem, z0, z1]
            · rw [if_neg HF0.out]; exact Arr.nil _ _ _
            · rw [if_neg HF0.out]; exact Arr.nil _ _ _
            · exact Below.setCell (Below.setCell HA9.out.1 (by simp; omega) _) (by simp; omega) _
end Go.Proofs.YtcecpodbmjghhaaGreat
/- For the walk of TreesAsked: the keys that are drawn, whether two lists of names with numbers are told the same, the state of the walk. -/
namespace Go.Proofs.YtcecpodbmjghhaaGreat
open Go Go.RowKit
def StrIs (v : Value) (_ : World) : Prop := ∃ b : ByteArray, v = .string b
set_option maxHeartbeats 1000000 in
theorem asplitter_any (s m : Nat) (w : World) (h : Strm w s m) (hm : m ≤ 1000000) : Calls Tryz.prog 6 #[.pointer (some ⟨s, 0, none⟩)] w (Draw StrIs s m 1 w) := by
  have hl := h.lt
  go_enter Tryz.func6, Tryz.ntmps6
  go_wp2_with fail
  refine (some_any s m _ [⟨#[115, 49]⟩, ⟨#[115, 49]⟩, ⟨#[115, 50]⟩, ⟨#[115, 51]⟩, ⟨#[115, 52]⟩, ⟨#[122, 122]⟩, ⟨#[]⟩] _ (h.alloc _) (by omega) (Arr.litAt (cells := strCells) (sz := 1) (fun _ => rfl) (by first | rfl | simp) (by rfl) (by rfl) (by simp [maxLen])) (by simp) (by simp) (fun n cap off e => by simp only [Value.slice.injEq, Option.some.injEq, Addr.mk.injEq] at e; omega)).mono ?_
  rintro e w1 ⟨v, rfl, ⟨x, rfl, -⟩, hs, hg⟩
  have hg2 := grown_trans (World.grownBy_alloc w _ (some s)) hg
  go_wp2
  go_ret
  exact ⟨_, rfl, ⟨x, rfl⟩, hs, hg2⟩
set_option maxHeartbeats 1000000 in
theorem acustomer_any (s m : Nat) (w : World) (h : Strm w s m) (hm : m ≤ 1000000) : Calls Tryz.prog 8 #[.pointer (some ⟨s, 0, none⟩)] w (Draw StrIs s m 1 w) := by
  have hl := h.lt
  go_enter Tryz.func8, Tryz.ntmps8
  go_wp2_with fail
  refine (some_any s m _ [⟨#[107, 49]⟩, ⟨#[107, 50]⟩, ⟨#[107, 51]⟩, ⟨#[107, 53]⟩, ⟨#[107, 57]⟩, ⟨#[]⟩] _ (h.alloc _) (by omega) (Arr.litAt (cells := strCells) (sz := 1) (fun _ => rfl) (by first | rfl | simp) (by rfl) (by rfl) (by simp [maxLen])) (by simp) (by simp) (fun n cap off e => by simp only [Value.slice.injEq, Option.some.injEq, Addr.mk.injEq] at e; omega)).mono ?_
  rintro e w1 ⟨v, rfl, ⟨x, rfl, -⟩, hs, hg⟩
  have hg2 := grown_trans (World.grownBy_alloc w _ (some s)) hg
  go_wp2
  go_ret
  exact ⟨_, rfl, ⟨x, rfl⟩, hs, hg2⟩
end Go.Proofs.YtcecpodbmjghhaaGreat
/- What the walk of TreesChanged leans on: the memory of a tree in a box; what is answered for a tree that is not right; merges compared. -/
namespace Go.Proofs.YtcecpodbmjghhaaGreat
open Go Go.RowKit
/-- a tree in a box -/
structure TrB (W : World) (b : Nat) (v1 v2 : Value) (l : List Splt) (d : List Drp) : Prop where
  bx : Blk W b #[v1, v2] 29
  a1 : Arr Splt.cells 4 W l v1
  a2 : Arr Drp.cells 3 W d v2
theorem TrB.below {W W' : World} {b : Nat} {v1 v2 : Value} {l : List Splt} {d : List Drp} (h : TrB W b v1 v2 l d) (hb : Below W.heap.size W W') : TrB W' b v1 v2 l d := ⟨h.bx.below hb h.bx.lt, h.a1.below hb, h.a2.below hb⟩
theorem bel_grown {B s : Nat} {a b c : World} (h : Below B a b) (hg : b.grownBy c (some s)) (hs : B ≤ s) (hb : B ≤ b.heap.size) : Below B a c :=
  ⟨hg.os.trans h.os, hg.tape.trans h.tape, hg.output.trans h.output, Nat.le_trans h.size hg.size, fun k hk => (hg.block k (by omega) (by simp; omega)).trans (h.block k hk)⟩
theorem con_bad {l : List Splt} {d : List Drp} (h : treeF l d ≠ 0) (c : ByteArray) : conF l d c = treeF l d ∧ conB l d c = eDrp ∧ conS l d c = [] ∧ conD l d c = [] := by
  have hF : conF l d c = treeF l d := by unfold conF; rw [if_pos h]
  exact ⟨hF, con_err hF h⟩
theorem rem_bad {l : List Splt} {d : List Drp} (h : treeF l d ≠ 0) (c : ByteArray) : remF l d c = treeF l d ∧ remS l d c = [] ∧ remD l d c = [] := by
  have hF : remF l d c = treeF l d := by unfold remF; rw [if_pos h]
  exact ⟨hF, rem_err hF h⟩
theorem move_bad {l : List Splt} {d : List Drp} (h : treeF l d ≠ 0) (key par : ByteArray) (port : Int) : moveF l d key par port = treeF l d := by
  have hs : splitterF l d key = treeF l d := by unfold splitterF; rw [if_pos h]
  unfold moveF; rw [if_pos (by rw [hs]; exact h), hs]
theorem rem_none {l : List Splt} {d : List Drp} (hf : treeF l d = 0) (c : ByteArray) : noneV (!(dropW d c).isSome) = remF l d c := by
  unfold remF noneV
  rcases findD_get d c with ⟨h1, h2⟩ | ⟨k, hk, h1, h2, _⟩
  · rw [h2]; simp [hf, h1]
  · have h3 : ¬ findD d c < 0 := by omega
    rw [h2]; simp [hf, h3]
theorem rem_none2 {l : List Splt} {d : List Drp} (hf : treeF l d = 0) (c : ByteArray) : noneV (dropW d c).isNone = remF l d c := by rw [← rem_none hf, Option.not_isSome]
theorem rem_other {l : List Splt} {d : List Drp} {c : ByteArray} (h : remF l d c ≠ 0) : remS l d c = [] ∧ remD l d c = [] := rem_err rfl h
theorem rem_zero {l : List Splt} {d : List Drp} {c : ByteArray} (hf : treeF l d = 0) (h : remF l d c = 0) : remS l d c = l ∧ remD l d c = d.filter (fun x => !decide (x.cust = c)) := by
  have h0 : 0 ≤ findD d c := by
    unfold remF at h
    rw [if_neg (by rw [hf]; simp)] at h
    split at h <;> omega
  exact (rem_eq hf h0).2
/-- the program's merge is the reference's -/
theorem merge_same {l l' : List Splt} {d d' : List Drp} {n n' : Int} {S S' : List Splt} {D D' : List Drp} (h1 : treeF l d = 0) (h2 : treeF l' d' = 0) (hm : MergeIs l d l' d' n S D) (hr : MergeRef l d l' d' n' S' D') : n = n' ∧ (n = 0 → S = S' ∧ D = D') := by
  have o1 := tok_of h1
  have o2 := tok_of h2
  rcases hm with ⟨h, _⟩ | ⟨_, h, _⟩ | ⟨_, _, L, M, p1, s1, p2, s2, rfl, rfl, h7⟩
  · exact absurd h1 h
  · exact absurd h2 h
  have ml := merge_adj (rise_pw o1.s.rise) (rise_pw o2.s.rise) p1 s1
  have md := merge_adj (rise_pw o1.custs) (rise_pw o2.custs) p2 s2
  rcases hr with ⟨hc, rfl⟩ | ⟨c1, c2, q1, t1, q2, t2, rfl⟩
  · rcases h7 with ⟨_, rfl⟩ | ⟨a1, a2, _⟩
    · exact ⟨rfl, fun h => by omega⟩
    · rcases hc with hc | hc
      · exact absurd (ml.1.2 hc) a1
      · exact absurd (md.1.2 hc) a2
  · have e1 := merge_eq (rise_pw o1.s.rise) (rise_pw o2.s.rise) c1 p1 s1 q1 t1
    have e2 := merge_eq (rise_pw o1.custs) (rise_pw o2.custs) c2 p2 s2 q2 t2
    rcases h7 with ⟨h, _⟩ | ⟨_, _, rfl⟩
    · rcases h with h | h
      · exact absurd (ml.1.1 h) c1
      · exact absurd (md.1.1 h) c2
    · exact ⟨by rw [e1, e2], fun _ => ⟨e1.symm, e2.symm⟩⟩
theorem merge_bad {l l' : List Splt} {d d' : List Drp} {n : Int} {S : List Splt} {D : List Drp} (h1 : treeF l d = 0) (h2 : treeF l' d' ≠ 0) (hm : MergeIs l d l' d' n S D) : n = treeF l' d' := by
  rcases hm with ⟨h, _⟩ | ⟨_, _, h⟩ | ⟨_, h, _⟩
  · exact absurd h1 h
  · exact h
  · exact absurd h h2
end Go.Proofs.YtcecpodbmjghhaaGreat
