/- Texts of one subject in one: OwnL, SkDrp, ChK0, ChK, ChM, ChR; what each shows stands at its head. No condition. -/
import Derived.Test.YtcecpodbmjghhaaGreatMemAll
import Derived.Test.YtcecpodbmjghhaaGreatLibB
import Derived.Test.YtcecpodbmjghhaaGreatTreeRef
import Derived.Test.YtcecpodbmjghhaaGreatInsAll
import Derived.Test.YtcecpodbmjghhaaGreatComAll
import Derived.Test.YtcecpodbmjghhaaGreatChAll
import Derived.Test.YtcecpodbmjghhaaGreatAskRN
import Derived.Test.YtcecpodbmjghhaaGreatAskRef
import Derived.Test.YtcecpodbmjghhaaGreatBelAll
import Derived.Test.YtcecpodbmjghhaaGreatCatAll
import Derived.Deep.CutRange
/- A list that stands at the head of a whole block of its own: elements put, the tail written over, the state of slices.DeleteFunc. No program. -/
set_option linter.unusedVariables false
set_option linter.unusedSimpArgs false
namespace Go.Proofs.YtcecpodbmjghhaaGreat
open Go Go.RowKit
/-- block g holds cap elements of type t, the first of them are l -/
def OwnL {α : Type} (cells : α → List Value) (sz : Nat) (t : TypeId) (cap : Nat) (w : World) (g : Nat) (l : List α) : Prop :=
  ∃ cur, Blk w g cur t ∧ cur.size = cap * sz ∧ l.length ≤ cap ∧ cur.toList.take (l.length * sz) = l.flatMap cells
section
variable {α : Type} {cells : α → List Value} {sz cap g : Nat} {t : TypeId} {w w' : World} {l : List α}
theorem OwnL.of_own {base n : Nat} (h : w.ownsRow base t sz (.slice (some ⟨g, 0, none⟩) n cap) n (l.flatMap cells)) (hn : n = l.length) : OwnL cells sz t cap w g l := by
  subst hn
  obtain ⟨_, ⟨hv, _⟩ | ⟨g2, cap2, cur, hv, _, hh, hc, _, hs, ht⟩⟩ := h
  · cases hv
  · simp only [Value.slice.injEq, Option.some.injEq, Addr.mk.injEq, and_true, true_and] at hv
    obtain ⟨rfl, rfl⟩ := hv
    exact ⟨cur, hh, hs, hc, ht⟩
theorem OwnL.own {base : Nat} (hlen : ∀ x, (cells x).length = sz) (h : OwnL cells sz t cap w g l) (hb : base ≤ g) (hm : cap ≤ maxLen) : w.ownsRow base t sz (.slice (some ⟨g, 0, none⟩) l.length cap) l.length (l.flatMap cells) := by
  obtain ⟨cur, h1, h2, h3, h4⟩ := h
  exact ⟨flat_len hlen l, .inr ⟨g, cap, cur, rfl, hb, h1, h3, hm, h2, h4⟩⟩
theorem OwnL.row (hlen : ∀ x, (cells x).length = sz) (h : OwnL cells sz t cap w g l) (hm : cap ≤ maxLen) : Row cells sz w g l := Row.of_own hlen (h.own hlen (Nat.zero_le _) hm) rfl
theorem OwnL.kept (h : OwnL cells sz t cap w g l) (hb : w'.heap[g]? = w.heap[g]?) : OwnL cells sz t cap w' g l := by
  obtain ⟨cur, h1, h2, h3, h4⟩ := h
  exact ⟨cur, by unfold Blk at *; rw [hb]; exact h1, h2, h3, h4⟩
theorem OwnL.lt (h : OwnL cells sz t cap w g l) : g < w.heap.size := by obtain ⟨_, h1, _⟩ := h; exact h1.lt
theorem OwnL.below {B : Nat} (h : OwnL cells sz t cap w g l) (hB : Below B w w') (hg : g < B) : OwnL cells sz t cap w' g l := h.kept (hB.block g hg)
theorem flat_put (hlen : ∀ x, (cells x).length = sz) : ∀ (l : List α) (i : Nat) (x : α), i < l.length → (l.flatMap cells).take (i * sz) ++ cells x ++ (l.flatMap cells).drop (i * sz + (cells x).length) = (l.set i x).flatMap cells
  | y :: l, 0, x, _ => by
    rw [Nat.zero_mul, Nat.zero_add, List.take_zero, List.nil_append, List.set_cons_zero, List.flatMap_cons, List.flatMap_cons, List.drop_left' (by rw [hlen, hlen])]
  | y :: l, i + 1, x, h => by
    have ih := flat_put hlen l i x (by simpa using h)
    rw [List.set_cons_succ, List.flatMap_cons, List.flatMap_cons, ← ih, Nat.succ_mul]
    have e1 : (cells y ++ l.flatMap cells).take (i * sz + sz) = cells y ++ (l.flatMap cells).take (i * sz) := by
      rw [List.take_append, hlen, List.take_of_length_le (by rw [hlen]; omega)]; congr 2; omega
    have e2 : (cells y ++ l.flatMap cells).drop (i * sz + sz + (cells x).length) = (l.flatMap cells).drop (i * sz + (cells x).length) := by
      rw [List.drop_append, List.drop_eq_nil_of_le (by rw [hlen]; omega), List.nil_append, hlen y]; congr 1; omega
    rw [e1, e2]; simp [List.append_assoc]
theorem OwnL.put (hlen : ∀ x, (cells x).length = sz) (h : OwnL cells sz t cap w g l) (i : Nat) (hi : i < l.length) (x : α) : OwnL cells sz t cap (w.setCells g (i * sz) (cells x)) g (l.set i x) := by
  obtain ⟨cur, h1, h2, h3, h4⟩ := h
  have hx := hlen x
  have hle : (i + 1) * sz ≤ l.length * sz := Nat.mul_le_mul_right _ hi
  have hlc : l.length * sz ≤ cap * sz := Nat.mul_le_mul_right _ h3
  rw [Nat.succ_mul] at hle
  have hfit : i * sz + (cells x).length ≤ cur.size := by omega
  refine ⟨_, blk_setCells h1 _ _ hfit, by rw [overB_size hfit, h2], by rw [List.length_set]; exact h3, ?_⟩
  have hct : cur.toList.length = cur.size := rfl
  rw [List.length_set, ← flat_put hlen l i x hi, ← h4]
  unfold overB
  rw [show ∀ L : List Value, L.toArray.toList = L from fun L => rfl]
  have e0 : (cur.toList.take (i * sz)).length = i * sz := by rw [List.length_take]; omega
  rw [List.append_assoc, List.take_append, e0, List.take_of_length_le (l := cur.toList.take (i * sz)) (by omega), List.take_append, List.take_of_length_le (l := cells x) (by omega), List.take_take, Nat.min_eq_left (by omega), List.drop_take, List.append_assoc]
  congr 3
  omega
theorem OwnL.cut (hlen : ∀ x, (cells x).length = sz) (h : OwnL cells sz t cap w g l) (i : Nat) (hi : i ≤ l.length) (vs : List Value) (hv : vs.length = (l.length - i) * sz) : OwnL cells sz t cap (w.setCells g (i * sz) vs) g (l.take i) := by
  obtain ⟨cur, h1, h2, h3, h4⟩ := h
  have hct : cur.toList.length = cur.size := rfl
  have hle : l.length * sz ≤ cap * sz := Nat.mul_le_mul_right _ h3
  have hil : i * sz ≤ l.length * sz := Nat.mul_le_mul_right _ hi
  have hfit : i * sz + vs.length ≤ cur.size := by rw [hv, Nat.sub_mul]; omega
  refine ⟨_, blk_setCells h1 _ _ hfit, by rw [overB_size hfit, h2], by rw [List.length_take]; omega, ?_⟩
  have e0 : (cur.toList.take (i * sz)).length = i * sz := by rw [List.length_take]; omega
  unfold overB
  rw [show ∀ L : List Value, L.toArray.toList = L from fun L => rfl, List.length_take, Nat.min_eq_left hi, List.append_assoc, List.take_left' e0]
  have := flat_take2 hlen l i hi
  rw [this, ← h4, List.take_take, Nat.min_eq_left hil]
where
  flat_take2 {α : Type} {cells : α → List Value} {sz : Nat} (hlen : ∀ x, (cells x).length = sz) (l : List α) (i : Nat) (hi : i ≤ l.length) : (l.take i).flatMap cells = (l.flatMap cells).take (i * sz) := by
    have h := congrArg (List.flatMap cells) (List.take_append_drop i l)
    rw [List.flatMap_append] at h
    rw [← h, List.take_left' (by rw [flat_len hlen, List.length_take]; rw [Nat.min_eq_left hi])]
end
/-- the state of DeleteFunc, with the whole block -/
structure DelO {α : Type} (cells : α → List Value) (sz : Nat) (t : TypeId) (cap : Nat) (p : α → Bool) (l : List α) (w0 wr : World) (g i j : Nat) (cur : List α) : Prop where
  d : Del cells sz p l w0 wr g i j cur
  o : OwnL cells sz t cap wr g cur
section
variable {α : Type} {cells : α → List Value} {sz cap g i j : Nat} {t : TypeId} {p : α → Bool} {w0 wr w1 : World} {l cur : List α}
theorem DelO.skip (h : DelO cells sz t cap p l w0 wr g i j cur) (hj : j < l.length) (hp : p l[j] = true) (hb : Below wr.heap.size wr w1) : DelO cells sz t cap p l w0 w1 g i (j + 1) cur :=
  ⟨h.d.skip hj hp hb, h.o.below hb h.o.lt⟩
theorem DelO.keep (hlen : ∀ x, (cells x).length = sz) (h : DelO cells sz t cap p l w0 wr g i j cur) (hj : j < l.length) (hp : p l[j] = false) (hb : Below wr.heap.size wr w1) : DelO cells sz t cap p l w0 (w1.setCells g (i * sz) (cells l[j])) g (i + 1) (j + 1) (cur.set i l[j]) :=
  ⟨h.d.keep hlen hj hp hb, (h.o.below hb h.o.lt).put hlen i (by rw [h.d.len]; have := h.d.ij; omega) l[j]⟩
end
end Go.Proofs.YtcecpodbmjghhaaGreat
/- Walk: slices.DeleteFunc of drops that are owned. (Written by sk.py.) -/
namespace Go.Proofs.YtcecpodbmjghhaaGreat
open Go Go.RowKit
/-- what DeleteFunc leaves of a row that is owned -/
def DelPostDrp (base : Nat) (l : List Drp) (p : Drp → Bool) (v : Value) (w : World) (e : Ending) (w' : World) : Prop :=
  ∃ v', e = .returned v' ∧ w'.ownsRow base 36 3 v' (l.filter fun x => !p x).length ((l.filter fun x => !p x).flatMap Drp.cells) ∧ w.grownBy w' v.ownBlock
set_option maxHeartbeats 1000000 in
set_option maxRecDepth 100000 in
theorem deleteFunc_drp (v : Value) (l : List Drp) (p : Drp → Bool) (F : FuncId) (cp : Array Value) (base : Nat) (w : World) (ho : w.ownsRow base 36 3 v l.length (l.flatMap Drp.cells)) (hlen : l.length ≤ 100000000)
    (hF : ∀ (args : Array Value) (w : World), (callFunc F args).run Tryz.prog w = .ok (.enter F args) w)
    (hcall : ∀ (x : Drp) (w' : World), x ∈ l → w.grownBy w' v.ownBlock → Calls Tryz.prog F (#[.agg ⟨Drp.cells x⟩] ++ cp) w' fun e w'' => e = .returned (.bool (p x)) ∧ Below w'.heap.size w' w'') :
    Calls Tryz.prog 70 #[v, .func (.func F) #[] cp] w (DelPostDrp base l p v w) := by
  have HC := Lib.hid (And.intro hF hcall)
  clear hF hcall
  rcases ho.2 with ⟨hv, h0⟩ | ⟨g, cap, _, hv, hbg, _, hcap, hmax, _, _⟩
  · subst hv
    obtain rfl : l = [] := List.length_eq_zero_iff.1 h0
    go_enter Tryz.func70, Tryz.ntmps70
    go_wp2_with (go_at_call 93; refine (indexFunc_drp _ [] (fun _ => false) F cp _ (Arr.nil _ _ _) HC.out.1 (fun x w' hx hB => by cases hx)).mono ?_; rintro e w1 ⟨rfl, hb1⟩)
    go_ret
    exact ⟨_, rfl, World.ownsRow_nil _ _ _ _, grown_below _ hb1⟩
  subst hv
  have hO : OwnL Drp.cells 3 36 cap w g l := OwnL.of_own ho rfl
  have hrow := hO.row Drp.cells_len hmax
  have hA : Arr Drp.cells 3 w l (.slice (some ⟨g, 0, none⟩) l.length cap) := hrow.arr rfl hcap hmax
  have hir := idxF_range p l
  have HM : Hid (cap ≤ maxLen) := hmax
  unfold maxLen at hmax
  by_cases hnone : l.any p = false
  · have HI := Lib.hid (idxF_none hnone)
    have hfl : (l.filter fun x => !p x) = l := by
      rw [List.filter_eq_self]
      intro x hx
      have := List.any_eq_false.1 hnone x hx
      simpa using this
    have HFL := Lib.hid hfl
    have HO := Lib.hid ho
    clear hnone hfl hir ho hO hrow
    go_enter Tryz.func70, Tryz.ntmps70
    go_wp2_with (go_at_call 93; refine (indexFunc_drp _ l p F cp _ hA HC.out.1 (fun x w' hx hB => HC.out.2 x w' hx (grown_below _ hB))).mono ?_; rw [HI.out]; rintro e w1 ⟨rfl, hb1⟩)
    go_ret
    exact ⟨_, rfl, by rw [HFL.out]; exact own_below HO.out hb1, grown_below _ hb1⟩
  · obtain ⟨k, hk, hi0, ht0, hp0⟩ := idxF_spec (Bool.not_eq_false _ ▸ hnone)
    have HI := Lib.hid hi0
    have HD : Hid (∀ w1, Below w.heap.size w w1 → DelO Drp.cells 3 36 cap p l w w1 g k (k + 1) l) := fun w1 hb => ⟨Del.first hk ht0 hp0 (hrow.below hb hrow.2.2) (grown_below _ hb), hO.below hb hO.lt⟩
    have hkn : ((k : Int) == -1) = false := by simp
    clear hnone hir ht0 hp0 hi0 ho hO
    go_enter Tryz.func70, Tryz.ntmps70
    go_wp2_with (go_at_call 93; refine (indexFunc_drp _ l p F cp _ hA HC.out.1 (fun x w' hx hB => HC.out.2 x w' hx (grown_below _ hB))).mono ?_; rw [HI.out]; rintro e w1 ⟨rfl, hb1⟩)
    go_loopw [5, 6] (fun a b wr => ∃ i j : Nat, a = .int .i64 i ∧ b = .int .i64 j ∧ ∃ cur, DelO Drp.cells 3 36 cap p l w wr g i j cur) (fun _ b _ => l.length - (intOf b).toNat)
    case atStart => exact ⟨k, k + 1, rfl, by go_num, l, HD.out _ hb1⟩
    case round =>
      obtain ⟨i, j, rfl, rfl, cur, hdo⟩ := hrel
      have hd := hdo.d
      have hij := hd.ij
      have hjn := hd.jn
      have HDel := Lib.hid hdo
      have hgl := hd.row.2.2
      clear hdo
      by_cases hlt : j < l.length
      · have hcj : j < cur.length := by rw [hd.len]; exact hlt
        have hci : i < cur.length := by rw [hd.len]; omega
        obtain ⟨c0, c1, c2⟩ := drp_at (hd.row.1 j hcj)
        rw [hd.at hlt hcj] at c0 c1 c2
        obtain ⟨d0, d1, d2⟩ := drp_at (hd.row.1 i hci)
        have hfz := hd.row.2.1
        simp only [Nat.zero_add] at c0 c1 c2 d0 d1 d2
        have hin : l[j] ∈ l := List.getElem_mem _
        cases hp : p l[j]
        · have HP := Lib.hid hp
          have hF := HC.out.1
          clear hd
          go_wp2_with fail
          refine (HC.out.2 l[j] _ hin ?_).mono ?_
          · exact grown_trans HDel.out.d.grown (grown_below _ (by (repeat (first | exact Below.refl _ _ | assumption | refine below_draws ?_ _ | refine Below.drew ?_ | refine below_alloc ?_ _ (by first | omega | (simp; done) | (simp; omega)) | refine Below.setCell ?_ (by first | omega | (simp; done) | (simp; omega)) _ | refine below_at ?_ (by assumption) (by first | omega | (simp; done) | (simp; omega))))))
          rw [HP.out]
          rintro e w2 ⟨rfl, hb2⟩
          have hs2 : wr.heap.size < w2.heap.size := by have := hb2.size; simp at this; omega
          have hcg := bcellAt hb2 g (by first | omega | (simp; done) | (simp; omega))
          have hct := bcellAt hb2 wr.heap.size (by first | omega | (simp; done) | (simp; omega))
          have hfg : ∀ o, w2.frozen? ⟨g, o, none⟩ = false := fun o => (hb2.frozen (p := ⟨g, o, none⟩) (by first | omega | (simp; done) | (simp; omega))).trans ((((Below.refl wr.heap.size wr).alloc (Nat.le_refl _) _).frozen (p := ⟨g, o, none⟩) hgl).trans (hfz o))
          go_wp2
          exact ⟨⟨i + 1, j + 1, by go_num, by go_num, cur.set i l[j], HDel.out.keep Drp.cells_len hlt HP.out (by (repeat (first | exact Below.refl _ _ | assumption | refine below_draws ?_ _ | refine Below.drew ?_ | refine below_alloc ?_ _ (by first | omega | (simp; done) | (simp; omega)) | refine Below.setCell ?_ (by first | omega | (simp; done) | (simp; omega)) _ | refine below_at ?_ (by assumption) (by first | omega | (simp; done) | (simp; omega)))))⟩, by simp [intOf]; omega⟩
        · have HP := Lib.hid hp
          have hF := HC.out.1
          clear hd
          go_wp2_with fail
          refine (HC.out.2 l[j] _ hin ?_).mono ?_
          · exact grown_trans HDel.out.d.grown (grown_below _ (by (repeat (first | exact Below.refl _ _ | assumption | refine below_draws ?_ _ | refine Below.drew ?_ | refine below_alloc ?_ _ (by first | omega | (simp; done) | (simp; omega)) | refine Below.setCell ?_ (by first | omega | (simp; done) | (simp; omega)) _ | refine below_at ?_ (by assumption) (by first | omega | (simp; done) | (simp; omega))))))
          rw [HP.out]
          rintro e w2 ⟨rfl, hb2⟩
          go_wp2
          exact ⟨⟨i, j + 1, rfl, by go_num, cur, HDel.out.skip hlt HP.out (by (repeat (first | exact Below.refl _ _ | assumption | refine below_draws ?_ _ | refine Below.drew ?_ | refine below_alloc ?_ _ (by first | omega | (simp; done) | (simp; omega)) | refine Below.setCell ?_ (by first | omega | (simp; done) | (simp; omega)) _ | refine below_at ?_ (by assumption) (by first | omega | (simp; done) | (simp; omega)))))⟩, by simp [intOf]; omega⟩
      · obtain rfl : j = l.length := by omega
        obtain ⟨hd1, hd2⟩ := hd.done
        have HE := Lib.hid (And.intro hd1 hd2)
        have hlc := hd.len
        have hrl : ∀ j, j < (l.length - i) * 3 → (wr.cell? ⟨g, i * 3 + j, none⟩).isSome = true := by
          intro q hq
          have hk2 : (i * 3 + q) / 3 < cur.length := by rw [hd.len]; omega
          have := hd.row.1 ((i * 3 + q) / 3) hk2 ((i * 3 + q) % 3) _ (List.getElem?_eq_getElem (by rw [Drp.cells_len]; omega))
          rw [show 0 + (i * 3 + q) / 3 * 3 + (i * 3 + q) % 3 = i * 3 + q by omega] at this
          rw [this]; rfl
        have hcl := fun ty => run_clear_rows (P := Tryz.prog) wr 27 36 ty _ Tryz.underlying27 zeroDrp (by simp [Value.cells, Value.oneCell']) g (i * 3) (l.length - i) (cap - i) (by omega) hrl hd.row.2.1
        have hzl : (Builtin.zeroCells (Value.agg #[.string ⟨#[]⟩, .string ⟨#[]⟩, .int .i64 0]).cells (l.length - i)).toList.length = (l.length - i) * 3 := by simp [Builtin.zeroCells, Value.cells]
        generalize (Builtin.zeroCells (Value.agg #[.string ⟨#[]⟩, .string ⟨#[]⟩, .int .i64 0]).cells (l.length - i)).toList = zs at hcl hzl
        have HZ := Lib.hid (And.intro hzl hlc)
        have hcap1 : ¬ cap = i := by omega
        have hcap2 : ¬ i = cap := by omega
        have hcap3 : i ≤ cap := by omega
        clear hd hrl hd1 hd2 hzl hlc
        go_wp2
        go_ret
        have h3 := (HDel.out.o.cut Drp.cells_len i (by rw [HZ.out.2]; omega) zs (by rw [HZ.out.2]; exact HZ.out.1)).own (base := base) Drp.cells_len hbg HM.out
        rw [HE.out.1] at h3
        exact ⟨_, rfl, by rw [← HE.out.2] at h3 ⊢; exact h3, grown_trans HDel.out.d.grown (grown_setCells _ _ _ _)⟩
end Go.Proofs.YtcecpodbmjghhaaGreat
/- Walk of package tree: Compact of a tree that is not right. -/
namespace Go.Proofs.YtcecpodbmjghhaaGreat
open Go Go.RowKit
set_option maxHeartbeats 4000000 in
set_option maxRecDepth 100000 in
theorem compact_bad (v1 v2 : Value) (l : List Splt) (d : List Drp) (w : World) (h1 : Arr Splt.cells 4 w l v1) (h2 : Arr Drp.cells 3 w d v2) (hf : treeF l d ≠ 0) : Calls Tryz.prog 13 #[.agg #[v1, v2]] w
    fun e w' => e = .returned (.tuple #[.agg #[.slice none 0 0, .slice none 0 0], .int .i64 0, .int .i64 (treeF l d)]) ∧ Below w.heap.size w w' := by
  have HA := Lib.hid (And.intro h1 h2)
  obtain ⟨F, hFe⟩ : ∃ F, F = treeF l d := ⟨_, rfl⟩
  rw [← hFe] at hf ⊢
  have HFE := Lib.hid hFe
  clear hFe
  obtain ⟨a1, cap1, rfl, -, -, -⟩ := h1
  obtain ⟨a2, cap2, rfl, -, -, -⟩ := h2
  have hrs : Blk ((w.alloc (.cells #[.slice a1 l.length cap1, .slice a2 d.length cap2] 29)).alloc (.cells #[.slice none 0 0, .slice none 0 0] 29)) (w.heap.size + 1) #[.slice none 0 0, .slice none 0 0] 29 := Blk.newAt (by simp)
  have HB0 := Lib.hid hrs
  have hq : (F != 0) = true := by simp [hf]
  have hq2 : (F == 0) = false := by simp [hf]
  clear hrs hf
  go_enter Tryz.func13, Tryz.ntmps13
  go_wp2_with fail
  refine (checkTree_any _ _ l d _ (by exact HA.out.1.below (by (repeat (first | exact Below.refl _ _ | assumption | refine below_draws ?_ _ | refine Below.drew ?_ | refine below_alloc ?_ _ (by first | omega | (simp; done) | (simp; omega)) | refine Below.setCell ?_ (by first | omega | (simp; done) | (simp; omega)) _ | refine below_at ?_ (by assumption) (by first | omega | (simp; done) | (simp; omega)))))) (by exact HA.out.2.below (by (repeat (first | exact Below.refl _ _ | assumption | refine below_draws ?_ _ | refine Below.drew ?_ | refine below_alloc ?_ _ (by first | omega | (simp; done) | (simp; omega)) | refine Below.setCell ?_ (by first | omega | (simp; done) | (simp; omega)) _ | refine below_at ?_ (by assumption) (by first | omega | (simp; done) | (simp; omega))))))).mono ?_
  rw [← HFE.out]
  rintro e w2 ⟨rfl, hb2⟩
  have hrs := HB0.out.below hb2 (by simp)
  have z0 := hrs.cell 0 _ rfl
  have z1 := hrs.cell 1 _ rfl
  have zf := fun o => hrs.free o
  have HB2 := Lib.hid (And.intro hb2 hrs)
  have hlt := hrs.lt
  clear hb2 hrs
  go_wp2
  refine bodyPost_ret (v := .tuple #[.agg #[.slice none 0 0, .slice none 0 0], .int .i64 0, .int .i64 F]) ?_ rfl ⟨rfl, ?_⟩
  · simp [results, go_sem, z0, z1]
  · have hh := HB2.out.1; (repeat (first | exact Below.refl _ _ | assumption | refine below_draws ?_ _ | refine Below.drew ?_ | refine below_alloc ?_ _ (by first | omega | (simp; done) | (simp; omega)) | refine Below.setCell ?_ (by first | omega | (simp; done) | (simp; omega)) _ | refine below_at ?_ (by assumption) (by first | omega | (simp; done) | (simp; omega))))
end Go.Proofs.YtcecpodbmjghhaaGreat
/- Walk of the reference: a tree without idle splitters. -/
namespace Go.Proofs.YtcecpodbmjghhaaGreat
open Go Go.RowKit
/-- what CompactedTree answers -/
def CompRPost (l : List Splt) (d : List Drp) (w : World) (e : Ending) (w' : World) : Prop := ∃ u1 u2, e = .returned (.tuple #[.agg #[u1, u2], .int .i64 (idleL l d).length]) ∧ Arr Splt.cells 4 w' (compL l d) u1 ∧ Arr Drp.cells 3 w' d u2 ∧ Below w.heap.size w w'
def compK (l : List Splt) (d : List Drp) (k : Nat) : List Splt := (l.take k).filter fun s => !idleB l d s
theorem compK_succ {l : List Splt} {d : List Drp} {k : Nat} (hk : k < l.length) : compK l d (k + 1) = compK l d k ++ if idleB l d l[k] then [] else [l[k]] := by
  unfold compK
  rw [List.take_succ_eq_append_getElem hk, List.filter_append, List.filter_cons, List.filter_nil]
  cases idleB l d l[k] <;> simp
theorem compK_len (l : List Splt) (d : List Drp) (k : Nat) : (compK l d k).length ≤ k := by
  unfold compK
  have h1 := List.length_filter_le (fun s => !idleB l d s) (l.take k)
  rw [List.length_take] at h1
  omega
theorem idleB_str (l : List Splt) (d : List Drp) (s : Splt) : (idleL l d).any (fun b => strB s.key b) = idleB l d s := by
  unfold idleB
  congr 1; funext x
  rw [Bool.eq_iff_iff, strB_iff, decide_eq_true_eq]
  exact eq_comm
/-- what is read from blocks below ob stays -/
theorem arr_keepB {α : Type} {cells : α → List Value} {sz : Nat} {w w' : World} {l : List α} {v : Value} {B : Nat} (h : Arr cells sz w l v ∧ ∀ b off n cap, v = .slice (some ⟨b, off, none⟩) n cap → b < B) (hB : Below B w w') : Arr cells sz w' l v := by
  obtain ⟨⟨a, cap, rfl, h2, h3, h4⟩, hlo⟩ := h
  refine ⟨a, cap, rfl, h2, h3, fun k hk => ?_⟩
  obtain ⟨b, off, rfl, hb, hc⟩ := h4 k hk
  have hbB := hlo b off _ _ rfl
  exact ⟨b, off, rfl, Nat.lt_of_lt_of_le hb hB.size, fun j u hu => (hB.cell (p := ⟨b, _, none⟩) hbB).trans (hc j u hu)⟩
theorem arr_lt {α : Type} {cells : α → List Value} {sz : Nat} {w : World} {l : List α} {v : Value} (h : Arr cells sz w l v) (h0 : 0 < l.length) : ∀ b off n cap, v = .slice (some ⟨b, off, none⟩) n cap → b < w.heap.size := by
  intro b off n cap e
  obtain ⟨a, c, rfl, _, _, h4⟩ := h
  obtain ⟨b2, off2, rfl, hb, _⟩ := h4 0 h0
  simp only [Value.slice.injEq, Option.some.injEq, Addr.mk.injEq] at e
  omega
theorem arr_empty {α : Type} {cells : α → List Value} {sz : Nat} {w w' : World} {l : List α} {v : Value} (h : Arr cells sz w l v) (h0 : l.length = 0) : Arr cells sz w' l v := by
  obtain ⟨a, c, rfl, h2, h3, _⟩ := h
  exact ⟨a, c, rfl, h2, h3, fun k hk => by omega⟩
theorem arr_keepK {α : Type} {cells : α → List Value} {sz : Nat} {w W w' : World} {l : List α} {v : Value} {B : Nat} (h : Arr cells sz w l v) (hw : w.heap.size ≤ B) (h1 : Below w.heap.size w W) (hB : Below B W w') : Arr cells sz w' l v := by
  by_cases h0 : 0 < l.length
  · refine arr_keepB ⟨h.below h1, fun b off n cap e => ?_⟩ hB
    have := arr_lt h h0 b off n cap e
    omega
  · exact arr_empty h (by omega)
set_option maxHeartbeats 16000000 in
set_option maxRecDepth 100000 in
theorem compacted_any (v1 v2 : Value) (l : List Splt) (d : List Drp) (w : World) (h1 : Arr Splt.cells 4 w l v1) (h2 : Arr Drp.cells 3 w d v2) (hf : treeF l d = 0) :
    Calls Tryz.prog 21 #[.agg #[v1, v2]] w (CompRPost l d w) := by
  have HA := Lib.hid (And.intro h1 (And.intro h2 (tok_of hf)))
  obtain ⟨a1, cap1, rfl, hcap1, hmax1, hc1⟩ := id h1
  obtain ⟨a2, cap2, rfl, -, -, -⟩ := id h2
  unfold maxLen at hmax1
  have hl5 := HA.out.2.2.s.len
  have HC := Lib.hid hc1
  obtain ⟨i0, hi, hz0, hz1, hz2⟩ := info_parts infoSplt
  have hbt : Blk ((w.alloc (.cells #[.slice a1 l.length cap1, .slice a2 d.length cap2] 29)).alloc (.cells #[.slice none 0 0, .slice none 0 0] 29)) w.heap.size #[.slice a1 l.length cap1, .slice a2 d.length cap2] 29 := (Blk.new w _ _).alloc _
  have hbr : Blk ((w.alloc (.cells #[.slice a1 l.length cap1, .slice a2 d.length cap2] 29)).alloc (.cells #[.slice none 0 0, .slice none 0 0] 29)) (w.heap.size + 1) #[.slice none 0 0, .slice none 0 0] 29 := Blk.newAt (by simp)
  have HX0 := Lib.hid (And.intro hbt hbr)
  clear h1 h2 hf hbt hbr hc1
  go_enter Tryz.func21, Tryz.ntmps21
  go_wp2_with fail
  refine (idleOf_any _ _ l d _ (by exact HA.out.1.below (by (repeat (first | exact Below.refl _ _ | assumption | refine below_draws ?_ _ | refine Below.drew ?_ | refine below_alloc ?_ _ (by first | omega | (simp; done) | (simp; omega)) | refine Below.setCell ?_ (by first | omega | (simp; done) | (simp; omega)) _ | refine below_at ?_ (by assumption) (by first | omega | (simp; done) | (simp; omega)))))) (by exact HA.out.2.1.below (by (repeat (first | exact Below.refl _ _ | assumption | refine below_draws ?_ _ | refine Below.drew ?_ | refine below_alloc ?_ _ (by first | omega | (simp; done) | (simp; omega)) | refine Below.setCell ?_ (by first | omega | (simp; done) | (simp; omega)) _ | refine below_at ?_ (by assumption) (by first | omega | (simp; done) | (simp; omega)))))) HA.out.2.2).mono ?_
  rintro e w1 ⟨vi, rfl, hI, hb1⟩
  have hz1' : w.heap.size + 2 ≤ w1.heap.size := by have := hb1.size; simpa using this
  have hBe : Below w.heap.size w w1 := by (repeat (first | exact Below.refl _ _ | assumption | refine below_draws ?_ _ | refine Below.drew ?_ | refine below_alloc ?_ _ (by first | omega | (simp; done) | (simp; omega)) | refine Below.setCell ?_ (by first | omega | (simp; done) | (simp; omega)) _ | refine below_at ?_ (by assumption) (by first | omega | (simp; done) | (simp; omega))))
  obtain ⟨ai, ci, rfl, -, hmi, -⟩ := id hI
  unfold maxLen at hmi
  have hbt := HX0.out.1.below hb1 (by simp; omega)
  have hbo := Blk.new w1 #[.slice none 0 0, .slice a2 d.length cap2] 29
  have hb11 : Below w1.heap.size w1 (w1.alloc (.cells #[.slice none 0 0, .slice a2 d.length cap2] 29)) := below_alloc (Below.refl _ _) _ (Nat.le_refl _)
  have HX1 := Lib.hid (And.intro (hbt.below hb11 (by omega)) (And.intro ((HX0.out.2.below hb1 (by simp)).below hb11 (by omega)) (And.intro (below_at hBe hb11 (by omega)) (And.intro (fun w' (hB : Below w1.heap.size (w1.alloc (.cells #[.slice none 0 0, .slice a2 d.length cap2] 29)) w') => arr_keepK hI (Nat.le_refl _) hb11 hB) hbo))))
  have t0 := hbt.cell 0 _ rfl
  have t1 := hbt.cell 1 _ rfl
  have hob : w1.heap.size < (w1.alloc (.cells #[.slice none 0 0, .slice a2 d.length cap2] 29)).heap.size := by simp
  clear hb1 hBe hbt hbo hb11 hI
  have hw1 : w.heap.size < w1.heap.size := by omega
  go_wp2
  clear t0 t1
  generalize w1.alloc (.cells #[.slice none 0 0, .slice a2 d.length cap2] 29) = W1 at *
  generalize w1.heap.size = ob at *
  go_loopw [16] (fun i wr => ∃ (k : Nat) (u : Value), k ≤ l.length ∧ i = .int .i64 k ∧ Below ob W1 wr ∧ Blk wr ob #[u, .slice a2 d.length cap2] 29 ∧ wr.ownsRow (ob + 1) 58 4 u (compK l d k).length ((compK l d k).flatMap Splt.cells)) (fun i _ => l.length - (intOf i).toNat)
  case atStart => exact ⟨0, _, by omega, rfl, Below.refl _ _, HX1.out.2.2.2.2, World.ownsRow_nil _ _ _ _⟩
  case round =>
    obtain ⟨k, u, hk, rfl, hB, hbo, ho⟩ := hrel
    have hsz := hB.size
    have hBw := below_at HX1.out.2.2.1 hB (by omega)
    have HS := Lib.hid (And.intro hB (And.intro hbo (And.intro ho (And.intro hBw (HX1.out.2.2.2.1 _ hB)))))
    have hobl := hbo.lt
    clear hB hbo ho hBw
    by_cases hlt : k < l.length
    · obtain ⟨b, off, rfl, hb, hcc⟩ := HC.out k hlt
      obtain ⟨c0, c1, c2, c3⟩ := splt_at hcc
      replace c0 := (HS.out.2.2.2.1.cell (p := ⟨b, _, none⟩) hb).trans c0
      replace c1 := (HS.out.2.2.2.1.cell (p := ⟨b, _, none⟩) hb).trans c1
      replace c2 := (HS.out.2.2.2.1.cell (p := ⟨b, _, none⟩) hb).trans c2
      replace c3 := (HS.out.2.2.2.1.cell (p := ⟨b, _, none⟩) hb).trans c3
      have hX := Blk.new wr #[.string l[k].key, .int .i64 l[k].ways, .string l[k].par, .int .i64 l[k].port] 58
      have x0 := hX.cell 0 _ rfl
      have x1 := hX.cell 1 _ rfl
      have x2 := hX.cell 2 _ rfl
      have x3 := hX.cell 3 _ rfl
      have hcs := compK_succ (d := d) hlt
      have HCS := Lib.hid hcs
      have hclen := compK_len l d k
      have b0 := (HS.out.2.1.alloc (.cells #[.string l[k].key, .int .i64 l[k].ways, .string l[k].par, .int .i64 l[k].port] 58)).cell 0 _ rfl
      clear hcc hX hcs
      go_wp2_with fail
      refine (contains_str_any _ (idleL l d) l[k].key _ (by exact HS.out.2.2.2.2.below (below_alloc (Below.refl _ _) _ (Nat.le_refl _)))).mono ?_
      rintro e w4 ⟨rfl, rfl⟩
      rw [idleB_str]
      cases hup : idleB l d l[k]
      · have HU : Hid (compK l d (k + 1) = compK l d k ++ [l[k]]) := by rw [HCS.out, hup]; exact rfl
        clear hup c0 c1 c2 c3
        obtain ⟨au, cu, rfl⟩ := own_sliceB HS.out.2.2.1
        go_wp2_with ((at_builtin; go_must (refine wpList_append_own _ rfl _ _ 26 rfl _ 58 _ (.agg #[.string ⟨#[]⟩, .int .i64 0, .string ⟨#[]⟩, .int .i64 0]) 4 48 Tryz.underlying26 hi hz0 hz1 hz2 rfl (by decide) _ _ _ rfl ((HS.out.2.2.1.alloc _).alloc _) ⟨(wr.heap.size + 1), 0, none⟩ 1 1 [.string l[k].key, .int .i64 l[k].ways, .string l[k].par, .int .i64 l[k].port] rfl rfl (by exact news_at (by first | rfl | simp) (by rfl)) (by simp [Value.oneCell']) (by unfold maxLen; omega) (by omega) (by first | omega | (simp; done) | (simp; omega)) ?_)); intro v' w6 hown6 hgrow _; obtain ⟨av6, cv6, rfl⟩ := own_sliceB hown6; have hne := own_neM ((HS.out.2.2.1.alloc (.cells #[.string l[k].key, .int .i64 l[k].ways, .string l[k].par, .int .i64 l[k].port] 58)).alloc (.cells #[.string l[k].key, .int .i64 l[k].ways, .string l[k].par, .int .i64 l[k].port] 58)) ((HS.out.2.1.alloc (.cells #[.string l[k].key, .int .i64 l[k].ways, .string l[k].par, .int .i64 l[k].port] 58)).alloc (.cells #[.string l[k].key, .int .i64 l[k].ways, .string l[k].par, .int .i64 l[k].port] 58)) (by decide); have hb6 := ((HS.out.2.1.alloc (.cells #[.string l[k].key, .int .i64 l[k].ways, .string l[k].par, .int .i64 l[k].port] 58)).alloc (.cells #[.string l[k].key, .int .i64 l[k].ways, .string l[k].par, .int .i64 l[k].port] 58)).grown hgrow (fun e => hne e.symm); have g0 := hb6.cell 0 _ rfl; have gf := fun o => hb6.free o; have hB6 : Below ob W1 w6 := below_grown (below_alloc (below_alloc HS.out.1 (.cells #[.string l[k].key, .int .i64 l[k].ways, .string l[k].par, .int .i64 l[k].port] 58) (by omega)) (.cells #[.string l[k].key, .int .i64 l[k].ways, .string l[k].par, .int .i64 l[k].port] 58) (by simp; omega)) ((HS.out.2.2.1.alloc (.cells #[.string l[k].key, .int .i64 l[k].ways, .string l[k].par, .int .i64 l[k].port] 58)).alloc (.cells #[.string l[k].key, .int .i64 l[k].ways, .string l[k].par, .int .i64 l[k].port] 58)) hgrow (by omega) (by simp; omega); have H6 := Lib.hid (And.intro hb6 (And.intro hB6 hown6)); have hl6 := hb6.lt; clear hne hb6 hB6 hown6 hgrow)
        refine ⟨⟨k + 1, .slice av6 ((compK l d k).length + 1) cv6, by omega, by go_num, ?_, ?_, ?_⟩, by simp [intOf]; omega⟩
        · exact Below.setCell H6.out.2.1 (Nat.le_refl _) _
        · exact H6.out.1.set 0 _
        · rw [HU.out, List.length_append, List.length_singleton, List.flatMap_append]
          have hne6 := own_neM H6.out.2.2 H6.out.1 (by decide)
          have := own_setNe H6.out.2.2 hne6 0 (.slice av6 ((compK l d k).length + 1) cv6)
          simpa [Splt.cells] using this
      · have HU : Hid (compK l d (k + 1) = compK l d k) := by rw [HCS.out, hup, if_pos rfl, List.append_nil]; exact rfl
        clear hup c0 c1 c2 c3
        go_wp2
        refine ⟨⟨k + 1, u, by omega, by go_num, below_alloc HS.out.1 _ (by omega), HS.out.2.1.alloc _, ?_⟩, by simp [intOf]; omega⟩
        rw [HU.out]; exact HS.out.2.2.1.alloc _
    · obtain rfl : k = l.length := by omega
      obtain ⟨au, cu, rfl⟩ := own_sliceB HS.out.2.2.1
      have hcl : compK l d l.length = compL l d := by unfold compK compL; rw [List.take_length]
      have HCL := Lib.hid hcl
      have q0 := HS.out.2.1.cell 0 _ rfl
      have q1 := HS.out.2.1.cell 1 _ rfl
      have hbr := HX1.out.2.1.below HS.out.1 (by have := HX1.out.2.1; omega)
      have z0 := hbr.cell 0 _ rfl
      have z1 := hbr.cell 1 _ rfl
      have zf := fun o => hbr.free o
      clear hcl hbr
      go_wp2
      refine bodyPost_ret (v := .tuple #[.agg #[.slice au (compK l d l.length).length cu, .slice a2 d.length cap2], .int .i64 (idleL l d).length]) ?_ rfl ⟨.slice au (compK l d l.length).length cu, .slice a2 d.length cap2, rfl, ?_, ?_, ?_⟩
      · simp [results, go_sem, z0, z1]
      · have hlo := HS.out.2.2.1.lt
        have := Arr.of_own Splt.cells_len HS.out.2.2.1
        rw [← HCL.out]
        exact arr_setOther (arr_setOther this (fun e => by have := (hlo _ e).1; omega) _ _) (fun e => by have := (hlo _ e).1; omega) _ _
      · exact HA.out.2.1.below (Below.setCell (Below.setCell HS.out.2.2.2.1 (by simp) _) (by simp) _)
      · exact Below.setCell (Below.setCell HS.out.2.2.2.1 (by simp) _) (by simp) _
end Go.Proofs.YtcecpodbmjghhaaGreat
/- Walk of the reference: a splitter is moved. -/
namespace Go.Proofs.YtcecpodbmjghhaaGreat
open Go Go.RowKit
/-- the first k are looked at -/
def mapK (l : List Splt) (key par : ByteArray) (port : Int) (k : Nat) : List Splt := (l.take k).map (fun s => if s.key = key then movedS s par port else s) ++ l.drop k
theorem mapK_len (l : List Splt) (key par : ByteArray) (port : Int) (k : Nat) : (mapK l key par port k).length = l.length := by
  unfold mapK; simp; omega
theorem mapK_zero (l : List Splt) (key par : ByteArray) (port : Int) : mapK l key par port 0 = l := by simp [mapK]
theorem mapK_at {l : List Splt} {key par : ByteArray} {port : Int} {k : Nat} (hk : k < l.length) (h : k < (mapK l key par port k).length) : (mapK l key par port k)[k] = l[k] := by
  have e : ((l.take k).map (fun s => if s.key = key then movedS s par port else s)).length = k := by simp; omega
  have h2 : (mapK l key par port k)[k]? = some l[k] := by
    unfold mapK
    rw [List.getElem?_append_right (by omega), e]
    simp [hk]
  exact (List.getElem?_eq_some_iff.1 h2).2
theorem mapK_succ {l : List Splt} {key par : ByteArray} {port : Int} {k : Nat} (hk : k < l.length) : mapK l key par port (k + 1) = (mapK l key par port k).set k (if l[k].key = key then movedS l[k] par port else l[k]) := by
  unfold mapK
  have e : ((l.take k).map (fun s => if s.key = key then movedS s par port else s)).length = k := by simp; omega
  rw [List.set_append_right _ _ (by omega), e, Nat.sub_self, ← List.getElem_cons_drop hk, List.set_cons_zero, List.take_succ_eq_append_getElem hk, List.map_append, List.append_assoc]
  simp
theorem mapK_skip {l : List Splt} {key par : ByteArray} {port : Int} {k : Nat} (hk : k < l.length) (h : l[k].key ≠ key) : mapK l key par port (k + 1) = mapK l key par port k := by
  rw [mapK_succ hk, if_neg h]
  have h1 : k < (mapK l key par port k).length := by rw [mapK_len]; exact hk
  conv => rhs; rw [← List.set_getElem_self h1]
  rw [mapK_at hk h1]
theorem mapK_all (l : List Splt) (key par : ByteArray) (port : Int) : mapK l key par port l.length = l.map (fun s => if s.key = key then movedS s par port else s) := by simp [mapK]
/-- the memory while the splitters are looked through: the box of what is made, its splitters -/
structure MvdSt (w W : World) (ob : Nat) (uc v2 : Value) (l : List Splt) : Prop where
  be : Below w.heap.size w W
  br : Blk W (w.heap.size + 1) #[.slice none 0 0, .slice none 0 0] 29
  bo : Blk W ob #[uc, v2] 29
  ow : W.ownsRow (w.heap.size + 2) 58 4 uc l.length (l.flatMap Splt.cells)
  lo : w.heap.size + 2 ≤ ob
theorem MvdSt.below {w W W' : World} {ob : Nat} {uc v2 : Value} {l : List Splt} (h : MvdSt w W ob uc v2 l) (hb : Below W.heap.size W W') : MvdSt w W' ob uc v2 l :=
  ⟨below_at h.be hb h.be.size, h.br.below hb h.br.lt, h.bo.below hb h.bo.lt, own_below h.ow hb, h.lo⟩
theorem MvdSt.ne {w W : World} {ob : Nat} {uc v2 : Value} {l : List Splt} (h : MvdSt w W ob uc v2 l) : uc.ownBlock ≠ some ob ∧ uc.ownBlock ≠ some (w.heap.size + 1) := ⟨own_neM h.ow h.bo (by decide), own_neM h.ow h.br (by decide)⟩
theorem MvdSt.put {w W : World} {ob g cap : Nat} {v2 : Value} {l : List Splt} {n : Nat} (h : MvdSt w W ob (.slice (some ⟨g, 0, none⟩) n cap) v2 l) (hn : n = l.length) (k : Nat) (hk : k < l.length) (par : ByteArray) (port : Int) :
    MvdSt w ((W.setCell ⟨g, k * 4 + 2, none⟩ (.string par)).setCell ⟨g, k * 4 + 3, none⟩ (.int .i64 port)) ob (.slice (some ⟨g, 0, none⟩) n cap) v2 (l.set k (movedS l[k] par port)) := by
  subst hn
  have hg1 := (h.ow.lt g rfl).1
  obtain ⟨n1, n2⟩ := h.ne
  have n1' : ob ≠ g := fun e => n1 (by rw [e]; rfl)
  have n2' : w.heap.size + 1 ≠ g := fun e => n2 (by rw [e]; rfl)
  refine ⟨Below.setCell (Below.setCell h.be (by simp; omega) _) (by simp; omega) _, (h.br.setOther n2' _ _).setOther n2' _ _, (h.bo.setOther n1' _ _).setOther n1' _ _, ?_, h.lo⟩
  have h1 := (h.ow.stored (k * 4 + 2) (.string par)).1
  rw [flat_setM Splt.cells_len (by omega) l k hk (x := ⟨l[k].key, l[k].ways, par, l[k].port⟩) rfl] at h1
  have h2 := (h1.stored (k * 4 + 3) (.int .i64 port)).1
  rw [flat_setM Splt.cells_len (by omega) _ k (by simpa using hk) (x := movedS l[k] par port) (by rw [List.getElem_set_self]; rfl), List.set_set] at h2
  rw [List.length_set]; exact h2
set_option maxHeartbeats 16000000 in
set_option maxRecDepth 100000 in
theorem movedTree_any (v1 v2 : Value) (l : List Splt) (d : List Drp) (key par : ByteArray) (port : Int) (w : World) (h1 : Arr Splt.cells 4 w l v1) (h2 : Arr Drp.cells 3 w d v2) (hf : treeF l d = 0) :
    Calls Tryz.prog 20 #[.agg #[v1, v2], .string key, .string par, .int .i64 port] w (MovePost (moveL l key par port) d (moveF l d key par port) w) := by
  have HA := Lib.hid (And.intro h1 (And.intro h2 (And.intro hf (tok_of hf))))
  obtain ⟨a1, cap1, rfl, -, -, -⟩ := id h1
  obtain ⟨a2, cap2, rfl, -, -, -⟩ := id h2
  have hl5 := HA.out.2.2.2.s.len
  have hbt : Blk ((w.alloc (.cells #[.slice a1 l.length cap1, .slice a2 d.length cap2] 29)).alloc (.cells #[.slice none 0 0, .slice none 0 0] 29)) w.heap.size #[.slice a1 l.length cap1, .slice a2 d.length cap2] 29 := (Blk.new w _ _).alloc _
  have hbr : Blk ((w.alloc (.cells #[.slice a1 l.length cap1, .slice a2 d.length cap2] 29)).alloc (.cells #[.slice none 0 0, .slice none 0 0] 29)) (w.heap.size + 1) #[.slice none 0 0, .slice none 0 0] 29 := Blk.newAt (by simp)
  have HX0 := Lib.hid (And.intro hbt hbr)
  clear h1 h2 hf hbt hbr
  go_enter Tryz.func20, Tryz.ntmps20
  go_wp2_with fail
  refine (hasSplitter_any _ _ l key _ (by exact HA.out.1.below (by (repeat (first | exact Below.refl _ _ | assumption | refine below_draws ?_ _ | refine Below.drew ?_ | refine below_alloc ?_ _ (by first | omega | (simp; done) | (simp; omega)) | refine Below.setCell ?_ (by first | omega | (simp; done) | (simp; omega)) _ | refine below_at ?_ (by assumption) (by first | omega | (simp; done) | (simp; omega))))))).mono ?_
  rintro e w1 ⟨rfl, hb1⟩
  have hz1 : w.heap.size + 2 ≤ w1.heap.size := by have := hb1.size; simpa using this
  have hBe : Below w.heap.size w w1 := by (repeat (first | exact Below.refl _ _ | assumption | refine below_draws ?_ _ | refine Below.drew ?_ | refine below_alloc ?_ _ (by first | omega | (simp; done) | (simp; omega)) | refine Below.setCell ?_ (by first | omega | (simp; done) | (simp; omega)) _ | refine below_at ?_ (by assumption) (by first | omega | (simp; done) | (simp; omega))))
  have HX1 := Lib.hid (And.intro (HX0.out.1.below hb1 (by simp; omega)) (And.intro (HX0.out.2.below hb1 (by simp)) hBe))
  clear hb1 hBe
  cases hgk : getS l key with
  | none =>
    have HF : Hid (moveF l d key par port = 8) := by
      have h8 : splitterF l d key = 8 := by unfold splitterF; rw [if_neg (by rw [HA.out.2.2.1]; simp), hgk]; rfl
      unfold moveF; rw [if_pos (by rw [h8]; decide)]; exact h8
    have z0 := HX1.out.2.1.cell 0 _ rfl
    have z1 := HX1.out.2.1.cell 1 _ rfl
    have zf := fun o => HX1.out.2.1.free o
    clear hgk
    simp only [Option.isSome_none]
    go_wp2
    refine bodyPost_ret (v := .tuple #[.agg #[.slice none 0 0, .slice none 0 0], .int .i64 8]) ?_ rfl ⟨.slice none 0 0, .slice none 0 0, ?_, ?_, ?_, ?_⟩
    · simp [results, go_sem, z0, z1]
    · rw [HF.out]
    · rw [if_neg (by rw [HF.out]; decide)]; exact Arr.nil _ _ _
    · rw [if_neg (by rw [HF.out]; decide)]; exact Arr.nil _ _ _
    · have hh := HX1.out.2.2; (repeat (first | exact Below.refl _ _ | assumption | refine below_draws ?_ _ | refine Below.drew ?_ | refine below_alloc ?_ _ (by first | omega | (simp; done) | (simp; omega)) | refine Below.setCell ?_ (by first | omega | (simp; done) | (simp; omega)) _ | refine below_at ?_ (by assumption) (by first | omega | (simp; done) | (simp; omega))))
  | some sg =>
    have HG := Lib.hid hgk
    clear hgk
    simp only [Option.isSome_some]
    have HMV : Hid ((l.map fun s => if s.key = key then movedS s par port else s) = moveL l key par port ∧ moveF l d key par port = treeF (moveL l key par port) d) := by
      have hs0 : splitterF l d key = 0 := by unfold splitterF; rw [if_neg (by rw [HA.out.2.2.1]; simp), HG.out]; rfl
      obtain ⟨_, j, hj, e1, e2, e3⟩ := splitterF_zero hs0
      exact ⟨move_map HA.out.2.2.2.s.rise hj e1 e3, by unfold moveF; rw [if_neg (by rw [hs0]; simp)]⟩
    go_upto_region 3 with fail
    go_cut [10] from 19 to 24 (fun p wc => ∃ ob uc, p = .pointer (some ⟨ob, 0, none⟩) ∧ MvdSt w wc ob uc (.slice a2 d.length cap2) l)
    case first =>
      go_wp2_with fail
      refine WalkT.start (fun w' => w'.cell? ⟨w.heap.size, 0, none⟩ = some (.slice a1 l.length cap1) ∧ w'.cell? ⟨w.heap.size, 1, none⟩ = some (.slice a2 d.length cap2)) [7] (by kernel_rfl) ?_
      have HX2 := Lib.hid (And.intro HX1.out.1.drew (And.intro HX1.out.2.1.drew HX1.out.2.2.drew))
      have hz2 : w.heap.size + 2 ≤ w1.drew.heap.size := hz1
      generalize w1.drew = W0 at *
      have HSC : Hid (W0.cell? ⟨w.heap.size, 0, none⟩ = some (.slice a1 l.length cap1) ∧ W0.cell? ⟨w.heap.size, 1, none⟩ = some (.slice a2 d.length cap2)) := ⟨HX2.out.1.cell 0 _ rfl, HX2.out.1.cell 1 _ rfl⟩
      (refine WalkT.quiet (i := 0) (v := ?_) rfl (by kernel_rfl) (by kernel_rfl) (by kernel_rfl) (fun _ _ _ h => h) (Or.inl ⟨by rfl, ?_⟩) ?_; rotate_left; (· (intro wS hSw; (try dsimp only at hSw); go_simp; try with_reducible rfl)); try simp only [Act.put, pu1, pu2, pu3, pu4, pu5, pu6])
      (refine WalkT.take (i := 1) (v := ?_) rfl (by kernel_rfl) (by kernel_rfl) (by kernel_rfl) (by kernel_rfl) (fun _ _ _ h => h) HSC.out (Or.inl ⟨by rfl, ?_⟩) ?_; rotate_left; (· (intro wS hSw; (try dsimp only at hSw); obtain ⟨q0, q1⟩ := hSw; go_simp; try with_reducible rfl)); try simp only [Act.put, pu1, pu2, pu3, pu4, pu5, pu6])
      (refine WalkT.quiet (i := 3) (v := ?_) rfl (by kernel_rfl) (by kernel_rfl) (by kernel_rfl) (fun _ _ _ h => h) (Or.inl ⟨by rfl, ?_⟩) ?_; rotate_left; (· (intro wS hSw; (try dsimp only at hSw); go_simp; try with_reducible rfl)); try simp only [Act.put, pu1, pu2, pu3, pu4, pu5, pu6])
      (refine WalkT.take (i := 4) (v := ?_) rfl (by kernel_rfl) (by kernel_rfl) (by kernel_rfl) (by kernel_rfl) (fun _ _ _ h => h) HSC.out (Or.inl ⟨by rfl, ?_⟩) ?_; rotate_left; (· (intro wS hSw; (try dsimp only at hSw); obtain ⟨q0, q1⟩ := hSw; go_simp; try with_reducible rfl)); try simp only [Act.put, pu1, pu2, pu3, pu4, pu5, pu6])
      refine WalkT.ready (rs := [2, 6]) (by kernel_rfl) (by simp) ?_
      refine AllT.cons rfl (fun K hK => ?_) ?_
      · go_simp
        refine (clone_splt _ l _ (by exact HA.out.1.below HX2.out.2.2) (by omega)).mono ?_
        rintro e W3 ⟨uc, rfl, ⟨ho, -⟩, hb3⟩
        obtain ⟨axc, cxc, rfl⟩ := own_sliceB ho
        have hz3 := hb3.size
        have HX3 := Lib.hid (And.intro (HX2.out.1.below hb3 (by omega)) (And.intro (HX2.out.2.1.below hb3 HX2.out.2.1.lt) (And.intro (below_at HX2.out.2.2 hb3 (by omega)) (own_baseH ho hz2))))
        clear ho hb3
        (refine hK.out _ _ (fun _ _ => ⟨HX3.out.1.cell 0 _ rfl, HX3.out.1.cell 1 _ rfl⟩) ?_; clear hK K; try simp only [Act.put, pu1, pu2, pu3, pu4, pu5, pu6])
        (refine WalkT.quiet (i := 5) (v := ?_) rfl (by kernel_rfl) (by kernel_rfl) (by kernel_rfl) (fun _ _ _ h => h) (Or.inl ⟨by rfl, ?_⟩) ?_; rotate_left; (· (intro wS hSw; (try dsimp only at hSw); go_simp; try with_reducible rfl)); try simp only [Act.put, pu1, pu2, pu3, pu4, pu5, pu6])
        (refine WalkT.ready (rs := [6]) (by kernel_rfl) (by simp) (AllT.cons rfl (fun K hK => ?_) AllT.nil); go_simp)
        have hN := Blk.new W3 #[.slice none 0 0, .slice none 0 0] 29
        have HN := Lib.hid hN
        have y0 := hN.cell 0 _ rfl
        have y1 := hN.cell 1 _ rfl
        have yf := fun o => hN.free o
        have HX4 := Lib.hid (And.intro (HX3.out.1.alloc (.cells #[.slice none 0 0, .slice none 0 0] 29)) (And.intro (HX3.out.2.1.alloc (.cells #[.slice none 0 0, .slice none 0 0] 29)) (And.intro (below_alloc HX3.out.2.2.1 (.cells #[.slice none 0 0, .slice none 0 0] 29) (by omega)) (HX3.out.2.2.2.alloc (.cells #[.slice none 0 0, .slice none 0 0] 29)))))
        (refine hK.out _ _ (fun _ _ => ⟨HX4.out.1.cell 0 _ rfl, HX4.out.1.cell 1 _ rfl⟩) ?_; clear hK K; try simp only [Act.put, pu1, pu2, pu3, pu4, pu5, pu6])
        clear hN
        (refine WalkT.ready (rs := [7]) (by kernel_rfl) (by simp) (AllT.cons rfl (fun K hK => ?_) AllT.nil); go_simp)
        (refine hK.out _ _ (fun h => absurd h (by decide)) ?_; clear hK K; try simp only [Act.put, pu1, pu2, pu3, pu4, pu5, pu6])
        refine WalkT.done (by kernel_rfl) ?_
        go_wp2
        go_meet
        exact ⟨_, .slice axc l.length cxc, rfl, below_alloc HX3.out.2.2.1 _ (by omega), HX3.out.2.1.alloc _, Blk.new _ _ _, HX3.out.2.2.2.alloc _, by omega⟩
      refine AllT.cons rfl (fun K hK => ?_) AllT.nil
      · go_simp
        have hN := Blk.new W0 #[.slice none 0 0, .slice none 0 0] 29
        have HN := Lib.hid hN
        have HX4 := Lib.hid (And.intro (HX2.out.1.alloc (.cells #[.slice none 0 0, .slice none 0 0] 29)) (And.intro (HX2.out.2.1.alloc (.cells #[.slice none 0 0, .slice none 0 0] 29)) (below_alloc HX2.out.2.2 (.cells #[.slice none 0 0, .slice none 0 0] 29) (by omega))))
        (refine hK.out _ _ (fun _ _ => ⟨HX4.out.1.cell 0 _ rfl, HX4.out.1.cell 1 _ rfl⟩) ?_; clear hK K; try simp only [Act.put, pu1, pu2, pu3, pu4, pu5, pu6])
        clear hN
        (refine WalkT.ready (rs := [2]) (by kernel_rfl) (by simp) (AllT.cons rfl (fun K hK => ?_) AllT.nil); go_simp)
        refine (clone_splt _ l _ (by exact HA.out.1.below HX4.out.2.2) (by omega)).mono ?_
        rintro e W3 ⟨uc, rfl, ⟨ho, -⟩, hb3⟩
        obtain ⟨axc, cxc, rfl⟩ := own_sliceB ho
        have hz3 := hb3.size
        simp only [World.size_alloc] at hz3
        have hN3 := HN.out.below hb3 (by simp)
        have y0 := hN3.cell 0 _ rfl
        have y1 := hN3.cell 1 _ rfl
        have yf := fun o => hN3.free o
        have HX5 := Lib.hid (And.intro (HX4.out.1.below hb3 HX4.out.1.lt) (And.intro (HX4.out.2.1.below hb3 HX4.out.2.1.lt) (And.intro (below_at HX4.out.2.2 hb3 (by simp; omega)) (And.intro (own_baseH (B' := w.heap.size + 2) ho (by simp; omega)) hN3))))
        clear ho hb3 hN3
        (refine hK.out _ _ (fun _ _ => ⟨HX5.out.1.cell 0 _ rfl, HX5.out.1.cell 1 _ rfl⟩) ?_; clear hK K; try simp only [Act.put, pu1, pu2, pu3, pu4, pu5, pu6])
        (refine WalkT.quiet (i := 5) (v := ?_) rfl (by kernel_rfl) (by kernel_rfl) (by kernel_rfl) (fun _ _ _ h => h) (Or.inl ⟨by rfl, ?_⟩) ?_; rotate_left; (· (intro wS hSw; (try dsimp only at hSw); go_simp; try with_reducible rfl)); try simp only [Act.put, pu1, pu2, pu3, pu4, pu5, pu6])
        (refine WalkT.ready (rs := [7]) (by kernel_rfl) (by simp) (AllT.cons rfl (fun K hK => ?_) AllT.nil); go_simp)
        (refine hK.out _ _ (fun h => absurd h (by decide)) ?_; clear hK K; try simp only [Act.put, pu1, pu2, pu3, pu4, pu5, pu6])
        refine WalkT.done (by kernel_rfl) ?_
        go_wp2
        go_meet
        refine ⟨_, .slice axc l.length cxc, rfl, ?_, ?_, ?_, ?_, by omega⟩
        · exact Below.setCell (Below.setCell HX5.out.2.2.1 (by simp; omega) _) (by simp; omega) _
        · exact (HX5.out.2.1.setOther (by omega) _ _).setOther (by omega) _ _
        · exact (HX5.out.2.2.2.2.set 0 _).set 1 _
        · exact own_setNe (own_setNe HX5.out.2.2.2.1 (own_neM HX5.out.2.2.2.1 HX5.out.2.2.2.2 (by decide)) _ _) (own_neM HX5.out.2.2.2.1 HX5.out.2.2.2.2 (by decide)) _ _
    case rest =>
    obtain ⟨ob, uc, rfl, hM⟩ := hcut
    obtain ⟨au, cu, rfl⟩ := own_sliceB hM.ow
    have HM := Lib.hid hM
    clear hM HX1 HX0
    have q0 := HM.out.bo.cell 0 _ rfl
    go_wp2
    clear q0
    go_loopw [28] (fun i wr => ∃ k : Nat, k ≤ l.length ∧ i = .int .i64 k ∧ MvdSt w wr ob (.slice au l.length cu) (.slice a2 d.length cap2) (mapK l key par port k)) (fun i _ => l.length - (intOf i).toNat)
    case atStart => exact ⟨0, by omega, rfl, by rw [mapK_zero]; exact HM.out⟩
    case round =>
      obtain ⟨k, hk, rfl, hS⟩ := hrel
      have HS := Lib.hid hS
      clear hS
      have hml := mapK_len l key par port k
      by_cases hlt : k < l.length
      · have how := HS.out.ow
        rw [hml] at how
        obtain ⟨g, cap, e, hgB, hgs, hcn, hcm⟩ := own_form2M how (by omega)
        simp only [Value.slice.injEq] at e
        obtain ⟨rfl, -, rfl⟩ := e
        have hr := (OwnL.of_own (cells := Splt.cells) (l := mapK l key par port k) how hml.symm).row Splt.cells_len hcm
        have hkm : k < (mapK l key par port k).length := by omega
        obtain ⟨c0, c1, c2, c3⟩ := splt_at (hr.1 k hkm)
        rw [mapK_at hlt hkm] at c0 c1 c2 c3
        simp only [Nat.zero_add] at c0 c1 c2 c3
        have hfz := hr.2.1
        have hng : ob ≠ g := fun e => HS.out.ne.1 (by rw [e]; rfl)
        unfold maxLen at hcm
        have HM2 : Hid (MvdSt w (wr.alloc (.cells #[.string l[k].key, .int .i64 l[k].ways, .string l[k].par, .int .i64 l[k].port] 58)) ob (.slice (some ⟨g, 0, none⟩) l.length cu) (.slice a2 d.length cap2) (mapK l key par port k)) := HS.out.below (below_alloc (Below.refl _ _) _ (Nat.le_refl _))
        have HML := Lib.hid hml
        clear hr how hml
        by_cases hx : l[k].key = key
        · have hx' : (l[k].key.toList == key.toList) = true := by simp [hx]
          have HX := Lib.hid hx
          clear hx
          go_wp2_with fail
          refine WalkT.start (fun w' => w'.cell? ⟨ob, 0, none⟩ = some (.slice (some ⟨g, 0, none⟩) l.length cu)) [13] (by kernel_rfl) ?_
          have ac := bcellAt (below_alloc (Below.refl wr.heap.size wr) (.cells #[.string l[k].key, .int .i64 l[k].ways, .string l[k].par, .int .i64 l[k].port] 58) (Nat.le_refl _)) g hgs
          have u2 : ((wr.alloc (.cells #[.string l[k].key, .int .i64 l[k].ways, .string l[k].par, .int .i64 l[k].port] 58)).drew).cell? ⟨g, k * 4 + 2, none⟩ = some (.string l[k].par) := (ac _).trans c2
          have u3 : ((wr.alloc (.cells #[.string l[k].key, .int .i64 l[k].ways, .string l[k].par, .int .i64 l[k].port] 58)).drew).cell? ⟨g, k * 4 + 3, none⟩ = some (.int .i64 l[k].port) := (ac _).trans c3
          have uf : ∀ o, ((wr.alloc (.cells #[.string l[k].key, .int .i64 l[k].ways, .string l[k].par, .int .i64 l[k].port] 58)).drew).frozen? ⟨g, o, none⟩ = false := fun o => ((below_alloc (Below.refl wr.heap.size wr) (.cells #[.string l[k].key, .int .i64 l[k].ways, .string l[k].par, .int .i64 l[k].port] 58) (Nat.le_refl _)).frozen (p := ⟨g, o, none⟩) hgs).trans (hfz o)
          have HS0 : Hid (MvdSt w ((wr.alloc (.cells #[.string l[k].key, .int .i64 l[k].ways, .string l[k].par, .int .i64 l[k].port] 58)).drew) ob (.slice (some ⟨g, 0, none⟩) l.length cu) (.slice a2 d.length cap2) (mapK l key par port k)) := ⟨HM2.out.be.drew, HM2.out.br.drew, HM2.out.bo.drew, HM2.out.ow, HM2.out.lo⟩
          clear ac c0 c1 c2 c3 hfz HM2
          generalize (wr.alloc (.cells #[.string l[k].key, .int .i64 l[k].ways, .string l[k].par, .int .i64 l[k].port] 58)).drew = W0 at *
          have HSB : Hid (W0.cell? ⟨ob, 0, none⟩ = some (.slice (some ⟨g, 0, none⟩) l.length cu)) := HS0.out.bo.cell 0 _ rfl
          have hkl : (k : Int) < (l.length : Int) := by omega
          (refine WalkT.quiet (i := 0) (v := ?_) rfl (by kernel_rfl) (by kernel_rfl) (by kernel_rfl) (fun _ _ _ h => h) (Or.inl ⟨by rfl, ?_⟩) ?_; rotate_left; (· (intro wS hSw; (try dsimp only at hSw); go_simp; try with_reducible rfl)); try simp only [Act.put, pu1, pu2, pu3, pu4, pu5, pu6])
          (refine WalkT.take (i := 1) (v := ?_) rfl (by kernel_rfl) (by kernel_rfl) (by kernel_rfl) (by kernel_rfl) (fun _ _ _ h => h) HSB.out (Or.inl ⟨by rfl, ?_⟩) ?_; rotate_left; (· (intro wS hSw; (try dsimp only at hSw); go_simp; try with_reducible rfl)); try simp only [Act.put, pu1, pu2, pu3, pu4, pu5, pu6])
          (refine WalkT.quiet (i := 2) (v := ?_) rfl (by kernel_rfl) (by kernel_rfl) (by kernel_rfl) (fun _ _ _ h => h) (Or.inl ⟨by rfl, ?_⟩) ?_; rotate_left; (· (intro wS hSw; (try dsimp only at hSw); go_simp; try with_reducible rfl)); try simp only [Act.put, pu1, pu2, pu3, pu4, pu5, pu6])
          (refine WalkT.quiet (i := 3) (v := ?_) rfl (by kernel_rfl) (by kernel_rfl) (by kernel_rfl) (fun _ _ _ h => h) (Or.inl ⟨by rfl, ?_⟩) ?_; rotate_left; (· (intro wS hSw; (try dsimp only at hSw); go_simp; try with_reducible rfl)); try simp only [Act.put, pu1, pu2, pu3, pu4, pu5, pu6])
          (refine WalkT.take (i := 4) (v := ?_) rfl (by kernel_rfl) (by kernel_rfl) (by kernel_rfl) (by kernel_rfl) (fun _ _ _ h => h) HSB.out (Or.inl ⟨by rfl, ?_⟩) ?_; rotate_left; (· (intro wS hSw; (try dsimp only at hSw); go_simp; try with_reducible rfl)); try simp only [Act.put, pu1, pu2, pu3, pu4, pu5, pu6])
          (refine WalkT.quiet (i := 5) (v := ?_) rfl (by kernel_rfl) (by kernel_rfl) (by kernel_rfl) (fun _ _ _ h => h) (Or.inl ⟨by rfl, ?_⟩) ?_; rotate_left; (· (intro wS hSw; (try dsimp only at hSw); go_simp; try with_reducible rfl)); try simp only [Act.put, pu1, pu2, pu3, pu4, pu5, pu6])
          (refine WalkT.quiet (i := 6) (v := ?_) rfl (by kernel_rfl) (by kernel_rfl) (by kernel_rfl) (fun _ _ _ h => h) (Or.inl ⟨by rfl, ?_⟩) ?_; rotate_left; (· (intro wS hSw; (try dsimp only at hSw); go_simp; try with_reducible rfl)); try simp only [Act.put, pu1, pu2, pu3, pu4, pu5, pu6])
          (refine WalkT.quiet (i := 7) (v := ?_) rfl (by kernel_rfl) (by kernel_rfl) (by kernel_rfl) (fun _ _ _ h => h) (Or.inl ⟨by rfl, ?_⟩) ?_; rotate_left; (· (intro wS hSw; (try dsimp only at hSw); go_simp; try with_reducible rfl)); try simp only [Act.put, pu1, pu2, pu3, pu4, pu5, pu6])
          (refine WalkT.quiet (i := 8) (v := ?_) rfl (by kernel_rfl) (by kernel_rfl) (by kernel_rfl) (fun _ _ _ h => h) (Or.inl ⟨by rfl, ?_⟩) ?_; rotate_left; (· (intro wS hSw; (try dsimp only at hSw); go_simp; try with_reducible rfl)); try simp only [Act.put, pu1, pu2, pu3, pu4, pu5, pu6])
          (refine WalkT.quiet (i := 9) (v := ?_) rfl (by kernel_rfl) (by kernel_rfl) (by kernel_rfl) (fun _ _ _ h => h) (Or.inl ⟨by rfl, ?_⟩) ?_; rotate_left; (· (intro wS hSw; (try dsimp only at hSw); go_simp; try with_reducible rfl)); try simp only [Act.put, pu1, pu2, pu3, pu4, pu5, pu6])
          (refine WalkT.ready (rs := [10]) (by kernel_rfl) (by simp) (AllT.cons rfl (fun K hK => ?_) AllT.nil); go_simp)
          (refine hK.out _ _ (fun _ _ => (HS0.out.bo.setOther hng _ _).cell 0 _ rfl) ?_; clear hK K; try simp only [Act.put, pu1, pu2, pu3, pu4, pu5, pu6])
          (refine WalkT.quiet (i := 11) (v := ?_) rfl (by kernel_rfl) (by kernel_rfl) (by kernel_rfl) (fun _ _ _ h => h) (Or.inl ⟨by rfl, ?_⟩) ?_; rotate_left; (· (intro wS hSw; (try dsimp only at hSw); go_simp; try with_reducible rfl)); try simp only [Act.put, pu1, pu2, pu3, pu4, pu5, pu6])
          (refine WalkT.quiet (i := 12) (v := ?_) rfl (by kernel_rfl) (by kernel_rfl) (by kernel_rfl) (fun _ _ _ h => h) (Or.inl ⟨by rfl, ?_⟩) ?_; rotate_left; (· (intro wS hSw; (try dsimp only at hSw); go_simp; try with_reducible rfl)); try simp only [Act.put, pu1, pu2, pu3, pu4, pu5, pu6])
          (refine WalkT.ready (rs := [13]) (by kernel_rfl) (by simp) (AllT.cons rfl (fun K hK => ?_) AllT.nil); go_simp)
          (refine hK.out _ _ (fun h => absurd h (by decide)) ?_; clear hK K; try simp only [Act.put, pu1, pu2, pu3, pu4, pu5, pu6])
          refine WalkT.done (by kernel_rfl) ?_
          clear u2 u3 uf
          go_wp2
          refine ⟨⟨k + 1, by omega, by go_num, ?_⟩, by simp [intOf]; omega⟩
          have := HS0.out.put HML.out.symm k hkm par port
          rw [mapK_at hlt hkm] at this
          rw [mapK_succ hlt, if_pos HX.out]; exact this
        · have hx' : (l[k].key.toList == key.toList) = false := by
            cases h : (l[k].key.toList == key.toList)
            · rfl
            · exact absurd (strB_iff.1 h) hx
          have HX := Lib.hid hx
          clear hx
          go_wp2
          exact ⟨⟨k + 1, by omega, by go_num, by rw [mapK_skip hlt HX.out]; exact HM2.out⟩, by simp [intOf]; omega⟩
      · obtain rfl : k = l.length := by omega
        have hAu : Arr Splt.cells 4 wr (moveL l key par port) (.slice au l.length cu) := by
          have := Arr.of_own Splt.cells_len HS.out.ow
          rwa [mapK_all, HMV.out.1] at this
        have hA2 := HA.out.2.1.below HS.out.be
        have q0 := HS.out.bo.cell 0 _ rfl
        have q1 := HS.out.bo.cell 1 _ rfl
        have HU := Lib.hid (And.intro hAu hA2)
        clear hAu hA2
        go_wp2_with fail
        refine (rtreeFault_any _ _ (moveL l key par port) d _ (by exact HU.out.1) (by exact HU.out.2)).mono ?_
        rintro e w5 ⟨rfl, hb5⟩
        have hz5 := hb5.size
        have HS5 := Lib.hid (And.intro (HS.out.below hb5) (And.intro (HU.out.1.below hb5) (HU.out.2.below hb5)))
        clear hb5 q0 q1
        have q0 := HS5.out.1.bo.cell 0 _ rfl
        have q1 := HS5.out.1.bo.cell 1 _ rfl
        have z0 := HS5.out.1.br.cell 0 _ rfl
        have z1 := HS5.out.1.br.cell 1 _ rfl
        have zf := fun o => HS5.out.1.br.free o
        have hne1 : (Value.slice au l.length cu).ownBlock ≠ some (w.heap.size + 1) := HS5.out.1.ne.2
        by_cases hF : treeF (moveL l key par port) d = 0
        · have hq : (treeF (moveL l key par port) d != 0) = false := by simp [hF]
          have HF := Lib.hid (HMV.out.2.trans hF)
          clear hF
          go_wp2
          refine bodyPost_ret (v := .tuple #[.agg #[.slice au l.length cu, .slice a2 d.length cap2], .int .i64 0]) ?_ rfl ⟨.slice au l.length cu, .slice a2 d.length cap2, ?_, ?_, ?_, ?_⟩
          · simp [results, go_sem, z0, z1]
          · rw [HF.out]
          · rw [if_pos HF.out]; exact arr_setOther (arr_setOther HS5.out.2.1 hne1 _ _) hne1 _ _
          · rw [if_pos HF.out]
            have hB : Below w.heap.size w ((w5.setCell ⟨w.heap.size + 1, 0, none⟩ (.slice au l.length cu)).setCell ⟨w.heap.size + 1, 1, none⟩ (.slice a2 d.length cap2)) := Below.setCell (Below.setCell HS5.out.1.be (by simp) _) (by simp) _
            exact HA.out.2.1.below hB
          · exact Below.setCell (Below.setCell HS5.out.1.be (by simp) _) (by simp) _
        · have hq : (treeF (moveL l key par port) d != 0) = true := by simp [hF]
          have HF := Lib.hid (And.intro HMV.out.2 (show moveF l d key par port ≠ 0 by rw [HMV.out.2]; exact hF))
          clear hF
          go_wp2
          refine bodyPost_ret (v := .tuple #[.agg #[.slice none 0 0, .slice none 0 0], .int .i64 (treeF (moveL l key par port) d)]) ?_ rfl ⟨.slice none 0 0, .slice none 0 0, ?_, ?_, ?_, ?_⟩
          · simp [results, go_sem, z0, z1]
          · rw [HF.out.1]
          · rw [if_neg HF.out.2]; exact Arr.nil _ _ _
          · rw [if_neg HF.out.2]; exact Arr.nil _ _ _
          · exact Below.setCell (Below.setCell HS5.out.1.be (by simp) _) (by simp) _
end Go.Proofs.YtcecpodbmjghhaaGreat
/- Walk of the reference: a drop is removed. -/
namespace Go.Proofs.YtcecpodbmjghhaaGreat
open Go Go.RowKit
theorem rdClos_any (x : Drp) (c : ByteArray) (cb : Nat) (w : World) (h : w.cell? ⟨cb, 0, none⟩ = some (.string c)) (hcb : cb < w.heap.size) : Calls Tryz.prog 71 (#[.agg ⟨Drp.cells x⟩] ++ #[.pointer (some ⟨cb, 0, none⟩)]) w
    fun e w' => e = .returned (.bool (decide (x.cust = c))) ∧ Below w.heap.size w w' := by
  have hs : (x.cust.toList == c.toList) = decide (x.cust = c) := by rw [Bool.eq_iff_iff, decide_eq_true_eq]; exact strB_iff
  have h' : (w.alloc (.cells #[.string x.cust, .string x.spl, .int .i64 x.port] 36)).cell? ⟨cb, 0, none⟩ = some (.string c) := (World.cell?_alloc_lt _ _ _ hcb).trans h
  have HS := Lib.hid hs
  show Calls Tryz.prog 71 #[.agg #[.string x.cust, .string x.spl, .int .i64 x.port], .pointer (some ⟨cb, 0, none⟩)] w _
  clear hs h
  go_enter Tryz.func71, Tryz.ntmps71
  go_wp2
  go_ret
  exact ⟨ret_bool (by first | exact HS.out | (rw [← HS.out]; simp)), by (repeat (first | exact Below.refl _ _ | assumption | refine below_draws ?_ _ | refine Below.drew ?_ | refine below_alloc ?_ _ (by first | omega | (simp; done) | (simp; omega)) | refine Below.setCell ?_ (by first | omega | (simp; done) | (simp; omega)) _ | refine below_at ?_ (by assumption) (by first | omega | (simp; done) | (simp; omega))))⟩
set_option maxHeartbeats 8000000 in
set_option maxRecDepth 100000 in
theorem removed_any (v1 v2 : Value) (l : List Splt) (d : List Drp) (c : ByteArray) (w : World) (h1 : Arr Splt.cells 4 w l v1) (h2 : Arr Drp.cells 3 w d v2) (hr : Rising (d.map (·.cust))) (hd : d.length ≤ 12) (hl : l.length ≤ 500) :
    Calls Tryz.prog 19 #[.agg #[v1, v2], .string c] w fun e w' => ∃ u1 u2, e = .returned (.agg #[u1, u2]) ∧ Arr Splt.cells 4 w' l u1 ∧ Arr Drp.cells 3 w' (d.filter fun x => !decide (x.cust = c)) u2 ∧ Below w.heap.size w w' ∧ (∀ k, u1.ownBlock = some k → w.heap.size ≤ k) ∧ ∀ k, u2.ownBlock = some k → w.heap.size ≤ k := by
  have HA := Lib.hid (And.intro h1 (And.intro h2 hr))
  obtain ⟨a1, cap1, rfl, -, -, -⟩ := id h1
  obtain ⟨a2, cap2, rfl, -, -, -⟩ := id h2
  have W0b : Blk (((w.alloc (.cells #[.slice a1 l.length cap1, .slice a2 d.length cap2] 29)).alloc (.cells #[.string c] 9)).alloc (.cells #[.slice none 0 0, .slice none 0 0] 29)) w.heap.size #[.slice a1 l.length cap1, .slice a2 d.length cap2] 29 := ((Blk.new w _ _).alloc _).alloc _
  have W0a : Blk (((w.alloc (.cells #[.slice a1 l.length cap1, .slice a2 d.length cap2] 29)).alloc (.cells #[.string c] 9)).alloc (.cells #[.slice none 0 0, .slice none 0 0] 29)) (w.heap.size + 1) #[.string c] 9 := (Blk.newAt (by simp)).alloc _
  have W0c : Blk (((w.alloc (.cells #[.slice a1 l.length cap1, .slice a2 d.length cap2] 29)).alloc (.cells #[.string c] 9)).alloc (.cells #[.slice none 0 0, .slice none 0 0] 29)) (w.heap.size + 2) #[.slice none 0 0, .slice none 0 0] 29 := Blk.newAt (by simp)
  have W0e : Below w.heap.size w (((w.alloc (.cells #[.slice a1 l.length cap1, .slice a2 d.length cap2] 29)).alloc (.cells #[.string c] 9)).alloc (.cells #[.slice none 0 0, .slice none 0 0] 29)) := by (repeat (first | exact Below.refl _ _ | assumption | refine below_draws ?_ _ | refine Below.drew ?_ | refine below_alloc ?_ _ (by first | omega | (simp; done) | (simp; omega)) | refine Below.setCell ?_ (by first | omega | (simp; done) | (simp; omega)) _ | refine below_at ?_ (by assumption) (by first | omega | (simp; done) | (simp; omega))))
  have HX0 := Lib.hid (And.intro W0b.drew (And.intro W0a.drew (And.intro W0c.drew W0e.drew)))
  have hF : ∀ (args : Array Value) (w : World), (callFunc 71 args).run Tryz.prog w = .ok (.enter 71 args) w := run_fn Tryz.func71 (by kernel_rfl) rfl
  clear h1 h2 hr W0b W0a W0c W0e
  go_enter Tryz.func19, Tryz.ntmps19
  go_wp2_with fail
  refine WalkT.start (fun w' => w'.cell? ⟨w.heap.size, 0, none⟩ = some (.slice a1 l.length cap1) ∧ w'.cell? ⟨w.heap.size, 1, none⟩ = some (.slice a2 d.length cap2)) [7] (by kernel_rfl) ?_
  generalize (((w.alloc (.cells #[.slice a1 l.length cap1, .slice a2 d.length cap2] 29)).alloc (.cells #[.string c] 9)).alloc (.cells #[.slice none 0 0, .slice none 0 0] 29)).drew = W0 at *
  have hz0' : w.heap.size + 2 < W0.heap.size := HX0.out.2.2.1.lt
  have HSC : Hid (W0.cell? ⟨w.heap.size, 0, none⟩ = some (.slice a1 l.length cap1) ∧ W0.cell? ⟨w.heap.size, 1, none⟩ = some (.slice a2 d.length cap2)) := ⟨HX0.out.1.cell 0 _ rfl, HX0.out.1.cell 1 _ rfl⟩
  (refine WalkT.take (i := 0) (v := ?_) rfl (by kernel_rfl) (by kernel_rfl) (by kernel_rfl) (by kernel_rfl) (fun _ _ _ h => h) HSC.out (Or.inl ⟨by rfl, ?_⟩) ?_; rotate_left; (· (intro wS hSw; (try dsimp only at hSw); obtain ⟨q0, q1⟩ := hSw; go_simp; try with_reducible rfl)); try simp only [Act.put, pu1, pu2, pu3, pu4, pu5, pu6])
  (refine WalkT.quiet (i := 1) (v := ?_) rfl (by kernel_rfl) (by kernel_rfl) (by kernel_rfl) (fun _ _ _ h => h) (Or.inl ⟨by rfl, ?_⟩) ?_; rotate_left; (· (intro wS hSw; (try dsimp only at hSw); go_simp; try with_reducible rfl)); try simp only [Act.put, pu1, pu2, pu3, pu4, pu5, pu6])
  (refine WalkT.take (i := 2) (v := ?_) rfl (by kernel_rfl) (by kernel_rfl) (by kernel_rfl) (by kernel_rfl) (fun _ _ _ h => h) HSC.out (Or.inl ⟨by rfl, ?_⟩) ?_; rotate_left; (· (intro wS hSw; (try dsimp only at hSw); obtain ⟨q0, q1⟩ := hSw; go_simp; try with_reducible rfl)); try simp only [Act.put, pu1, pu2, pu3, pu4, pu5, pu6])
  (refine WalkT.quiet (i := 4) (v := ?_) rfl (by kernel_rfl) (by kernel_rfl) (by kernel_rfl) (fun _ _ _ h => h) (Or.inl ⟨by rfl, ?_⟩) ?_; rotate_left; (· (intro wS hSw; (try dsimp only at hSw); go_simp; try with_reducible rfl)); try simp only [Act.put, pu1, pu2, pu3, pu4, pu5, pu6])
  clear HSC
  (refine WalkT.ready (rs := [3]) (by kernel_rfl) (by simp) (AllT.cons rfl (fun K hK => ?_) AllT.nil); go_simp)
  refine (clone_drp _ d _ (by exact HA.out.2.1.below HX0.out.2.2.2) (by omega)).mono ?_
  rintro e W1 ⟨vc, rfl, ⟨hoc, -⟩, hb1⟩
  have hz1 := hb1.size
  have HX1 := Lib.hid (And.intro (HX0.out.1.below hb1 (by omega)) (And.intro (HX0.out.2.1.below hb1 (by omega)) (And.intro (HX0.out.2.2.1.below hb1 (by omega)) (And.intro (below_at HX0.out.2.2.2 hb1 (by omega)) (own_baseH (B' := w.heap.size + 3) hoc (by omega))))))
  clear hb1 hoc
  (refine hK.out _ _ (fun _ _ => ⟨HX1.out.1.cell 0 _ rfl, HX1.out.1.cell 1 _ rfl⟩) ?_; clear hK K; try simp only [Act.put, pu1, pu2, pu3, pu4, pu5, pu6])
  (refine WalkT.ready (rs := [5]) (by kernel_rfl) (by simp) (AllT.cons rfl (fun K hK => ?_) AllT.nil); go_simp)
  have hlo1 := HX1.out.2.2.2.2.lt
  have hob1 : ∀ c, c < w.heap.size + 3 → some c ≠ vc.ownBlock := fun c hc e => by have := (hlo1 c e.symm).1; omega
  have HOB1 := Lib.hid hob1
  clear hob1 hlo1
  refine (deleteFunc_drp vc d (fun x => decide (x.cust = c)) 71 _ (w.heap.size + 3) _ HX1.out.2.2.2.2 (by omega) hF (fun x w' _ hg => rdClos_any x c (w.heap.size + 1) w' ((HX1.out.2.1.grown hg (HOB1.out _ (by omega))).cell 0 _ rfl) ((HX1.out.2.1.grown hg (HOB1.out _ (by omega))).lt))).mono ?_
  rintro e W2 ⟨vf, rfl, hof, hg2⟩
  have hbe2 : Below w.heap.size w W2 := below_grown HX1.out.2.2.2.1 HX1.out.2.2.2.2 hg2 (by omega) (by omega)
  have HX2 := Lib.hid (And.intro (HX1.out.1.grown hg2 (HOB1.out _ (by omega))) (And.intro hof (And.intro (HX1.out.2.2.1.grown hg2 (HOB1.out _ (by omega))) hbe2)))
  have hz2 : W1.heap.size ≤ W2.heap.size := hg2.size
  obtain ⟨af, cf, rfl⟩ := own_sliceB hof
  clear hof hg2 hbe2
  (refine hK.out _ _ (fun _ _ => ⟨HX2.out.1.cell 0 _ rfl, HX2.out.1.cell 1 _ rfl⟩) ?_; clear hK K; try simp only [Act.put, pu1, pu2, pu3, pu4, pu5, pu6])
  have hfl := List.length_filter_le (fun x : Drp => !decide (x.cust = c)) d
  have hri := filter_rise HA.out.2.2 (fun x : Drp => !decide (x.cust = c))
  have HRI := Lib.hid hri
  clear hri
  generalize hFe : (d.filter fun x => !decide (x.cust = c)) = F at *
  have HFE := Lib.hid hFe
  clear hFe
  (refine WalkT.ready (rs := [6]) (by kernel_rfl) (by simp) (AllT.cons rfl (fun K hK => ?_) AllT.nil); go_simp)
  refine (withDrops_any _ _ _ l F (w.heap.size + 3) _ (by exact HA.out.1.below HX2.out.2.2.2) (fun w' hg => HA.out.1.below (below_grown HX2.out.2.2.2 HX2.out.2.1 hg (by omega) (by omega))) (RowV.of_own Drp.cells_len HX2.out.2.1) (by omega) (by omega)).mono ?_
  rintro e W3 ⟨u1, L, rfl, hpL, hsL, hAL, hRL, hgL, hlL⟩
  have hLF : L = F := sorted_is HRI.out hpL hsL
  have hlo2 := HX2.out.2.1.lt
  have hob2 : ∀ c, c < w.heap.size + 3 → some c ≠ (Value.slice af F.length cf).ownBlock := fun c hc e => by have := (hlo2 c e.symm).1; omega
  obtain ⟨aw, cw, rfl, -, -, -⟩ := id hAL
  have hbr := HX2.out.2.2.1.grown hgL (hob2 _ (by omega))
  have hbe3 : Below w.heap.size w W3 := below_grown HX2.out.2.2.2 HX2.out.2.1 hgL (by omega) (by omega)
  have hbt := HX2.out.1.grown hgL (hob2 _ (by omega))
  have HX3 := Lib.hid (And.intro hbt (And.intro hbr (And.intro hbe3 (And.intro hAL (And.intro hRL (And.intro hLF (And.intro (fun (c : Nat) (hc : c < w.heap.size + 3) (e : (Value.slice aw l.length cw).ownBlock = some c) => (by have := hlL _ e; omega : False)) (fun (c : Nat) (hc : c < w.heap.size + 3) (e : (Value.slice af F.length cf).ownBlock = some c) => hob2 c hc e.symm))))))))
  have z0 := hbr.cell 0 _ rfl
  have z1 := hbr.cell 1 _ rfl
  have zf := fun o => hbr.free o
  clear hpL hsL hAL hRL hgL hlL hlo2 hob2 hbr hbe3 hbt
  (refine hK.out _ _ (fun _ _ => ⟨HX3.out.1.cell 0 _ rfl, HX3.out.1.cell 1 _ rfl⟩) ?_; clear hK K; try simp only [Act.put, pu1, pu2, pu3, pu4, pu5, pu6])
  (refine WalkT.ready (rs := [7]) (by kernel_rfl) (by simp) (AllT.cons rfl (fun K hK => ?_) AllT.nil); go_simp)
  (refine hK.out _ _ (fun h => absurd h (by decide)) ?_; clear hK K; try simp only [Act.put, pu1, pu2, pu3, pu4, pu5, pu6])
  refine WalkT.done (by kernel_rfl) ?_
  go_wp2
  refine bodyPost_ret (v := .agg #[.slice aw l.length cw, .slice af F.length cf]) ?_ rfl ⟨_, _, rfl, ?_, ?_, ?_, fun k e => Classical.byContradiction fun hk => HX3.out.2.2.2.2.2.2.1 k (by omega) e, fun k e => Classical.byContradiction fun hk => HX3.out.2.2.2.2.2.2.2 k (by omega) e⟩
  · simp [results, go_sem, z0, z1]
  · exact arr_setOther (arr_setOther HX3.out.2.2.2.1 (HX3.out.2.2.2.2.2.2.1 _ (by omega)) _ _) (HX3.out.2.2.2.2.2.2.1 _ (by omega)) _ _
  · have := HX3.out.2.2.2.2.1.arr
    rw [HX3.out.2.2.2.2.2.1] at this
    rw [HFE.out]
    exact arr_setOther (arr_setOther this (HX3.out.2.2.2.2.2.2.2 _ (by omega)) _ _) (HX3.out.2.2.2.2.2.2.2 _ (by omega)) _ _
  · exact Below.setCell (Below.setCell HX3.out.2.2.1 (by simp; omega) _) (by simp; omega) _
end Go.Proofs.YtcecpodbmjghhaaGreat
