/- Walks of the library's generic functions of slices at the types of chapter 2: Clone, DeleteFunc. -/
import Derived.Test.YtagpcgnlbgndmaaFuncs
import Derived.Test.YtagpcgnlbgndmaaPlainC
import Derived.Test.YtagpcgnlbgndmaaMem
import Derived.Lib.SliceRun
set_option linter.unusedVariables false
set_option linter.unusedSimpArgs false
namespace Go.Proofs.Ytagpcgnlbgndmaa
open Go Go.RowKit

theorem Class.cells_len (c : Class) : c.cells.length = 3 := rfl
theorem class_one (l : List Class) : ∀ u ∈ l.flatMap Class.cells, u.oneCell' = true := by
  intro u hu
  obtain ⟨c, _, hc⟩ := List.mem_flatMap.1 hu
  simp [Class.cells] at hc
  rcases hc with rfl | rfl | rfl <;> rfl
theorem infoClass : (Try.prog.info? 119).map (fun i => (i.zero, i.size, i.bytes)) = some (some (.agg #[.string ⟨#[]⟩, .int .i64 0, .int .i64 0]), 3, 32) := by kernel_rfl

/-- what Clone gives: a row of the call's own -/
def Cloned {α : Type} (cells : α → List Value) (sz : Nat) (e : TypeId) (B : Nat) (l : List α) (v : Value) (w' : World) : Prop :=
  w'.ownsRow B e sz v l.length (l.flatMap cells) ∧ ((v = .slice none 0 0 ∧ l = []) ∨ ∃ g cap, v = .slice (some ⟨g, 0, none⟩) l.length cap)

theorem own_form {w : World} {base : Nat} {e : TypeId} {size : Nat} {v : Value} {n : Nat} {xs : List Value} (h : w.ownsRow base e size v (0 + n) xs) (hne : v ≠ .slice none 0 0) : ∃ g cap, v = .slice (some ⟨g, 0, none⟩) n cap := by
  obtain ⟨_, h2⟩ := h
  rcases h2 with ⟨rfl, _⟩ | ⟨g, cap, cur, rfl, _⟩
  · exact absurd rfl hne
  · exact ⟨g, cap, by rw [Nat.zero_add]⟩

set_option maxHeartbeats 1000000 in
set_option maxRecDepth 100000 in
theorem clone_class (v : Value) (l : List Class) (w : World) (h : Arr Class.cells 3 w l v) (hl : l.length ≤ 100000000) : Calls Try.prog 92 #[v] w
    (Ret (fun v' w' => Cloned Class.cells 3 119 w.heap.size l v' w') w) := by
  have h' := h
  obtain ⟨a, cap, rfl, hcap, hmax, hc⟩ := h
  obtain ⟨i0, hi, hz0, hz1, hz2⟩ := info_parts infoClass
  have heq := fun (w : World) (a : Option Addr) (n c n' c' : Nat) => Lib.run_eql_slice_nil (P := Try.prog) w 34 119 a n c n' c' Try.underlying34
  cases a with
  | none =>
    have h0 : l = [] := by
      rcases Nat.eq_zero_or_pos l.length with h | h
      · exact List.length_eq_zero_iff.1 h
      · obtain ⟨_, _, e, _⟩ := hc 0 h; cases e
    subst h0
    go_enter Try.func92, Try.ntmps92
    go_wp2
    go_ret
    exact ⟨_, rfl, ⟨World.ownsRow_nil _ _ _ _, .inl ⟨rfl, rfl⟩⟩, by (repeat (first | exact Below.refl _ _ | assumption | refine below_draws ?_ _ | refine Below.drew ?_ | refine below_alloc ?_ _ (by first | omega | (simp; done) | (simp; omega)) | refine Below.setCell ?_ (by first | omega | (simp; done) | (simp; omega)) _ | refine below_at ?_ (by assumption) (by first | omega | (simp; done) | (simp; omega))))⟩
  | some ad =>
    have hnews := h'.news Class.cells_len
    have HN := Lib.hid hnews
    clear hnews hc h'
    have hsl : (l.flatMap Class.cells).length = l.length * 3 := flat_len Class.cells_len l
    have HSL := Lib.hid hsl
    clear hsl
    go_enter Try.func92, Try.ntmps92
    go_wp2_with (at_builtin; go_must (refine wpList_append_own _ rfl _ _ 34 rfl w.heap.size 119 _ _ 3 32 Try.underlying34 hi hz0 hz1 hz2 rfl (by decide) _ 0 [] rfl (World.ownsRow_lit w #[] 0 (Nat.le_refl _) (by simp [maxLen]) rfl) ad l.length cap (l.flatMap Class.cells) rfl HSL.out (fun j u hu => Lib.cell?_alloc_some _ (HN.out j u hu)) (class_one l) (by unfold maxLen; omega) (by omega) (by first | omega | (simp; done) | (simp; omega)) ?_); intro v' w1 hown1 hgrow hnil)
    go_ret
    refine ⟨_, rfl, ⟨?_, .inr ?_⟩, ?_⟩
    · have := hown1; rw [Nat.zero_add, List.nil_append] at this; exact this
    · exact own_form hown1 (fun e => by have := (hnil.1 e).1; cases this)
    · exact below_grown (by (repeat (first | exact Below.refl _ _ | assumption | refine below_draws ?_ _ | refine Below.drew ?_ | refine below_alloc ?_ _ (by first | omega | (simp; done) | (simp; omega)) | refine Below.setCell ?_ (by first | omega | (simp; done) | (simp; omega)) _ | refine below_at ?_ (by assumption) (by first | omega | (simp; done) | (simp; omega))))) (World.ownsRow_lit (e := 119) (size := 3) w #[] 0 (Nat.le_refl _) (by simp [maxLen]) rfl) hgrow (Nat.le_refl _) (by first | omega | (simp; done) | (simp; omega))

set_option maxHeartbeats 1000000 in
theorem deleteFunc_class_nil (F : FuncId) (cp : Array Value) (w : World) (hF : ∀ (args : Array Value) (w : World), (callFunc F args).run Try.prog w = .ok (.enter F args) w) :
    Calls Try.prog 91 #[.slice none 0 0, .func (.func F) #[] cp] w
    fun e w' => e = .returned (.slice none 0 0) ∧ Below w.heap.size w w' := by
  have HC := Lib.hid hF
  clear hF
  go_enter Try.func91, Try.ntmps91
  go_wp2_with (go_at_call 140; refine (indexFunc_class _ [] (fun _ => false) F cp _ (Arr.nil _ _ _) HC.out (fun x w' hx hB => by cases hx)).mono ?_; rintro e w1 ⟨rfl, hb1⟩)
  go_ret
  exact ⟨rfl, by (repeat (first | exact Below.refl _ _ | assumption | refine below_draws ?_ _ | refine Below.drew ?_ | refine below_alloc ?_ _ (by first | omega | (simp; done) | (simp; omega)) | refine Below.setCell ?_ (by first | omega | (simp; done) | (simp; omega)) _ | refine below_at ?_ (by assumption) (by first | omega | (simp; done) | (simp; omega))))⟩

/-- the state of DeleteFunc: the first i are what is kept of the first j, the others from j on are as they were -/
structure Del {α : Type} (cells : α → List Value) (sz : Nat) (p : α → Bool) (l : List α) (w0 wr : World) (g i j : Nat) (cur : List α) : Prop where
  len : cur.length = l.length
  ij : i < j
  jn : j ≤ l.length
  kept : cur.take i = (l.take j).filter fun x => !p x
  rest : cur.drop j = l.drop j
  row : Row cells sz wr g cur
  grown : w0.grownBy wr (some g)
theorem Del.at {α : Type} {cells : α → List Value} {sz : Nat} {p : α → Bool} {l : List α} {w0 wr : World} {g i j : Nat} {cur : List α} (h : Del cells sz p l w0 wr g i j cur) (hj : j < l.length) (hj' : j < cur.length) : cur[j] = l[j] := by
  have := congrArg (fun z => z[0]?) h.rest
  simp only [List.getElem?_drop, Nat.add_zero] at this
  rw [List.getElem?_eq_getElem hj', List.getElem?_eq_getElem hj] at this
  exact Option.some.inj this
theorem Del.skip {α : Type} {cells : α → List Value} {sz : Nat} {p : α → Bool} {l : List α} {w0 wr w1 : World} {g i j : Nat} {cur : List α} (h : Del cells sz p l w0 wr g i j cur) (hj : j < l.length) (hp : p l[j] = true)
    (hb : Below wr.heap.size wr w1) : Del cells sz p l w0 w1 g i (j + 1) cur where
  len := h.len
  ij := by have := h.ij; omega
  jn := by omega
  kept := by rw [h.kept, List.take_succ_eq_append_getElem hj, List.filter_append]; simp [hp]
  rest := by rw [← List.drop_drop, ← List.drop_drop, h.rest]
  row := h.row.below hb h.row.2.2
  grown := grown_trans h.grown (grown_below _ hb)
theorem Del.keep {α : Type} {cells : α → List Value} {sz : Nat} (hlen : ∀ x, (cells x).length = sz) {p : α → Bool} {l : List α} {w0 wr w1 : World} {g i j : Nat} {cur : List α} (h : Del cells sz p l w0 wr g i j cur) (hj : j < l.length) (hp : p l[j] = false)
    (hb : Below wr.heap.size wr w1) : Del cells sz p l w0 (w1.setCells g (i * sz) (cells l[j])) g (i + 1) (j + 1) (cur.set i l[j]) where
  len := by rw [List.length_set]; exact h.len
  ij := by have := h.ij; omega
  jn := by omega
  kept := by
    have h1 := h.ij
    have h2 := h.len
    rw [List.take_succ_eq_append_getElem (by rw [List.length_set]; omega), List.getElem_set_self, List.take_set_of_le (by omega), h.kept, List.take_succ_eq_append_getElem hj, List.filter_append]; simp [hp]
  rest := by
    have h1 := h.ij
    rw [List.drop_set_of_lt (by omega), ← List.drop_drop, ← List.drop_drop, h.rest]
  row := (h.row.below hb h.row.2.2).set hlen i (by rw [h.len]; have := h.ij; omega) l[j]
  grown := grown_trans (grown_trans h.grown (grown_below _ hb)) (grown_setCells g _ _ _)

theorem idxF_spec {α : Type} {p : α → Bool} : ∀ {l : List α}, l.any p = true → ∃ (k : Nat) (hk : k < l.length), idxF p l = k ∧ (l.take k).any p = false ∧ p l[k] = true
  | x :: l, h => by
    cases hx : p x
    · simp only [List.any_cons, hx, Bool.false_or] at h
      obtain ⟨k, hk, h1, h2, h3⟩ := idxF_spec h
      refine ⟨k + 1, by simpa using hk, ?_, ?_, by simpa using h3⟩
      · simp only [idxF, hx, h1]; simp; omega
      · simp only [List.take_succ_cons, List.any_cons, hx, h2, Bool.or_false]
    · exact ⟨0, by simp, by simp [idxF, hx], by simp, by simpa using hx⟩
theorem Del.first {α : Type} {cells : α → List Value} {sz : Nat} {p : α → Bool} {l : List α} {w0 wr : World} {g k : Nat} (hk : k < l.length) (h1 : (l.take k).any p = false) (h2 : p l[k] = true) (hr : Row cells sz wr g l) (hg : w0.grownBy wr (some g)) : Del cells sz p l w0 wr g k (k + 1) l where
  len := rfl
  ij := by omega
  jn := by omega
  kept := by
    rw [List.take_succ_eq_append_getElem hk, List.filter_append]
    have : (l.take k).filter (fun x => !p x) = l.take k := by
      rw [List.filter_eq_self]
      intro x hx
      have := List.any_eq_false.1 h1 x hx
      simpa using this
    simp [this, h2]
  rest := rfl
  row := hr
  grown := hg
theorem Del.done {α : Type} {cells : α → List Value} {sz : Nat} {p : α → Bool} {l : List α} {w0 wr : World} {g i : Nat} {cur : List α} (h : Del cells sz p l w0 wr g i l.length cur) : cur.take i = l.filter (fun x => !p x) ∧ i = (l.filter fun x => !p x).length := by
  have h1 := h.kept
  rw [List.take_length] at h1
  refine ⟨h1, ?_⟩
  rw [← h1, List.length_take, h.len]
  have := h.ij
  omega

theorem zeroClass (w : World) : (zeroValue 119).run Try.prog w = .ok (.agg #[.string ⟨#[]⟩, .int .i64 0, .int .i64 0]) w := by kernel_rfl
set_option maxHeartbeats 1000000 in
set_option maxRecDepth 100000 in
theorem deleteFunc_class (l : List Class) (p : Class → Bool) (F : FuncId) (cp : Array Value) (g cap : Nat) (w : World) (hrow : Row Class.cells 3 w g l) (hcap : l.length ≤ cap) (hmax : cap ≤ maxLen) (hlen : l.length ≤ 100000000)
    (hF : ∀ (args : Array Value) (w : World), (callFunc F args).run Try.prog w = .ok (.enter F args) w)
    (hcall : ∀ (x : Class) (w' : World), x ∈ l → w.grownBy w' (some g) → Calls Try.prog F (#[.agg ⟨Class.cells x⟩] ++ cp) w' fun e w'' => e = .returned (.bool (p x)) ∧ Below w'.heap.size w' w'') :
    Calls Try.prog 91 #[.slice (some ⟨g, 0, none⟩) l.length cap, .func (.func F) #[] cp] w
    fun e w' => e = .returned (.slice (some ⟨g, 0, none⟩) (l.filter fun x => !p x).length cap) ∧ Row Class.cells 3 w' g (l.filter fun x => !p x) ∧ w.grownBy w' (some g) := by
  have HC := Lib.hid (And.intro hF hcall)
  clear hF hcall
  have hA : Arr Class.cells 3 w l (.slice (some ⟨g, 0, none⟩) l.length cap) := hrow.arr rfl hcap hmax
  have hir := idxF_range p l
  unfold maxLen at hmax
  by_cases hnone : l.any p = false
  · have HI := Lib.hid (idxF_none hnone)
    have hfl : (l.filter fun x => !p x) = l := by
      rw [List.filter_eq_self]
      intro x hx
      have := List.any_eq_false.1 hnone x hx
      simpa using this
    have HFL := Lib.hid hfl
    clear hnone hfl hir
    go_enter Try.func91, Try.ntmps91
    go_wp2_with (go_at_call 140; refine (indexFunc_class _ l p F cp _ hA HC.out.1 (fun x w' hx hB => HC.out.2 x w' hx (grown_below _ hB))).mono ?_; rw [HI.out]; rintro e w1 ⟨rfl, hb1⟩)
    go_ret
    exact ⟨by rw [HFL.out]; rfl, by rw [HFL.out]; exact hrow.below hb1 hrow.2.2, grown_below _ hb1⟩
  · obtain ⟨k, hk, hi0, ht0, hp0⟩ := idxF_spec (Bool.not_eq_false _ ▸ hnone)
    have HI := Lib.hid hi0
    have HD : Hid (∀ w1, Below w.heap.size w w1 → Del Class.cells 3 p l w w1 g k (k + 1) l) := fun w1 hb => Del.first hk ht0 hp0 (hrow.below hb hrow.2.2) (grown_below _ hb)
    have hkn : ((k : Int) == -1) = false := by simp
    clear hnone hir ht0 hp0 hi0
    go_enter Try.func91, Try.ntmps91
    go_wp2_with (go_at_call 140; refine (indexFunc_class _ l p F cp _ hA HC.out.1 (fun x w' hx hB => HC.out.2 x w' hx (grown_below _ hB))).mono ?_; rw [HI.out]; rintro e w1 ⟨rfl, hb1⟩)
    go_loopw [5, 6] (fun a b wr => ∃ i j : Nat, a = .int .i64 i ∧ b = .int .i64 j ∧ ∃ cur, Del Class.cells 3 p l w wr g i j cur) (fun _ b _ => l.length - (intOf b).toNat)
    case atStart => exact ⟨k, k + 1, rfl, by go_num, l, HD.out _ hb1⟩
    case round =>
      obtain ⟨i, j, rfl, rfl, cur, hd⟩ := hrel
      have hij := hd.ij
      have hjn := hd.jn
      have HDel := Lib.hid hd
      have hgl := hd.row.2.2
      by_cases hlt : j < l.length
      · have hcj : j < cur.length := by rw [hd.len]; exact hlt
        have hci : i < cur.length := by rw [hd.len]; omega
        obtain ⟨c0, c1, c2⟩ := class_at (hd.row.1 j hcj)
        rw [hd.at hlt hcj] at c0 c1 c2
        obtain ⟨d0, d1, d2⟩ := class_at (hd.row.1 i hci)
        have hfz := hd.row.2.1
        simp only [Nat.zero_add] at c0 c1 c2 d0 d1 d2
        have hin : l[j] ∈ l := List.getElem_mem _
        cases hp : p l[j]
        · have HP := Lib.hid hp
          have hF := HC.out.1
          clear hd
          go_wp2_with fail
          refine (HC.out.2 l[j] _ hin ?_).mono ?_
          · exact grown_trans HDel.out.grown (grown_below _ (by (repeat (first | exact Below.refl _ _ | assumption | refine below_draws ?_ _ | refine Below.drew ?_ | refine below_alloc ?_ _ (by first | omega | (simp; done) | (simp; omega)) | refine Below.setCell ?_ (by first | omega | (simp; done) | (simp; omega)) _ | refine below_at ?_ (by assumption) (by first | omega | (simp; done) | (simp; omega))))))
          rw [HP.out]
          rintro e w2 ⟨rfl, hb2⟩
          have hs2 : wr.heap.size < w2.heap.size := by have := hb2.size; simp at this; omega
          have hcg := bcellAt hb2 g (by first | omega | (simp; done) | (simp; omega))
          have hct := bcellAt hb2 wr.heap.size (by first | omega | (simp; done) | (simp; omega))
          have hfg : ∀ o, w2.frozen? ⟨g, o, none⟩ = false := fun o => (hb2.frozen (p := ⟨g, o, none⟩) (by first | omega | (simp; done) | (simp; omega))).trans ((((Below.refl wr.heap.size wr).alloc (Nat.le_refl _) _).frozen (p := ⟨g, o, none⟩) hgl).trans (hfz o))
          go_wp2
          exact ⟨⟨i + 1, j + 1, by go_num, by go_num, cur.set i l[j], HDel.out.keep Class.cells_len hlt HP.out (by (repeat (first | exact Below.refl _ _ | assumption | refine below_draws ?_ _ | refine Below.drew ?_ | refine below_alloc ?_ _ (by first | omega | (simp; done) | (simp; omega)) | refine Below.setCell ?_ (by first | omega | (simp; done) | (simp; omega)) _ | refine below_at ?_ (by assumption) (by first | omega | (simp; done) | (simp; omega)))))⟩, by simp [intOf]; omega⟩
        · have HP := Lib.hid hp
          have hF := HC.out.1
          clear hd
          go_wp2_with fail
          refine (HC.out.2 l[j] _ hin ?_).mono ?_
          · exact grown_trans HDel.out.grown (grown_below _ (by (repeat (first | exact Below.refl _ _ | assumption | refine below_draws ?_ _ | refine Below.drew ?_ | refine below_alloc ?_ _ (by first | omega | (simp; done) | (simp; omega)) | refine Below.setCell ?_ (by first | omega | (simp; done) | (simp; omega)) _ | refine below_at ?_ (by assumption) (by first | omega | (simp; done) | (simp; omega))))))
          rw [HP.out]
          rintro e w2 ⟨rfl, hb2⟩
          go_wp2
          exact ⟨⟨i, j + 1, rfl, by go_num, cur, HDel.out.skip hlt HP.out (by (repeat (first | exact Below.refl _ _ | assumption | refine below_draws ?_ _ | refine Below.drew ?_ | refine below_alloc ?_ _ (by first | omega | (simp; done) | (simp; omega)) | refine Below.setCell ?_ (by first | omega | (simp; done) | (simp; omega)) _ | refine below_at ?_ (by assumption) (by first | omega | (simp; done) | (simp; omega)))))⟩, by simp [intOf]; omega⟩
      · obtain rfl : j = l.length := by omega
        obtain ⟨hd1, hd2⟩ := hd.done
        have HE := Lib.hid (And.intro hd1 hd2)
        have hrl : ∀ j, j < (l.length - i) * 3 → (wr.cell? ⟨g, i * 3 + j, none⟩).isSome = true := by
          intro q hq
          have hk2 : (i * 3 + q) / 3 < cur.length := by rw [hd.len]; omega
          have := hd.row.1 ((i * 3 + q) / 3) hk2 ((i * 3 + q) % 3) _ (List.getElem?_eq_getElem (by rw [Class.cells_len]; omega))
          rw [show 0 + (i * 3 + q) / 3 * 3 + (i * 3 + q) % 3 = i * 3 + q by omega] at this
          rw [this]; rfl
        have hcl := fun ty => run_clear_rows (P := Try.prog) wr 34 119 ty _ Try.underlying34 zeroClass (by simp [Value.cells, Value.oneCell']) g (i * 3) (l.length - i) (cap - i) (by omega) hrl hd.row.2.1
        generalize (Builtin.zeroCells (Value.agg #[.string ⟨#[]⟩, .int .i64 0, .int .i64 0]).cells (l.length - i)).toList = zs at hcl
        have hcap1 : ¬ cap = i := by omega
        have hcap2 : ¬ i = cap := by omega
        have hcap3 : i ≤ cap := by omega
        clear hd hrl hd1 hd2
        go_wp2
        go_ret
        have h3 := (HDel.out.row.cut Class.cells_len i zs)
        rw [HE.out.1] at h3
        refine ⟨by rw [← HE.out.2]; rfl, h3, grown_trans HDel.out.grown (grown_setCells _ _ _ _)⟩
end Go.Proofs.Ytagpcgnlbgndmaa
