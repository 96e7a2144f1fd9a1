/- Texts of one subject in one: CostP, CostT; what each shows stands at its head. No condition. -/
import Derived.Test.YtagpcgnlbgndmaaAsgAll
import Derived.Test.YtagpcgnlbgndmaaStream6
/- The stream's table of costs in memory, while it is made. -/
set_option linter.unusedVariables false
set_option linter.unusedSimpArgs false
namespace Go.Proofs.Ytagpcgnlbgndmaa
open Go Go.RowKit

def apartV (u v : Value) : Prop := ∀ g, u.ownBlock = some g → v.ownBlock ≠ some g
theorem apartV.symm {u v : Value} (h : apartV u v) : apartV v u := fun g h1 h2 => h g h2 h1
def OwnR (base : Nat) (W : World) (v : Value) (l : List Value) : Prop := W.ownsRow base 22 1 v l.length l
theorem OwnR.kept {base : Nat} {W W' : World} {v : Value} {l : List Value} (h : OwnR base W v l) {row : Option Nat} (hg : W.grownBy W' row) (hne : ∀ g, v.ownBlock = some g → row ≠ some g) : OwnR base W' v l := by
  refine World.ownsRow.kept h hg ?_
  cases hv : v.ownBlock with
  | none => exact .inl rfl
  | some g => exact .inr (fun e => hne g hv e.symm)
theorem grown_refl (w : World) (row : Option Nat) : w.grownBy w row := ⟨rfl, rfl, rfl, Nat.le_refl _, fun _ _ _ => rfl⟩
structure CoSt (w : World) (s M : Nat) (fv : Value) (free : List Int) (ov : Value) (RV : List (Value × List Int)) (W : World) : Prop where
  sl : s < w.heap.size
  st : Strm W s M
  gr : w.grownBy W (some s)
  fo : OwnI w.heap.size W fv free
  oo : OwnR w.heap.size W ov (RV.map (·.1))
  ro : ∀ i (h : i < RV.length), OwnI w.heap.size W RV[i].1 RV[i].2 ∧ apartV RV[i].1 ov ∧ apartV RV[i].1 fv
  rr : ∀ i j (h : i < RV.length) (h2 : j < RV.length), i ≠ j → apartV RV[i].1 RV[j].1
  of : apartV ov fv
theorem CoSt.grow {w W W' : World} {s M M' : Nat} {fv ov : Value} {free : List Int} {RV : List (Value × List Int)} (h : CoSt w s M fv free ov RV W) (hg : W.grownBy W' (some s)) (hs : Strm W' s M') : CoSt w s M' fv free ov RV W' := by
  have hsl := h.sl
  have hne : ∀ {v : Value} {l : List Int}, OwnI w.heap.size W v l → OwnI w.heap.size W' v l := fun ho => ho.kept hg (fun g hg' e => by have := (World.ownsRow.lt ho g hg').1; simp at e; omega)
  exact ⟨h.sl, hs, grown_trans h.gr hg, hne h.fo, h.oo.kept hg (fun g hg' e => by have := (World.ownsRow.lt h.oo g hg').1; simp at e; omega), fun i hi => ⟨hne (h.ro i hi).1, (h.ro i hi).2⟩, h.rr, h.of⟩
/-- a row is put behind the others -/
theorem CoSt.add {w W1 W W2 : World} {s M M1 : Nat} {fv ov rv : Value} {free row : List Int} {RV : List (Value × List Int)} {g cap : Nat} (h : CoSt w s M1 fv free ov RV W1) (hg1 : W1.grownBy W (some s)) (hs : Strm W s M) (hr : OwnI W1.heap.size W rv row)
    (hg : W.grownBy W2 ov.ownBlock) (ho : OwnR w.heap.size W2 (.slice (some ⟨g, 0, none⟩) (RV.length + 1) cap) (RV.map (·.1) ++ [rv])) (hat : ov.ownBlock = some g ∨ W.heap.size ≤ g) (hs2 : Strm W2 s M) :
    CoSt w s M fv free (.slice (some ⟨g, 0, none⟩) (RV.length + 1) cap) (RV ++ [(rv, row)]) W2 := by
  have hb := h.grow hg1 hs
  have hz1 := hg1.size
  have hzw := h.gr.size
  have hlo := fun k hk => World.ownsRow.lt h.oo k hk
  have hlf := fun k hk => World.ownsRow.lt h.fo k hk
  have hlr := fun k hk => World.ownsRow.lt hr k hk
  have hli := fun i hi k hk => World.ownsRow.lt (h.ro i hi).1 k hk
  have hgr2 : w.grownBy W2 (some s) := by
    refine ⟨hg.os.trans hb.gr.os, hg.tape.trans hb.gr.tape, hg.output.trans hb.gr.output, Nat.le_trans hb.gr.size hg.size, fun k hk hne => (hg.block k (Nat.lt_of_lt_of_le hk hb.gr.size) (fun e => ?_)).trans (hb.gr.block k hk hne)⟩
    have := (hlo k e.symm).1
    omega
  have hrg : ∀ k, rv.ownBlock = some k → k ≠ g := by
    intro k hk e
    subst e
    have h1 := hlr k hk
    rcases hat with h2 | h2
    · have := (hlo k h2).2; omega
    · omega
  have hcase : ∀ (P : Value × List Int → Prop), (∀ i (h : i < RV.length), P RV[i]) → P (rv, row) → ∀ i (h : i < (RV ++ [(rv, row)]).length), P (RV ++ [(rv, row)])[i] := by
    intro P h1 h2 i hi
    by_cases hl : i < RV.length
    · rw [List.getElem_append_left hl]; exact h1 i hl
    · rw [List.getElem_append_right (by omega)]
      simp only [List.getElem_singleton]; exact h2
  refine ⟨h.sl, hs2, hgr2, hb.fo.kept hg (fun k hk e => h.of k e hk), ?_, hcase (fun p => OwnI w.heap.size W2 p.1 p.2 ∧ apartV p.1 (.slice (some ⟨g, 0, none⟩) (RV.length + 1) cap) ∧ apartV p.1 fv) (fun i hi => ⟨(hb.ro i hi).1.kept hg (fun k hk e => (h.ro i hi).2.1 k hk e), ?_, (h.ro i hi).2.2⟩) ⟨(hr.base hzw).kept hg (fun k hk e => ?_), ?_, ?_⟩, ?_, ?_⟩
  · have := ho
    unfold OwnR at this ⊢
    rw [List.map_append, List.length_append, List.length_map]
    rw [List.length_append, List.length_map] at this
    exact this
  · intro k hk e
    simp only [Value.ownBlock, Option.some.injEq] at e
    subst e
    rcases hat with h2 | h2
    · exact (h.ro i hi).2.1 g hk h2
    · have := (hli i hi g hk).2; omega
  · have h1 := (hlr k hk).1
    have h2 := (hlo k e).2
    omega
  · intro k hk e
    simp only [Value.ownBlock, Option.some.injEq] at e
    exact hrg k hk e.symm
  · intro k hk e
    have h1 := (hlr k hk).1
    have h2 := (hlf k e).2
    omega
  · intro i j hi hj hne
    by_cases hl : i < RV.length <;> by_cases hl2 : j < RV.length
    · rw [List.getElem_append_left hl, List.getElem_append_left hl2]; exact h.rr i j hl hl2 hne
    · rw [List.getElem_append_left hl, List.getElem_append_right (by omega)]
      simp only [List.getElem_singleton]
      intro k hk e
      have h1 := (hli i hl k hk).2
      have h2 := (hlr k e).1
      omega
    · rw [List.getElem_append_left hl2, List.getElem_append_right (by omega)]
      simp only [List.getElem_singleton]
      intro k hk e
      have h1 := (hli j hl2 k e).2
      have h2 := (hlr k hk).1
      omega
    · simp only [List.length_append, List.length_cons, List.length_nil] at hi hj; omega
  · intro k hk e
    simp only [Value.ownBlock, Option.some.injEq] at hk
    subst hk
    rcases hat with h2 | h2
    · exact h.of g h2 e
    · have := (hlf g e).2; omega
/-- a row gets longer -/
theorem CoSt.more {w W W2 : World} {s M go ocap g cap : Nat} {fv rv' : Value} {free row' : List Int} {RV : List (Value × List Int)} (h : CoSt w s M fv free (.slice (some ⟨go, 0, none⟩) RV.length ocap) RV W) (i : Nat) (hi : i < RV.length)
    (hg : W.grownBy W2 RV[i].1.ownBlock) (hv : rv'.ownBlock = some g) (ho : OwnI w.heap.size W2 rv' row') (hat : RV[i].1.ownBlock = some g ∨ W.heap.size ≤ g) (hs2 : Strm W2 s M) :
    CoSt w s M fv free (.slice (some ⟨go, 0, none⟩) RV.length ocap) (RV.set i (rv', row')) (W2.setCell ⟨go, i, none⟩ rv') := by
  have hlo := World.ownsRow.lt h.oo go rfl
  have hsl := h.sl
  have hlf := fun k hk => World.ownsRow.lt h.fo k hk
  have hli := fun j hj k hk => World.ownsRow.lt (h.ro j hj).1 k hk
  have hg2 := grown_setB W2 go i rv'
  have hgo : g ≠ go := by
    rcases hat with h2 | h2
    · intro e; exact (h.ro i hi).2.1 g h2 (by rw [e]; rfl)
    · omega
  have hoo2 := h.oo.kept hg (fun k hk e => by simp only [Value.ownBlock, Option.some.injEq] at hk; exact (h.ro i hi).2.1 k e (by rw [← hk]; rfl))
  have hgr2 : w.grownBy W2 (some s) := by
    refine ⟨hg.os.trans h.gr.os, hg.tape.trans h.gr.tape, hg.output.trans h.gr.output, Nat.le_trans h.gr.size hg.size, fun k hk hne => (hg.block k (Nat.lt_of_lt_of_le hk h.gr.size) (fun e => ?_)).trans (h.gr.block k hk hne)⟩
    have := (hli i hi k e.symm).1
    omega
  have hgr3 : w.grownBy (W2.setCell ⟨go, i, none⟩ rv') (some s) :=
    ⟨hg2.os.trans hgr2.os, hg2.tape.trans hgr2.tape, hg2.output.trans hgr2.output, Nat.le_trans hgr2.size hg2.size, fun k hk hne => (hg2.block k (Nat.lt_of_lt_of_le hk hgr2.size) (fun e => by simp at e; omega)).trans (hgr2.block k hk hne)⟩
  have hfo2 := (h.fo.kept hg (fun k hk e => (h.ro i hi).2.2 k e hk)).kept hg2 (fun k hk e => h.of go rfl (by rw [hk]; exact e.symm))
  refine ⟨h.sl, hs2.setOther (by omega) _ _, hgr3, hfo2, ?_, fun j hj => ?_, fun j k hj hk hne => ?_, h.of⟩
  · have h1 := (World.ownsRow.stored (w := W2) (by have := hoo2; unfold OwnR at this; rw [List.length_map] at this; exact this) i rv').1
    unfold OwnR
    rw [List.length_map, List.length_set, List.map_set]
    exact h1
  · rw [List.length_set] at hj
    by_cases hji : j = i
    · subst hji
      rw [List.getElem_set_self]
      refine ⟨ho.kept hg2 (fun k hk e => ?_), ?_, ?_⟩
      · rw [hv] at hk; simp only [Option.some.injEq] at hk e; omega
      · intro k hk e
        rw [hv] at hk
        simp only [Value.ownBlock, Option.some.injEq] at hk e
        omega
      · intro k hk e
        rw [hv] at hk
        simp only [Option.some.injEq] at hk
        subst hk
        rcases hat with h2 | h2
        · exact (h.ro j hi).2.2 g h2 e
        · have := (hlf g e).2; omega
    · rw [List.getElem_set_ne (Ne.symm hji)]
      refine ⟨((h.ro j hj).1.kept hg (fun k hk e => h.rr j i hj hi hji k hk e)).kept hg2 (fun k hk e => (h.ro j hj).2.1 k hk (by rw [← e]; rfl)), (h.ro j hj).2⟩
  · have hj' : j < RV.length := by simpa using hj
    have hk' : k < RV.length := by simpa using hk
    have hfr : ∀ l (hl : l < RV.length), l ≠ i → apartV RV[l].1 rv' := by
      intro l hl hli' q hq e
      rw [hv] at e
      simp only [Option.some.injEq] at e
      subst e
      rcases hat with h2 | h2
      · exact h.rr l i hl hi hli' g hq h2
      · have := (hli l hl g hq).2; omega
    by_cases hji : j = i
    · subst hji
      rw [List.getElem_set_self, List.getElem_set_ne hne]
      exact (hfr k hk' (Ne.symm hne)).symm
    · rw [List.getElem_set_ne (Ne.symm hji)]
      by_cases hki : k = i
      · subst hki
        rw [List.getElem_set_self]; exact hfr j hj' hne
      · rw [List.getElem_set_ne (Ne.symm hki)]; exact h.rr j k hj' hk' hne
/-- the room of a cabinet turns -/
theorem CoSt.room {w W : World} {s M g cap : Nat} {ov : Value} {free : List Int} {RV : List (Value × List Int)} (h : CoSt w s M (.slice (some ⟨g, 0, none⟩) free.length cap) free ov RV W) (k : Nat) (x : Int) :
    CoSt w s M (.slice (some ⟨g, 0, none⟩) free.length cap) (free.set k x) ov RV (W.setCell ⟨g, k, none⟩ (.int .i64 x)) := by
  have hgl := World.ownsRow.lt h.fo g rfl
  have hsl := h.sl
  have hg2 := grown_setB W g k (.int .i64 x)
  refine ⟨h.sl, h.st.setOther (by omega) _ _, ⟨hg2.os.trans h.gr.os, hg2.tape.trans h.gr.tape, hg2.output.trans h.gr.output, Nat.le_trans h.gr.size hg2.size, fun i hi hne => (hg2.block i (Nat.lt_of_lt_of_le hi h.gr.size) (fun e => by simp at e; omega)).trans (h.gr.block i hi hne)⟩, ?_, h.oo.kept hg2 (fun i hi e => h.of i hi (by rw [← e]; rfl)), fun i hi => ⟨(h.ro i hi).1.kept hg2 (fun j hj e => (h.ro i hi).2.2 j hj (by rw [← e]; rfl)), (h.ro i hi).2⟩, h.rr, h.of⟩
  have := (World.ownsRow.stored (w := W) h.fo k (.int .i64 x)).1
  unfold OwnI
  rw [List.length_set, List.map_set]; exact this
theorem OwnR.cell {base : Nat} {W : World} {g n cap : Nat} {l : List Value} (h : OwnR base W (.slice (some ⟨g, 0, none⟩) n cap) l) (hn : n = l.length) {k : Nat} (hk : k < l.length) : W.cell? ⟨g, k, none⟩ = some l[k] := by
  subst hn
  have := World.ownsRow.cellAt (w := W) h k (by omega)
  rw [this, List.getElem?_eq_getElem hk]
theorem OwnR.form {base : Nat} {W : World} {v : Value} {l : List Value} (h : OwnR base W v l) : ∃ a cap, v = .slice a l.length cap ∧ l.length ≤ cap ∧ cap ≤ maxLen ∧ (0 < l.length → ∃ g, a = some ⟨g, 0, none⟩) := by
  rcases h.2 with ⟨h1, h2⟩ | ⟨g, cap, cur, hv, hg, hh, hc, hm, _⟩
  · exact ⟨none, 0, by rw [h1, h2], by omega, by simp [maxLen], fun h => by omega⟩
  · exact ⟨_, cap, hv, hc, hm, fun _ => ⟨g, rfl⟩⟩
theorem CoSt.cell {w W : World} {s M go ocap : Nat} {fv : Value} {free : List Int} {RV : List (Value × List Int)} (h : CoSt w s M fv free (.slice (some ⟨go, 0, none⟩) RV.length ocap) RV W) (i : Nat) (hi : i < RV.length) {v : Value} (hv : RV[i].1 = v) : W.cell? ⟨go, i, none⟩ = some v := by
  have hc := OwnR.cell h.oo (by rw [List.length_map]) (k := i) (by rw [List.length_map]; exact hi)
  rw [List.getElem_map, hv] at hc
  exact hc
theorem CoSt.alloc {w W : World} {s M : Nat} {fv ov : Value} {free : List Int} {RV : List (Value × List Int)} (h : CoSt w s M fv free ov RV W) (o : Obj) : CoSt w s M fv free ov RV (W.alloc o) := h.grow (World.grownBy_alloc _ _ _) (h.st.alloc _)
theorem CoSt.tab {w W : World} {s M : Nat} {fv ov : Value} {free : List Int} {RV : List (Value × List Int)} (h : CoSt w s M fv free ov RV W) : Tab W (RV.map (·.2)) ov := by
  obtain ⟨a, cap, hv, h1, h2, h3⟩ := h.oo.form
  rw [List.length_map] at hv h1 h3
  refine ⟨a, cap, by rw [List.length_map]; exact hv, by rw [List.length_map]; exact h1, h2, fun k hk => ?_⟩
  rw [List.length_map] at hk
  obtain ⟨g, rfl⟩ := h3 (by omega)
  have hoo := h.oo
  rw [hv] at hoo
  have hc := OwnR.cell hoo (by rw [List.length_map]) (k := k) (by rw [List.length_map]; exact hk)
  rw [List.getElem_map] at hc
  refine ⟨g, 0, RV[k].1, rfl, (World.ownsRow.lt hoo g rfl).2, by rw [Nat.zero_add]; exact hc, ?_⟩
  rw [List.getElem_map]
  exact Arr.of_ints (h.ro k hk).1
end Go.Proofs.Ytagpcgnlbgndmaa
/- Walk of the stream: a table of costs, and room. -/
set_option linter.unusedVariables false
set_option linter.unusedSimpArgs false
namespace Go.Proofs.Ytagpcgnlbgndmaa
open Go Go.RowKit

/-- a table and room, of whatever numbers -/
def NewTab (v : Value) (W : World) : Prop := ∃ v1 v2 rows free, v = .tuple #[v1, v2] ∧ Tab W rows v1 ∧ Arr intCells 1 W free v2
set_option maxHeartbeats 4000000 in
set_option maxRecDepth 100000 in
theorem costTable_any (s m : Nat) (w : World) (h : Strm w s m) (hm : m ≤ 1000000) : Calls Try.prog 42 #[.pointer (some ⟨s, 0, none⟩)] w
    (fun e w' => ∃ v, e = .returned v ∧ NewTab v w' ∧ w.grownBy w' (some s)) := by
  have hl := h.lt
  obtain ⟨i0, hi, hz0, hz1, hz2⟩ := info_parts infoIntB
  obtain ⟨j0, hj, hy0, hy1, hy2⟩ := info_parts infoIntRow
  go_enter Try.func42, Try.ntmps42
  go_wp2_with fail
  refine (range_any s m _ _ _ h (by omega) (by omega) (by omega) (by omega)).mono ?_
  rintro e w1 ⟨v, rfl, ⟨r, rfl, r0, r1⟩, hs1, hg1⟩
  obtain ⟨n, rfl⟩ := Int.eq_ofNat_of_zero_le r0
  have hn : n ≤ 3 := by omega
  have HI := Lib.hid (And.intro hs1 hg1)
  clear hs1 hg1
  go_wp2
  go_loopw [5, 12] (fun v i wr => ∃ l : List Int, l.length ≤ n ∧ i = .int .i64 l.length ∧ wr.ownsRow w.heap.size 3 1 v l.length (l.map (Value.int .i64)) ∧ Strm wr s (m + 1 + l.length) ∧ w.grownBy wr (some s)) (fun _ i _ => n - (intOf i).toNat)
  case atStart => exact ⟨[], by simp, rfl, World.ownsRow_nil _ _ _ _, HI.out.1, HI.out.2⟩
  case round =>
    obtain ⟨l, hk, rfl, hown, hs, hg⟩ := hrel
    have hsz : w.heap.size ≤ wr.heap.size := hg.size
    by_cases hlt : l.length < n
    · have HO := Lib.hid (And.intro hown hg)
      clear hown hg
      go_wp2_with fail; refine (pick_lit s (m + 1 + l.length) [0, 1, 2, 5] _ (hs) (by omega) (by simp) (by simp) (by first | rfl | simp) (by rfl) (by rfl)).mono ?_; rintro e w2 ⟨v, rfl, ⟨r2, rfl, hr2⟩, hs2, hg2⟩
      have l2 := hg2.size
      have HO2 := Lib.hid (own_grown HO.out.1 hg2 (by omega))
      have HG2 := Lib.hid (grown_trans HO.out.2 hg2)
      clear hr2 hs hg2 HO
      go_wp2_with ((at_builtin; go_must (refine wpList_append_own _ rfl _ _ 22 rfl _ 3 _ (.int .i64 0) 1 8 Try.underlying22 hi hz0 hz1 hz2 rfl (by decide) _ _ _ rfl (own_below HO2.out (by (repeat (first | exact Below.refl _ _ | assumption | refine below_draws ?_ _ | refine Below.drew ?_ | refine below_alloc ?_ _ (by first | omega | (simp; done) | (simp; omega)) | refine Below.setCell ?_ (by first | omega | (simp; done) | (simp; omega)) _ | refine below_at ?_ (by assumption) (by first | omega | (simp; done) | (simp; omega)))))) ⟨w2.heap.size, 0, none⟩ 1 1 [.int .i64 r2] rfl rfl (by exact news_at (by first | rfl | simp) (by rfl)) (by simp [Value.oneCell']) (by unfold maxLen; omega) (by omega) (by first | omega | (simp; done) | (simp; omega)) ?_)); intro v' w4 hown3 hgrow _)
      refine ⟨⟨l ++ [r2], by simp only [List.length_append, List.length_cons, List.length_nil]; omega, by simp, ?_, ?_, ?_⟩, by simp [intOf]; omega⟩
      · simp only [List.length_append, List.length_cons, List.length_nil, List.map_append, List.map_cons, List.map_nil]; exact hown3
      · refine (strm_app (hs2.alloc _) (own_below HO2.out (by (repeat (first | exact Below.refl _ _ | assumption | refine below_draws ?_ _ | refine Below.drew ?_ | refine below_alloc ?_ _ (by first | omega | (simp; done) | (simp; omega)) | refine Below.setCell ?_ (by first | omega | (simp; done) | (simp; omega)) _ | refine below_at ?_ (by assumption) (by first | omega | (simp; done) | (simp; omega)))))) hgrow (by omega)).mono (by simp; omega)
      · exact grown_app (grown_alloc HG2.out _) (own_below HO2.out (by (repeat (first | exact Below.refl _ _ | assumption | refine below_draws ?_ _ | refine Below.drew ?_ | refine below_alloc ?_ _ (by first | omega | (simp; done) | (simp; omega)) | refine Below.setCell ?_ (by first | omega | (simp; done) | (simp; omega)) _ | refine below_at ?_ (by assumption) (by first | omega | (simp; done) | (simp; omega)))))) hgrow (by omega)
    · have hM : m + 1 + l.length ≤ m + 4 := by omega
      generalize m + 1 + l.length = M at *
      have HLN := Lib.hid (show l.length = n by omega)
      obtain ⟨fa, fcap, rfl, hfc, hfm, hfg⟩ := OwnI.form (show OwnI w.heap.size wr _ l from hown)
      have HC0 := Lib.hid (show CoSt w s M (.slice fa l.length fcap) l (.slice none 0 0) [] wr from ⟨hl, hs, hg, hown, World.ownsRow_nil _ _ _ _, fun i hi => absurd hi (by simp), fun i j hi => absurd hi (by simp), fun g e => by cases e⟩)
      clear hown hg hs
      unfold maxLen at hfm
      go_wp2_with fail
      refine (range_any s M _ _ _ HC0.out.st (by omega) (by omega) (by omega) (by omega)).mono ?_
      rintro e w5 ⟨v, rfl, ⟨r, rfl, q0, q1⟩, hs5, hg5⟩
      obtain ⟨n2, rfl⟩ := Int.eq_ofNat_of_zero_le q0
      have hn2 : n2 ≤ 5 := by omega
      have HC1 := Lib.hid (HC0.out.grow hg5 hs5)
      clear hs5 hg5 HC0
      go_wp2
      go_loopw [6, 23] (fun ov i ws => ∃ RV : List (Value × List Int), RV.length ≤ n2 ∧ i = .int .i64 RV.length ∧ (∀ p ∈ RV, p.2.length ≤ 3) ∧ CoSt w s (M + 1 + 3 * RV.length) (.slice fa l.length fcap) l ov RV ws) (fun _ i _ => n2 - (intOf i).toNat)
      case atStart => exact ⟨[], by simp, rfl, by simp, HC1.out⟩
      case round =>
        obtain ⟨RV, hkr, rfl, hR3, hC⟩ := hrel
        have HR3 := Lib.hid hR3
        clear hR3
        obtain ⟨oa, ocap, hov, hoc, hom, hog⟩ := hC.oo.form
        rw [List.length_map] at hov hoc hog
        subst hov
        have hszw := hC.gr.size
        have hst := hC.st
        have HC := Lib.hid hC
        clear hC
        unfold maxLen at hom
        by_cases hlr : RV.length < n2
        · go_wp2
          go_loopw [7, 26] (fun rv i ws => ∃ row : List Int, row.length ≤ n ∧ i = .int .i64 row.length ∧ OwnI wr.heap.size ws rv row ∧ Strm ws s (M + 1 + 3 * RV.length + row.length) ∧ wr.grownBy ws (some s)) (fun _ i _ => n - (intOf i).toNat)
          case atStart => exact ⟨[], by simp, rfl, World.ownsRow_nil _ _ _ _, hst, ⟨rfl, rfl, rfl, Nat.le_refl _, fun _ _ _ => rfl⟩⟩
          case round =>
            obtain ⟨row, hkw, rfl, hown, hs, hg⟩ := hrel
            have hsz := hg.size
            by_cases hlt2 : row.length < n
            · have HO := Lib.hid (And.intro hown hg)
              clear hown hg
              go_wp2_with fail; refine (pick_lit s (M + 1 + 3 * RV.length + row.length) [0, 1, 2, 3, 10] _ (hs) (by omega) (by simp) (by simp) (by first | rfl | simp) (by rfl) (by rfl)).mono ?_; rintro e w2 ⟨v, rfl, ⟨r2, rfl, hr2⟩, hs2, hg2⟩
              have l2 := hg2.size
              have HO2 := Lib.hid (own_grown HO.out.1 hg2 (by omega))
              have HG2 := Lib.hid (grown_trans HO.out.2 hg2)
              clear hr2 hs hg2 HO
              go_wp2_with ((at_builtin; go_must (refine wpList_append_own _ rfl _ _ 22 rfl _ 3 _ (.int .i64 0) 1 8 Try.underlying22 hi hz0 hz1 hz2 rfl (by decide) _ _ _ rfl (own_below HO2.out (by (repeat (first | exact Below.refl _ _ | assumption | refine below_draws ?_ _ | refine Below.drew ?_ | refine below_alloc ?_ _ (by first | omega | (simp; done) | (simp; omega)) | refine Below.setCell ?_ (by first | omega | (simp; done) | (simp; omega)) _ | refine below_at ?_ (by assumption) (by first | omega | (simp; done) | (simp; omega)))))) ⟨w2.heap.size, 0, none⟩ 1 1 [.int .i64 r2] rfl rfl (by exact news_at (by first | rfl | simp) (by rfl)) (by simp [Value.oneCell']) (by unfold maxLen; omega) (by omega) (by first | omega | (simp; done) | (simp; omega)) ?_)); intro v' w4 hown3 hgrow _)
              refine ⟨⟨row ++ [r2], by simp only [List.length_append, List.length_cons, List.length_nil]; omega, by simp, ?_, ?_, ?_⟩, by simp [intOf]; omega⟩
              · unfold OwnI; simp only [List.length_append, List.length_cons, List.length_nil, List.map_append, List.map_cons, List.map_nil]; exact hown3
              · refine (strm_app (hs2.alloc _) (own_below HO2.out (by (repeat (first | exact Below.refl _ _ | assumption | refine below_draws ?_ _ | refine Below.drew ?_ | refine below_alloc ?_ _ (by first | omega | (simp; done) | (simp; omega)) | refine Below.setCell ?_ (by first | omega | (simp; done) | (simp; omega)) _ | refine below_at ?_ (by assumption) (by first | omega | (simp; done) | (simp; omega)))))) hgrow (by omega)).mono (by simp; omega)
              · exact grown_app (grown_alloc HG2.out _) (own_below HO2.out (by (repeat (first | exact Below.refl _ _ | assumption | refine below_draws ?_ _ | refine Below.drew ?_ | refine below_alloc ?_ _ (by first | omega | (simp; done) | (simp; omega)) | refine Below.setCell ?_ (by first | omega | (simp; done) | (simp; omega)) _ | refine below_at ?_ (by assumption) (by first | omega | (simp; done) | (simp; omega)))))) hgrow (Nat.le_refl _)
            · have hM2 : M + 1 + 3 * RV.length + row.length ≤ M + 1 + 3 * (RV.length + 1) := by omega
              obtain ⟨wa, wcap, rfl, hwc, hwm, hwg⟩ := OwnI.form hown
              unfold maxLen at hwm
              have HW := Lib.hid (And.intro hown (And.intro (hs.mono hM2) hg))
              have HG := Lib.hid (HC.out.grow hg (hs.mono hM2))
              have hoo := HG.out.oo
              unfold OwnR at hoo
              rw [List.length_map] at hoo
              have HOO := Lib.hid hoo
              have hR5 : RV.length ≤ 5 := by omega
              clear hown hg hs hoo
              go_wp2_with ((at_builtin; go_must (refine wpList_append_lies _ rfl _ _ 67 rfl w.heap.size 22 _ (.slice none 0 0) 1 24 Try.underlying67 hj hy0 hy1 hy2 rfl (by decide) _ _ _ rfl (World.ownsRow.alloc HOO.out _) ⟨wr.heap.size, 0, none⟩ 1 1 [.slice wa row.length wcap] rfl rfl (by exact news_at (by first | rfl | simp) (by rfl)) (by simp [Value.oneCell']) (by omega) (by unfold maxLen; omega) (by omega) (by simp; omega) _ rfl ?_)); intro g cap9 w9 hown9 hg9 hat9 hlt9)
              have hst9 : Strm w9 s (M + 1 + 3 * (RV.length + 1)) := strm_app (HW.out.2.1.alloc _) (World.ownsRow.alloc HOO.out _) hg9 hl
              have hadd := HC.out.add (W := wr) (W2 := w9) (rv := .slice wa row.length wcap) (row := row) (g := g) (cap := cap9) HW.out.2.2 HW.out.2.1 HW.out.1 (grown_trans (World.grownBy_alloc _ _ _) hg9) (by unfold OwnR; rw [List.length_append, List.length_map]; exact hown9) (hat9.imp id (fun h => by rw [h]; simp)) hst9
              refine ⟨⟨RV ++ [(.slice wa row.length wcap, row)], by simp only [List.length_append, List.length_cons, List.length_nil]; omega, by simp, ?_, ?_⟩, by simp [intOf]; omega⟩
              · intro p hp
                rcases List.mem_append.1 hp with h | h
                · exact HR3.out p h
                · rw [List.mem_singleton] at h; subst h; simp only; omega
              · rw [List.length_append]
                exact hadd
        · have hM3 : M + 1 + 3 * RV.length ≤ M + 16 := by omega
          have hR5 : RV.length ≤ 5 := by omega
          have HE := Lib.hid (show CoSt w s (M + 16) (.slice fa l.length fcap) l (.slice oa RV.length ocap) RV wr from ⟨HC.out.sl, HC.out.st.mono hM3, HC.out.gr, HC.out.fo, HC.out.oo, HC.out.ro, HC.out.rr, HC.out.of⟩)
          clear HC hst hM3
          go_wp2_with fail
          refine (flip_any s (M + 16) _ _ HE.out.st (by omega) (by omega) (by omega)).mono ?_
          rintro e wy ⟨v, rfl, ⟨fb, rfl⟩, hsy, hgy⟩
          have HY := Lib.hid (HE.out.grow hgy hsy)
          clear HE hsy hgy
          cases fb
          · go_wp2_with fail
            (refine (flip_any s (M + 17) _ _ HY.out.st (by omega) (by omega) (by omega)).mono ?_; rintro e wz ⟨v, rfl, ⟨fb2, rfl⟩, hsz2, hgz2⟩; have HZ := Lib.hid (HY.out.grow hgz2 hsz2); clear hsz2 hgz2; cases fb2; exact (by (go_wp2; go_ret2; exact ⟨_, rfl, ⟨_, _, _, _, rfl, HZ.out.tab, Arr.of_ints HZ.out.fo⟩, HZ.out.gr⟩)); by_cases hn0 : 0 < n; exact (by (have hd : decide ((0 : Int) < (n : Int)) = true := (by simp; omega); have hlp : 0 < l.length := (by rw [HLN.out]; exact hn0); obtain ⟨gf, rfl⟩ := hfg hlp; go_wp2_with fail; refine (odd_any s (M + 17 + 1) 0 1000000 _ HZ.out.st (by omega) (by omega) (by omega) (by omega)).mono ?_; rintro e wq ⟨v, rfl, ⟨r3, rfl, -⟩, hsq, hgq⟩; have HQ := Lib.hid (HZ.out.grow hgq hsq); have c0 := OwnI.cell HQ.out.fo rfl hlp; have f0 := World.ownsRow.frozenAt HQ.out.fo 0; have HRR := Lib.hid (HQ.out.room 0 r3); clear hsq hgq HZ HQ; go_wp2; go_ret2; exact ⟨_, rfl, ⟨_, _, _, _, rfl, HRR.out.tab, Arr.of_ints HRR.out.fo⟩, HRR.out.gr⟩)); have hd : decide ((0 : Int) < (n : Int)) = false := (by simp; omega); (go_wp2; go_ret2; exact ⟨_, rfl, ⟨_, _, _, _, rfl, HZ.out.tab, Arr.of_ints HZ.out.fo⟩, HZ.out.gr⟩))
          · by_cases hR0 : 0 < RV.length
            · have hRd : decide ((0 : Int) < (RV.length : Int)) = true := by simp; omega
              obtain ⟨go, rfl⟩ := hog hR0
              go_wp2_with fail
              refine (next_any s (M + 17) _ _ HY.out.st (by omega) (by omega) (by omega)).mono ?_
              rintro e wn ⟨v, rfl, ⟨r, rfl, z0, z1⟩, hsn, hgn⟩
              obtain ⟨i, rfl⟩ := Int.eq_ofNat_of_zero_le z0
              have hiR : i < RV.length := by omega
              have HN := Lib.hid (HY.out.grow hgn hsn)
              clear HY hsn hgn
              obtain ⟨ra, rcap, hform, hrc, hrm, hrg⟩ := (HN.out.ro i hiR).1.form
              have hlen : RV[i].2.length ≤ 3 := HR3.out _ (List.getElem_mem _)
              have HRV : Hid (∃ row, RV[i].2 = row) := ⟨_, rfl⟩
              obtain ⟨row, hrow⟩ := HRV.out
              rw [hrow] at hform hlen hrc
              have HFM := Lib.hid (And.intro hform hrow)
              have c0 := HN.out.cell i hiR hform
              clear hform hrow HRV
              have biR : (i : Int) < (RV.length : Int) := by omega
              go_wp2
              have hS0 : wn.drew.cell? ⟨go, i, none⟩ = some (.slice ra row.length rcap) := c0
              have HN2 : Hid (CoSt w s (M + 17 + 1) (.slice fa l.length fcap) l (.slice (some ⟨go, 0, none⟩) RV.length ocap) RV wn.drew) := Lib.hid (HN.out.grow (grown_drew (grown_refl wn (some s))) HN.out.st.drew)
              refine WalkT.start (fun w' => w'.cell? ⟨go, i, none⟩ = some (.slice ra row.length rcap)) [12] (by kernel_rfl) ?_
              generalize wn.drew = wd at *
              clear c0 HN
              refine WalkT.quiet (i := 0) (v := ?_) rfl (by kernel_rfl) (by kernel_rfl) (by kernel_rfl) (fun _ _ _ h => h) (Or.inl ⟨by rfl, ?_⟩) ?_; rotate_left; (· (intro wS hSw; (try dsimp only at hSw); go_simp; try with_reducible rfl)); try simp only [Act.put, List.setIfInBounds_toArray, List.set_cons_zero, List.set_cons_succ, List.getElem_toArray, List.getElem_cons_succ, List.getElem_cons_zero]
              refine WalkT.quiet (i := 1) (v := ?_) rfl (by kernel_rfl) (by kernel_rfl) (by kernel_rfl) (fun _ _ _ h => h) (Or.inl ⟨by rfl, ?_⟩) ?_; rotate_left; (· (intro wS hSw; (try dsimp only at hSw); go_simp; try with_reducible rfl)); try simp only [Act.put, List.setIfInBounds_toArray, List.set_cons_zero, List.set_cons_succ, List.getElem_toArray, List.getElem_cons_succ, List.getElem_cons_zero]
              refine WalkT.quiet (i := 2) (v := ?_) rfl (by kernel_rfl) (by kernel_rfl) (by kernel_rfl) (fun _ _ _ h => h) (Or.inl ⟨by rfl, ?_⟩) ?_; rotate_left; (· (intro wS hSw; (try dsimp only at hSw); go_simp; try with_reducible rfl)); try simp only [Act.put, List.setIfInBounds_toArray, List.set_cons_zero, List.set_cons_succ, List.getElem_toArray, List.getElem_cons_succ, List.getElem_cons_zero]
              refine WalkT.quiet (i := 3) (v := ?_) rfl (by kernel_rfl) (by kernel_rfl) (by kernel_rfl) (fun _ _ _ h => h) (Or.inl ⟨by rfl, ?_⟩) ?_; rotate_left; (· (intro wS hSw; (try dsimp only at hSw); go_simp; try with_reducible rfl)); try simp only [Act.put, List.setIfInBounds_toArray, List.set_cons_zero, List.set_cons_succ, List.getElem_toArray, List.getElem_cons_succ, List.getElem_cons_zero]
              refine WalkT.quiet (i := 4) (v := ?_) rfl (by kernel_rfl) (by kernel_rfl) (by kernel_rfl) (fun _ _ _ h => h) (Or.inl ⟨by rfl, ?_⟩) ?_; rotate_left; (· (intro wS hSw; (try dsimp only at hSw); go_simp; try with_reducible rfl)); try simp only [Act.put, List.setIfInBounds_toArray, List.set_cons_zero, List.set_cons_succ, List.getElem_toArray, List.getElem_cons_succ, List.getElem_cons_zero]
              refine WalkT.take (i := 5) (v := ?_) rfl (by kernel_rfl) (by kernel_rfl) (by kernel_rfl) (by kernel_rfl) (fun _ _ _ h => h) hS0 (Or.inl ⟨by rfl, ?_⟩) ?_; rotate_left; (· (intro wS hSw; (try dsimp only at hSw); go_simp; try with_reducible rfl)); try simp only [Act.put, List.setIfInBounds_toArray, List.set_cons_zero, List.set_cons_succ, List.getElem_toArray, List.getElem_cons_succ, List.getElem_cons_zero]
              refine WalkT.quiet (i := 6) (v := ?_) rfl (by kernel_rfl) (by kernel_rfl) (by kernel_rfl) (fun _ _ _ h => h) (Or.inl ⟨by rfl, ?_⟩) ?_; rotate_left; (· (intro wS hSw; (try dsimp only at hSw); go_simp; try with_reducible rfl)); try simp only [Act.put, List.setIfInBounds_toArray, List.set_cons_zero, List.set_cons_succ, List.getElem_toArray, List.getElem_cons_succ, List.getElem_cons_zero]
              refine WalkT.ready (rs := [7]) (by kernel_rfl) (by simp) (AllT.cons rfl (fun K hK => ?_) AllT.nil); go_simp
              refine hK.out _ _ (fun _ _ => (HN2.out.alloc _).cell i hiR HFM.out.1) ?_; clear hK K; try simp only [Act.put, List.setIfInBounds_toArray, List.set_cons_zero, List.set_cons_succ, List.getElem_toArray, List.getElem_cons_succ, List.getElem_cons_zero]
              refine WalkT.ready (rs := [8]) (by kernel_rfl) (by simp) (AllT.cons rfl (fun K hK => ?_) AllT.nil); go_simp
              refine (pick_lit s (M + 17 + 1) [0, -1] _ HN2.out.st (by omega) (by simp) (by simp) (by first | rfl | simp) (by rfl) (by rfl)).mono ?_
              rintro e wp ⟨v, rfl, ⟨rp, rfl, -⟩, hsp, hgp⟩
              have HP := Lib.hid (HN2.out.grow hgp hsp)
              clear hsp hgp HN2 hS0
              refine hK.out _ _ (fun _ _ => HP.out.cell i hiR HFM.out.1) ?_; clear hK K; try simp only [Act.put, List.setIfInBounds_toArray, List.set_cons_zero, List.set_cons_succ, List.getElem_toArray, List.getElem_cons_succ, List.getElem_cons_zero]
              refine WalkT.ready (rs := [9]) (by kernel_rfl) (by simp) (AllT.cons rfl (fun K hK => ?_) AllT.nil); go_simp
              refine hK.out _ _ (fun _ _ => (HP.out.alloc _).cell i hiR HFM.out.1) ?_; clear hK K; try simp only [Act.put, List.setIfInBounds_toArray, List.set_cons_zero, List.set_cons_succ, List.getElem_toArray, List.getElem_cons_succ, List.getElem_cons_zero]
              refine WalkT.ready (rs := [10]) (by kernel_rfl) (by simp) (AllT.cons rfl (fun K hK => ?_) AllT.nil)
              have hroi := (HP.out.ro i hiR).1
              rw [HFM.out.1, HFM.out.2] at hroi
              refine step_append_lies _ (by rfl) _ _ _ (by rfl) w.heap.size 3 _ _ 1 8 Try.underlying22 hi hz0 hz1 hz2 rfl (by decide) _ row.length _ (by rfl) (World.ownsRow.alloc hroi _) ⟨_, 0, none⟩ 1 1 [.int .i64 rp] (by rfl) rfl (by exact news_at (by first | rfl | simp) (by rfl)) (by simp [Value.oneCell']) (by omega) (by unfold maxLen; omega) (by omega) (by have := HP.out.gr.size; simp; omega) _ rfl ?_
              intro g cap9 w9 hown9 hg9 hat9 hlt9
              have hgc := grown_trans (World.grownBy_alloc wp (.cells #[.int .i64 rp] 3) _) hg9
              have hst9 := strm_app (HP.out.st.alloc _) (World.ownsRow.alloc hroi _) hg9 hl
              have hM9 := HP.out.more (cap := 0) (W2 := w9) (rv' := .slice (some ⟨g, 0, none⟩) (row.length + 1) cap9) (row' := row ++ [rp]) i hiR (by rw [HFM.out.1]; exact hgc) rfl (by unfold OwnI; rw [List.length_append, List.map_append]; exact hown9) (by rw [HFM.out.1]; exact hat9.imp id (fun h => by rw [h]; simp)) hst9
              have hoo9 := HP.out.oo.kept hgc (fun k hk e => (HP.out.ro i hiR).2.1 k (by rw [HFM.out.1]; exact e) hk)
              have k0 := OwnR.cell hoo9 (by rw [List.length_map]) (k := i) (by rw [List.length_map]; exact hiR)
              rw [List.getElem_map, HFM.out.1] at k0
              have k1 := World.ownsRow.frozenAt (w := w9) (by unfold OwnR at hoo9; rw [List.length_map] at hoo9; exact hoo9) i
              have HMo := Lib.hid (show CoSt w s (M + 17 + 2) (.slice fa l.length fcap) l (.slice (some ⟨go, 0, none⟩) RV.length ocap) (RV.set i (.slice (some ⟨g, 0, none⟩) (row.length + 1) cap9, row ++ [rp])) (w9.setCell ⟨go, i, none⟩ (.slice (some ⟨g, 0, none⟩) (row.length + 1) cap9)) from hM9)
              clear hgc hst9 hM9 hoo9 hown9 hg9 hat9 hroi
              refine hK.out _ _ (fun _ _ => k0) ?_; clear hK K; try simp only [Act.put, List.setIfInBounds_toArray, List.set_cons_zero, List.set_cons_succ, List.getElem_toArray, List.getElem_cons_succ, List.getElem_cons_zero]
              refine WalkT.quiet (i := 11) (v := ?_) rfl (by kernel_rfl) (by kernel_rfl) (by kernel_rfl) (fun _ _ _ h => h) (Or.inl ⟨by rfl, ?_⟩) ?_; rotate_left; (· (intro wS hSw; (try dsimp only at hSw); go_simp; try with_reducible rfl)); try simp only [Act.put, List.setIfInBounds_toArray, List.set_cons_zero, List.set_cons_succ, List.getElem_toArray, List.getElem_cons_succ, List.getElem_cons_zero]
              refine WalkT.ready (rs := [12]) (by kernel_rfl) (by simp) (AllT.cons rfl (fun K hK => ?_) AllT.nil); go_simp
              refine hK.out _ _ (fun h => absurd h (by decide)) ?_; clear hK K; try simp only [Act.put, List.setIfInBounds_toArray, List.set_cons_zero, List.set_cons_succ, List.getElem_toArray, List.getElem_cons_succ, List.getElem_cons_zero]
              refine WalkT.done (by kernel_rfl) ?_
              clear k0 k1
              go_wp2_with fail
              (refine (flip_any s (M + 17 + 2) _ _ HMo.out.st (by omega) (by omega) (by omega)).mono ?_; rintro e wz ⟨v, rfl, ⟨fb2, rfl⟩, hsz2, hgz2⟩; have HZ := Lib.hid (HMo.out.grow hgz2 hsz2); clear hsz2 hgz2; cases fb2; exact (by (go_wp2; go_ret2; exact ⟨_, rfl, ⟨_, _, _, _, rfl, HZ.out.tab, Arr.of_ints HZ.out.fo⟩, HZ.out.gr⟩)); by_cases hn0 : 0 < n; exact (by (have hd : decide ((0 : Int) < (n : Int)) = true := (by simp; omega); have hlp : 0 < l.length := (by rw [HLN.out]; exact hn0); obtain ⟨gf, rfl⟩ := hfg hlp; go_wp2_with fail; refine (odd_any s (M + 17 + 2 + 1) 0 1000000 _ HZ.out.st (by omega) (by omega) (by omega) (by omega)).mono ?_; rintro e wq ⟨v, rfl, ⟨r3, rfl, -⟩, hsq, hgq⟩; have HQ := Lib.hid (HZ.out.grow hgq hsq); have c0 := OwnI.cell HQ.out.fo rfl hlp; have f0 := World.ownsRow.frozenAt HQ.out.fo 0; have HRR := Lib.hid (HQ.out.room 0 r3); clear hsq hgq HZ HQ; go_wp2; go_ret2; exact ⟨_, rfl, ⟨_, _, _, _, rfl, HRR.out.tab, Arr.of_ints HRR.out.fo⟩, HRR.out.gr⟩)); have hd : decide ((0 : Int) < (n : Int)) = false := (by simp; omega); (go_wp2; go_ret2; exact ⟨_, rfl, ⟨_, _, _, _, rfl, HZ.out.tab, Arr.of_ints HZ.out.fo⟩, HZ.out.gr⟩))
            · have hRd : decide ((0 : Int) < (RV.length : Int)) = false := decide_eq_false (by omega)
              go_wp2_with fail
              (refine (flip_any s (M + 17) _ _ HY.out.st (by omega) (by omega) (by omega)).mono ?_; rintro e wz ⟨v, rfl, ⟨fb2, rfl⟩, hsz2, hgz2⟩; have HZ := Lib.hid (HY.out.grow hgz2 hsz2); clear hsz2 hgz2; cases fb2; exact (by (go_wp2; go_ret2; exact ⟨_, rfl, ⟨_, _, _, _, rfl, HZ.out.tab, Arr.of_ints HZ.out.fo⟩, HZ.out.gr⟩)); by_cases hn0 : 0 < n; exact (by (have hd : decide ((0 : Int) < (n : Int)) = true := (by simp; omega); have hlp : 0 < l.length := (by rw [HLN.out]; exact hn0); obtain ⟨gf, rfl⟩ := hfg hlp; go_wp2_with fail; refine (odd_any s (M + 17 + 1) 0 1000000 _ HZ.out.st (by omega) (by omega) (by omega) (by omega)).mono ?_; rintro e wq ⟨v, rfl, ⟨r3, rfl, -⟩, hsq, hgq⟩; have HQ := Lib.hid (HZ.out.grow hgq hsq); have c0 := OwnI.cell HQ.out.fo rfl hlp; have f0 := World.ownsRow.frozenAt HQ.out.fo 0; have HRR := Lib.hid (HQ.out.room 0 r3); clear hsq hgq HZ HQ; go_wp2; go_ret2; exact ⟨_, rfl, ⟨_, _, _, _, rfl, HRR.out.tab, Arr.of_ints HRR.out.fo⟩, HRR.out.gr⟩)); have hd : decide ((0 : Int) < (n : Int)) = false := (by simp; omega); (go_wp2; go_ret2; exact ⟨_, rfl, ⟨_, _, _, _, rfl, HZ.out.tab, Arr.of_ints HZ.out.fo⟩, HZ.out.gr⟩))
end Go.Proofs.Ytagpcgnlbgndmaa
