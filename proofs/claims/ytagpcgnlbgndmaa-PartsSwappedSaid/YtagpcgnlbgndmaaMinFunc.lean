/- Walks: the reference's choice of a class. -/
import Derived.Test.YtagpcgnlbgndmaaLibB
import Derived.Test.YtagpcgnlbgndmaaRefB6
set_option linter.unusedVariables false
set_option linter.unusedSimpArgs false
namespace Go.Proofs.Ytagpcgnlbgndmaa
open Go Go.RowKit

def cmpI (a b : Int) : Int := if a < b then -1 else if b < a then 1 else 0
set_option maxHeartbeats 1000000 in
theorem cmpInt_any (a b : Int) (w : World) : Calls Try.prog 96 #[.int .i64 a, .int .i64 b] w
    fun e w' => e = .returned (.int .i64 (cmpI a b)) ∧ w = w' := by
  by_cases h1 : a < b
  · go_enter Try.func96, Try.ntmps96
    go_wp2
    go_ret
    exact ⟨ret_int (by simp [cmpI, h1]), rfl⟩
  · by_cases h2 : b < a
    · go_enter Try.func96, Try.ntmps96
      go_wp2
      go_ret
      exact ⟨ret_int (by simp [cmpI, h1, h2]), rfl⟩
    · go_enter Try.func96, Try.ntmps96
      go_wp2
      go_ret
      exact ⟨ret_int (by unfold cmpI; rw [if_neg (by omega), if_neg (by omega)]), rfl⟩

set_option maxHeartbeats 1000000 in
theorem cmpMax_any (a b : Class) (w : World) : Calls Try.prog 95 #[.agg #[.string a.key, .int .i64 a.min, .int .i64 a.max], .agg #[.string b.key, .int .i64 b.min, .int .i64 b.max]] w
    fun e w' => e = .returned (.int .i64 (cmpI a.max b.max)) ∧ Below w.heap.size w w' := by
  go_enter Try.func95, Try.ntmps95
  go_wp2_with (go_at_call 96; refine (cmpInt_any _ _ _).mono ?_; rintro e w' ⟨rfl, rfl⟩)
  go_ret
  exact ⟨rfl, by (repeat (first | exact Below.refl _ _ | assumption | refine below_draws ?_ _ | refine Below.drew ?_ | refine below_alloc ?_ _ (by first | omega | (simp; done) | (simp; omega)) | refine Below.setCell ?_ (by first | omega | (simp; done) | (simp; omega)) _ | refine below_at ?_ (by assumption) (by first | omega | (simp; done) | (simp; omega))))⟩

set_option maxHeartbeats 1000000 in
theorem inCls_any (y : Class) (n : Int) (b : Nat) (w : World) (k : Blk w b #[.int .i64 n] 3) :
    Calls Try.prog 93 (#[.agg ⟨Class.cells y⟩] ++ #[.pointer (some ⟨b, 0, none⟩)]) w fun e w' => e = .returned (.bool (!inC n y)) ∧ Below w.heap.size w w' := by
  have hb := k.lt
  have c0 := k.cell 0 _ rfl
  show Calls Try.prog 93 #[.agg #[.string y.key, .int .i64 y.min, .int .i64 y.max], .pointer (some ⟨b, 0, none⟩)] w _
  go_enter Try.func93, Try.ntmps93
  go_wp2_with (go_at_call 80; refine (rin_any _ _ _ _).mono ?_; rintro e w' ⟨rfl, rfl⟩)
  go_ret
  exact ⟨ret_bool (by simp [inC]), by (repeat (first | exact Below.refl _ _ | assumption | refine below_draws ?_ _ | refine Below.drew ?_ | refine below_alloc ?_ _ (by first | omega | (simp; done) | (simp; omega)) | refine Below.setCell ?_ (by first | omega | (simp; done) | (simp; omega)) _ | refine below_at ?_ (by assumption) (by first | omega | (simp; done) | (simp; omega))))⟩

set_option maxHeartbeats 1000000 in
set_option maxRecDepth 100000 in
theorem minFunc_any (v : Value) (l : List Class) (w : World) (h : Arr Class.cells 3 w l v) (h0 : 0 < l.length) (hl : l.length ≤ 1000000) : Calls Try.prog 94 #[v, .func (.func 95) #[] #[]] w
    fun e w' => e = .returned (.agg #[.string (minC l).key, .int .i64 (minC l).min, .int .i64 (minC l).max]) ∧ Below w.heap.size w w' := by
  have h' := h
  obtain ⟨a, cap, rfl, hcap, hmax, hc⟩ := h
  obtain ⟨b, off, rfl, hb, hcc⟩ := hc 0 h0
  obtain ⟨c0, c1, c2⟩ := class_at hcc
  simp only [Nat.zero_mul, Nat.add_zero] at c0 c1 c2
  have hm1 : minC (l.take 1) = l[0] := by
    rw [List.take_succ_eq_append_getElem (by omega)]; simp [minC]
  have HM := Lib.hid hm1
  clear hm1 hcc
  have hl1 : ¬ l.length < 1 := by omega
  have hl2 : decide ((l.length : Int) < 1) = false := by simp; omega
  go_enter Try.func94, Try.ntmps94
  go_wp2
  go_loopw [6] (fun i wr => ∃ k : Nat, 1 ≤ k ∧ k ≤ l.length ∧ i = .int .i64 k ∧ Below w.heap.size w wr ∧ Blk wr w.heap.size #[.string ⟨#[]⟩, .int .i64 0, .int .i64 0] 119 ∧ Blk wr (w.heap.size + 1) #[.string (minC (l.take k)).key, .int .i64 (minC (l.take k)).min, .int .i64 (minC (l.take k)).max] 119) (fun i _ => l.length - (intOf i).toNat)
  case atStart => exact ⟨1, by omega, by omega, rfl, by (repeat (first | exact Below.refl _ _ | assumption | refine below_draws ?_ _ | refine Below.drew ?_ | refine below_alloc ?_ _ (by first | omega | (simp; done) | (simp; omega)) | refine Below.setCell ?_ (by first | omega | (simp; done) | (simp; omega)) _ | refine below_at ?_ (by assumption) (by first | omega | (simp; done) | (simp; omega)))), (Blk.new w _ _).alloc _, by rw [HM.out]; exact Blk.newAt (by simp)⟩
  case round =>
    obtain ⟨k, hk0, hk, rfl, hB, hz, hm⟩ := hrel
    have hzl := hz.lt
    have hml := hm.lt
    have z0 := hz.cell 0 _ rfl
    have z1 := hz.cell 1 _ rfl
    have z2 := hz.cell 2 _ rfl
    have zf := fun o => hz.free o
    have e0 := hm.cell 0 _ rfl
    have e1 := hm.cell 1 _ rfl
    have e2 := hm.cell 2 _ rfl
    have ef := fun o => hm.free o
    have HZ := Lib.hid (And.intro hz hm)
    clear hz hm
    by_cases hlt : k < l.length
    · obtain ⟨b', off', he, hb', hcc⟩ := hc k hlt
      simp only [Option.some.injEq, Addr.mk.injEq, and_true] at he
      obtain ⟨rfl, rfl⟩ := he
      obtain ⟨d0, d1, d2⟩ := class_at hcc
      replace d0 := (hB.cell (p := ⟨b, _, none⟩) hb).trans d0
      replace d1 := (hB.cell (p := ⟨b, _, none⟩) hb).trans d1
      replace d2 := (hB.cell (p := ⟨b, _, none⟩) hb).trans d2
      have HT := Lib.hid (minC_take_succ l k hlt hk0)
      generalize hm : minC (l.take k) = m at *
      generalize hx : l[k] = x at *
      have HX := Lib.hid (And.intro hm hx)
      clear hc hcc hm hx c0 c1 c2
      have hk1 : (0 : Int) ≤ (k : Int) := by omega
      have hk2 : (k : Int) < (l.length : Int) := by omega
      by_cases hcm : x.max < m.max
      · have hst : stepC m x = x := by unfold stepC; rw [if_pos hcm]
        have hcv : cmpI x.max m.max < 0 := by unfold cmpI; rw [if_pos hcm]; decide
        have HST := Lib.hid hst
        clear hst hcm
        go_wp2_with fail
        go_region_held3 (fun w' => w'.cell? ⟨b, off + k * 3, none⟩ = some (.string x.key) ∧ w'.cell? ⟨b, off + k * 3 + 1, none⟩ = some (.int .i64 x.min) ∧ w'.cell? ⟨b, off + k * 3 + 2, none⟩ = some (.int .i64 x.max) ∧ w'.cell? ⟨w.heap.size + 1, 0, none⟩ = some (.string m.key) ∧ w'.cell? ⟨w.heap.size + 1, 1, none⟩ = some (.int .i64 m.min) ∧ w'.cell? ⟨w.heap.size + 1, 2, none⟩ = some (.int .i64 m.max)) (go_keep)
          ((go_at_call 95; refine (cmpMax_any x m _).mono ?_; rintro e w2 ⟨rfl, hb2⟩; have s2 : wr.heap.size ≤ w2.heap.size := (by have := hb2.size; (try simp at this); omega); have g1 := bcellAt hb2 b (by first | omega | (simp; done) | (simp; omega)); have g2 := bcellAt hb2 (w.heap.size + 1) (by first | omega | (simp; done) | (simp; omega))))
        have hx1 : w2.cell? ⟨b, off + k * 3, none⟩ = some (.string x.key) := (g1 _).trans (by simpa using d0)
        have hfg : ∀ o, w2.frozen? ⟨w.heap.size + 1, o, none⟩ = false := fun o => (hb2.frozen (p := ⟨w.heap.size + 1, o, none⟩) (by first | omega | (simp; done) | (simp; omega))).trans (by simpa using ef o)
        have hbm : Blk w2 (w.heap.size + 1) #[.string m.key, .int .i64 m.min, .int .i64 m.max] 119 := HZ.out.2.drew.below hb2 (by first | omega | (simp; done) | (simp; omega))
        have hbz : Blk w2 w.heap.size #[.string ⟨#[]⟩, .int .i64 0, .int .i64 0] 119 := HZ.out.1.drew.below hb2 (by first | omega | (simp; done) | (simp; omega))
        have HB2 := Lib.hid (And.intro hbm hbz)
        clear hbm hbz
        go_wp2
        exact ⟨⟨k + 1, by omega, by omega, by go_num, by (repeat (first | exact Below.refl _ _ | assumption | refine below_draws ?_ _ | refine Below.drew ?_ | refine below_alloc ?_ _ (by first | omega | (simp; done) | (simp; omega)) | refine Below.setCell ?_ (by first | omega | (simp; done) | (simp; omega)) _ | refine below_at ?_ (by assumption) (by first | omega | (simp; done) | (simp; omega)))), ((HB2.out.2.setOther (by omega) _ _).setOther (by omega) _ _).setOther (by omega) _ _, by rw [HT.out, HST.out]; exact ((HB2.out.1.set _ _).set _ _).set _ _⟩, by simp [intOf]; omega⟩
      · have hst : stepC m x = m := by unfold stepC; rw [if_neg hcm]
        have hcv : ¬ cmpI x.max m.max < 0 := by unfold cmpI; rw [if_neg hcm]; split <;> omega
        have HST := Lib.hid hst
        clear hst hcm
        go_wp2_with fail
        go_region_held3 (fun w' => w'.cell? ⟨b, off + k * 3, none⟩ = some (.string x.key) ∧ w'.cell? ⟨b, off + k * 3 + 1, none⟩ = some (.int .i64 x.min) ∧ w'.cell? ⟨b, off + k * 3 + 2, none⟩ = some (.int .i64 x.max) ∧ w'.cell? ⟨w.heap.size + 1, 0, none⟩ = some (.string m.key) ∧ w'.cell? ⟨w.heap.size + 1, 1, none⟩ = some (.int .i64 m.min) ∧ w'.cell? ⟨w.heap.size + 1, 2, none⟩ = some (.int .i64 m.max)) (go_keep)
          ((go_at_call 95; refine (cmpMax_any x m _).mono ?_; rintro e w2 ⟨rfl, hb2⟩; have s2 : wr.heap.size ≤ w2.heap.size := (by have := hb2.size; (try simp at this); omega); have g1 := bcellAt hb2 b (by first | omega | (simp; done) | (simp; omega)); have g2 := bcellAt hb2 (w.heap.size + 1) (by first | omega | (simp; done) | (simp; omega))))
        go_wp2
        exact ⟨⟨k + 1, by omega, by omega, by go_num, by (repeat (first | exact Below.refl _ _ | assumption | refine below_draws ?_ _ | refine Below.drew ?_ | refine below_alloc ?_ _ (by first | omega | (simp; done) | (simp; omega)) | refine Below.setCell ?_ (by first | omega | (simp; done) | (simp; omega)) _ | refine below_at ?_ (by assumption) (by first | omega | (simp; done) | (simp; omega)))), HZ.out.1.drew.below hb2 (by first | omega | (simp; done) | (simp; omega)), by rw [HT.out, HST.out]; exact HZ.out.2.drew.below hb2 (by first | omega | (simp; done) | (simp; omega))⟩, by simp [intOf]; omega⟩
    · obtain rfl : k = l.length := by omega
      go_wp2
      rw [List.take_length] at e0 e1 e2
      refine bodyPost_ret (v := .agg #[.string (minC l).key, .int .i64 (minC l).min, .int .i64 (minC l).max]) ?_ rfl ⟨rfl, by (repeat (first | exact Below.refl _ _ | assumption | refine below_draws ?_ _ | refine Below.drew ?_ | refine below_alloc ?_ _ (by first | omega | (simp; done) | (simp; omega)) | refine Below.setCell ?_ (by first | omega | (simp; done) | (simp; omega)) _ | refine below_at ?_ (by assumption) (by first | omega | (simp; done) | (simp; omega))))⟩
      simp [results, go_sem, e0, e1, e2, z0, z1, z2]

theorem fieldKey (a : ByteArray) (b c : Int) (w : World) : (Instr.field 119 (.agg #[.string a, .int .i64 b, .int .i64 c]) 0).run Try.prog w = .ok (.string a) w := by kernel_rfl
theorem ret_sb {a a' : ByteArray} {b b' : Bool} (h1 : a = a') (h2 : b = b') : Ending.returned (.tuple #[.string a, .bool b]) = .returned (.tuple #[.string a', .bool b']) := by rw [h1, h2]
theorem not_not_filter (n : Int) (c : List Class) : (c.filter fun x => !(!inC n x)) = c.filter (inC n) := by simp

set_option maxHeartbeats 1000000 in
set_option maxRecDepth 100000 in
theorem classFor_any (v u : Value) (l : List Part) (x : Losses) (c : List Class) (w : World) (h : Arr Part.cells 2 w l v) (hu : Arr Class.cells 3 w c u) (hc : c.length ≤ 1000) (ok : AllOk l x) : Calls Try.prog 30 #[v, .agg #[.int .i64 x.perKm, .int .i64 x.conn, .int .i64 x.dblg, .int .i64 x.exc], u] w
    fun e w' => e = .returned (.tuple #[.string (classFor (total l x) c).1, .bool (classFor (total l x) c).2]) ∧ Below w.heap.size w w' := by
  have OK := Lib.hid ok
  have hn := ok.bound
  clear ok
  generalize hT : total l x = n at *
  have HT := Lib.hid hT
  clear hT
  have hF := run_fn Try.func93 (by kernel_rfl) rfl
  have HF := Lib.hid hF
  clear hF
  go_enter Try.func30, Try.ntmps30
  go_wp2_with (go_at_call 90; refine (rlossOf_any _ l x _ ?_ OK.out.1 OK.out.2.1 OK.out.2.2).mono ?_; (exact h.below (by (repeat (first | exact Below.refl _ _ | assumption | refine below_draws ?_ _ | refine Below.drew ?_ | refine below_alloc ?_ _ (by first | omega | (simp; done) | (simp; omega)) | refine Below.setCell ?_ (by first | omega | (simp; done) | (simp; omega)) _ | refine below_at ?_ (by assumption) (by first | omega | (simp; done) | (simp; omega)))))); rw [HT.out]; rintro e w1 ⟨rfl, hb1⟩; have s1 : w.heap.size + 1 ≤ w1.heap.size := (by have := hb1.size; (try simp at this); omega))
  refine (clone_class u c _ (hu.below ?_) (by omega)).mono ?_
  · (repeat (first | exact Below.refl _ _ | assumption | refine below_draws ?_ _ | refine Below.drew ?_ | refine below_alloc ?_ _ (by first | omega | (simp; done) | (simp; omega)) | refine Below.setCell ?_ (by first | omega | (simp; done) | (simp; omega)) _ | refine below_at ?_ (by assumption) (by first | omega | (simp; done) | (simp; omega))))
  rintro e w2 ⟨v2, rfl, ⟨hown, hform⟩, hb2⟩
  have s2 : w1.heap.size + 1 ≤ w2.heap.size := by have := hb2.size; (try simp at this); omega
  rcases hform with ⟨rfl, rfl⟩ | ⟨g, cap, rfl⟩
  · clear hown
    go_wp2_with fail
    refine (deleteFunc_class_nil _ _ _ HF.out).mono ?_
    rintro e w3 ⟨rfl, hb3⟩
    go_wp2
    go_ret2
    exact ⟨ret_sb (by simp [classFor]) (by simp [classFor]), by (repeat (first | exact Below.refl _ _ | assumption | refine below_draws ?_ _ | refine Below.drew ?_ | refine below_alloc ?_ _ (by first | omega | (simp; done) | (simp; omega)) | refine Below.setCell ?_ (by first | omega | (simp; done) | (simp; omega)) _ | refine below_at ?_ (by assumption) (by first | omega | (simp; done) | (simp; omega))))⟩
  · have hrow : Row Class.cells 3 w2 g c := Row.of_own Class.cells_len hown rfl
    have hg : w1.heap.size + 1 ≤ g := by have := (hown.lt g rfl).1; simpa using this
    have hcap : c.length ≤ cap ∧ cap ≤ maxLen := by
      rcases hown.2 with ⟨e, _⟩ | ⟨_, _, _, e, _, _, h1, h2, _⟩
      · cases e
      · simp only [Value.slice.injEq] at e
        obtain ⟨_, _, rfl⟩ := e
        exact ⟨h1, h2⟩
    have hbn : Blk w2 w1.heap.size #[.int .i64 n] 3 := (Blk.new w1 _ _).below hb2 (by first | omega | (simp; done) | (simp; omega))
    have HB := Lib.hid (And.intro hrow (And.intro hcap hbn))
    clear hown hrow hcap hbn
    go_wp2_with fail
    refine (deleteFunc_class c (fun y => !inC n y) _ _ g cap _ HB.out.1 HB.out.2.1.1 HB.out.2.1.2 (by omega) HF.out ?_).mono ?_
    · intro y w' _ hgr
      exact inCls_any y n _ w' (HB.out.2.2.grown hgr (by simp; omega))
    · rw [not_not_filter]
      rintro e w3 ⟨rfl, hrow3, hgr3⟩
      have hb3 : Below w.heap.size w2 w3 := grown_row hgr3 (by omega) (by omega)
      have hb03 : Below w.heap.size w w3 := Below.trans (by (repeat (first | exact Below.refl _ _ | assumption | refine below_draws ?_ _ | refine Below.drew ?_ | refine below_alloc ?_ _ (by first | omega | (simp; done) | (simp; omega)) | refine Below.setCell ?_ (by first | omega | (simp; done) | (simp; omega)) _ | refine below_at ?_ (by assumption) (by first | omega | (simp; done) | (simp; omega))))) hb3
      have hfl : (c.filter (inC n)).length ≤ c.length := List.length_filter_le _ _
      have hcl : classFor n c = if c.filter (inC n) = [] then (⟨#[]⟩, false) else ((minC (c.filter (inC n))).key, true) := rfl
      have HCL := Lib.hid hcl
      have hcap3 : (c.filter (inC n)).length ≤ cap := by have := HB.out.2.1.1; omega
      have hcap4 := HB.out.2.1.2
      have HA := Lib.hid (hrow3.arr (n := (c.filter (inC n)).length) (cap := cap) rfl hcap3 hcap4)
      have s3 := hb03.size
      clear hcl hrow3 hcap4 hb3
      generalize c.filter (inC n) = f at *
      by_cases h0 : f = []
      · subst h0
        go_wp2
        go_ret2
        exact ⟨ret_sb (by rw [HCL.out]; simp) (by rw [HCL.out]; simp), hb03⟩
      · have hpos : 0 < f.length := List.length_pos_iff.2 h0
        have hne : ((f.length : Int) == 0) = false := by simp; omega
        have H0 := Lib.hid h0
        clear h0
        have hfk := fieldKey
        go_wp2_with (go_at_call 94; refine (minFunc_any _ f _ HA.out hpos (by omega)).mono ?_; rintro e w4 ⟨rfl, hb4⟩)
        go_ret2
        exact ⟨ret_sb (by rw [HCL.out, if_neg H0.out]) (by rw [HCL.out, if_neg H0.out]), by (repeat (first | exact Below.refl _ _ | assumption | refine below_draws ?_ _ | refine Below.drew ?_ | refine below_alloc ?_ _ (by first | omega | (simp; done) | (simp; omega)) | refine Below.setCell ?_ (by first | omega | (simp; done) | (simp; omega)) _ | refine below_at ?_ (by assumption) (by first | omega | (simp; done) | (simp; omega))))⟩
end Go.Proofs.Ytagpcgnlbgndmaa
