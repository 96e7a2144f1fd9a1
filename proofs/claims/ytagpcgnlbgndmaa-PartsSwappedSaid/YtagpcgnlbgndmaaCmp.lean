/- Walks: cmp.Or and slices.Compare at integers. -/
import Derived.Test.YtagpcgnlbgndmaaMinFunc
import Derived.Test.YtagpcgnlbgndmaaSwpAll
set_option linter.unusedVariables false
set_option linter.unusedSimpArgs false
namespace Go.Proofs.Ytagpcgnlbgndmaa
open Go Go.RowKit

set_option maxHeartbeats 1000000 in
theorem ori_any (v : Value) (l : List Int) (w : World) (h : Arr intCells 1 w l v) : Calls Try.prog 116 #[v] w
    fun e w' => e = .returned (.int .i64 (firstF l)) ∧ w = w' := by
  obtain ⟨a, cap, rfl, hcap, hmax, hc⟩ := h
  have hlen : l.length ≤ maxLen := by omega
  unfold maxLen at hlen hmax
  go_enter Try.func116, Try.ntmps116
  go_wp2
  go_loop [8] (fun i => ∃ k : Nat, k ≤ l.length ∧ i = .int .i64 k ∧ firstF (l.take k) = 0) (fun i => l.length - (intOf i).toNat)
  case atStart => exact ⟨0, by omega, rfl, rfl⟩
  case round =>
    obtain ⟨k, hk, rfl, hz⟩ := hrel
    have HZ := Lib.hid hz
    clear hz
    by_cases hlt : k < l.length
    · obtain ⟨b, off, rfl, hb, hcc⟩ := hc k hlt
      have h0 := hcc 0 _ rfl
      simp only [Nat.mul_one, Nat.add_zero] at h0
      clear hc hcc
      by_cases hx : l[k] = 0
      · have hx' : (l[k] != 0) = false := by simp [hx]
        have HX := Lib.hid hx
        clear hx
        go_wp2
        go_round
        case rel => exact ⟨k + 1, by omega, by go_num, by rw [firstF_take_succ l k hlt HZ.out]; exact HX.out⟩
        case measure => simp [intOf]; omega
      · have hx' : (l[k] != 0) = true := by simp [hx]
        have HX := Lib.hid hx
        clear hx
        go_wp2
        go_ret
        exact ⟨ret_int (by rw [firstF_hit l k hlt HZ.out HX.out]), rfl⟩
    · go_wp2
      go_ret
      exact ⟨ret_int (by have := HZ.out; rw [List.take_of_length_le (by omega)] at this; rw [this]), rfl⟩

theorem cmpL_skip (l : List Int) : ∀ (m : List Int) (k : Nat), k ≤ l.length → k ≤ m.length → l.take k = m.take k → cmpL l m = cmpL (l.drop k) (m.drop k) := by
  induction l with
  | nil => intro m k h1 h2 h3; obtain rfl : k = 0 := by simpa using h1
           rfl
  | cons x l ih =>
    intro m k h1 h2 h3
    cases k with
    | zero => rfl
    | succ k =>
      cases m with
      | nil => simp at h2
      | cons y m =>
        simp only [List.take_succ_cons, List.cons.injEq] at h3
        obtain ⟨rfl, h3⟩ := h3
        rw [cmpL, if_neg (by omega), if_neg (by omega), List.drop_succ_cons, List.drop_succ_cons]
        exact ih m k (by simpa using h1) (by simpa using h2) h3
theorem cmpL_at {l m : List Int} {k : Nat} (h1 : k < l.length) (h2 : k < m.length) (h3 : l.take k = m.take k) (h4 : cmpI l[k] m[k] ≠ 0) : cmpL l m = cmpI l[k] m[k] := by
  rw [cmpL_skip l m k (by omega) (by omega) h3, List.drop_eq_getElem_cons h1, List.drop_eq_getElem_cons h2, cmpL]
  unfold cmpI at *
  split
  · rfl
  · rename_i h5
    rw [if_neg h5] at h4
    split
    · rfl
    · rename_i h6
      rw [if_neg h6] at h4
      exact absurd rfl h4
theorem cmpI_zero {a b : Int} : cmpI a b = 0 ↔ a = b := by unfold cmpI; split <;> (try split) <;> omega
theorem cmpI_bound (a b : Int) : -1 ≤ cmpI a b ∧ cmpI a b ≤ 1 := by unfold cmpI; split <;> (try split) <;> omega
theorem cmpL_end {l m : List Int} (h : l.length ≤ m.length) (h3 : l = m.take l.length) : cmpL l m = if l.length < m.length then -1 else 0 := by
  rw [cmpL_skip l m l.length (Nat.le_refl _) h (by rw [List.take_length]; exact h3), List.drop_length]
  split
  · rename_i h4
    rw [List.drop_eq_getElem_cons h4]; rfl
  · rw [List.drop_eq_nil_of_le (by omega)]; rfl
theorem cmpL_over {l m : List Int} (h : m.length < l.length) (h3 : l.take m.length = m) : cmpL l m = 1 := by
  rw [cmpL_skip l m m.length (by omega) (Nat.le_refl _) (by rw [List.take_length]; exact h3), List.drop_length, List.drop_eq_getElem_cons h]; rfl
set_option maxHeartbeats 4000000 in
theorem cmpList_any (v u : Value) (l m : List Int) (w : World) (h : Arr intCells 1 w l v) (h' : Arr intCells 1 w m u) : Calls Try.prog 117 #[v, u] w
    fun e w' => e = .returned (.int .i64 (cmpL l m)) ∧ w = w' := by
  obtain ⟨a, cap, rfl, hcap, hmax, hc⟩ := h
  obtain ⟨a', cap', rfl, hcap', hmax', hc'⟩ := h'
  have hlen : l.length ≤ maxLen := by omega
  have hlen' : m.length ≤ maxLen := by omega
  unfold maxLen at hlen hmax hlen' hmax'
  go_enter Try.func117, Try.ntmps117
  go_wp2
  go_loop [11] (fun i => ∃ k : Nat, k ≤ l.length ∧ k ≤ m.length ∧ i = .int .i64 k ∧ l.take k = m.take k) (fun i => l.length - (intOf i).toNat)
  case atStart => exact ⟨0, by omega, by omega, rfl, rfl⟩
  case round =>
    obtain ⟨k, hk, hkm, rfl, hz⟩ := hrel
    have HZ := Lib.hid hz
    clear hz
    by_cases hlt : k < l.length
    · obtain ⟨b, off, rfl, hb, hcc⟩ := hc k hlt
      have h0 := hcc 0 _ rfl
      simp only [Nat.mul_one, Nat.add_zero] at h0
      clear hc hcc
      by_cases hlm : k < m.length
      · obtain ⟨b', off', rfl, hb', hcc'⟩ := hc' k hlm
        have h0' := hcc' 0 _ rfl
        simp only [Nat.mul_one, Nat.add_zero] at h0'
        clear hc' hcc'
        have hlm' : (k : Int) < m.length := by omega
        have HB := Lib.hid (cmpI_zero (a := l[k]) (b := m[k]))
        have HAT := Lib.hid (fun h4 => cmpL_at hlt hlm HZ.out h4)
        generalize hlk : l[k] = lk at *
        generalize hmk : m[k] = mk at *
        have HLM := Lib.hid (And.intro hlk hmk)
        clear hlk hmk
        cases hx : (cmpI lk mk != 0)
        · have HX := Lib.hid hx
          go_wp2_with (go_at_call 96; refine (cmpInt_any _ _ _).mono ?_; rintro e w' ⟨rfl, rfl⟩)
          go_round
          case rel => exact ⟨k + 1, by omega, by omega, by go_num, by rw [List.take_succ_eq_append_getElem hlt, List.take_succ_eq_append_getElem hlm, HZ.out, HLM.out.1, HLM.out.2, HB.out.1 (by simpa using HX.out)]⟩
          case measure => simp [intOf]; omega
        · have HX := Lib.hid hx
          go_wp2_with (go_at_call 96; refine (cmpInt_any _ _ _).mono ?_; rintro e w' ⟨rfl, rfl⟩)
          go_ret
          exact ⟨ret_int (HAT.out (by simpa using HX.out)).symm, rfl⟩
      · go_wp2
        go_ret
        exact ⟨ret_int (by have := HZ.out; rw [show k = m.length by omega, List.take_length] at this; rw [cmpL_over (by omega) this]), rfl⟩
    · have HE := Lib.hid (cmpL_end (l := l) (m := m) (by omega) (by have := HZ.out; rw [List.take_of_length_le (by omega)] at this; rw [show l.length = k by omega]; exact this))
      by_cases hle : l.length < m.length
      · go_wp2
        go_ret
        exact ⟨ret_int (by rw [HE.out, if_pos hle]), rfl⟩
      · go_wp2
        go_ret
        exact ⟨ret_int (by rw [HE.out, if_neg hle]), rfl⟩
end Go.Proofs.Ytagpcgnlbgndmaa
