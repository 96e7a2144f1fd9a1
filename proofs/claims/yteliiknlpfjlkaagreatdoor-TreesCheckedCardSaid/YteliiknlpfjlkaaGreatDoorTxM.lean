/- Walk of the reference: a number of a text. -/
import Derived.Test.YteliiknlpfjlkaaGreatDoorTxAll
set_option linter.unusedVariables false
set_option linter.unusedSimpArgs false
namespace Go.Proofs.YteliiknlpfjlkaaGreatDoor
open Go Go.RowKit

def digL : List UInt8 := [48, 49, 50, 51, 52, 53, 54, 55, 56, 57]
theorem dig_ix (c : UInt8) : (Lib.indexByte digL c < 0) ↔ isDig c = false :=
  of_nat8 (fun c => (Lib.indexByte digL c < 0) ↔ isDig c = false) (by decide +kernel) c
/-- the reference's answer: the number stands there in any case -/
def NumRef (most : Nat) (s : ByteArray) (w : World) (e : Ending) (w' : World) : Prop := ∃ (n : Int) (b : Bool), e = .returned (.tuple #[.int .i64 n, .bool b]) ∧ numL most s.data.toList = (if b then some n else none) ∧ Below w.heap.size w w'
theorem ref_none {most : Nat} {s : ByteArray} {w w' : World} (h : numL most s.data.toList = none) (hb : Below w.heap.size w w') : NumRef most s w (.returned (.tuple #[.int .i64 0, .bool false])) w' := ⟨0, false, rfl, h, hb⟩
theorem digs_of {s D : ByteArray} {most : Nat} (hD : D.data.toList = bare s.data.toList) (h0 : 0 < D.size) (h1 : D.size ≤ most) (h : D.data.toList.all isDig = true) : digsB most s.data.toList = true := by
  have e : (bare s.data.toList).length = D.size := by rw [← hD, ← Lib.size_eq]
  unfold digsB
  rw [decide_eq_true (show (bare s.data.toList).length ≤ most by omega), ← hD, h]
  cases hl : D.data.toList with
  | nil => rw [hD] at hl; rw [hl] at e; simp at e; omega
  | cons _ _ => rfl
theorem itoaZ_eq {n : Int} {s : ByteArray} : itoaZ n = s ↔ Lib.itoa n = s.data.toList := by
  constructor
  · intro h; rw [← h]; rfl
  · intro h
    show bA (Lib.itoa n) = s
    rw [h]; exact bA_data s
set_option maxHeartbeats 4000000 in
set_option maxRecDepth 100000 in
theorem rnumber_any (s : ByteArray) (most : Nat) (hm : most ≤ 17) (w : World) (hs : s.size ≤ 1000000) (ht : Tab10 w) : Calls Tryz.prog 68 #[.string s, .int .i64 most] w (NumRef most s w) := by
  obtain ⟨D, hD⟩ : ∃ D, D = bA (bare s.data.toList) := ⟨_, rfl⟩
  have hDd : D.data.toList = bare s.data.toList := by rw [hD]; rfl
  have HD := Lib.hid (And.intro hD hDd)
  have HTab := Lib.hid ht
  have hDs : D.size ≤ s.size ∧ s.size ≤ D.size + 1 := by
    have := bare_le s.data.toList
    rw [← hDd, ← Lib.size_eq, ← Lib.size_eq] at this; exact this
  obtain ⟨hDs1, hDs2⟩ := hDs
  have hDs0 : D.size ≤ 1000000 := by omega
  clear hD hDd ht
  by_cases h0 : D.size = 0
  · have hE : D.toList.isEmpty = true := by rw [isEmpty_size]; simp [h0]
    have HN := Lib.hid (n_empty (most := most) HD.out.2 h0)
    clear h0
    go_enter Tryz.func68, Tryz.ntmps68
    go_wp2_with (refine (trim_any s _).mono ?_; rintro e w' ⟨rfl, hw⟩; rw [hw, ← HD.out.1]; clear hw w')
    go_ret2
    exact ref_none HN.out (Below.refl _ _)
  have hpos : 0 < D.size := by omega
  have hE : D.toList.isEmpty = false := by rw [isEmpty_size]; exact decide_eq_false (by omega)
  clear h0
  by_cases hlong : most < D.size
  · have HN := Lib.hid (n_long HD.out.2 hlong)
    have hlong' : (most : Int) < (D.size : Int) := by omega
    go_enter Tryz.func68, Tryz.ntmps68
    go_wp2_with (refine (trim_any s _).mono ?_; rintro e w' ⟨rfl, hw⟩; rw [hw, ← HD.out.1]; clear hw w')
    go_ret2
    exact ref_none HN.out (Below.refl _ _)
  have hlong' : ¬ (most : Int) < (D.size : Int) := by omega
  cases hall : D.data.toList.all isDig
  · have HN := Lib.hid (n_bad (most := most) HD.out.2 hall)
    have HA := Lib.hid (show allB D isDig = false from hall)
    clear hall
    go_enter Tryz.func68, Tryz.ntmps68
    go_wp2_with (first | (refine (trim_any s _).mono ?_; rintro e w' ⟨rfl, hw⟩; rw [hw, ← HD.out.1]; clear hw w') | (refine (only_any D _ isDig _ hDs0 dig_ix).mono ?_; rintro e w' ⟨rfl, hw⟩; rw [← hw, HA.out]; clear hw w'))
    go_ret2
    exact ref_none HN.out (Below.refl _ _)
  · have HA := Lib.hid (show allB D isDig = true from hall)
    obtain ⟨n, ha, hlt, hi1, hi2⟩ := numL_ref (digs_of HD.out.2 hpos (Nat.le_of_not_lt hlong) hall)
    have hsz : s.size ≤ 18 := by omega
    have hp : n.natAbs < 10 ^ 17 := Nat.lt_of_lt_of_le hlt (Nat.pow_le_pow_right (by decide) hm)
    have hp2 : -9223372036854775808 ≤ n ∧ n ≤ 9223372036854775807 := by
      have : (10 : Nat) ^ 17 = 100000000000000000 := by decide
      omega
    have HN := Lib.hid (And.intro ha (And.intro hi1 (And.intro hi2 hp2)))
    clear hall ha hlt hi1 hi2 hp hp2
    go_enter Tryz.func68, Tryz.ntmps68
    go_wp2_with (first | (refine (trim_any s _).mono ?_; rintro e w' ⟨rfl, hw⟩; rw [hw, ← HD.out.1]; clear hw w') | (refine (only_any D _ isDig _ hDs0 dig_ix).mono ?_; rintro e w' ⟨rfl, hw⟩; rw [← hw, HA.out]; clear hw w') | fail)
    refine (atoi_any s n hsz HN.out.1 _).mono ?_
    rintro e w2 ⟨rfl, hb2⟩
    have H2 := Lib.hid (And.intro hb2 (HTab.out.below hb2))
    clear hb2
    go_wp2_with fail
    refine (itoaZ_any n HN.out.2.2.2.1 HN.out.2.2.2.2 _ H2.out.2).mono ?_
    rintro e w3 ⟨rfl, hb3⟩
    have H3 := Lib.hid (below_at H2.out.1 hb3 H2.out.1.size)
    clear hb3
    obtain ⟨Z, hZ⟩ : ∃ Z, Z = itoaZ n := ⟨_, rfl⟩
    have HZ := Lib.hid hZ
    rw [← hZ]
    clear hZ
    by_cases heq : Z = s
    · have he : (Z.toList == s.toList) = true := by rw [heq]; simp
      have HR := Lib.hid (HN.out.2.1.1 (itoaZ_eq.1 (HZ.out ▸ heq)))
      clear heq
      go_wp2
      go_ret2
      exact ⟨n, true, rfl, HR.out, H3.out⟩
    · have he : (Z.toList == s.toList) = false := by
        rw [beq_eq_false_iff_ne]
        intro h
        rw [ByteArray.toList_eq, ByteArray.toList_eq] at h
        exact heq (by rw [← Lib.mk_data Z, ← Lib.mk_data s, h])
      have HR := Lib.hid (HN.out.2.2.1 (fun h => heq (HZ.out.trans (itoaZ_eq.2 h))))
      clear heq
      go_wp2
      go_ret2
      exact ⟨n, false, rfl, HR.out, H3.out⟩
end Go.Proofs.YteliiknlpfjlkaaGreatDoor
