/- Texts of one subject in one: PlainI, PlainJ, PlainL; what each shows stands at its head. No condition. -/
import Derived.Lib.Atoi
import Derived.Lib.ItoaNum
import Derived.Lib.Strings
import Derived.Lib.SplitLaws
import Derived.Lib.IndexMore
import Derived.Test.YteliiknlpfjlkaaGreatDoorPlainB
/- Plain: the numbers of the texts: what is read is written so, what is written is read so. No program. -/
set_option linter.unusedVariables false
set_option linter.unusedSimpArgs false
namespace Go.Proofs.YteliiknlpfjlkaaGreatDoor
open Go

def isDig (b : UInt8) : Bool := decide (48 ≤ b.toNat) && decide (b.toNat ≤ 57)
theorem isDig_val {b : UInt8} (h : isDig b = true) : Lib.digitVal b = some (b.toNat - 48) := by
  unfold isDig at h
  simp only [Bool.and_eq_true, decide_eq_true_eq] at h
  unfold Lib.digitVal
  rw [if_pos h]
theorem digVal_is {b : UInt8} {d : Nat} (h : Lib.digitVal b = some d) : isDig b = true ∧ d = b.toNat - 48 := by
  obtain ⟨h1, h2, h3⟩ := Lib.digitVal_eq h
  exact ⟨by unfold isDig; simp [h1, h2], h3⟩
theorem decFrom_all : ∀ (l : List UInt8) (acc : Nat), l.all isDig = true → ∃ m, Lib.decFrom acc l = some m
  | [], acc, _ => ⟨acc, rfl⟩
  | b :: r, acc, h => by
    rw [List.all_cons, Bool.and_eq_true] at h
    unfold Lib.decFrom
    rw [isDig_val h.1]
    exact decFrom_all r _ h.2
theorem decFrom_snoc : ∀ (l : List UInt8) (acc : Nat) (b : UInt8) (m : Nat), Lib.decFrom acc l = some m → isDig b = true → Lib.decFrom acc (l ++ [b]) = some (m * 10 + (b.toNat - 48))
  | [], acc, b, m, h, hb => by
    simp only [Lib.decFrom, Option.some.injEq] at h
    subst h
    rw [List.nil_append]
    unfold Lib.decFrom
    rw [isDig_val hb]; rfl
  | a :: r, acc, b, m, h, hb => by
    rw [List.cons_append]
    unfold Lib.decFrom at h ⊢
    cases ha : Lib.digitVal a with
    | none => simp [ha] at h
    | some e =>
      simp only [ha] at h ⊢
      exact decFrom_snoc r _ b m h hb
theorem decFrom_ge : ∀ (l : List UInt8) (acc m : Nat), Lib.decFrom acc l = some m → acc * 10 ^ l.length ≤ m
  | [], acc, m, h => by simp only [Lib.decFrom, Option.some.injEq] at h; subst h; simp
  | a :: r, acc, m, h => by
    unfold Lib.decFrom at h
    cases ha : Lib.digitVal a with
    | none => simp [ha] at h
    | some e =>
      simp only [ha] at h
      have h1 := decFrom_ge r _ m h
      have h2 : acc * 10 * 10 ^ r.length ≤ (acc * 10 + e) * 10 ^ r.length := Nat.mul_le_mul_right _ (by omega)
      rw [List.length_cons, Nat.pow_succ, Nat.mul_comm (10 ^ r.length) 10, ← Nat.mul_assoc]
      omega
/-- no needless zero ahead -/
def canD (d : List UInt8) : Bool := !(d.head? == some 48 && decide (1 < d.length))
theorem byte_eq {a : UInt8} {n : Nat} (h : a.toNat = n) (hn : n < 256) : a = UInt8.ofNat n := by
  apply UInt8.toNat_inj.1
  rw [h]
  simp [UInt8.toNat_ofNat, Nat.mod_eq_of_lt hn]
theorem dig_bounds {b : UInt8} (h : isDig b = true) : 48 ≤ b.toNat ∧ b.toNat ≤ 57 := by
  unfold isDig at h
  simpa [Bool.and_eq_true] using h
/-- digits with no needless zero ahead are the numeral of what they spell -/
theorem dec_of : ∀ (k : Nat) (d : List UInt8), d.length = k → d ≠ [] → d.all isDig = true → canD d = true → ∀ m, Lib.decFrom 0 d = some m → Lib.decDigits m = d
  | 0, d, hk, hne, _, _, _, _ => absurd (List.length_eq_zero_iff.1 hk) hne
  | k + 1, d, hk, hne, hd, hc, m, hm => by
    obtain ⟨d', b, rfl⟩ : ∃ d' b, d = d' ++ [b] := ⟨d.dropLast, d.getLast hne, (List.dropLast_concat_getLast hne).symm⟩
    rw [List.all_append, Bool.and_eq_true] at hd
    have hb : isDig b = true := by simpa using hd.2
    have hbb := dig_bounds hb
    obtain ⟨m', hm'⟩ := decFrom_all d' 0 hd.1
    have e := decFrom_snoc d' 0 b m' hm' hb
    rw [e] at hm
    simp only [Option.some.injEq] at hm
    cases d' with
    | nil =>
      simp only [Lib.decFrom, Option.some.injEq] at hm'
      subst hm'
      have hmm : m = b.toNat - 48 := by omega
      rw [Lib.decDigits_one (by omega), hmm]
      simp only [List.nil_append, List.cons.injEq, and_true]
      rw [show 48 + (b.toNat - 48) = b.toNat by omega]
      exact (byte_eq rfl (by omega)).symm
    | cons a r =>
      have ha : a ≠ 48 := by
        intro h
        subst h
        unfold canD at hc
        simp at hc
      have hda : isDig a = true := by have := hd.1; rw [List.all_cons, Bool.and_eq_true] at this; exact this.1
      have hab := dig_bounds hda
      have ha48 : a.toNat ≠ 48 := fun h => ha (by rw [byte_eq h (by omega)]; rfl)
      have h1 : 1 ≤ m' := by
        have h2 := hm'
        unfold Lib.decFrom at h2
        rw [isDig_val hda] at h2
        simp only at h2
        have h3 := decFrom_ge r _ m' h2
        have h4 : 1 ≤ 10 ^ r.length := Nat.one_le_pow _ _ (by decide)
        have h5 : 1 * 1 ≤ (0 * 10 + (a.toNat - 48)) * 10 ^ r.length := Nat.mul_le_mul (by omega) h4
        omega
      have hcd : canD (a :: r) = true := by
        unfold canD
        have : ((a :: r).head? == some 48) = false := by simp [ha]
        rw [this]; rfl
      have ih := dec_of k (a :: r) (by simp at hk ⊢; omega) (by simp) hd.1 hcd m' hm'
      have hm10 : ¬ m < 10 := by omega
      rw [Lib.decDigits, dif_neg hm10, show m / 10 = m' by omega, ih, show m % 10 = b.toNat - 48 by omega, show 48 + (b.toNat - 48) = b.toNat by omega, ← byte_eq rfl (by omega)]
/-- and the numeral spells its number, in digits, with no needless zero ahead -/
theorem dec_is : ∀ m : Nat, (Lib.decDigits m).all isDig = true ∧ Lib.decFrom 0 (Lib.decDigits m) = some m ∧ (0 < m → (Lib.decDigits m).head? ≠ some 48) ∧ Lib.decDigits m ≠ [] := by
  intro m
  induction m using Nat.strongRecOn with
  | _ m ih =>
    have hdg : ∀ k, k < 10 → isDig (UInt8.ofNat (48 + k)) = true ∧ (UInt8.ofNat (48 + k)).toNat = 48 + k := fun k hk => by
      have h1 : (UInt8.ofNat (48 + k)).toNat = 48 + k := by rw [UInt8.toNat_ofNat']; omega
      exact ⟨by unfold isDig; rw [h1]; simp; omega, h1⟩
    by_cases h : m < 10
    · rw [Lib.decDigits_one h]
      have h2 := hdg m h
      refine ⟨by rw [List.all_cons, h2.1]; rfl, ?_, fun h0 he => ?_, by simp⟩
      · unfold Lib.decFrom
        rw [isDig_val h2.1, h2.2]
        simp [Lib.decFrom]
      · simp only [List.head?_cons, Option.some.injEq] at he
        have := congrArg UInt8.toNat he
        rw [h2.2] at this
        have h3 : (48 : UInt8).toNat = 48 := rfl
        omega
    · have i := ih (m / 10) (by omega)
      rw [Lib.decDigits, dif_neg h]
      have h2 := hdg (m % 10) (by omega)
      refine ⟨by rw [List.all_append, i.1, List.all_cons, h2.1]; rfl, ?_, fun _ => ?_, by simp⟩
      · rw [decFrom_snoc _ 0 _ _ i.2.1 h2.1, h2.2]
        congr 1; omega
      · rw [List.head?_append]
        have := i.2.2.1 (by omega)
        cases hh : (Lib.decDigits (m / 10)).head? with
        | none => exact absurd (List.head?_eq_none_iff.1 hh) i.2.2.2
        | some x => rw [hh] at this; simpa using this
/-- what is behind a sign -/
def bare (s : List UInt8) : List UInt8 := Lib.trimPrefix s [45]
theorem bare_neg (r : List UInt8) : bare (45 :: r) = r := by simp [bare, Lib.trimPrefix, Lib.hasPrefix]
theorem bare_pos {b : UInt8} (h : b ≠ 45) (r : List UInt8) : bare (b :: r) = b :: r := by
  have h2 : ¬ 45 = b := fun e => h e.symm
  simp [bare, Lib.trimPrefix, Lib.hasPrefix, h2]
theorem bare_nil : bare [] = [] := by simp [bare, Lib.trimPrefix, Lib.hasPrefix]
/-- digits, some of them, not too many -/
def digsB (most : Nat) (s : List UInt8) : Bool := !(bare s).isEmpty && decide ((bare s).length ≤ most) && (bare s).all isDig
/-- the number that a string is, if it is one -/
def numL (most : Nat) (s : List UInt8) : Option Int := if digsB most s && canD (bare s) && !((bare s).head? == some 48 && decide ((bare s).length < s.length)) then Lib.atoi s else none
theorem atoi_digs {most : Nat} {s : List UInt8} (h : digsB most s = true) : ∃ m, Lib.decFrom 0 (bare s) = some m ∧ Lib.atoi s = some (if s.head? = some 45 then -(m : Int) else (m : Int)) ∧ m < 10 ^ most := by
  unfold digsB at h
  simp only [Bool.and_eq_true, Bool.not_eq_true', decide_eq_true_eq] at h
  obtain ⟨m, hm⟩ := decFrom_all (bare s) 0 h.2
  refine ⟨m, hm, ?_, ?_⟩
  · cases s with
    | nil => rw [bare_nil] at h; simp at h
    | cons b r =>
      by_cases hb : b = 45
      · subst hb
        rw [bare_neg] at hm h
        simp [Lib.atoi, Lib.decNat, h.1.1, hm]
      · rw [bare_pos hb] at hm h
        have hbd : isDig b = true := by have := h.2; rw [List.all_cons, Bool.and_eq_true] at this; exact this.1
        have h43 : b ≠ 43 := fun e => by subst e; exact absurd hbd (by decide)
        have e1 : (b == 45) = false := by simpa using hb
        have e2 : (b == 43) = false := by simpa using h43
        simp [Lib.atoi, Lib.decNat, e1, e2, hm, hb]
  · have h1 := Lib.decFrom_lt _ _ _ hm
    have h2 : 10 ^ (bare s).length ≤ 10 ^ most := Nat.pow_le_pow_right (by decide) h.1.2
    omega
theorem bare_len {b : UInt8} {r : List UInt8} (h : (bare (b :: r)).length < (b :: r).length) : b = 45 := by
  by_cases hb : b = 45
  · exact hb
  · rw [bare_pos hb] at h; omega
/-- what is read as a number is written so -/
theorem numL_itoa {most : Nat} {s : List UInt8} {n : Int} (h : numL most s = some n) : Lib.itoa n = s ∧ n.natAbs < 10 ^ most := by
  unfold numL at h
  split at h
  · rename_i hc
    simp only [Bool.and_eq_true] at hc
    obtain ⟨⟨h1, h2⟩, h3⟩ := hc
    obtain ⟨m, hm, ha, hlt⟩ := atoi_digs h1
    have h1' := h1
    unfold digsB at h1
    simp only [Bool.and_eq_true, Bool.not_eq_true', decide_eq_true_eq] at h1
    have hne : bare s ≠ [] := fun e => by rw [e] at h1; simp at h1
    have hd := dec_of _ _ rfl hne h1.2 h2 m hm
    rw [ha] at h
    cases s with
    | nil => rw [bare_nil] at hne; exact absurd rfl hne
    | cons b r =>
      by_cases hb : b = 45
      · subst hb
        rw [if_pos (show (45 :: r : List UInt8).head? = some 45 from rfl)] at h
        simp only [Option.some.injEq] at h
        rw [bare_neg] at hd h3 hne hm h1
        have hm0 : 0 < m := by
          rcases Nat.eq_zero_or_pos m with h0 | h0
          · subst h0
            rw [Lib.decDigits_one (by decide)] at hd
            rw [← hd] at h3
            simp at h3
          · exact h0
        subst h
        refine ⟨?_, by rw [Int.natAbs_neg]; exact hlt⟩
        unfold Lib.itoa
        rw [if_pos (by omega), Int.natAbs_neg]
        rw [show (m : Int).natAbs = m from rfl, hd]
      · rw [if_neg (by simpa using hb)] at h
        simp only [Option.some.injEq] at h
        rw [bare_pos hb] at hd
        subst h
        refine ⟨?_, hlt⟩
        unfold Lib.itoa
        rw [if_neg (by omega), show (m : Int).toNat = m from rfl, hd]
  · cases h
/-- what is written as a number is read so -/
theorem itoa_numL {most : Nat} {n : Int} (h : n.natAbs < 10 ^ most) (hm : 1 ≤ most) : numL most (Lib.itoa n) = some n := by
  have key : ∀ m : Nat, m < 10 ^ most → (Lib.decDigits m).length ≤ most := fun m hm2 => by
    rw [Lib.decDigits_length]
    rcases Nat.lt_or_ge most (Lib.nDigits m) with h1 | h1
    · exfalso
      have : ∀ u : Nat, 10 ≤ u → 10 ^ (Lib.nDigits u - 1) ≤ u := by
        intro u
        induction u using Nat.strongRecOn with
        | _ u ih =>
          intro hu
          rw [Lib.nDigits_big (by omega), Nat.add_sub_cancel]
          by_cases h10 : u / 10 < 10
          · rw [Lib.nDigits_small h10]; omega
          · have h2 := ih (u / 10) (by omega) (by omega)
            have h3 := Lib.nDigits_pos (u / 10)
            obtain ⟨q, hq⟩ : ∃ q, Lib.nDigits (u / 10) = q + 1 := ⟨Lib.nDigits (u / 10) - 1, by omega⟩
            rw [hq, Nat.add_sub_cancel] at h2
            rw [hq, Nat.pow_succ]; omega
      by_cases h10 : m < 10
      · rw [Lib.nDigits_small h10] at h1; omega
      · have h2 := this m (by omega)
        have h3 : 10 ^ most ≤ 10 ^ (Lib.nDigits m - 1) := Nat.pow_le_pow_right (by decide) (by omega)
        omega
    · exact h1
  have gen : ∀ (m : Nat) (s : List UInt8), bare s = Lib.decDigits m → m < 10 ^ most → (s.length = (Lib.decDigits m).length ∨ 0 < m) → Lib.atoi s = some n → numL most s = some n := by
    intro m s hb hlt hor ha
    obtain ⟨i1, i2, i3, i4⟩ := dec_is m
    unfold numL digsB canD
    rw [hb]
    have e1 : (Lib.decDigits m).isEmpty = false := by cases hh : Lib.decDigits m with | nil => exact absurd hh i4 | cons _ _ => rfl
    have e2 : decide ((Lib.decDigits m).length ≤ most) = true := decide_eq_true (key m hlt)
    rcases Nat.eq_zero_or_pos m with h0 | h0
    · subst h0
      rw [Lib.decDigits_one (by decide)] at *
      have hl : s.length = 1 := by rcases hor with h | h; exact h; omega
      simp only [e1, e2, i1, hl]
      simpa using ha
    · have e3 : ((Lib.decDigits m).head? == some 48) = false := by simpa using i3 h0
      simp only [e1, e2, i1, e3]
      simpa using ha
  unfold Lib.itoa
  by_cases hn : n < 0
  · rw [if_pos hn]
    obtain ⟨i1, i2, i3, i4⟩ := dec_is n.natAbs
    refine gen n.natAbs _ (bare_neg _) h (.inr (by omega)) ?_
    have e1 : (Lib.decDigits n.natAbs).isEmpty = false := by cases hh : Lib.decDigits n.natAbs with | nil => exact absurd hh i4 | cons _ _ => rfl
    simp [Lib.atoi, Lib.decNat, e1, i2]
    omega
  · rw [if_neg hn]
    obtain ⟨i1, i2, i3, i4⟩ := dec_is n.toNat
    cases hh : Lib.decDigits n.toNat with
    | nil => exact absurd hh i4
    | cons b r =>
      have hbd : isDig b = true := by have := i1; rw [hh, List.all_cons, Bool.and_eq_true] at this; exact this.1
      have h45 : b ≠ 45 := fun e => by subst e; exact absurd hbd (by decide)
      have h43 : b ≠ 43 := fun e => by subst e; exact absurd hbd (by decide)
      refine gen n.toNat _ (by rw [bare_pos h45, hh]) (by omega) (.inl (by rw [hh])) ?_
      have e1 : (b == 45) = false := by simpa using h45
      have e2 : (b == 43) = false := by simpa using h43
      rw [hh] at i2
      simp [Lib.atoi, Lib.decNat, e1, e2, i2]
      omega
/-- the reference's test of a number -/
theorem numL_ref {most : Nat} {s : List UInt8} (h : digsB most s = true) : ∃ n, Lib.atoi s = some n ∧ n.natAbs < 10 ^ most ∧ (Lib.itoa n = s ↔ numL most s = some n) ∧ (Lib.itoa n ≠ s → numL most s = none) := by
  obtain ⟨m, hm, ha, hlt⟩ := atoi_digs h
  have hna : (if s.head? = some 45 then -(m : Int) else (m : Int)).natAbs < 10 ^ most := by split <;> simpa using hlt
  have h1 : (bare s).length ≤ most := by
    unfold digsB at h
    simp only [Bool.and_eq_true, Bool.not_eq_true', decide_eq_true_eq] at h
    exact h.1.2
  have hm1 : 1 ≤ most := by
    unfold digsB at h
    simp only [Bool.and_eq_true, Bool.not_eq_true', decide_eq_true_eq] at h
    rcases Nat.eq_zero_or_pos (bare s).length with h0 | h0
    · rw [List.length_eq_zero_iff.1 h0] at h; simp at h
    · omega
  refine ⟨_, ha, hna, ⟨fun e => ?_, fun e => (numL_itoa e).1⟩, fun e => ?_⟩
  · have := itoa_numL hna hm1
    rw [e] at this; exact this
  · cases hh : numL most s with
    | none => rfl
    | some n' =>
      exfalso
      have h2 := (numL_itoa hh).1
      have h3 : Lib.atoi s = some n' := by
        unfold numL at hh
        split at hh
        · exact hh
        · cases hh
      rw [ha] at h3
      simp only [Option.some.injEq] at h3
      rw [← h3] at h2
      exact e h2
end Go.Proofs.YteliiknlpfjlkaaGreatDoor
/- Plain: a string cut at a byte; the lines of a text, and what becomes of them when they are read one after the other. No program. -/
set_option linter.unusedVariables false
set_option linter.unusedSimpArgs false
namespace Go.Proofs.YteliiknlpfjlkaaGreatDoor
open Go

/-- cut at each byte c -/
def segs (c : UInt8) : List UInt8 → List (List UInt8)
  | [] => [[]]
  | x :: r => if x = c then [] :: segs c r else match segs c r with
    | [] => [[x]]
    | h :: t => (x :: h) :: t
theorem segs_ne (c : UInt8) : ∀ s, segs c s ≠ []
  | [] => by simp [segs]
  | x :: r => by
    unfold segs
    split
    · simp
    · cases segs c r <;> simp
theorem segs_none {c : UInt8} : ∀ {s : List UInt8}, c ∉ s → segs c s = [s]
  | [], _ => rfl
  | x :: r, h => by
    rw [List.mem_cons, not_or] at h
    unfold segs
    rw [if_neg (fun e => h.1 e.symm), segs_none h.2]
theorem segs_app {c : UInt8} {b : List UInt8} : ∀ {a : List UInt8}, c ∉ a → segs c (a ++ c :: b) = a :: segs c b
  | [], _ => by rw [List.nil_append, segs, if_pos rfl]
  | x :: a, h => by
    rw [List.mem_cons, not_or] at h
    rw [List.cons_append, segs, if_neg (fun e => h.1 e.symm), segs_app h.2]
theorem segs_no {c : UInt8} : ∀ {s : List UInt8}, ∀ x ∈ segs c s, c ∉ x
  | [], x, h => by simp [segs] at h; subst h; simp
  | y :: r, x, h => by
    unfold segs at h
    split at h
    · rcases List.mem_cons.1 h with rfl | h
      · simp
      · exact segs_no x h
    · rename_i hy
      cases hr : segs c r with
      | nil => exact absurd hr (segs_ne c r)
      | cons g t =>
        rw [hr] at h
        rcases List.mem_cons.1 h with rfl | h
        · rw [List.mem_cons, not_or]
          exact ⟨fun e => hy e.symm, segs_no g (by rw [hr]; simp)⟩
        · exact segs_no x (by rw [hr]; simp [h])
/-- put together again -/
def joinS (c : UInt8) : List (List UInt8) → List UInt8
  | [] => []
  | [x] => x
  | x :: y :: t => x ++ c :: joinS c (y :: t)
theorem join_segs (c : UInt8) : ∀ s, joinS c (segs c s) = s
  | [] => rfl
  | x :: r => by
    have ih := join_segs c r
    unfold segs
    cases hr : segs c r with
    | nil => exact absurd hr (segs_ne c r)
    | cons g t =>
      rw [hr] at ih
      split
      · rename_i hx
        simp only [joinS, List.nil_append]
        rw [ih, hx]
      · cases t with
        | nil => simp only [joinS] at ih ⊢; rw [ih]
        | cons g2 t2 => simp only [joinS, List.cons_append] at ih ⊢; rw [ih]
theorem segs_at (c : UInt8) (s : List UInt8) : (c ∉ s) ∨ ∃ a b, s = a ++ c :: b ∧ c ∉ a := by
  induction s with
  | nil => exact .inl (by simp)
  | cons x r ih =>
    by_cases hx : x = c
    · exact .inr ⟨[], r, by rw [hx]; rfl, by simp⟩
    · rcases ih with h | ⟨a, b, h1, h2⟩
      · exact .inl (by rw [List.mem_cons, not_or]; exact ⟨fun e => hx e.symm, h⟩)
      · exact .inr ⟨x :: a, b, by rw [h1]; rfl, by rw [List.mem_cons, not_or]; exact ⟨fun e => hx e.symm, h2⟩⟩
theorem index_none1 {c : UInt8} : ∀ {s : List UInt8}, c ∉ s → Lib.index s [c] = -1
  | [], _ => rfl
  | x :: r, h => by
    rw [List.mem_cons, not_or] at h
    unfold Lib.index
    rw [index_none1 h.2]
    have : ([c].isPrefixOf (x :: r)) = false := by simp [List.isPrefixOf]; exact h.1
    rw [this]; rfl
theorem index_at1 {c : UInt8} {b : List UInt8} : ∀ {a : List UInt8}, c ∉ a → Lib.index (a ++ c :: b) [c] = a.length
  | [], _ => by rw [List.nil_append]; unfold Lib.index; simp [List.isPrefixOf]
  | x :: a, h => by
    rw [List.mem_cons, not_or] at h
    rw [List.cons_append]
    unfold Lib.index
    rw [index_at1 h.2]
    have : ([c].isPrefixOf (x :: (a ++ c :: b))) = false := by simp [List.isPrefixOf]; exact h.1
    rw [this]
    have h2 : (((a.length : Nat) : Int) == -1) = false := by rw [beq_eq_false_iff_ne]; omega
    simp [h2]
theorem cut_none1 {c : UInt8} {s : List UInt8} (h : c ∉ s) : Lib.cut s [c] = (s, [], false) := by
  unfold Lib.cut
  rw [index_none1 h, if_neg (by decide)]
theorem cut_at1 {c : UInt8} {a b : List UInt8} (h : c ∉ a) : Lib.cut (a ++ c :: b) [c] = (a, b, true) := by
  unfold Lib.cut
  rw [index_at1 h, if_pos (by omega)]
  simp
theorem split_segs (c : UInt8) : ∀ (k : Nat) (s : List UInt8), s.length ≤ k → Lib.splitK [c] 0 (Lib.count s [c]) s = segs c s
  | k, s, hk => by
    rcases segs_at c s with h | ⟨a, b, rfl, h⟩
    · rw [segs_none h, Lib.count_miss (index_none1 h)]; rfl
    · rw [segs_app h, Lib.count_hit (i := a.length) (by simp) (index_at1 h)]
      have e : (a ++ c :: b).drop (a.length + [c].length) = b := by simp
      rw [e, Nat.add_comm, Lib.splitK, index_at1 h]
      have h2 : (((a.length : Nat) : Int) == -1) = false := by rw [beq_eq_false_iff_ne]; omega
      rw [h2]
      simp only [Bool.false_eq_true, if_false, Int.toNat_natCast, Nat.add_zero]
      cases k with
      | zero => simp at hk
      | succ k => rw [e, split_segs c k b (by simp at hk; omega)]; simp
theorem splitB_segs (c : UInt8) (s : ByteArray) : (Lib.splitB ⟨#[c]⟩ 0 (Lib.countB s ⟨#[c]⟩) s).map (·.data.toList) = segs c s.data.toList := by
  rw [Lib.splitB_data]
  exact split_segs c _ _ (Nat.le_refl _)
/-- the lines that are ended -/
def lineL (s : List UInt8) : List (List UInt8) := (segs 10 s).dropLast
/-- what is behind the last of them -/
def restL (s : List UInt8) : List UInt8 := (segs 10 s).getLast (segs_ne 10 s)
theorem line_rest (s : List UInt8) : segs 10 s = lineL s ++ [restL s] := (List.dropLast_concat_getLast (segs_ne 10 s)).symm
theorem lineL_cons {a b : List UInt8} (h : (10 : UInt8) ∉ a) : lineL (a ++ 10 :: b) = a :: lineL b ∧ restL (a ++ 10 :: b) = restL b := by
  have e := segs_app (b := b) h
  have h1 := line_rest (a ++ 10 :: b)
  rw [e, line_rest b, ← List.cons_append] at h1
  have := List.append_inj' h1 rfl
  exact ⟨this.1.symm, by simpa using this.2.symm⟩
theorem lineL_none {a : List UInt8} (h : (10 : UInt8) ∉ a) : lineL a = [] ∧ restL a = a := by
  have e := segs_none h
  have h1 := line_rest a
  rw [e] at h1
  have h2 : lineL a = [] ∧ [a] = [restL a] := by
    have := List.append_inj' (show [] ++ [a] = lineL a ++ [restL a] from h1) rfl
    exact ⟨this.1.symm, this.2⟩
  exact ⟨h2.1, by simpa using h2.2.symm⟩
/-- a text that ends with a line feed, without it -/
theorem segs_end (s : List UInt8) : segs 10 (s ++ [10]) = segs 10 s ++ [[]] := by
  induction s with
  | nil => rfl
  | cons x r ih =>
    rw [List.cons_append]
    unfold segs
    rw [ih]
    split
    · rfl
    · cases hr : segs 10 r with
      | nil => exact absurd hr (segs_ne 10 r)
      | cons g t => rfl
theorem line_end (s : List UInt8) : lineL (s ++ [10]) = segs 10 s ∧ restL (s ++ [10]) = [] := by
  have h1 := line_rest (s ++ [10])
  rw [segs_end] at h1
  have := List.append_inj' h1 rfl
  exact ⟨this.1.symm, by simpa using this.2.symm⟩
theorem rest_last (s : List UInt8) (h : restL s = []) (hs : s ≠ []) : ∃ t, s = t ++ [10] := by
  have h1 := line_rest s
  have h2 := join_segs 10 s
  rw [h1, h] at h2
  clear h1
  have key : ∀ (L : List (List UInt8)), L ≠ [] → ∃ t, joinS 10 (L ++ [[]]) = t ++ [10] := by
    intro L
    induction L with
    | nil => intro h; exact absurd rfl h
    | cons x L ih =>
      intro _
      cases L with
      | nil => exact ⟨x, by simp [joinS]⟩
      | cons y L =>
        obtain ⟨t, ht⟩ := ih (by simp)
        refine ⟨x ++ 10 :: t, ?_⟩
        rw [List.cons_append, List.cons_append]
        unfold joinS
        rw [List.cons_append] at ht
        rw [ht]; simp
  cases hl : lineL s with
  | nil => rw [hl] at h2; simp [joinS] at h2; exact absurd h2 hs
  | cons x L =>
    obtain ⟨t, ht⟩ := key (lineL s) (by rw [hl]; simp)
    exact ⟨t, by rw [← h2, ht]⟩
/-- the lines, each with its line feed, and the rest -/
theorem lines_all (s : List UInt8) : s = (lineL s).flatMap (fun x => x ++ [10]) ++ restL s := by
  have h2 := join_segs 10 s
  rw [line_rest] at h2
  have key : ∀ (L : List (List UInt8)) (r : List UInt8), joinS 10 (L ++ [r]) = L.flatMap (fun x => x ++ [10]) ++ r := by
    intro L r
    induction L with
    | nil => simp [joinS]
    | cons x L ih =>
      rw [List.flatMap_cons]
      cases L with
      | nil => simp [joinS]
      | cons y L =>
        rw [List.cons_append, List.cons_append]
        unfold joinS
        rw [← List.cons_append, ih]; simp
  rw [key] at h2
  exact h2.symm
/-- lines are read one after the other: which one is not taken, whether all are, and all that were read -/
def feedF (ok : List (List UInt8) → List UInt8 → Bool) (done : List (List UInt8)) : List (List UInt8) → Bool → Nat × Bool × List (List UInt8)
  | [], e => if e then (0, true, done) else (done.length, false, done)
  | x :: r, e => if ok done x then feedF ok (done ++ [x]) r e else (done.length, false, done ++ [x])
def eachF (ok : List (List UInt8) → List UInt8 → Bool) (s : List UInt8) : Nat × Bool × List (List UInt8) := feedF ok [] (lineL s) (restL s).isEmpty
theorem feed_step {ok : List (List UInt8) → List UInt8 → Bool} {l : List (List UInt8)} {e : Bool} {k : Nat} (hk : k < l.length) : feedF ok (l.take k) (l.drop k) e = if ok (l.take k) l[k] then feedF ok (l.take (k + 1)) (l.drop (k + 1)) e else (k, false, l.take (k + 1)) := by
  rw [List.drop_eq_getElem_cons hk, feedF, ← List.take_succ_eq_append_getElem hk, List.length_take, Nat.min_eq_left (by omega)]
theorem feed_end {ok : List (List UInt8) → List UInt8 → Bool} {l : List (List UInt8)} {e : Bool} : feedF ok (l.take l.length) (l.drop l.length) e = if e then (0, true, l) else (l.length, false, l) := by
  rw [List.take_length, List.drop_length, feedF]
theorem feed_ok {ok : List (List UInt8) → List UInt8 → Bool} {e : Bool} : ∀ {r done : List (List UInt8)} {i : Nat} {P : List (List UInt8)}, feedF ok done r e = (i, true, P) → e = true ∧ P = done ++ r ∧ i = 0 ∧ ∀ k (hk : k < r.length), ok (done ++ r.take k) r[k] = true
  | [], done, i, P, h => by
    unfold feedF at h
    split at h
    · rename_i he
      simp only [Prod.mk.injEq, true_and] at h
      exact ⟨he, by rw [← h.2, List.append_nil], h.1.symm, fun k hk => absurd hk (by simp)⟩
    · simp at h
  | x :: r, done, i, P, h => by
    unfold feedF at h
    split at h
    · rename_i hx
      obtain ⟨h1, h2, h3, h4⟩ := feed_ok h
      refine ⟨h1, by rw [h2]; simp, h3, fun k hk => ?_⟩
      cases k with
      | zero => simpa using hx
      | succ k =>
        have := h4 k (by simpa using hk)
        simpa using this
    · simp at h
theorem feed_all {ok : List (List UInt8) → List UInt8 → Bool} : ∀ {r done : List (List UInt8)}, (∀ k (hk : k < r.length), ok (done ++ r.take k) r[k] = true) → feedF ok done r true = (0, true, done ++ r)
  | [], done, _ => by simp [feedF]
  | x :: r, done, h => by
    unfold feedF
    have h0 := h 0 (by simp)
    simp only [List.take_zero, List.append_nil, List.getElem_cons_zero] at h0
    rw [if_pos h0, feed_all (fun k hk => by have := h (k + 1) (by simpa using hk); simpa using this)]
    simp
/-- the program cuts a text at its line feeds, without the last one -/
theorem ends_rest {s : List UInt8} (hs : s ≠ []) : Lib.hasSuffix s [10] = (restL s).isEmpty ∧ segs 10 (Lib.trimSuffix s [10]) = if (restL s).isEmpty then lineL s else lineL s ++ [restL s] := by
  by_cases hr : restL s = []
  · obtain ⟨t, rfl⟩ := rest_last s hr hs
    have h1 : Lib.hasSuffix (t ++ [10]) [10] = true := by
      unfold Lib.hasSuffix
      rw [List.isSuffixOf_iff_suffix]
      exact List.suffix_append _ _
    rw [h1, hr]
    refine ⟨rfl, ?_⟩
    unfold Lib.trimSuffix
    rw [if_pos h1, if_pos (show ([] : List UInt8).isEmpty = true from rfl)]
    have : (t ++ [10]).take ((t ++ [10]).length - [(10 : UInt8)].length) = t := by simp
    rw [this, (line_end t).1]
  · have h1 : Lib.hasSuffix s [10] = false := by
      cases h : Lib.hasSuffix s [10] with
      | false => rfl
      | true =>
        unfold Lib.hasSuffix at h
        rw [List.isSuffixOf_iff_suffix] at h
        obtain ⟨t, rfl⟩ := h
        exact absurd (line_end t).2 hr
    have h2 : (restL s).isEmpty = false := by
      cases h : restL s with
      | nil => exact absurd h hr
      | cons _ _ => rfl
    rw [h1, h2]
    refine ⟨rfl, ?_⟩
    unfold Lib.trimSuffix
    rw [h1]
    exact line_rest s
end Go.Proofs.YteliiknlpfjlkaaGreatDoor
/- Plain: the texts of parts: what is written is read as it was, what is read is written so. No program. -/
set_option linter.unusedVariables false
set_option linter.unusedSimpArgs false
namespace Go.Proofs.YteliiknlpfjlkaaGreatDoor
open Go

def bA (l : List UInt8) : ByteArray := ⟨l.toArray⟩
theorem bA_data (s : ByteArray) : bA s.data.toList = s := Lib.mk_data s
theorem data_bA (l : List UInt8) : (bA l).data.toList = l := rfl
theorem size_bA (l : List UInt8) : (bA l).size = l.length := by rw [Lib.size_eq]; rfl
theorem numL_len {most : Nat} {s : List UInt8} {n : Int} (h : numL most s = some n) : s.length ≤ most + 1 ∧ s ≠ [] ∧ ∀ b ∈ s, b = 45 ∨ isDig b = true := by
  unfold numL at h
  split at h
  · rename_i hc
    simp only [Bool.and_eq_true] at hc
    have h1 := hc.1.1
    unfold digsB at h1
    simp only [Bool.and_eq_true, Bool.not_eq_true', decide_eq_true_eq] at h1
    cases s with
    | nil => rw [bare_nil] at h1; simp at h1
    | cons b r =>
      by_cases hb : b = 45
      · subst hb
        rw [bare_neg] at h1
        refine ⟨by simpa using h1.1.2, by simp, fun c hc => ?_⟩
        rcases List.mem_cons.1 hc with rfl | hc
        · exact .inl rfl
        · exact .inr (List.all_eq_true.1 h1.2 c hc)
      · rw [bare_pos hb] at h1
        exact ⟨by have := h1.1.2; omega, by simp, fun c hc => .inr (List.all_eq_true.1 h1.2 c hc)⟩
  · cases h
theorem numL_no {most : Nat} {s : List UInt8} {n : Int} (h : numL most s = some n) {c : UInt8} (hc : c ≠ 45 ∧ isDig c = false) : c ∉ s := by
  intro hm
  rcases (numL_len h).2.2 c hm with h1 | h1
  · exact hc.1 h1
  · rw [hc.2] at h1; cases h1
def wFibre : List UInt8 := [102, 105, 98, 114, 101]
def wSplice : List UInt8 := [115, 112, 108, 105, 99, 101]
def wConn : List UInt8 := [99, 111, 110, 110, 101, 99, 116, 111, 114]
def wSplit : List UInt8 := [115, 112, 108, 105, 116, 116, 101, 114]
/-- the word of a kind of parts -/
def kindW (k : Int) : List UInt8 := if k = 1 then wFibre else if k = 2 then wSplice else if k = 3 then wConn else wSplit
def kindOf (w : List UInt8) : Option Int := if w = wFibre then some 1 else if w = wSplice then some 2 else if w = wConn then some 3 else if w = wSplit then some 4 else none
theorem kindOf_W {k : Int} (h : 1 ≤ k ∧ k ≤ 4) : kindOf (kindW k) = some k := by
  rcases (show k = 1 ∨ k = 2 ∨ k = 3 ∨ k = 4 by omega) with rfl | rfl | rfl | rfl <;> decide
theorem kindW_of {w : List UInt8} {k : Int} (h : kindOf w = some k) : kindW k = w ∧ 1 ≤ k ∧ k ≤ 4 := by
  unfold kindOf at h
  split at h
  · rename_i e; simp only [Option.some.injEq] at h; subst h e; decide
  · split at h
    · rename_i e; simp only [Option.some.injEq] at h; subst h e; decide
    · split at h
      · rename_i e; simp only [Option.some.injEq] at h; subst h e; decide
      · split at h
        · rename_i e; simp only [Option.some.injEq] at h; subst h e; decide
        · cases h
theorem kindW_no (k : Int) : (32 : UInt8) ∉ kindW k ∧ (10 : UInt8) ∉ kindW k ∧ (kindW k).length ≤ 9 := by
  unfold kindW
  split
  · decide
  · split
    · decide
    · split <;> decide
/-- a part's line, without its line feed -/
def partEnc (x : Part) : List UInt8 := kindW x.kind ++ 32 :: Lib.itoa x.amt
def partDec (l : List UInt8) : Option Part := match segs 32 l with
  | [w, a] => (kindOf w).bind fun k => (numL 15 a).map fun n => ⟨k, n⟩
  | _ => none
theorem partDec_two {l w a : List UInt8} (h : segs 32 l = [w, a]) : partDec l = (kindOf w).bind fun k => (numL 15 a).map fun n => ⟨k, n⟩ := by
  unfold partDec; rw [h]
theorem dec_some {l : List UInt8} {x : Part} (h : partDec l = some x) : partEnc x = l ∧ ∃ w a, segs 32 l = [w, a] ∧ kindOf w = some x.kind ∧ numL 15 a = some x.amt := by
  unfold partDec at h
  split at h
  · rename_i w a hs
    cases hk : kindOf w with
    | none => rw [hk] at h; simp at h
    | some k =>
      rw [hk] at h
      cases hn : numL 15 a with
      | none => rw [hn] at h; simp at h
      | some n =>
        rw [hn] at h
        simp only [Option.bind_some, Option.map_some, Option.some.injEq] at h
        subst h
        refine ⟨?_, w, a, hs, hk, hn⟩
        unfold partEnc
        rw [(kindW_of hk).1, (numL_itoa hn).1]
        have := join_segs 32 l
        rw [hs] at this
        exact this
  · cases h
theorem ok_part {x : Part} (h : partFault x = 0) : 1 ≤ x.kind ∧ x.kind ≤ 4 ∧ x.amt.natAbs < 10 ^ 15 := by
  unfold partFault at h
  have hw : ∀ n : Int, waysB n = true → 0 ≤ n ∧ n ≤ 1000000 := fun n hn => by
    unfold waysB at hn
    have := dbl_cases n (by simpa using hn)
    omega
  split at h
  · rename_i hk
    split at h
    · omega
    · rename_i ho; unfold outB at ho; simp at ho; omega
  · split at h
    · split at h
      · omega
      · rename_i ho; unfold outB at ho; simp at ho; omega
    · split at h
      · split at h
        · omega
        · rename_i ho; unfold outB at ho; simp at ho; omega
      · split at h
        · split at h
          · rename_i ho; have := hw _ ho; omega
          · omega
        · omega
theorem enc_dec {x : Part} (h : partFault x = 0) : partDec (partEnc x) = some x ∧ (10 : UInt8) ∉ partEnc x ∧ (partEnc x).length ≤ 26 := by
  obtain ⟨h1, h2, h3⟩ := ok_part h
  have hn := itoa_numL h3 (by decide)
  have h32 : (32 : UInt8) ∉ Lib.itoa x.amt := numL_no hn (by decide)
  have h10 : (10 : UInt8) ∉ Lib.itoa x.amt := numL_no hn (by decide)
  have hk := kindW_no x.kind
  refine ⟨?_, ?_, ?_⟩
  · have hs : segs 32 (partEnc x) = [kindW x.kind, Lib.itoa x.amt] := by unfold partEnc; rw [segs_app hk.1, segs_none h32]
    rw [partDec_two hs, kindOf_W ⟨h1, h2⟩, hn]; rfl
  · unfold partEnc
    rw [List.mem_append, List.mem_cons]
    rintro (h | h | h)
    · exact hk.2.1 h
    · exact absurd h (by decide)
    · exact h10 h
  · unfold partEnc
    have := (numL_len hn).1
    rw [List.length_append, List.length_cons]
    omega
/-- the text of parts -/
def partsText (p : List Part) : List UInt8 := p.flatMap fun x => partEnc x ++ [10]
def partOk (_ : List (List UInt8)) (l : List UInt8) : Bool := (partDec l).isSome
/-- what reading parts answers: the parts, the line, the error -/
def partsRead (s : List UInt8) : List Part × Int × Int :=
  if 200000 < s.length then ([], 0, 2) else
  if (eachF partOk s).2.1 = false then ([], (eachF partOk s).1, 9) else
  if partsFault ((eachF partOk s).2.2.filterMap partDec) ≠ 0 then ([], 0, partsFault ((eachF partOk s).2.2.filterMap partDec)) else ((eachF partOk s).2.2.filterMap partDec, 0, 0)
theorem text_lines {p : List Part} (h : ∀ x ∈ p, partFault x = 0) : lineL (partsText p) = p.map partEnc ∧ restL (partsText p) = [] := by
  induction p with
  | nil => exact ⟨rfl, rfl⟩
  | cons x p ih =>
    have h1 := ih (fun y hy => h y (List.mem_cons_of_mem _ hy))
    have e : partsText (x :: p) = partEnc x ++ 10 :: partsText p := by unfold partsText; rw [List.flatMap_cons]; simp
    have h2 := lineL_cons (b := partsText p) (enc_dec (h x List.mem_cons_self)).2.1
    rw [e, h2.1, h2.2, h1.1, h1.2]
    exact ⟨rfl, rfl⟩
theorem text_len {p : List Part} (h : ∀ x ∈ p, partFault x = 0) : (partsText p).length ≤ p.length * 27 := by
  induction p with
  | nil => simp [partsText]
  | cons x p ih =>
    have h1 := ih (fun y hy => h y (List.mem_cons_of_mem _ hy))
    have e : partsText (x :: p) = partEnc x ++ 10 :: partsText p := by unfold partsText; rw [List.flatMap_cons]; simp
    have h2 := (enc_dec (h x List.mem_cons_self)).2.2
    rw [e, List.length_append, List.length_cons, List.length_cons]
    omega
theorem parts_each {p : List Part} (h : partsFault p = 0) : p.length ≤ 1000 ∧ ∀ x ∈ p, partFault x = 0 := by
  have := partsFault_zero.1 h
  exact ⟨this.1, fun x hx => partFault_zero.2 (this.2 x hx)⟩
/-- what is written is read as it was -/
theorem parts_back {p : List Part} (h : partsFault p = 0) : partsRead (partsText p) = (p, 0, 0) := by
  obtain ⟨h1, h2⟩ := parts_each h
  have hl := text_len h2
  have he : eachF partOk (partsText p) = (0, true, p.map partEnc) := by
    unfold eachF
    rw [(text_lines h2).1, (text_lines h2).2]
    have := feed_all (ok := partOk) (r := p.map partEnc) (done := []) (fun k hk => by
      rw [List.getElem_map]
      unfold partOk
      rw [(enc_dec (h2 _ (List.getElem_mem _))).1]; rfl)
    simpa using this
  have hf : (p.map partEnc).filterMap partDec = p := by
    clear he hl h h1
    induction p with
    | nil => rfl
    | cons x p ih => rw [List.map_cons, List.filterMap_cons, (enc_dec (h2 x List.mem_cons_self)).1]; simp only; rw [ih (fun y hy => h2 y (List.mem_cons_of_mem _ hy))]
  unfold partsRead
  rw [if_neg (by omega), he, if_neg (by simp), hf, if_neg (by simpa using h)]
/-- what is read is written so -/
theorem parts_forth {s : List UInt8} {p : List Part} {i : Int} (h : partsRead s = (p, i, 0)) : partsText p = s ∧ partsFault p = 0 := by
  unfold partsRead at h
  split at h
  · simp at h
  · split at h
    · simp at h
    · rename_i hb
      split at h
      · rename_i hf
        simp only [Prod.mk.injEq] at h
        exact absurd h.2.2 hf
      · rename_i hf
        simp only [Prod.mk.injEq] at h
        obtain ⟨h, -, -⟩ := h
        rw [h] at hf
        have hf : partsFault p = 0 := by simpa using hf
        refine ⟨?_, hf⟩
        have hbt : (eachF partOk s).2.1 = true := by simpa using hb
        obtain ⟨h1, h2, h3, h4⟩ := feed_ok (ok := partOk) (r := lineL s) (done := []) (e := (restL s).isEmpty) (i := (eachF partOk s).1) (P := (eachF partOk s).2.2) (by
          show eachF partOk s = _
          rw [← hbt])
        rw [List.nil_append] at h2
        rw [h2] at h
        have hr : restL s = [] := List.isEmpty_iff.1 h1
        have hs := lines_all s
        rw [hr, List.append_nil] at hs
        have key : ∀ (L : List (List UInt8)), (∀ k (hk : k < L.length), partOk [] L[k] = true) → partsText (L.filterMap partDec) = L.flatMap (fun x => x ++ [10]) := by
          intro L
          induction L with
          | nil => intro _; rfl
          | cons x L ih =>
            intro hL
            have h0 := hL 0 (by simp)
            unfold partOk at h0
            obtain ⟨y, hy⟩ := Option.isSome_iff_exists.1 h0
            simp only [List.getElem_cons_zero] at hy
            rw [List.filterMap_cons, hy]
            simp only
            have ih2 := ih (fun k hk => by have := hL (k + 1) (by simpa using hk); simpa using this)
            unfold partsText at ih2 ⊢
            rw [List.flatMap_cons, List.flatMap_cons, ih2, (dec_some hy).1]
        rw [← h, key (lineL s) (fun k hk => by have := h4 k hk; exact this)]
        exact hs.symm
theorem numL_nil (m : Nat) : numL m [] = none := by
  cases h : numL m [] with
  | none => rfl
  | some n => exact absurd rfl (numL_len h).2.1
/-- the reference cuts a line at its first blank alone -/
theorem dec_cut (l : List UInt8) : partDec l = (kindOf (Lib.cut l [32]).1).bind fun k => (numL 15 (Lib.cut l [32]).2.1).map fun n => ⟨k, n⟩ := by
  rcases segs_at 32 l with h | ⟨a, b, rfl, h⟩
  · rw [cut_none1 h]
    simp only [numL_nil, Option.map_none]
    have : partDec l = none := by unfold partDec; rw [segs_none h]
    rw [this]
    cases kindOf l <;> rfl
  · rw [cut_at1 h]
    simp only
    rcases segs_at 32 b with hb | ⟨b1, b2, rfl, hb⟩
    · rw [partDec_two (by rw [segs_app h, segs_none hb])]
    · have h1 : numL 15 (b1 ++ 32 :: b2) = none := by
        cases hn : numL 15 (b1 ++ 32 :: b2) with
        | none => rfl
        | some n => exact absurd (by simp) (numL_no hn (c := 32) (by decide))
      have h2 : partDec (a ++ 32 :: (b1 ++ 32 :: b2)) = none := by
        unfold partDec
        rw [segs_app h, segs_app hb]
        cases hs : segs 32 b2 with
        | nil => exact absurd hs (segs_ne 32 b2)
        | cons x y => rfl
      rw [h2, h1]
      cases kindOf a <;> rfl
end Go.Proofs.YteliiknlpfjlkaaGreatDoor
