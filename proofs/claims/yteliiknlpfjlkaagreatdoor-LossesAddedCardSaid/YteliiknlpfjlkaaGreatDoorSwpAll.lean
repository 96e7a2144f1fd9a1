/- Texts of one subject in one: SwapF, PlainW, Memb, SetB, SetC, PlainX, Swd, Chp, PlainY; what each shows stands at its head. No condition. -/
import Derived.Test.YteliiknlpfjlkaaGreatDoorWalkAll
import Derived.Test.YteliiknlpfjlkaaGreatDoorBuyAll
import Derived.Laws.BitsLemmas
import Derived.Test.YteliiknlpfjlkaaGreatDoorMapB
import Derived.Test.YteliiknlpfjlkaaGreatDoorOrders
import Derived.OpenShut
import Derived.Deep.CutRange
/- Plain: the error of a list of swaps. Walk: budget.swapsFault. -/
set_option linter.unusedVariables false
set_option linter.unusedSimpArgs false
namespace Go.Proofs.YteliiknlpfjlkaaGreatDoor
open Go Go.RowKit

instance : Inhabited Swap := ⟨⟨0, ⟨0, 0⟩, 0⟩⟩
def swapFault (n : Nat) (s : Swap) : Int := if outB s.at_ 0 ((n : Int) - 1) then 8 else if partFault s.by_ = 0 then (if outB s.price 0 1000000000 then 1 else 0) else partFault s.by_
def swapsFault (n : Nat) (l : List Swap) : Int := if 12 < l.length then 2 else firstF (l.map (swapFault n))
theorem swap_at {w : World} {b o : Nat} {s : Swap} (h : ∀ j u, (Swap.cells s)[j]? = some u → w.cell? ⟨b, o + j, none⟩ = some u) :
    w.cell? ⟨b, o, none⟩ = some (.int .i64 s.at_) ∧ w.cell? ⟨b, o + 1, none⟩ = some (.int .i64 s.by_.kind) ∧ w.cell? ⟨b, o + 2, none⟩ = some (.int .i64 s.by_.amt) ∧ w.cell? ⟨b, o + 3, none⟩ = some (.int .i64 s.price) :=
  ⟨h 0 _ rfl, h 1 _ rfl, h 2 _ rfl, h 3 _ rfl⟩
theorem partFault_bound (p : Part) : 0 ≤ partFault p ∧ partFault p ≤ 8 := by
  unfold partFault
  repeat' split
  all_goals omega

end Go.Proofs.YteliiknlpfjlkaaGreatDoor
/- Plain: sets of swaps as numbers; which set comes first. No program. -/
set_option linter.unusedVariables false
set_option linter.unusedSimpArgs false
namespace Go.Proofs.YteliiknlpfjlkaaGreatDoor

/-- the members of a set of n, the first of them is number i -/
def memb : Nat → Nat → Nat → List Int
  | 0, _, _ => []
  | n + 1, i, s => if s % 2 = 1 then (i : Int) :: memb n (i + 1) (s / 2) else memb n (i + 1) (s / 2)
theorem memb_ge (n : Nat) : ∀ (i s : Nat), ∀ x ∈ memb n i s, (i : Int) ≤ x ∧ x < (i : Int) + n := by
  induction n with
  | zero => intro i s x h; simp [memb] at h
  | succ n ih =>
    intro i s x h
    unfold memb at h
    split at h
    · rcases List.mem_cons.1 h with rfl | h
      · omega
      · have := ih _ _ x h; omega
    · have := ih _ _ x h; omega
def bitB (s k : Nat) : Bool := decide (s / 2 ^ k % 2 = 1)
theorem memb_range (n : Nat) : ∀ (i s : Nat), memb n i s = ((List.range n).filter (bitB s)).map (fun k => ((i + k : Nat) : Int)) := by
  induction n with
  | zero => intro i s; rfl
  | succ n ih =>
    intro i s
    rw [List.range_succ_eq_map, List.filter_cons, List.filter_map]
    unfold memb
    rw [ih]
    have h0 : bitB s 0 = decide (s % 2 = 1) := by simp [bitB]
    have h1 : bitB s ∘ Nat.succ = bitB (s / 2) := by
      funext k
      simp only [Function.comp, bitB, Nat.div_div_eq_div_mul, Nat.succ_eq_add_one, Nat.pow_succ, Nat.mul_comm]
    rw [h0, h1]
    have h2 : ((fun k => ((i + k : Nat) : Int)) ∘ Nat.succ) = fun k => ((i + 1 + k : Nat) : Int) := by
      funext k
      simp only [Function.comp, Nat.succ_eq_add_one]
      congr 1; omega
    by_cases hs : s % 2 = 1 <;> simp [hs, h2, List.map_map] <;> (intros; omega)
/-- members among the first k -/
def membTo (s k : Nat) : List Int := ((List.range k).filter (bitB s)).map (fun k => ((k : Nat) : Int))
theorem membTo_eq (s n : Nat) : membTo s n = memb n 0 s := by rw [memb_range]; simp [membTo]
theorem membTo_succ (s k : Nat) : membTo s (k + 1) = if bitB s k = true then membTo s k ++ [(k : Int)] else membTo s k := by
  unfold membTo
  rw [List.range_succ, List.filter_append, List.map_append]
  by_cases h : bitB s k = true <;> simp [h, List.filter]

/-- slices.Compare -/
def cmpL : List Int → List Int → Int
  | [], [] => 0
  | [], _ :: _ => -1
  | _ :: _, [] => 1
  | x :: l, y :: m => if x < y then -1 else if y < x then 1 else cmpL l m
/-- of the lowest bit in which they differ, a has it -/
def lowB : Nat → Nat → Nat → Bool
  | 0, _, _ => false
  | n + 1, a, b => if a % 2 = b % 2 then lowB n (a / 2) (b / 2) else decide (a % 2 = 1)
theorem cmpL_low (n : Nat) : ∀ (i a b : Nat), (memb n i a).length = (memb n i b).length → (cmpL (memb n i a) (memb n i b) < 0 ↔ lowB n a b = true) := by
  induction n with
  | zero => intro i a b _; simp [memb, cmpL, lowB]
  | succ n ih =>
    intro i a b hl
    unfold memb at hl
    unfold memb lowB
    by_cases ha : a % 2 = 1 <;> by_cases hb : b % 2 = 1
    · rw [if_pos ha, if_pos hb] at hl ⊢
      rw [if_pos (by omega), cmpL, if_neg (by omega), if_neg (by omega)]
      exact ih (i + 1) (a / 2) (b / 2) (by simpa using hl)
    · rw [if_pos ha, if_neg hb] at hl ⊢
      rw [if_neg (by omega)]
      cases hm : memb n (i + 1) (b / 2) with
      | nil => rw [hm] at hl; simp at hl
      | cons y m =>
        have := memb_ge n (i + 1) (b / 2) y (by rw [hm]; simp)
        rw [cmpL, if_pos (by omega)]
        simp [ha]
    · rw [if_neg ha, if_pos hb] at hl ⊢
      rw [if_neg (by omega)]
      cases hm : memb n (i + 1) (a / 2) with
      | nil => rw [hm] at hl; simp at hl
      | cons y m =>
        have := memb_ge n (i + 1) (a / 2) y (by rw [hm]; simp)
        rw [cmpL, if_neg (by omega), if_pos (by omega)]
        simp [ha]
    · rw [if_neg ha, if_neg hb] at hl ⊢
      rw [if_pos (by omega)]
      exact ih (i + 1) (a / 2) (b / 2) hl
/-- the same by one formula -/
theorem and_half (a b : Nat) : (a &&& b) / 2 = a / 2 &&& b / 2 := by
  apply Nat.eq_of_testBit_eq; intro i; simp [Nat.testBit_div_two]
theorem and_par (a b : Nat) : (a &&& b) % 2 = if a % 2 = 1 ∧ b % 2 = 1 then 1 else 0 := by
  have h := Nat.and_mod_two_eq_one (a := a) (b := b)
  split
  · rename_i h1; exact h.2 h1
  · rename_i h1
    have := Nat.mod_two_eq_zero_or_one (a &&& b)
    have h2 : ¬ (a &&& b) % 2 = 1 := fun h3 => h1 (h.1 h3)
    omega
theorem xor_half (a b : Nat) : (a ^^^ b) / 2 = a / 2 ^^^ b / 2 := by
  apply Nat.eq_of_testBit_eq; intro i; simp [Nat.testBit_div_two]
theorem xor_par (a b : Nat) : (a ^^^ b) % 2 = if a % 2 = b % 2 then 0 else 1 := by
  have h := Nat.xor_mod_two_eq_one (a := a) (b := b)
  have h1 := Nat.mod_two_eq_zero_or_one (a ^^^ b)
  have h2 := Nat.mod_two_eq_zero_or_one a
  have h3 := Nat.mod_two_eq_zero_or_one b
  split
  · have h4 : ¬ (a ^^^ b) % 2 = 1 := fun h5 => (h.1 h5) (by omega)
    omega
  · refine h.2 (fun h5 => ?_)
    omega
theorem nat_half {a b : Nat} (h : a / 2 = b / 2) (h2 : a % 2 = b % 2) : a = b := by omega
theorem and_compl (k : Nat) : ∀ e, e < 2 ^ k → e &&& (2 ^ k - 1 - e) = 0 := by
  induction k with
  | zero => intro e h; have : e = 0 := by simpa using h
            subst this; rfl
  | succ k ih =>
    intro e h
    rw [Nat.pow_succ] at *
    have h1 := ih (e / 2) (by omega)
    refine nat_half ?_ ?_
    · rw [and_half, show (2 ^ k * 2 - 1 - e) / 2 = 2 ^ k - 1 - e / 2 by omega, h1]
    · rw [and_par, if_neg (by omega)]
theorem low_bit (k : Nat) (d : Nat) (h : d < 2 ^ (k + 1)) (ho : d % 2 = 1) : d &&& (2 ^ (k + 1) - d) = 1 := by
  rw [Nat.pow_succ] at *
  refine nat_half ?_ ?_
  · rw [and_half, show (2 ^ k * 2 - d) / 2 = 2 ^ k - 1 - d / 2 by omega, and_compl k _ (by omega)]
  · rw [and_par, if_pos (by omega)]
theorem xor_lt {a b k : Nat} (ha : a < 2 ^ k) (hb : b < 2 ^ k) : a ^^^ b < 2 ^ k := Nat.xor_lt_two_pow ha hb
theorem low_eq (n : Nat) : ∀ (k a b : Nat), a < 2 ^ n → b < 2 ^ n → n ≤ k → ((a &&& ((a ^^^ b) &&& (2 ^ (k + 1) - (a ^^^ b)))) ≠ 0 ↔ lowB n a b = true) := by
  induction n with
  | zero =>
    intro k a b ha hb _
    have h1 : a = 0 := by simpa using ha
    subst h1
    simp [lowB]
  | succ n ih =>
    intro k a b ha hb hk
    obtain ⟨j, rfl⟩ : ∃ j, k = j + 1 := ⟨k - 1, by omega⟩
    have hx : a ^^^ b < 2 ^ (n + 1) := xor_lt ha hb
    have hle : 2 ^ (n + 1) ≤ 2 ^ (j + 1) := Nat.pow_le_pow_right (by omega) hk
    unfold lowB
    by_cases hp : a % 2 = b % 2
    · rw [if_pos hp]
      have hd : (a ^^^ b) % 2 = 0 := by rw [xor_par, if_pos hp]
      rw [Nat.pow_succ] at ha hb
      have h1 := ih j (a / 2) (b / 2) (by omega) (by omega) (by omega)
      rw [← h1, ← xor_half]
      generalize a ^^^ b = d at *
      have e2 : (2 ^ (j + 1) * 2 - d) / 2 = 2 ^ (j + 1) - d / 2 := by omega
      have e3 : (a &&& (d &&& (2 ^ (j + 1) * 2 - d))) % 2 = 0 := by rw [and_par, and_par, if_neg]; rw [if_neg (by omega)]; omega
      have e4 : (a &&& (d &&& (2 ^ (j + 1) * 2 - d))) / 2 = a / 2 &&& (d / 2 &&& (2 ^ (j + 1) - d / 2)) := by rw [and_half, and_half, e2]
      rw [Nat.pow_succ 2 (j + 1)]
      omega
    · rw [if_neg hp]
      have hd : (a ^^^ b) % 2 = 1 := by rw [xor_par, if_neg hp]
      rw [low_bit (j + 1) _ (by rw [Nat.pow_succ 2 (j + 1)]; omega) hd, Nat.and_one_is_mod]
      simp
end Go.Proofs.YteliiknlpfjlkaaGreatDoor
/- Walks: the members of a set; which set comes first. -/
set_option linter.unusedVariables false
set_option linter.unusedSimpArgs false
namespace Go.Proofs.YteliiknlpfjlkaaGreatDoor
open Go Go.RowKit

theorem bit_int (s k : Nat) : (((s : Int) / 2 ^ k).tmod 2 == 1) = bitB s k := by
  have h1 : (s : Int) / 2 ^ k = ((s / 2 ^ k : Nat) : Int) := by push_cast; rfl
  have h2 : (((s / 2 ^ k : Nat) : Int)).tmod 2 = ((s / 2 ^ k % 2 : Nat) : Int) := rfl
  rw [h1, h2]
  unfold bitB
  have := Nat.mod_two_eq_zero_or_one (s / 2 ^ k)
  by_cases h : s / 2 ^ k % 2 = 1
  · rw [h]; rfl
  · rw [decide_eq_false h, beq_eq_false_iff_ne]; omega
theorem membTo_len (s k : Nat) : (membTo s k).length ≤ k := by
  unfold membTo
  rw [List.length_map]
  have := List.length_filter_le (bitB s) (List.range k)
  rwa [List.length_range] at this
end Go.Proofs.YteliiknlpfjlkaaGreatDoor
/- Walks: which of two sets comes first. -/
set_option linter.unusedVariables false
set_option linter.unusedSimpArgs false
namespace Go.Proofs.YteliiknlpfjlkaaGreatDoor
open Go Go.RowKit

def popc (s : Nat) : Nat := (memb 12 0 s).length
def oc1 (x : Int) : Int := IntKind.u64.wrap (bits BinOp.and IntKind.u64 (x / 2) 6148914691236517205 + bits BinOp.and IntKind.u64 x 6148914691236517205)
def oc2 (x : Int) : Int := IntKind.u64.wrap (bits BinOp.and IntKind.u64 (x / 4) 3689348814741910323 + bits BinOp.and IntKind.u64 x 3689348814741910323)
def oc3 (x : Int) : Int := bits BinOp.and IntKind.u64 (IntKind.u64.wrap (x / 16 + x)) 1085102592571150095
def oc4 (x : Int) : Int := IntKind.u64.wrap (x + x / 256)
def oc5 (x : Int) : Int := IntKind.u64.wrap (x + x / 65536)
def oc6 (x : Int) : Int := IntKind.u64.wrap (x + x / 4294967296)
theorem ones_tab : ∀ a : Nat, a < 64 → ∀ b : Nat, b < 64 → bits BinOp.and IntKind.i64 (wrap64 (oc6 (oc5 (oc4 (oc3 (oc2 (oc1 ((64 * a + b : Nat) : Int)))))))) 127 = (popc (64 * a + b) : Int) := by decide +kernel
theorem ones_eq (s : Nat) (h : s < 4096) : bits BinOp.and IntKind.i64 (wrap64 (oc6 (oc5 (oc4 (oc3 (oc2 (oc1 s))))))) 127 = (popc s : Int) := by
  have := ones_tab (s / 64) (by omega) (s % 64) (by omega)
  rwa [show 64 * (s / 64) + s % 64 = s by omega] at this
end Go.Proofs.YteliiknlpfjlkaaGreatDoor
/- Walk: base.SetBefore. -/
set_option linter.unusedVariables false
set_option linter.unusedSimpArgs false
namespace Go.Proofs.YteliiknlpfjlkaaGreatDoor
open Go Go.RowKit

theorem wrap_u (n : Int) (h₀ : 0 ≤ n) (h₁ : n < 2 ^ 64) : IntKind.u64.wrap n = n := by rw [IntKind.wrap_u64]; omega
theorem and_u (a b : Nat) (ha : a < 2 ^ 64) (hb : b < 2 ^ 64) : bits BinOp.and IntKind.u64 a b = ((a &&& b : Nat) : Int) := (bits_nat .u64 64 (by decide) wrap_u a b ha hb).1
theorem xor_u (a b : Nat) (ha : a < 2 ^ 64) (hb : b < 2 ^ 64) : bits BinOp.xor IntKind.u64 a b = ((a ^^^ b : Nat) : Int) := by
  have ha' : a % 2 ^ 64 = a := Nat.mod_eq_of_lt ha
  have hb' : b % 2 ^ 64 = b := Nat.mod_eq_of_lt hb
  have h := Nat.xor_lt_two_pow ha hb
  have e : bits BinOp.xor IntKind.u64 a b = IntKind.u64.wrap (((BitVec.ofInt 64 a) ^^^ (BitVec.ofInt 64 b)).toNat : Int) := rfl
  rw [e]
  simp only [BitVec.ofInt_natCast, BitVec.toNat_xor, BitVec.toNat_ofNat, ha', hb']
  exact wrap_u _ (Int.natCast_nonneg _) (by exact_mod_cast h)
/-- fewer members, or as many, and of the lowest in which they differ -/
def befB (a b : Nat) : Bool := decide (popc a < popc b) || (decide (popc a = popc b) && lowB 12 a b)
theorem popc_le (s : Nat) : popc s ≤ 12 := by
  unfold popc
  have : ∀ n i s, (memb n i s).length ≤ n := by
    intro n
    induction n with
    | zero => intro i s; simp [memb]
    | succ n ih =>
      intro i s
      unfold memb
      have := ih (i + 1) (s / 2)
      split <;> simp <;> omega
  exact this 12 0 s
theorem low_u (a b : Nat) (ha : a < 4096) (hb : b < 4096) :
    (bits BinOp.and IntKind.u64 (a : Int) (bits BinOp.and IntKind.u64 (bits BinOp.xor IntKind.u64 (a : Int) (b : Int)) (IntKind.u64.wrap (-(bits BinOp.xor IntKind.u64 (a : Int) (b : Int))))) != 0) = lowB 12 a b := by
  have hx : a ^^^ b < 4096 := Nat.xor_lt_two_pow (n := 12) ha hb
  rw [xor_u a b (by omega) (by omega)]
  have hlow : (a &&& ((a ^^^ b) &&& (2 ^ 64 - (a ^^^ b)))) ≠ 0 ↔ lowB 12 a b = true := low_eq 12 63 a b ha hb (by omega)
  by_cases hd : a ^^^ b = 0
  · have hl : lowB 12 a b = false := by
      cases h : lowB 12 a b
      · rfl
      · exact absurd (hlow.2 h) (by rw [hd]; simp)
    rw [hd, hl]
    have : IntKind.u64.wrap (-((0 : Nat) : Int)) = ((0 : Nat) : Int) := by decide
    rw [this, and_u 0 0 (by decide) (by decide), and_u a _ (by omega) (by decide)]
    simp
  · have hn : IntKind.u64.wrap (-((a ^^^ b : Nat) : Int)) = ((2 ^ 64 - (a ^^^ b) : Nat) : Int) := by
      rw [IntKind.wrap_u64]; omega
    rw [hn, and_u _ _ (by omega) (by omega)]
    have h2 : (a ^^^ b) &&& (2 ^ 64 - (a ^^^ b)) < 2 ^ 64 := Nat.lt_of_le_of_lt Nat.and_le_left (by omega)
    rw [and_u a _ (by omega) h2]
    cases hl : lowB 12 a b
    · have : (a &&& ((a ^^^ b) &&& (2 ^ 64 - (a ^^^ b)))) = 0 := Classical.byContradiction fun h => by have := hlow.1 h; rw [hl] at this; cases this
      rw [this]; rfl
    · have := hlow.2 hl
      rw [bne_iff_ne]; omega

end Go.Proofs.YteliiknlpfjlkaaGreatDoor
/- Plain: sets of swaps; what they cost and lose; the cheapest. No program. -/
set_option linter.unusedVariables false
set_option linter.unusedSimpArgs false
namespace Go.Proofs.YteliiknlpfjlkaaGreatDoor

/-- the swaps of a set -/
def selSw : List Swap → Nat → List Swap
  | [], _ => []
  | y :: s, set => if set % 2 = 1 then y :: selSw s (set / 2) else selSw s (set / 2)
theorem bitB_succ (s k : Nat) : bitB s (k + 1) = bitB (s / 2) k := by
  unfold bitB
  rw [Nat.pow_succ, Nat.mul_comm, ← Nat.div_div_eq_div_mul]
theorem bitB_zero (s : Nat) : bitB s 0 = decide (s % 2 = 1) := by unfold bitB; simp
theorem selSw_take (s : List Swap) : ∀ (set k : Nat) (h : k < s.length), selSw (s.take (k + 1)) set = selSw (s.take k) set ++ (if bitB set k = true then [s[k]] else []) := by
  induction s with
  | nil => intro set k h; simp at h
  | cons y s ih =>
    intro set k h
    cases k with
    | zero =>
      simp only [List.take_succ_cons, List.take_zero, List.getElem_cons_zero]
      rw [bitB_zero]
      unfold selSw
      by_cases hb : set % 2 = 1 <;> simp [hb, selSw]
    | succ k =>
      have := ih (set / 2) k (by simpa using h)
      simp only [List.take_succ_cons, List.getElem_cons_succ] at this ⊢
      rw [bitB_succ]
      rw [selSw, selSw]
      by_cases hb : set % 2 = 1
      · rw [if_pos hb, if_pos hb, this]; rfl
      · rw [if_neg hb, if_neg hb, this]
theorem selSw_mem (s : List Swap) : ∀ (set : Nat), ∀ y ∈ selSw s set, y ∈ s := by
  induction s with
  | nil => intro set y h; simp [selSw] at h
  | cons a s ih =>
    intro set y h
    unfold selSw at h
    split at h
    · rcases List.mem_cons.1 h with rfl | h
      · simp
      · exact List.mem_cons_of_mem _ (ih _ y h)
    · exact List.mem_cons_of_mem _ (ih _ y h)
theorem selSw_len (s : List Swap) : ∀ (set : Nat), (selSw s set).length ≤ s.length := by
  induction s with
  | nil => intro set; simp [selSw]
  | cons a s ih =>
    intro set
    unfold selSw
    have := ih (set / 2)
    split <;> simp <;> omega
def atsS (L : List Swap) : List Int := L.map (·.at_)
def priceS (L : List Swap) : Int := (L.map (·.price)).sum
def moreS (p : List Part) (x : Losses) (L : List Swap) : Int := (L.map fun y => lossOf y.by_ x - lossOf (p.getD y.at_.toNat default) x).sum
def swappedV (p : List Part) (x : Losses) (s : List Swap) (set : Nat) : Int × Int × Bool :=
  if (atsS (selSw s set)).Nodup then (priceS (selSw s set), moreS p x (selSw s set), true) else (0, 0, false)
def setAll (l : List Part) (L : List Swap) : List Part := L.foldl (fun l y => l.set y.at_.toNat y.by_) l
theorem setAll_len (L : List Swap) : ∀ l : List Part, (setAll l L).length = l.length := by
  induction L with
  | nil => intro l; rfl
  | cons y L ih => intro l; unfold setAll at *; rw [List.foldl_cons, ih]; simp
theorem setAll_mem (L : List Swap) : ∀ l : List Part, ∀ q ∈ setAll l L, q ∈ l ∨ ∃ y ∈ L, q = y.by_ := by
  induction L with
  | nil => intro l q h; exact .inl h
  | cons y L ih =>
    intro l q h
    unfold setAll at h
    rw [List.foldl_cons] at h
    rcases ih _ q h with h | ⟨z, hz, rfl⟩
    · rcases List.mem_or_eq_of_mem_set h with h | h
      · exact .inl h
      · exact .inr ⟨y, by simp, h⟩
    · exact .inr ⟨z, by simp [hz], rfl⟩
theorem total_cons (q : Part) (l : List Part) (x : Losses) : total (q :: l) x = lossOf q x + total l x := by simp [total]
theorem total_set (x : Losses) (b : Part) : ∀ (l : List Part) (i : Nat) (h : i < l.length), total (l.set i b) x = total l x + (lossOf b x - lossOf (l.getD i default) x) := by
  intro l
  induction l with
  | nil => intro i h; simp at h
  | cons q l ih =>
    intro i h
    cases i with
    | zero => simp only [List.set_cons_zero, total_cons, List.getD_cons_zero]; omega
    | succ i =>
      simp only [List.set_cons_succ, total_cons, List.getD_cons_succ]
      have := ih i (by simpa using h)
      omega
theorem moreS_set (x : Losses) (b : Part) (l : List Part) (i : Nat) (L : List Swap) (h : ∀ y ∈ L, y.at_.toNat ≠ i) : moreS (l.set i b) x L = moreS l x L := by
  unfold moreS
  congr 1
  apply List.map_congr_left
  intro y hy
  rw [List.getD_eq_getElem?_getD, List.getElem?_set_ne (Ne.symm (h y hy)), ← List.getD_eq_getElem?_getD]
theorem total_setAll (x : Losses) (L : List Swap) : ∀ l : List Part, (atsS L).Nodup → (∀ y ∈ L, 0 ≤ y.at_ ∧ y.at_ < l.length) → total (setAll l L) x = total l x + moreS l x L := by
  induction L with
  | nil => intro l _ _; simp [setAll, moreS]
  | cons y L ih =>
    intro l hn hb
    have hy := hb y (by simp)
    have hn' : y.at_ ∉ atsS L ∧ (atsS L).Nodup := by
      have : atsS (y :: L) = y.at_ :: atsS L := rfl
      rw [this] at hn
      exact List.nodup_cons.1 hn
    have h1 := ih (l.set y.at_.toNat y.by_) hn'.2 (fun z hz => by rw [List.length_set]; exact hb z (by simp [hz]))
    have h2 := moreS_set x y.by_ l y.at_.toNat L (fun z hz e => by
      have hz2 := hb z (by simp [hz])
      have : z.at_ = y.at_ := by omega
      exact hn'.1 (by rw [← this]; exact List.mem_map_of_mem hz))
    have h3 := total_set x y.by_ l y.at_.toNat (by omega)
    have h4 : moreS l x (y :: L) = (lossOf y.by_ x - lossOf (l.getD y.at_.toNat default) x) + moreS l x L := by simp [moreS]
    have h5 : setAll l (y :: L) = setAll (l.set y.at_.toNat y.by_) L := rfl
    rw [h5, h1, h2, h3, h4]
    omega
/-- what a set costs if it can be taken -/
def candS (p : List Part) (x : Losses) (o : Optics) (s : List Swap) (set : Nat) : Option Int :=
  if (atsS (selSw s set)).Nodup ∧ outB (o.launch - total p x - moreS p x (selSw s set)) o.least o.most = false then some (priceS (selSw s set)) else none
abbrev Chp := Option (Nat × Int)
def stepS (c : Option Int) (set : Nat) (st : Chp) : Chp := match c with
  | none => st
  | some pr => match st with
    | none => some (set, pr)
    | some (b, s) => if pr < s ∨ (pr = s ∧ befB set b = true) then some (set, pr) else some (b, s)
def cheapSt (p : List Part) (x : Losses) (o : Optics) (s : List Swap) : Nat → Chp
  | 0 => none
  | k + 1 => stepS (candS p x o s k) k (cheapSt p x o s k)
def chSet (st : Chp) : Nat := match st with | none => 0 | some (b, _) => b
def chSum (st : Chp) : Int := match st with | none => 0 | some (_, s) => s
def chIs (st : Chp) : Bool := st.isSome
def cheapV (p : List Part) (x : Losses) (o : Optics) (s : List Swap) : Chp := cheapSt p x o s (2 ^ s.length)
def cheapL (p : List Part) (x : Losses) (o : Optics) (s : List Swap) : List Int := membTo (chSet (cheapV p x o s)) s.length
theorem cheapSt_lt (p : List Part) (x : Losses) (o : Optics) (s : List Swap) : ∀ k b c, cheapSt p x o s k = some (b, c) → b < k := by
  intro k
  induction k with
  | zero => intro b c h; cases h
  | succ k ih =>
    intro b c h
    rw [cheapSt] at h
    unfold stepS at h
    split at h
    · have := ih b c h; omega
    · split at h
      · simp at h; omega
      · rename_i b' s' he
        split at h
        · simp at h; omega
        · have := ih b' s' he
          simp at h; omega
theorem priceS_bound (L : List Swap) (h : ∀ y ∈ L, 0 ≤ y.price ∧ y.price ≤ 1000000000) : 0 ≤ priceS L ∧ priceS L ≤ 1000000000 * L.length := by
  induction L with
  | nil => simp [priceS]
  | cons y L ih =>
    have h1 := ih (fun z hz => h z (by simp [hz]))
    have h2 := h y (by simp)
    have : priceS (y :: L) = y.price + priceS L := by simp [priceS]
    rw [this, List.length_cons]
    push_cast
    omega
theorem candS_price {p : List Part} {x : Losses} {o : Optics} {s : List Swap} {set : Nat} {c : Int} (hs : ∀ y ∈ s, 0 ≤ y.price ∧ y.price ≤ 1000000000) (h : candS p x o s set = some c) : 0 ≤ c ∧ c ≤ 1000000000 * s.length := by
  unfold candS at h
  split at h
  · simp only [Option.some.injEq] at h
    have h1 := priceS_bound (selSw s set) (fun y hy => hs y (selSw_mem s set y hy))
    have h2 := selSw_len s set
    omega
  · cases h
theorem memb_zeroS (k : Nat) : ∀ i, memb k i 0 = [] := by
  induction k with
  | zero => intro i; rfl
  | succ k ih => intro i; unfold memb; simp [ih]
theorem memb_more (n : Nat) : ∀ (k i s : Nat), s < 2 ^ n → memb (n + k) i s = memb n i s := by
  induction n with
  | zero =>
    intro k i s h
    have : s = 0 := by simpa using h
    subst this
    rw [memb_zeroS, memb_zeroS]
  | succ n ih =>
    intro k i s h
    rw [Nat.pow_succ] at h
    have := ih k (i + 1) (s / 2) (by omega)
    rw [show n + 1 + k = (n + k) + 1 by omega]
    unfold memb
    rw [this]
theorem popc_memb {n s : Nat} (hn : n ≤ 12) (h : s < 2 ^ n) : popc s = (membTo s n).length := by
  unfold popc
  rw [membTo_eq, show 12 = n + (12 - n) by omega, memb_more n _ 0 s h]
theorem cmpL_range : ∀ l m : List Int, cmpL l m = -1 ∨ cmpL l m = 0 ∨ cmpL l m = 1 := by
  intro l
  induction l with
  | nil => intro m; cases m <;> simp [cmpL]
  | cons x l ih =>
    intro m
    cases m with
    | nil => simp [cmpL]
    | cons y m =>
      rw [cmpL]
      split
      · simp
      · split
        · simp
        · exact ih m
/-- the same order by the lists of members -/
theorem befB_list {n a b : Nat} (hn : n ≤ 12) (ha : a < 2 ^ n) (hb : b < 2 ^ n) :
    befB a b = true ↔ ((membTo a n).length < (membTo b n).length ∨ ((membTo a n).length = (membTo b n).length ∧ cmpL (membTo a n) (membTo b n) < 0)) := by
  have h1 : ∀ s, s < 2 ^ n → memb 12 0 s = membTo s n := fun s h => by rw [membTo_eq, show 12 = n + (12 - n) by omega, memb_more n _ 0 s h]
  unfold befB
  rw [popc_memb hn ha, popc_memb hn hb]
  simp only [Bool.or_eq_true, Bool.and_eq_true, decide_eq_true_eq]
  constructor
  · rintro (h | ⟨h, hl⟩)
    · exact .inl h
    · refine .inr ⟨h, ?_⟩
      have := (cmpL_low 12 0 a b (by rw [h1 a ha, h1 b hb]; exact h)).2 hl
      rwa [h1 a ha, h1 b hb] at this
  · rintro (h | ⟨h, hl⟩)
    · exact .inl h
    · refine .inr ⟨h, ?_⟩
      refine (cmpL_low 12 0 a b (by rw [h1 a ha, h1 b hb]; exact h)).1 ?_
      rw [h1 a ha, h1 b hb]; exact hl
end Go.Proofs.YteliiknlpfjlkaaGreatDoor
/- Walk: budget.swapped. -/
set_option linter.unusedVariables false
set_option linter.unusedSimpArgs false
namespace Go.Proofs.YteliiknlpfjlkaaGreatDoor
open Go Go.RowKit
open Go.Maps (Keyed)
open Go.Maps

theorem intKeyed : Keyed Tryz.prog 3 := int_keyed Tryz.underlying3
def intV (n : Int) : Value := .int .i64 n
theorem intV_inj (a b : Int) (h : intV a = intV b) : a = b := by simpa [intV] using h
theorem intKey (n : Int) (h : (Lit.int .i64 n).wf = true) : ∃ kl, keyOf Tryz.prog 3 (intV n) = some kl := ⟨_, keyOf_int_mk Tryz.underlying3 h⟩
theorem zeroBoolI (w : World) : (zeroValue 4).run Tryz.prog w = .ok (.bool false) w := by kernel_rfl
def boolI (p : Int → Bool) (q : Int) : Option Value := if p q then some (.bool true) else none
theorem boolI_get (p : Int → Bool) (q : Int) : (boolI p q).getD (.bool false) = .bool (p q) := by unfold boolI; cases p q <;> rfl
theorem boolI_set {p p' : Int → Bool} {q : Int} (h : ∀ x, p' x = (p x || decide (x = q))) (x : Int) : setM (boolI p) q (.bool true) x = boolI p' x := by
  unfold setM boolI
  rw [h x]
  by_cases hx : x = q <;> simp [hx]
abbrev IMap (w : World) (b n : Nat) (p : Int → Bool) : Prop := MapIs Tryz.prog 3 intV w b n (boolI p)
theorem imap_start (w : World) {b : Nat} (hb : b = w.heap.size) {p : Int → Bool} (hp : ∀ q, p q = false) : IMap (w.alloc (.map #[] 0)) b 0 p := by
  subst hb
  exact (MapIs.made _ _ _ _).congr fun q => by simp [boolI, hp]
theorem and_one (s k : Nat) (hs : s < 4096) : bits BinOp.and IntKind.u64 ((s : Int) / 2 ^ k) 1 = if bitB s k = true then 1 else 0 := by
  have h1 : (s : Int) / 2 ^ k = ((s / 2 ^ k : Nat) : Int) := by push_cast; rfl
  have h2 : s / 2 ^ k ≤ s := Nat.div_le_self _ _
  rw [h1, show (1 : Int) = ((1 : Nat) : Int) from rfl, and_u _ _ (by omega) (by decide), Nat.and_one_is_mod]
  unfold bitB
  have := Nat.mod_two_eq_zero_or_one (s / 2 ^ k)
  by_cases h : s / 2 ^ k % 2 = 1
  · rw [h]; simp
  · rw [show s / 2 ^ k % 2 = 0 by omega]; simp
/-- swaps that are right -/
def SwapsOk (n : Nat) (s : List Swap) : Prop := s.length ≤ 12 ∧ ∀ y ∈ s, (0 ≤ y.at_ ∧ y.at_ < n) ∧ y.by_.Ok ∧ 0 ≤ y.price ∧ y.price ≤ 1000000000
theorem swapsOk_of {n : Nat} {s : List Swap} (h : swapsFault n s = 0) : SwapsOk n s := by
  unfold swapsFault at h
  split at h
  · omega
  refine ⟨by omega, fun y hy => ?_⟩
  have h1 := firstF_zero.1 h _ (List.mem_map_of_mem hy)
  unfold swapFault at h1
  split at h1
  · omega
  rename_i h2
  have h2' := outB_false.1 (by simpa using h2)
  split at h1
  · rename_i h3
    split at h1
    · omega
    · rename_i h4
      have h4' := outB_false.1 (by simpa using h4)
      exact ⟨⟨h2'.1, by omega⟩, partFault_zero.1 h3, h4'⟩
  · rename_i h3; exact absurd h1 h3
theorem moreS_bound {p : List Part} {x : Losses} (hp : ∀ q ∈ p, q.Ok) (hx : x.Ok) : ∀ L : List Swap, (∀ y ∈ L, (0 ≤ y.at_ ∧ y.at_ < p.length) ∧ y.by_.Ok) → -200000 * L.length ≤ moreS p x L ∧ moreS p x L ≤ 200000 * L.length := by
  intro L
  induction L with
  | nil => intro _; simp [moreS]
  | cons y L ih =>
    intro h
    have h1 := ih (fun z hz => h z (by simp [hz]))
    have h2 := h y (by simp)
    have h3 := lossOf_bound h2.2 hx
    have h4 : (p.getD y.at_.toNat default).Ok := by
      rw [List.getD_eq_getElem?_getD, List.getElem?_eq_getElem (by omega)]
      exact hp _ (List.getElem_mem _)
    have h5 := lossOf_bound h4 hx
    have h6 : moreS p x (y :: L) = (lossOf y.by_ x - lossOf (p.getD y.at_.toNat default) x) + moreS p x L := by simp [moreS]
    rw [h6, List.length_cons]
    push_cast
    omega
theorem selSw_prefix (s : List Swap) : ∀ (set k : Nat), ∃ R, selSw s set = selSw (s.take k) set ++ R := by
  induction s with
  | nil => intro set k; exact ⟨[], by simp [selSw]⟩
  | cons y s ih =>
    intro set k
    cases k with
    | zero => exact ⟨selSw (y :: s) set, by simp [selSw]⟩
    | succ k =>
      obtain ⟨R, hR⟩ := ih (set / 2) k
      refine ⟨R, ?_⟩
      rw [List.take_succ_cons, selSw, selSw, hR]
      split <;> simp
theorem dup_stop {s : List Swap} {set k : Nat} (h : k < s.length) (hb : bitB set k = true) (hd : s[k].at_ ∈ atsS (selSw (s.take k) set)) : ¬ (atsS (selSw s set)).Nodup := by
  intro hn
  obtain ⟨R, hR⟩ := selSw_prefix s set (k + 1)
  rw [hR, selSw_take s set k h, if_pos hb] at hn
  unfold atsS at hn hd
  rw [List.map_append, List.map_append] at hn
  have h2 := (List.nodup_append.1 (List.nodup_append.1 hn).1).2.2 _ hd s[k].at_ (by simp)
  exact h2 rfl
theorem priceS_snoc (S : List Swap) (y : Swap) : priceS (S ++ [y]) = priceS S + y.price := by simp [priceS]
theorem moreS_snoc (p : List Part) (x : Losses) (S : List Swap) (y : Swap) : moreS p x (S ++ [y]) = moreS p x S + (lossOf y.by_ x - lossOf (p.getD y.at_.toNat default) x) := by simp [moreS]
theorem atsS_snoc (S : List Swap) (y : Swap) : atsS (S ++ [y]) = atsS S ++ [y.at_] := by simp [atsS]
end Go.Proofs.YteliiknlpfjlkaaGreatDoor
/- Walk: budget.Cheapest. -/
set_option linter.unusedVariables false
set_option linter.unusedSimpArgs false
namespace Go.Proofs.YteliiknlpfjlkaaGreatDoor
open Go Go.RowKit

def chpF (p : List Part) (x : Losses) (o : Optics) (s : List Swap) : Int := firstF [faultF p x o, swapsFault p.length s]
def ChpPost (p : List Part) (x : Losses) (o : Optics) (s : List Swap) (w : World) (e : Ending) (w' : World) : Prop :=
  ∃ a cap L S B, e = .returned (.tuple #[.slice a L.length cap, .int .i64 S, .bool B, .int .i64 (chpF p x o s)]) ∧ w'.ownsRow w.heap.size 3 1 (.slice a L.length cap) L.length (L.map (Value.int .i64)) ∧ Below w.heap.size w w' ∧
    (chpF p x o s ≠ 0 → S = 0 ∧ B = false ∧ L = []) ∧ (chpF p x o s = 0 → S = chSum (cheapV p x o s) ∧ B = chIs (cheapV p x o s) ∧ L = cheapL p x o s)
theorem chpF_zero {p : List Part} {x : Losses} {o : Optics} {s : List Swap} : chpF p x o s = 0 ↔ faultF p x o = 0 ∧ swapsFault p.length s = 0 := by
  unfold chpF
  rw [firstF_zero]
  simp
theorem OwnI2.form {base : Nat} {W : World} {v : Value} {l : List Int} (h : W.ownsRow base 3 1 v l.length (l.map (Value.int .i64))) : ∃ a cap, v = .slice a l.length cap ∧ l.length ≤ cap ∧ cap ≤ maxLen ∧ (0 < l.length → ∃ g, a = some ⟨g, 0, none⟩) := by
  rcases h.2 with ⟨h1, h2⟩ | ⟨g, cap, cur, hv, hg, hh, hc, hm, _⟩
  · exact ⟨none, 0, by rw [h1, h2], by omega, by simp [maxLen], fun h => by omega⟩
  · exact ⟨_, cap, hv, hc, hm, fun _ => ⟨g, rfl⟩⟩
theorem own_base {B B' : Nat} {W : World} {v : Value} {e : TypeId} {n sz : Nat} {xs : List Value} (h : W.ownsRow B e sz v n xs) (hB : B' ≤ B) : W.ownsRow B' e sz v n xs := by
  rcases h with ⟨h0, h1 | ⟨g, cap, cur, hv, hg, hr⟩⟩
  · exact ⟨h0, .inl h1⟩
  · exact ⟨h0, .inr ⟨g, cap, cur, hv, Nat.le_trans hB hg, hr⟩⟩
theorem ch_cases (st : Chp) : (st = none ∧ chIs st = false) ∨ ∃ b sv, st = some (b, sv) ∧ chSet st = b ∧ chSum st = sv ∧ chIs st = true := by
  rcases st with _ | ⟨b, sv⟩
  · exact .inl ⟨rfl, rfl⟩
  · exact .inr ⟨b, sv, rfl, rfl, rfl, rfl⟩
/-- the boxes of the losses and the powers -/
structure MSt (w : World) (x : Losses) (o : Optics) (W : World) : Prop where
  bel : Below w.heap.size w W
  x : Blk W w.heap.size #[.int .i64 x.perKm, .int .i64 x.conn, .int .i64 x.dblg, .int .i64 x.exc] 29
  o : Blk W (w.heap.size + 1) #[.int .i64 o.launch, .int .i64 o.least, .int .i64 o.most] 32
theorem MSt.below {w W W' : World} {x : Losses} {o : Optics} (h : MSt w x o W) (hB : Below W.heap.size W W') : MSt w x o W' :=
  ⟨below_at h.bel hB h.bel.size, h.x.below hB h.x.lt, h.o.below hB h.o.lt⟩
end Go.Proofs.YteliiknlpfjlkaaGreatDoor
/- Plain: what the cheapest swaps do. No program. -/
set_option linter.unusedVariables false
set_option linter.unusedSimpArgs false
namespace Go.Proofs.YteliiknlpfjlkaaGreatDoor

theorem selSw_memb (t : List Swap) : ∀ (pre : List Swap) (b : Nat), selSw t b = (memb t.length pre.length b).map (fun z => (pre ++ t).getD z.toNat default) := by
  induction t with
  | nil => intro pre b; rfl
  | cons y t ih =>
    intro pre b
    have h1 := ih (pre ++ [y]) (b / 2)
    rw [List.append_assoc, List.singleton_append, List.length_append, List.length_singleton] at h1
    rw [selSw, List.length_cons, memb]
    have h2 : (pre ++ y :: t).getD ((pre.length : Int)).toNat default = y := by
      rw [Int.toNat_natCast, List.getD_eq_getElem?_getD, List.getElem?_append_right (Nat.le_refl _)]
      simp
    split
    · rw [List.map_cons, h1, h2]
    · rw [h1]
theorem selSw_members (s : List Swap) (b : Nat) : selSw s b = (membTo b s.length).map (fun z => s.getD z.toNat default) := by
  rw [membTo_eq]
  exact selSw_memb s [] b
theorem memb_bound (n b : Nat) : ∀ z ∈ membTo b n, 0 ≤ z ∧ z < n := by
  intro z hz
  rw [membTo_eq] at hz
  have := memb_ge n 0 b z hz
  omega
theorem cheapSt_cand (p : List Part) (x : Losses) (o : Optics) (s : List Swap) : ∀ k b c, cheapSt p x o s k = some (b, c) → candS p x o s b = some c := by
  intro k
  induction k with
  | zero => intro b c h; cases h
  | succ k ih =>
    intro b c h
    rw [cheapSt] at h
    unfold stepS at h
    split at h
    · exact ih b c h
    · rename_i c' pr hc
      split at h
      · simp only [Option.some.injEq, Prod.mk.injEq] at h
        obtain ⟨rfl, rfl⟩ := h
        exact hc
      · rename_i b' s' he
        split at h
        · simp only [Option.some.injEq, Prod.mk.injEq] at h
          obtain ⟨rfl, rfl⟩ := h
          exact hc
        · simp only [Option.some.injEq, Prod.mk.injEq] at h
          obtain ⟨rfl, rfl⟩ := h
          exact ih _ _ he
theorem selSw_zero (s : List Swap) : selSw s 0 = [] := by
  induction s with
  | nil => rfl
  | cons y s ih => unfold selSw; simp [ih]
theorem popc_zero : popc 0 = 0 := by decide +kernel
theorem befB_zero (k : Nat) : befB k 0 = false := by
  unfold befB
  rw [popc_zero]
  by_cases h : popc k = 0
  · have hl : lowB 12 k 0 = false := by
      cases h2 : lowB 12 k 0
      · rfl
      · exfalso
        have hk : memb 12 0 k = [] := List.length_eq_zero_iff.1 h
        have h0 : memb 12 0 0 = [] := memb_zeroS 12 0
        have := (cmpL_low 12 0 k 0 (by rw [hk, h0])).2 h2
        rw [hk, h0] at this
        simp [cmpL] at this
    simp [h, hl]
  · simp [h]
/-- nothing is swapped where it fits -/
theorem cheap_none {p : List Part} {x : Losses} {o : Optics} {s : List Swap} (hs : ∀ y ∈ s, 0 ≤ y.price ∧ y.price ≤ 1000000000) (h : outB (o.launch - total p x) o.least o.most = false) : ∀ k, cheapSt p x o s (k + 1) = some (0, 0) := by
  have h0 : candS p x o s 0 = some 0 := by
    unfold candS
    rw [selSw_zero]
    have : moreS p x [] = 0 := rfl
    rw [this, Int.sub_zero, if_pos ⟨by simp [atsS], h⟩]
    rfl
  intro k
  induction k with
  | zero => rw [cheapSt, h0]; rfl
  | succ k ih =>
    rw [cheapSt, ih]
    unfold stepS
    split
    · rfl
    · rename_i c' pr hc
      have := candS_price hs hc
      simp only
      rw [if_neg]
      rintro (h | ⟨_, h⟩)
      · omega
      · rw [befB_zero] at h; cases h
theorem cheapV_none {p : List Part} {x : Losses} {o : Optics} {s : List Swap} (hs : ∀ y ∈ s, 0 ≤ y.price ∧ y.price ≤ 1000000000) (h : outB (o.launch - total p x) o.least o.most = false) : cheapV p x o s = some (0, 0) ∧ cheapL p x o s = [] := by
  have h1 : cheapV p x o s = some (0, 0) := by
    unfold cheapV
    obtain ⟨k, hk⟩ : ∃ k, 2 ^ s.length = k + 1 := ⟨2 ^ s.length - 1, by have := Nat.one_le_two_pow (n := s.length); omega⟩
    rw [hk]; exact cheap_none hs h k
  refine ⟨h1, ?_⟩
  unfold cheapL
  rw [h1, membTo_eq]
  exact memb_zeroS _ _
/-- with what is swapped it fits, for the price -/
theorem cheap_fits {p : List Part} {x : Losses} {o : Optics} {s : List Swap} (hf : faultF p x o = 0) (hso : SwapsOk p.length s) {b : Nat} {c : Int} (h : cheapV p x o s = some (b, c)) :
    faultF (setAll p (selSw s b)) x o = 0 ∧ recvV (setAll p (selSw s b)) x o = o.launch - total p x - moreS p x (selSw s b) ∧ outB (o.launch - total p x - moreS p x (selSw s b)) o.least o.most = false ∧ c = priceS (selSw s b) ∧ (atsS (selSw s b)).Nodup := by
  have hc := cheapSt_cand p x o s _ b c h
  unfold candS at hc
  split at hc
  · rename_i hn
    simp only [Option.some.injEq] at hc
    obtain ⟨⟨hpl, hpo⟩, hx, ho⟩ := faultF_zero.1 hf
    have hf2 : faultF (setAll p (selSw s b)) x o = 0 := by
      refine faultF_zero.2 ⟨⟨by rw [setAll_len]; exact hpl, fun q hq => ?_⟩, hx, ho⟩
      rcases setAll_mem _ _ q hq with h | ⟨y, hy, rfl⟩
      · exact hpo q h
      · exact (hso.2 y (selSw_mem s b y hy)).2.1
    refine ⟨hf2, ?_, hn.2, hc.symm, hn.1⟩
    unfold recvV
    rw [if_pos hf2, total_setAll x _ p hn.1 (fun y hy => (hso.2 y (selSw_mem s b y hy)).1)]
    omega
  · cases hc
end Go.Proofs.YteliiknlpfjlkaaGreatDoor
