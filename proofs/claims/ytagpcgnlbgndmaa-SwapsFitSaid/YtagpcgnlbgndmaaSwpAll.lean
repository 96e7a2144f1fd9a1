/- Texts of one subject in one: SwapF, PlainW, Memb, SetB, SetC, PlainX, Swd, Chp, PlainY; what each shows stands at its head. No condition. -/
import Derived.Test.YtagpcgnlbgndmaaWalkB1
import Derived.Test.YtagpcgnlbgndmaaBuyAll
import Derived.Laws.BitsLemmas
import Derived.Test.YtagpcgnlbgndmaaMapB
import Derived.Test.YtagpcgnlbgndmaaWalkB3
import Derived.Test.YtagpcgnlbgndmaaOrders
import Derived.Test.YtagpcgnlbgndmaaWalkB4
import Derived.OpenShut
import Derived.Deep.CutRange
/- Plain: the error of a list of swaps. Walk: budget.swapsFault. -/
set_option linter.unusedVariables false
set_option linter.unusedSimpArgs false
namespace Go.Proofs.Ytagpcgnlbgndmaa
open Go Go.RowKit

instance : Inhabited Swap := ⟨⟨0, ⟨0, 0⟩, 0⟩⟩
def swapFault (n : Nat) (s : Swap) : Int := if outB s.at_ 0 ((n : Int) - 1) then 8 else if partFault s.by_ = 0 then (if outB s.price 0 1000000000 then 1 else 0) else partFault s.by_
def swapsFault (n : Nat) (l : List Swap) : Int := if 12 < l.length then 2 else firstF (l.map (swapFault n))
theorem swap_at {w : World} {b o : Nat} {s : Swap} (h : ∀ j u, (Swap.cells s)[j]? = some u → w.cell? ⟨b, o + j, none⟩ = some u) :
    w.cell? ⟨b, o, none⟩ = some (.int .i64 s.at_) ∧ w.cell? ⟨b, o + 1, none⟩ = some (.int .i64 s.by_.kind) ∧ w.cell? ⟨b, o + 2, none⟩ = some (.int .i64 s.by_.amt) ∧ w.cell? ⟨b, o + 3, none⟩ = some (.int .i64 s.price) :=
  ⟨h 0 _ rfl, h 1 _ rfl, h 2 _ rfl, h 3 _ rfl⟩
theorem partFault_bound (p : Part) : 0 ≤ partFault p ∧ partFault p ≤ 8 := by
  unfold partFault
  repeat' split
  all_goals omega

set_option maxHeartbeats 4000000 in
set_option maxRecDepth 100000 in
theorem swapsFault_any (vp v : Value) (p : List Part) (l : List Swap) (w : World) (hp : Arr Part.cells 2 w p vp) (h : Arr Swap.cells 4 w l v) : Calls Try.prog 112 #[vp, v] w
    fun e w' => e = .returned (.int .i64 (swapsFault p.length l)) ∧ Below w.heap.size w w' := by
  obtain ⟨ap, capp, rfl, hcapp, hmaxp, -⟩ := hp
  obtain ⟨a, cap, rfl, hcap, hmax, hc⟩ := h
  have hplen : p.length ≤ maxLen := by omega
  have hlen : l.length ≤ maxLen := by omega
  unfold maxLen at hlen hmax hmaxp hplen
  by_cases hbig : 12 < l.length
  · go_enter Try.func112, Try.ntmps112
    go_wp2
    go_ret
    exact ⟨ret_int (by simp [swapsFault, hbig]), by (repeat (first | exact Below.refl _ _ | assumption | refine below_draws ?_ _ | refine Below.drew ?_ | refine below_alloc ?_ _ (by first | omega | (simp; done) | (simp; omega)) | refine Below.setCell ?_ (by first | omega | (simp; done) | (simp; omega)) _ | refine below_at ?_ (by assumption) (by first | omega | (simp; done) | (simp; omega))))⟩
  have hwn : IntKind.i64.wrap ((p.length : Int) - 1) = (p.length : Int) - 1 := IntWalk.i64_in _ (by omega)
  go_enter Try.func112, Try.ntmps112
  go_wp2
  go_loopw [13] (fun i wr => ∃ k : Nat, k ≤ l.length ∧ i = .int .i64 k ∧ firstF ((l.map (swapFault p.length)).take k) = 0 ∧ Below w.heap.size w wr) (fun i _ => l.length - (intOf i).toNat)
  case atStart => exact ⟨0, by omega, rfl, rfl, Below.refl _ _⟩
  case round =>
    obtain ⟨k, hk, rfl, hz, hB⟩ := hrel
    have HZ := Lib.hid hz
    clear hz
    have hsz := hB.size
    by_cases hlt : k < l.length
    · obtain ⟨b, off, rfl, hb, hcc⟩ := hc k hlt
      obtain ⟨c0, c1, c2, c3⟩ := swap_at hcc
      replace c0 := (hB.cell (p := ⟨b, _, none⟩) hb).trans c0
      replace c1 := (hB.cell (p := ⟨b, _, none⟩) hb).trans c1
      replace c2 := (hB.cell (p := ⟨b, _, none⟩) hb).trans c2
      replace c3 := (hB.cell (p := ⟨b, _, none⟩) hb).trans c3
      clear hc hcc
      have hlt' : k < (l.map (swapFault p.length)).length := by simpa using hlt
      cases h1 : outB l[k].at_ 0 ((p.length : Int) - 1)
      · by_cases hx : partFault l[k].by_ = 0
        · have hx' : (partFault l[k].by_ != 0) = false := by simp [hx]
          cases h2 : outB l[k].price 0 1000000000
          · have HV : Hid (swapFault p.length l[k] = 0) := by unfold Hid swapFault; rw [h1, h2, hx]; rfl
            clear hx
            go_wp2_with (first | (go_at_call 83; refine (out_any _ _ _ _).mono ?_; rintro e w' ⟨rfl, rfl⟩) | (go_at_call 138; refine (partFault_any _ _).mono ?_; rintro e w1 ⟨rfl, hb1⟩; have hd1 := bcellAt hb1 wr.heap.size (by first | omega | (simp; done) | (simp; omega))))
            go_roundw
            case rel => exact ⟨k + 1, by omega, by go_num, by rw [firstF_take_succ _ k hlt' HZ.out]; simpa using HV.out, by (repeat (first | exact Below.refl _ _ | assumption | refine below_draws ?_ _ | refine Below.drew ?_ | refine below_alloc ?_ _ (by first | omega | (simp; done) | (simp; omega)) | refine Below.setCell ?_ (by first | omega | (simp; done) | (simp; omega)) _ | refine below_at ?_ (by assumption) (by first | omega | (simp; done) | (simp; omega))))⟩
            case measure => simp [intOf]; omega
          · have HV : Hid (swapFault p.length l[k] = 1) := by unfold Hid swapFault; rw [h1, h2, hx]; rfl
            clear hx
            go_wp2_with (first | (go_at_call 83; refine (out_any _ _ _ _).mono ?_; rintro e w' ⟨rfl, rfl⟩) | (go_at_call 138; refine (partFault_any _ _).mono ?_; rintro e w1 ⟨rfl, hb1⟩; have hd1 := bcellAt hb1 wr.heap.size (by first | omega | (simp; done) | (simp; omega))))
            (go_ret; exact ⟨ret_int (by unfold swapsFault; rw [if_neg hbig, firstF_hit _ k hlt' HZ.out (by simp [HV.out])]; simp [HV.out]), by (repeat (first | exact Below.refl _ _ | assumption | refine below_draws ?_ _ | refine Below.drew ?_ | refine below_alloc ?_ _ (by first | omega | (simp; done) | (simp; omega)) | refine Below.setCell ?_ (by first | omega | (simp; done) | (simp; omega)) _ | refine below_at ?_ (by assumption) (by first | omega | (simp; done) | (simp; omega))))⟩)
        · have hx' : (partFault l[k].by_ != 0) = true := by simp [hx]
          have HV : Hid (swapFault p.length l[k] = partFault l[k].by_) := by unfold Hid swapFault; rw [h1, if_neg hx]; rfl
          have HX := Lib.hid hx
          clear hx
          go_wp2_with (first | (go_at_call 83; refine (out_any _ _ _ _).mono ?_; rintro e w' ⟨rfl, rfl⟩) | (go_at_call 138; refine (partFault_any _ _).mono ?_; rintro e w1 ⟨rfl, hb1⟩; have hd1 := bcellAt hb1 wr.heap.size (by first | omega | (simp; done) | (simp; omega))))
          go_ret
          exact ⟨ret_int (by unfold swapsFault; rw [if_neg hbig, firstF_hit _ k hlt' HZ.out (by rw [List.getElem_map, HV.out]; exact HX.out)]; simp [HV.out]), by (repeat (first | exact Below.refl _ _ | assumption | refine below_draws ?_ _ | refine Below.drew ?_ | refine below_alloc ?_ _ (by first | omega | (simp; done) | (simp; omega)) | refine Below.setCell ?_ (by first | omega | (simp; done) | (simp; omega)) _ | refine below_at ?_ (by assumption) (by first | omega | (simp; done) | (simp; omega))))⟩
      · have HV : Hid (swapFault p.length l[k] = 8) := by unfold Hid swapFault; rw [h1]; rfl
        go_wp2_with (first | (go_at_call 83; refine (out_any _ _ _ _).mono ?_; rintro e w' ⟨rfl, rfl⟩) | (go_at_call 138; refine (partFault_any _ _).mono ?_; rintro e w1 ⟨rfl, hb1⟩; have hd1 := bcellAt hb1 wr.heap.size (by first | omega | (simp; done) | (simp; omega))))
        (go_ret; exact ⟨ret_int (by unfold swapsFault; rw [if_neg hbig, firstF_hit _ k hlt' HZ.out (by simp [HV.out])]; simp [HV.out]), by (repeat (first | exact Below.refl _ _ | assumption | refine below_draws ?_ _ | refine Below.drew ?_ | refine below_alloc ?_ _ (by first | omega | (simp; done) | (simp; omega)) | refine Below.setCell ?_ (by first | omega | (simp; done) | (simp; omega)) _ | refine below_at ?_ (by assumption) (by first | omega | (simp; done) | (simp; omega))))⟩)
    · go_wp2
      go_ret
      exact ⟨ret_int (by have := HZ.out; rw [List.take_of_length_le (by simp; omega)] at this; unfold swapsFault; rw [if_neg hbig, this]), by (repeat (first | exact Below.refl _ _ | assumption | refine below_draws ?_ _ | refine Below.drew ?_ | refine below_alloc ?_ _ (by first | omega | (simp; done) | (simp; omega)) | refine Below.setCell ?_ (by first | omega | (simp; done) | (simp; omega)) _ | refine below_at ?_ (by assumption) (by first | omega | (simp; done) | (simp; omega))))⟩
end Go.Proofs.Ytagpcgnlbgndmaa
/- Plain: sets of swaps as numbers; which set comes first. No program. -/
set_option linter.unusedVariables false
set_option linter.unusedSimpArgs false
namespace Go.Proofs.Ytagpcgnlbgndmaa

/-- the members of a set of n, the first of them is number i -/
def memb : Nat → Nat → Nat → List Int
  | 0, _, _ => []
  | n + 1, i, s => if s % 2 = 1 then (i : Int) :: memb n (i + 1) (s / 2) else memb n (i + 1) (s / 2)
theorem memb_ge (n : Nat) : ∀ (i s : Nat), ∀ x ∈ memb n i s, (i : Int) ≤ x ∧ x < (i : Int) + n := by
  induction n with
  | zero => intro i s x h; simp [memb] at h
  | succ n ih =>
    intro i s x h
    unfold memb at h
    split at h
    · rcases List.mem_cons.1 h with rfl | h
      · omega
      · have := ih _ _ x h; omega
    · have := ih _ _ x h; omega
def bitB (s k : Nat) : Bool := decide (s / 2 ^ k % 2 = 1)
theorem memb_range (n : Nat) : ∀ (i s : Nat), memb n i s = ((List.range n).filter (bitB s)).map (fun k => ((i + k : Nat) : Int)) := by
  induction n with
  | zero => intro i s; rfl
  | succ n ih =>
    intro i s
    rw [List.range_succ_eq_map, List.filter_cons, List.filter_map]
    unfold memb
    rw [ih]
    have h0 : bitB s 0 = decide (s % 2 = 1) := by simp [bitB]
    have h1 : bitB s ∘ Nat.succ = bitB (s / 2) := by
      funext k
      simp only [Function.comp, bitB, Nat.div_div_eq_div_mul, Nat.succ_eq_add_one, Nat.pow_succ, Nat.mul_comm]
    rw [h0, h1]
    have h2 : ((fun k => ((i + k : Nat) : Int)) ∘ Nat.succ) = fun k => ((i + 1 + k : Nat) : Int) := by
      funext k
      simp only [Function.comp, Nat.succ_eq_add_one]
      congr 1; omega
    by_cases hs : s % 2 = 1 <;> simp [hs, h2, List.map_map] <;> (intros; omega)
/-- members among the first k -/
def membTo (s k : Nat) : List Int := ((List.range k).filter (bitB s)).map (fun k => ((k : Nat) : Int))
theorem membTo_eq (s n : Nat) : membTo s n = memb n 0 s := by rw [memb_range]; simp [membTo]
theorem membTo_succ (s k : Nat) : membTo s (k + 1) = if bitB s k = true then membTo s k ++ [(k : Int)] else membTo s k := by
  unfold membTo
  rw [List.range_succ, List.filter_append, List.map_append]
  by_cases h : bitB s k = true <;> simp [h, List.filter]

/-- slices.Compare -/
def cmpL : List Int → List Int → Int
  | [], [] => 0
  | [], _ :: _ => -1
  | _ :: _, [] => 1
  | x :: l, y :: m => if x < y then -1 else if y < x then 1 else cmpL l m
/-- of the lowest bit in which they differ, a has it -/
def lowB : Nat → Nat → Nat → Bool
  | 0, _, _ => false
  | n + 1, a, b => if a % 2 = b % 2 then lowB n (a / 2) (b / 2) else decide (a % 2 = 1)
theorem cmpL_low (n : Nat) : ∀ (i a b : Nat), (memb n i a).length = (memb n i b).length → (cmpL (memb n i a) (memb n i b) < 0 ↔ lowB n a b = true) := by
  induction n with
  | zero => intro i a b _; simp [memb, cmpL, lowB]
  | succ n ih =>
    intro i a b hl
    unfold memb at hl
    unfold memb lowB
    by_cases ha : a % 2 = 1 <;> by_cases hb : b % 2 = 1
    · rw [if_pos ha, if_pos hb] at hl ⊢
      rw [if_pos (by omega), cmpL, if_neg (by omega), if_neg (by omega)]
      exact ih (i + 1) (a / 2) (b / 2) (by simpa using hl)
    · rw [if_pos ha, if_neg hb] at hl ⊢
      rw [if_neg (by omega)]
      cases hm : memb n (i + 1) (b / 2) with
      | nil => rw [hm] at hl; simp at hl
      | cons y m =>
        have := memb_ge n (i + 1) (b / 2) y (by rw [hm]; simp)
        rw [cmpL, if_pos (by omega)]
        simp [ha]
    · rw [if_neg ha, if_pos hb] at hl ⊢
      rw [if_neg (by omega)]
      cases hm : memb n (i + 1) (a / 2) with
      | nil => rw [hm] at hl; simp at hl
      | cons y m =>
        have := memb_ge n (i + 1) (a / 2) y (by rw [hm]; simp)
        rw [cmpL, if_neg (by omega), if_pos (by omega)]
        simp [ha]
    · rw [if_neg ha, if_neg hb] at hl ⊢
      rw [if_pos (by omega)]
      exact ih (i + 1) (a / 2) (b / 2) hl
/-- the same by one formula -/
theorem and_half (a b : Nat) : (a &&& b) / 2 = a / 2 &&& b / 2 := by
  apply Nat.eq_of_testBit_eq; intro i; simp [Nat.testBit_div_two]
theorem and_par (a b : Nat) : (a &&& b) % 2 = if a % 2 = 1 ∧ b % 2 = 1 then 1 else 0 := by
  have h := Nat.and_mod_two_eq_one (a := a) (b := b)
  split
  · rename_i h1; exact h.2 h1
  · rename_i h1
    have := Nat.mod_two_eq_zero_or_one (a &&& b)
    have h2 : ¬ (a &&& b) % 2 = 1 := fun h3 => h1 (h.1 h3)
    omega
theorem xor_half (a b : Nat) : (a ^^^ b) / 2 = a / 2 ^^^ b / 2 := by
  apply Nat.eq_of_testBit_eq; intro i; simp [Nat.testBit_div_two]
theorem xor_par (a b : Nat) : (a ^^^ b) % 2 = if a % 2 = b % 2 then 0 else 1 := by
  have h := Nat.xor_mod_two_eq_one (a := a) (b := b)
  have h1 := Nat.mod_two_eq_zero_or_one (a ^^^ b)
  have h2 := Nat.mod_two_eq_zero_or_one a
  have h3 := Nat.mod_two_eq_zero_or_one b
  split
  · have h4 : ¬ (a ^^^ b) % 2 = 1 := fun h5 => (h.1 h5) (by omega)
    omega
  · refine h.2 (fun h5 => ?_)
    omega
theorem nat_half {a b : Nat} (h : a / 2 = b / 2) (h2 : a % 2 = b % 2) : a = b := by omega
theorem and_compl (k : Nat) : ∀ e, e < 2 ^ k → e &&& (2 ^ k - 1 - e) = 0 := by
  induction k with
  | zero => intro e h; have : e = 0 := by simpa using h
            subst this; rfl
  | succ k ih =>
    intro e h
    rw [Nat.pow_succ] at *
    have h1 := ih (e / 2) (by omega)
    refine nat_half ?_ ?_
    · rw [and_half, show (2 ^ k * 2 - 1 - e) / 2 = 2 ^ k - 1 - e / 2 by omega, h1]
    · rw [and_par, if_neg (by omega)]
theorem low_bit (k : Nat) (d : Nat) (h : d < 2 ^ (k + 1)) (ho : d % 2 = 1) : d &&& (2 ^ (k + 1) - d) = 1 := by
  rw [Nat.pow_succ] at *
  refine nat_half ?_ ?_
  · rw [and_half, show (2 ^ k * 2 - d) / 2 = 2 ^ k - 1 - d / 2 by omega, and_compl k _ (by omega)]
  · rw [and_par, if_pos (by omega)]
theorem xor_lt {a b k : Nat} (ha : a < 2 ^ k) (hb : b < 2 ^ k) : a ^^^ b < 2 ^ k := Nat.xor_lt_two_pow ha hb
theorem low_eq (n : Nat) : ∀ (k a b : Nat), a < 2 ^ n → b < 2 ^ n → n ≤ k → ((a &&& ((a ^^^ b) &&& (2 ^ (k + 1) - (a ^^^ b)))) ≠ 0 ↔ lowB n a b = true) := by
  induction n with
  | zero =>
    intro k a b ha hb _
    have h1 : a = 0 := by simpa using ha
    subst h1
    simp [lowB]
  | succ n ih =>
    intro k a b ha hb hk
    obtain ⟨j, rfl⟩ : ∃ j, k = j + 1 := ⟨k - 1, by omega⟩
    have hx : a ^^^ b < 2 ^ (n + 1) := xor_lt ha hb
    have hle : 2 ^ (n + 1) ≤ 2 ^ (j + 1) := Nat.pow_le_pow_right (by omega) hk
    unfold lowB
    by_cases hp : a % 2 = b % 2
    · rw [if_pos hp]
      have hd : (a ^^^ b) % 2 = 0 := by rw [xor_par, if_pos hp]
      rw [Nat.pow_succ] at ha hb
      have h1 := ih j (a / 2) (b / 2) (by omega) (by omega) (by omega)
      rw [← h1, ← xor_half]
      generalize a ^^^ b = d at *
      have e2 : (2 ^ (j + 1) * 2 - d) / 2 = 2 ^ (j + 1) - d / 2 := by omega
      have e3 : (a &&& (d &&& (2 ^ (j + 1) * 2 - d))) % 2 = 0 := by rw [and_par, and_par, if_neg]; rw [if_neg (by omega)]; omega
      have e4 : (a &&& (d &&& (2 ^ (j + 1) * 2 - d))) / 2 = a / 2 &&& (d / 2 &&& (2 ^ (j + 1) - d / 2)) := by rw [and_half, and_half, e2]
      rw [Nat.pow_succ 2 (j + 1)]
      omega
    · rw [if_neg hp]
      have hd : (a ^^^ b) % 2 = 1 := by rw [xor_par, if_neg hp]
      rw [low_bit (j + 1) _ (by rw [Nat.pow_succ 2 (j + 1)]; omega) hd, Nat.and_one_is_mod]
      simp
end Go.Proofs.Ytagpcgnlbgndmaa
/- Walks: the members of a set; which set comes first. -/
set_option linter.unusedVariables false
set_option linter.unusedSimpArgs false
namespace Go.Proofs.Ytagpcgnlbgndmaa
open Go Go.RowKit

theorem bit_int (s k : Nat) : (((s : Int) / 2 ^ k).tmod 2 == 1) = bitB s k := by
  have h1 : (s : Int) / 2 ^ k = ((s / 2 ^ k : Nat) : Int) := by push_cast; rfl
  have h2 : (((s / 2 ^ k : Nat) : Int)).tmod 2 = ((s / 2 ^ k % 2 : Nat) : Int) := rfl
  rw [h1, h2]
  unfold bitB
  have := Nat.mod_two_eq_zero_or_one (s / 2 ^ k)
  by_cases h : s / 2 ^ k % 2 = 1
  · rw [h]; rfl
  · rw [decide_eq_false h, beq_eq_false_iff_ne]; omega
theorem membTo_len (s k : Nat) : (membTo s k).length ≤ k := by
  unfold membTo
  rw [List.length_map]
  have := List.length_filter_le (bitB s) (List.range k)
  rwa [List.length_range] at this
set_option maxHeartbeats 4000000 in
set_option maxRecDepth 100000 in
theorem members_any (set n : Nat) (w : World) (hs : set < 4096) (hn : n ≤ 12) : Calls Try.prog 115 #[.int .i64 set, .int .i64 n] w
    fun e w' => ∃ v, e = .returned v ∧ Arr intCells 1 w' (membTo set n) v ∧ Below w.heap.size w w' := by
  obtain ⟨i0, hi, hz0, hz1, hz2⟩ := info_parts infoIntB
  go_enter Try.func115, Try.ntmps115
  go_wp2
  go_loopw [5, 8] (fun ov i wr => ∃ k : Nat, k ≤ n ∧ i = .int .i64 k ∧ wr.ownsRow w.heap.size 3 1 ov (membTo set k).length ((membTo set k).map (Value.int .i64)) ∧ Below w.heap.size w wr) (fun _ i _ => n - (intOf i).toNat)
  case atStart => exact ⟨0, by omega, rfl, World.ownsRow_nil _ _ _ _, Below.refl _ _⟩
  case round =>
    obtain ⟨k, hk, rfl, hown, hB⟩ := hrel
    have hsz := hB.size
    have HO := Lib.hid (And.intro hown hB)
    clear hown hB
    by_cases hlt : k < n
    · have hb := bit_int set k
      have hsc := membTo_succ set k
      have hml := membTo_len set k
      cases hbk : bitB set k
      · rw [hbk] at hb hsc
        have HSC := Lib.hid hsc
        clear hsc hbk
        go_wp2
        go_roundw
        case rel => exact ⟨k + 1, by omega, by go_num, by rw [HSC.out]; exact HO.out.1, HO.out.2⟩
        case measure => simp [intOf]; omega
      · rw [hbk] at hb hsc
        rw [if_pos rfl] at hsc
        have HSC := Lib.hid hsc
        clear hsc hbk
        go_wp2_with ((at_builtin; go_must (refine wpList_append_own _ rfl _ _ 22 rfl _ 3 _ (.int .i64 0) 1 8 Try.underlying22 hi hz0 hz1 hz2 rfl (by decide) _ _ _ rfl (HO.out.1.alloc _) ⟨wr.heap.size, 0, none⟩ 1 1 [.int .i64 (k : Int)] rfl rfl (by exact news_at (by first | rfl | simp) (by rfl)) (by simp [Value.oneCell']) (by unfold maxLen; omega) (by omega) (by first | omega | (simp; done) | (simp; omega)) ?_)); intro v' w4 hown4 hg4 _)
        go_roundw
        case rel => exact ⟨k + 1, by omega, by go_num, by rw [HSC.out, List.length_append, List.map_append]; exact hown4, below_grown (by have := HO.out.2; (repeat (first | exact Below.refl _ _ | assumption | refine below_draws ?_ _ | refine Below.drew ?_ | refine below_alloc ?_ _ (by first | omega | (simp; done) | (simp; omega)) | refine Below.setCell ?_ (by first | omega | (simp; done) | (simp; omega)) _ | refine below_at ?_ (by assumption) (by first | omega | (simp; done) | (simp; omega))))) (HO.out.1.alloc (.cells #[.int .i64 (k : Int)] 3)) hg4 (Nat.le_refl _) (by simp; omega)⟩
        case measure => simp [intOf]; omega
    · obtain rfl : k = n := by omega
      go_wp2
      go_ret
      exact ⟨_, rfl, Arr.of_ints HO.out.1, HO.out.2⟩
end Go.Proofs.Ytagpcgnlbgndmaa
/- Walks: which of two sets comes first. -/
set_option linter.unusedVariables false
set_option linter.unusedSimpArgs false
namespace Go.Proofs.Ytagpcgnlbgndmaa
open Go Go.RowKit

def popc (s : Nat) : Nat := (memb 12 0 s).length
def oc1 (x : Int) : Int := IntKind.u64.wrap (bits BinOp.and IntKind.u64 (x / 2) 6148914691236517205 + bits BinOp.and IntKind.u64 x 6148914691236517205)
def oc2 (x : Int) : Int := IntKind.u64.wrap (bits BinOp.and IntKind.u64 (x / 4) 3689348814741910323 + bits BinOp.and IntKind.u64 x 3689348814741910323)
def oc3 (x : Int) : Int := bits BinOp.and IntKind.u64 (IntKind.u64.wrap (x / 16 + x)) 1085102592571150095
def oc4 (x : Int) : Int := IntKind.u64.wrap (x + x / 256)
def oc5 (x : Int) : Int := IntKind.u64.wrap (x + x / 65536)
def oc6 (x : Int) : Int := IntKind.u64.wrap (x + x / 4294967296)
theorem ones_tab : ∀ a : Nat, a < 64 → ∀ b : Nat, b < 64 → bits BinOp.and IntKind.i64 (wrap64 (oc6 (oc5 (oc4 (oc3 (oc2 (oc1 ((64 * a + b : Nat) : Int)))))))) 127 = (popc (64 * a + b) : Int) := by decide +kernel
theorem ones_eq (s : Nat) (h : s < 4096) : bits BinOp.and IntKind.i64 (wrap64 (oc6 (oc5 (oc4 (oc3 (oc2 (oc1 s))))))) 127 = (popc s : Int) := by
  have := ones_tab (s / 64) (by omega) (s % 64) (by omega)
  rwa [show 64 * (s / 64) + s % 64 = s by omega] at this
set_option maxHeartbeats 4000000 in
set_option maxRecDepth 100000 in
theorem ones_any (s : Nat) (w : World) (hs : s < 4096) : Calls Try.prog 172 #[.int .u64 s] w
    fun e w' => e = .returned (.int .i64 (popc s)) ∧ w = w' := by
  go_enter Try.func172, Try.ntmps172
  go_wp2
  go_ret
  exact ⟨ret_int (ones_eq s hs), rfl⟩
end Go.Proofs.Ytagpcgnlbgndmaa
/- Walk: base.SetBefore. -/
set_option linter.unusedVariables false
set_option linter.unusedSimpArgs false
namespace Go.Proofs.Ytagpcgnlbgndmaa
open Go Go.RowKit

theorem wrap_u (n : Int) (h₀ : 0 ≤ n) (h₁ : n < 2 ^ 64) : IntKind.u64.wrap n = n := by rw [IntKind.wrap_u64]; omega
theorem and_u (a b : Nat) (ha : a < 2 ^ 64) (hb : b < 2 ^ 64) : bits BinOp.and IntKind.u64 a b = ((a &&& b : Nat) : Int) := (bits_nat .u64 64 (by decide) wrap_u a b ha hb).1
theorem xor_u (a b : Nat) (ha : a < 2 ^ 64) (hb : b < 2 ^ 64) : bits BinOp.xor IntKind.u64 a b = ((a ^^^ b : Nat) : Int) := by
  have ha' : a % 2 ^ 64 = a := Nat.mod_eq_of_lt ha
  have hb' : b % 2 ^ 64 = b := Nat.mod_eq_of_lt hb
  have h := Nat.xor_lt_two_pow ha hb
  have e : bits BinOp.xor IntKind.u64 a b = IntKind.u64.wrap (((BitVec.ofInt 64 a) ^^^ (BitVec.ofInt 64 b)).toNat : Int) := rfl
  rw [e]
  simp only [BitVec.ofInt_natCast, BitVec.toNat_xor, BitVec.toNat_ofNat, ha', hb']
  exact wrap_u _ (Int.natCast_nonneg _) (by exact_mod_cast h)
/-- fewer members, or as many, and of the lowest in which they differ -/
def befB (a b : Nat) : Bool := decide (popc a < popc b) || (decide (popc a = popc b) && lowB 12 a b)
theorem popc_le (s : Nat) : popc s ≤ 12 := by
  unfold popc
  have : ∀ n i s, (memb n i s).length ≤ n := by
    intro n
    induction n with
    | zero => intro i s; simp [memb]
    | succ n ih =>
      intro i s
      unfold memb
      have := ih (i + 1) (s / 2)
      split <;> simp <;> omega
  exact this 12 0 s
theorem low_u (a b : Nat) (ha : a < 4096) (hb : b < 4096) :
    (bits BinOp.and IntKind.u64 (a : Int) (bits BinOp.and IntKind.u64 (bits BinOp.xor IntKind.u64 (a : Int) (b : Int)) (IntKind.u64.wrap (-(bits BinOp.xor IntKind.u64 (a : Int) (b : Int))))) != 0) = lowB 12 a b := by
  have hx : a ^^^ b < 4096 := Nat.xor_lt_two_pow (n := 12) ha hb
  rw [xor_u a b (by omega) (by omega)]
  have hlow : (a &&& ((a ^^^ b) &&& (2 ^ 64 - (a ^^^ b)))) ≠ 0 ↔ lowB 12 a b = true := low_eq 12 63 a b ha hb (by omega)
  by_cases hd : a ^^^ b = 0
  · have hl : lowB 12 a b = false := by
      cases h : lowB 12 a b
      · rfl
      · exact absurd (hlow.2 h) (by rw [hd]; simp)
    rw [hd, hl]
    have : IntKind.u64.wrap (-((0 : Nat) : Int)) = ((0 : Nat) : Int) := by decide
    rw [this, and_u 0 0 (by decide) (by decide), and_u a _ (by omega) (by decide)]
    simp
  · have hn : IntKind.u64.wrap (-((a ^^^ b : Nat) : Int)) = ((2 ^ 64 - (a ^^^ b) : Nat) : Int) := by
      rw [IntKind.wrap_u64]; omega
    rw [hn, and_u _ _ (by omega) (by omega)]
    have h2 : (a ^^^ b) &&& (2 ^ 64 - (a ^^^ b)) < 2 ^ 64 := Nat.lt_of_le_of_lt Nat.and_le_left (by omega)
    rw [and_u a _ (by omega) h2]
    cases hl : lowB 12 a b
    · have : (a &&& ((a ^^^ b) &&& (2 ^ 64 - (a ^^^ b)))) = 0 := Classical.byContradiction fun h => by have := hlow.1 h; rw [hl] at this; cases this
      rw [this]; rfl
    · have := hlow.2 hl
      rw [bne_iff_ne]; omega

set_option maxHeartbeats 4000000 in
set_option maxRecDepth 100000 in
theorem onesCount_any (s : Nat) (w : World) (hs : s < 4096) : Calls Try.prog 146 #[.int .u64 s] w
    fun e w' => e = .returned (.int .i64 (popc s)) ∧ w = w' := by
  go_enter Try.func146, Try.ntmps146
  go_wp2_with (go_at_call 172; refine (ones_any s _ hs).mono ?_; rintro e w' ⟨rfl, rfl⟩)
  go_ret
  exact ⟨rfl, rfl⟩
set_option maxHeartbeats 4000000 in
set_option maxRecDepth 100000 in
theorem setBefore_any (a b : Nat) (w : World) (ha : a < 4096) (hb : b < 4096) : Calls Try.prog 114 #[.int .u64 a, .int .u64 b] w
    fun e w' => e = .returned (.bool (befB a b)) ∧ w = w' := by
  have h1 := popc_le a
  have h2 := popc_le b
  have hl := low_u a b ha hb
  have HF : Hid (befB a b = (decide (popc a < popc b) || (decide (popc a = popc b) && lowB 12 a b))) := Lib.hid rfl
  generalize befB a b = bf at *
  generalize hp : popc a = pa at *
  generalize hq : popc b = pb at *
  have HP := Lib.hid (And.intro hp hq)
  clear hp hq
  by_cases hlt : pa < pb
  · have t1 : decide ((pa : Int) - pb < 0) = true := by simp; omega
    have HB : Hid (bf = true) := Lib.hid (by rw [HF.out]; simp [hlt])
    go_enter Try.func114, Try.ntmps114
    go_wp2_with (go_at_call 146; first | (refine (onesCount_any a _ ha).mono ?_; rintro e w' ⟨rfl, rfl⟩; rw [HP.out.1]) | (refine (onesCount_any b _ hb).mono ?_; rintro e w' ⟨rfl, rfl⟩; rw [HP.out.2]))
    go_ret
    exact ⟨ret_bool HB.out.symm, rfl⟩
  · have t1 : decide ((pa : Int) - pb < 0) = false := by simp; omega
    by_cases heq : pa = pb
    · have t2 : (((pa : Int) - pb) == 0) = true := by rw [beq_iff_eq]; omega
      have t3 : (pa : Int) - pb = 0 := by omega
      have HB : Hid (bf = lowB 12 a b) := Lib.hid (by rw [HF.out]; simp [hlt, heq])
      clear heq
      go_enter Try.func114, Try.ntmps114
      go_wp2_with (go_at_call 146; first | (refine (onesCount_any a _ ha).mono ?_; rintro e w' ⟨rfl, rfl⟩; rw [HP.out.1]) | (refine (onesCount_any b _ hb).mono ?_; rintro e w' ⟨rfl, rfl⟩; rw [HP.out.2]))
      go_ret
      exact ⟨ret_bool HB.out.symm, rfl⟩
    · have t2 : (((pa : Int) - pb) == 0) = false := by rw [beq_eq_false_iff_ne]; omega
      have t3 : ¬ (pa : Int) - pb = 0 := by omega
      have HB : Hid (bf = false) := Lib.hid (by rw [HF.out]; simp [hlt, heq])
      go_enter Try.func114, Try.ntmps114
      go_wp2_with (go_at_call 146; first | (refine (onesCount_any a _ ha).mono ?_; rintro e w' ⟨rfl, rfl⟩; rw [HP.out.1]) | (refine (onesCount_any b _ hb).mono ?_; rintro e w' ⟨rfl, rfl⟩; rw [HP.out.2]))
      go_ret
      exact ⟨ret_bool HB.out.symm, rfl⟩
end Go.Proofs.Ytagpcgnlbgndmaa
/- Plain: sets of swaps; what they cost and lose; the cheapest. No program. -/
set_option linter.unusedVariables false
set_option linter.unusedSimpArgs false
namespace Go.Proofs.Ytagpcgnlbgndmaa

/-- the swaps of a set -/
def selSw : List Swap → Nat → List Swap
  | [], _ => []
  | y :: s, set => if set % 2 = 1 then y :: selSw s (set / 2) else selSw s (set / 2)
theorem bitB_succ (s k : Nat) : bitB s (k + 1) = bitB (s / 2) k := by
  unfold bitB
  rw [Nat.pow_succ, Nat.mul_comm, ← Nat.div_div_eq_div_mul]
theorem bitB_zero (s : Nat) : bitB s 0 = decide (s % 2 = 1) := by unfold bitB; simp
theorem selSw_take (s : List Swap) : ∀ (set k : Nat) (h : k < s.length), selSw (s.take (k + 1)) set = selSw (s.take k) set ++ (if bitB set k = true then [s[k]] else []) := by
  induction s with
  | nil => intro set k h; simp at h
  | cons y s ih =>
    intro set k h
    cases k with
    | zero =>
      simp only [List.take_succ_cons, List.take_zero, List.getElem_cons_zero]
      rw [bitB_zero]
      unfold selSw
      by_cases hb : set % 2 = 1 <;> simp [hb, selSw]
    | succ k =>
      have := ih (set / 2) k (by simpa using h)
      simp only [List.take_succ_cons, List.getElem_cons_succ] at this ⊢
      rw [bitB_succ]
      rw [selSw, selSw]
      by_cases hb : set % 2 = 1
      · rw [if_pos hb, if_pos hb, this]; rfl
      · rw [if_neg hb, if_neg hb, this]
theorem selSw_mem (s : List Swap) : ∀ (set : Nat), ∀ y ∈ selSw s set, y ∈ s := by
  induction s with
  | nil => intro set y h; simp [selSw] at h
  | cons a s ih =>
    intro set y h
    unfold selSw at h
    split at h
    · rcases List.mem_cons.1 h with rfl | h
      · simp
      · exact List.mem_cons_of_mem _ (ih _ y h)
    · exact List.mem_cons_of_mem _ (ih _ y h)
theorem selSw_len (s : List Swap) : ∀ (set : Nat), (selSw s set).length ≤ s.length := by
  induction s with
  | nil => intro set; simp [selSw]
  | cons a s ih =>
    intro set
    unfold selSw
    have := ih (set / 2)
    split <;> simp <;> omega
def atsS (L : List Swap) : List Int := L.map (·.at_)
def priceS (L : List Swap) : Int := (L.map (·.price)).sum
def moreS (p : List Part) (x : Losses) (L : List Swap) : Int := (L.map fun y => lossOf y.by_ x - lossOf (p.getD y.at_.toNat default) x).sum
def swappedV (p : List Part) (x : Losses) (s : List Swap) (set : Nat) : Int × Int × Bool :=
  if (atsS (selSw s set)).Nodup then (priceS (selSw s set), moreS p x (selSw s set), true) else (0, 0, false)
def setAll (l : List Part) (L : List Swap) : List Part := L.foldl (fun l y => l.set y.at_.toNat y.by_) l
theorem setAll_len (L : List Swap) : ∀ l : List Part, (setAll l L).length = l.length := by
  induction L with
  | nil => intro l; rfl
  | cons y L ih => intro l; unfold setAll at *; rw [List.foldl_cons, ih]; simp
theorem setAll_mem (L : List Swap) : ∀ l : List Part, ∀ q ∈ setAll l L, q ∈ l ∨ ∃ y ∈ L, q = y.by_ := by
  induction L with
  | nil => intro l q h; exact .inl h
  | cons y L ih =>
    intro l q h
    unfold setAll at h
    rw [List.foldl_cons] at h
    rcases ih _ q h with h | ⟨z, hz, rfl⟩
    · rcases List.mem_or_eq_of_mem_set h with h | h
      · exact .inl h
      · exact .inr ⟨y, by simp, h⟩
    · exact .inr ⟨z, by simp [hz], rfl⟩
theorem total_cons (q : Part) (l : List Part) (x : Losses) : total (q :: l) x = lossOf q x + total l x := by simp [total]
theorem total_set (x : Losses) (b : Part) : ∀ (l : List Part) (i : Nat) (h : i < l.length), total (l.set i b) x = total l x + (lossOf b x - lossOf (l.getD i default) x) := by
  intro l
  induction l with
  | nil => intro i h; simp at h
  | cons q l ih =>
    intro i h
    cases i with
    | zero => simp only [List.set_cons_zero, total_cons, List.getD_cons_zero]; omega
    | succ i =>
      simp only [List.set_cons_succ, total_cons, List.getD_cons_succ]
      have := ih i (by simpa using h)
      omega
theorem moreS_set (x : Losses) (b : Part) (l : List Part) (i : Nat) (L : List Swap) (h : ∀ y ∈ L, y.at_.toNat ≠ i) : moreS (l.set i b) x L = moreS l x L := by
  unfold moreS
  congr 1
  apply List.map_congr_left
  intro y hy
  rw [List.getD_eq_getElem?_getD, List.getElem?_set_ne (Ne.symm (h y hy)), ← List.getD_eq_getElem?_getD]
theorem total_setAll (x : Losses) (L : List Swap) : ∀ l : List Part, (atsS L).Nodup → (∀ y ∈ L, 0 ≤ y.at_ ∧ y.at_ < l.length) → total (setAll l L) x = total l x + moreS l x L := by
  induction L with
  | nil => intro l _ _; simp [setAll, moreS]
  | cons y L ih =>
    intro l hn hb
    have hy := hb y (by simp)
    have hn' : y.at_ ∉ atsS L ∧ (atsS L).Nodup := by
      have : atsS (y :: L) = y.at_ :: atsS L := rfl
      rw [this] at hn
      exact List.nodup_cons.1 hn
    have h1 := ih (l.set y.at_.toNat y.by_) hn'.2 (fun z hz => by rw [List.length_set]; exact hb z (by simp [hz]))
    have h2 := moreS_set x y.by_ l y.at_.toNat L (fun z hz e => by
      have hz2 := hb z (by simp [hz])
      have : z.at_ = y.at_ := by omega
      exact hn'.1 (by rw [← this]; exact List.mem_map_of_mem hz))
    have h3 := total_set x y.by_ l y.at_.toNat (by omega)
    have h4 : moreS l x (y :: L) = (lossOf y.by_ x - lossOf (l.getD y.at_.toNat default) x) + moreS l x L := by simp [moreS]
    have h5 : setAll l (y :: L) = setAll (l.set y.at_.toNat y.by_) L := rfl
    rw [h5, h1, h2, h3, h4]
    omega
/-- what a set costs if it can be taken -/
def candS (p : List Part) (x : Losses) (o : Optics) (s : List Swap) (set : Nat) : Option Int :=
  if (atsS (selSw s set)).Nodup ∧ outB (o.launch - total p x - moreS p x (selSw s set)) o.least o.most = false then some (priceS (selSw s set)) else none
abbrev Chp := Option (Nat × Int)
def stepS (c : Option Int) (set : Nat) (st : Chp) : Chp := match c with
  | none => st
  | some pr => match st with
    | none => some (set, pr)
    | some (b, s) => if pr < s ∨ (pr = s ∧ befB set b = true) then some (set, pr) else some (b, s)
def cheapSt (p : List Part) (x : Losses) (o : Optics) (s : List Swap) : Nat → Chp
  | 0 => none
  | k + 1 => stepS (candS p x o s k) k (cheapSt p x o s k)
def chSet (st : Chp) : Nat := match st with | none => 0 | some (b, _) => b
def chSum (st : Chp) : Int := match st with | none => 0 | some (_, s) => s
def chIs (st : Chp) : Bool := st.isSome
def cheapV (p : List Part) (x : Losses) (o : Optics) (s : List Swap) : Chp := cheapSt p x o s (2 ^ s.length)
def cheapL (p : List Part) (x : Losses) (o : Optics) (s : List Swap) : List Int := membTo (chSet (cheapV p x o s)) s.length
theorem cheapSt_lt (p : List Part) (x : Losses) (o : Optics) (s : List Swap) : ∀ k b c, cheapSt p x o s k = some (b, c) → b < k := by
  intro k
  induction k with
  | zero => intro b c h; cases h
  | succ k ih =>
    intro b c h
    rw [cheapSt] at h
    unfold stepS at h
    split at h
    · have := ih b c h; omega
    · split at h
      · simp at h; omega
      · rename_i b' s' he
        split at h
        · simp at h; omega
        · have := ih b' s' he
          simp at h; omega
theorem priceS_bound (L : List Swap) (h : ∀ y ∈ L, 0 ≤ y.price ∧ y.price ≤ 1000000000) : 0 ≤ priceS L ∧ priceS L ≤ 1000000000 * L.length := by
  induction L with
  | nil => simp [priceS]
  | cons y L ih =>
    have h1 := ih (fun z hz => h z (by simp [hz]))
    have h2 := h y (by simp)
    have : priceS (y :: L) = y.price + priceS L := by simp [priceS]
    rw [this, List.length_cons]
    push_cast
    omega
theorem candS_price {p : List Part} {x : Losses} {o : Optics} {s : List Swap} {set : Nat} {c : Int} (hs : ∀ y ∈ s, 0 ≤ y.price ∧ y.price ≤ 1000000000) (h : candS p x o s set = some c) : 0 ≤ c ∧ c ≤ 1000000000 * s.length := by
  unfold candS at h
  split at h
  · simp only [Option.some.injEq] at h
    have h1 := priceS_bound (selSw s set) (fun y hy => hs y (selSw_mem s set y hy))
    have h2 := selSw_len s set
    omega
  · cases h
theorem memb_zeroS (k : Nat) : ∀ i, memb k i 0 = [] := by
  induction k with
  | zero => intro i; rfl
  | succ k ih => intro i; unfold memb; simp [ih]
theorem memb_more (n : Nat) : ∀ (k i s : Nat), s < 2 ^ n → memb (n + k) i s = memb n i s := by
  induction n with
  | zero =>
    intro k i s h
    have : s = 0 := by simpa using h
    subst this
    rw [memb_zeroS, memb_zeroS]
  | succ n ih =>
    intro k i s h
    rw [Nat.pow_succ] at h
    have := ih k (i + 1) (s / 2) (by omega)
    rw [show n + 1 + k = (n + k) + 1 by omega]
    unfold memb
    rw [this]
theorem popc_memb {n s : Nat} (hn : n ≤ 12) (h : s < 2 ^ n) : popc s = (membTo s n).length := by
  unfold popc
  rw [membTo_eq, show 12 = n + (12 - n) by omega, memb_more n _ 0 s h]
theorem cmpL_range : ∀ l m : List Int, cmpL l m = -1 ∨ cmpL l m = 0 ∨ cmpL l m = 1 := by
  intro l
  induction l with
  | nil => intro m; cases m <;> simp [cmpL]
  | cons x l ih =>
    intro m
    cases m with
    | nil => simp [cmpL]
    | cons y m =>
      rw [cmpL]
      split
      · simp
      · split
        · simp
        · exact ih m
/-- the same order by the lists of members -/
theorem befB_list {n a b : Nat} (hn : n ≤ 12) (ha : a < 2 ^ n) (hb : b < 2 ^ n) :
    befB a b = true ↔ ((membTo a n).length < (membTo b n).length ∨ ((membTo a n).length = (membTo b n).length ∧ cmpL (membTo a n) (membTo b n) < 0)) := by
  have h1 : ∀ s, s < 2 ^ n → memb 12 0 s = membTo s n := fun s h => by rw [membTo_eq, show 12 = n + (12 - n) by omega, memb_more n _ 0 s h]
  unfold befB
  rw [popc_memb hn ha, popc_memb hn hb]
  simp only [Bool.or_eq_true, Bool.and_eq_true, decide_eq_true_eq]
  constructor
  · rintro (h | ⟨h, hl⟩)
    · exact .inl h
    · refine .inr ⟨h, ?_⟩
      have := (cmpL_low 12 0 a b (by rw [h1 a ha, h1 b hb]; exact h)).2 hl
      rwa [h1 a ha, h1 b hb] at this
  · rintro (h | ⟨h, hl⟩)
    · exact .inl h
    · refine .inr ⟨h, ?_⟩
      refine (cmpL_low 12 0 a b (by rw [h1 a ha, h1 b hb]; exact h)).1 ?_
      rw [h1 a ha, h1 b hb]; exact hl
end Go.Proofs.Ytagpcgnlbgndmaa
/- Walk: budget.swapped. -/
set_option linter.unusedVariables false
set_option linter.unusedSimpArgs false
namespace Go.Proofs.Ytagpcgnlbgndmaa
open Go Go.RowKit
open Go.Maps (Keyed)
open Go.Maps

theorem intKeyed : Keyed Try.prog 3 := int_keyed Try.underlying3
def intV (n : Int) : Value := .int .i64 n
theorem intV_inj (a b : Int) (h : intV a = intV b) : a = b := by simpa [intV] using h
theorem intKey (n : Int) (h : (Lit.int .i64 n).wf = true) : ∃ kl, keyOf Try.prog 3 (intV n) = some kl := ⟨_, keyOf_int_mk Try.underlying3 h⟩
theorem zeroBoolI (w : World) : (zeroValue 4).run Try.prog w = .ok (.bool false) w := by kernel_rfl
def boolI (p : Int → Bool) (q : Int) : Option Value := if p q then some (.bool true) else none
theorem boolI_get (p : Int → Bool) (q : Int) : (boolI p q).getD (.bool false) = .bool (p q) := by unfold boolI; cases p q <;> rfl
theorem boolI_set {p p' : Int → Bool} {q : Int} (h : ∀ x, p' x = (p x || decide (x = q))) (x : Int) : setM (boolI p) q (.bool true) x = boolI p' x := by
  unfold setM boolI
  rw [h x]
  by_cases hx : x = q <;> simp [hx]
abbrev IMap (w : World) (b n : Nat) (p : Int → Bool) : Prop := MapIs Try.prog 3 intV w b n (boolI p)
theorem imap_start (w : World) {b : Nat} (hb : b = w.heap.size) {p : Int → Bool} (hp : ∀ q, p q = false) : IMap (w.alloc (.map #[] 0)) b 0 p := by
  subst hb
  exact (MapIs.made _ _ _ _).congr fun q => by simp [boolI, hp]
theorem and_one (s k : Nat) (hs : s < 4096) : bits BinOp.and IntKind.u64 ((s : Int) / 2 ^ k) 1 = if bitB s k = true then 1 else 0 := by
  have h1 : (s : Int) / 2 ^ k = ((s / 2 ^ k : Nat) : Int) := by push_cast; rfl
  have h2 : s / 2 ^ k ≤ s := Nat.div_le_self _ _
  rw [h1, show (1 : Int) = ((1 : Nat) : Int) from rfl, and_u _ _ (by omega) (by decide), Nat.and_one_is_mod]
  unfold bitB
  have := Nat.mod_two_eq_zero_or_one (s / 2 ^ k)
  by_cases h : s / 2 ^ k % 2 = 1
  · rw [h]; simp
  · rw [show s / 2 ^ k % 2 = 0 by omega]; simp
/-- swaps that are right -/
def SwapsOk (n : Nat) (s : List Swap) : Prop := s.length ≤ 12 ∧ ∀ y ∈ s, (0 ≤ y.at_ ∧ y.at_ < n) ∧ y.by_.Ok ∧ 0 ≤ y.price ∧ y.price ≤ 1000000000
theorem swapsOk_of {n : Nat} {s : List Swap} (h : swapsFault n s = 0) : SwapsOk n s := by
  unfold swapsFault at h
  split at h
  · omega
  refine ⟨by omega, fun y hy => ?_⟩
  have h1 := firstF_zero.1 h _ (List.mem_map_of_mem hy)
  unfold swapFault at h1
  split at h1
  · omega
  rename_i h2
  have h2' := outB_false.1 (by simpa using h2)
  split at h1
  · rename_i h3
    split at h1
    · omega
    · rename_i h4
      have h4' := outB_false.1 (by simpa using h4)
      exact ⟨⟨h2'.1, by omega⟩, partFault_zero.1 h3, h4'⟩
  · rename_i h3; exact absurd h1 h3
theorem moreS_bound {p : List Part} {x : Losses} (hp : ∀ q ∈ p, q.Ok) (hx : x.Ok) : ∀ L : List Swap, (∀ y ∈ L, (0 ≤ y.at_ ∧ y.at_ < p.length) ∧ y.by_.Ok) → -200000 * L.length ≤ moreS p x L ∧ moreS p x L ≤ 200000 * L.length := by
  intro L
  induction L with
  | nil => intro _; simp [moreS]
  | cons y L ih =>
    intro h
    have h1 := ih (fun z hz => h z (by simp [hz]))
    have h2 := h y (by simp)
    have h3 := lossOf_bound h2.2 hx
    have h4 : (p.getD y.at_.toNat default).Ok := by
      rw [List.getD_eq_getElem?_getD, List.getElem?_eq_getElem (by omega)]
      exact hp _ (List.getElem_mem _)
    have h5 := lossOf_bound h4 hx
    have h6 : moreS p x (y :: L) = (lossOf y.by_ x - lossOf (p.getD y.at_.toNat default) x) + moreS p x L := by simp [moreS]
    rw [h6, List.length_cons]
    push_cast
    omega
theorem selSw_prefix (s : List Swap) : ∀ (set k : Nat), ∃ R, selSw s set = selSw (s.take k) set ++ R := by
  induction s with
  | nil => intro set k; exact ⟨[], by simp [selSw]⟩
  | cons y s ih =>
    intro set k
    cases k with
    | zero => exact ⟨selSw (y :: s) set, by simp [selSw]⟩
    | succ k =>
      obtain ⟨R, hR⟩ := ih (set / 2) k
      refine ⟨R, ?_⟩
      rw [List.take_succ_cons, selSw, selSw, hR]
      split <;> simp
theorem dup_stop {s : List Swap} {set k : Nat} (h : k < s.length) (hb : bitB set k = true) (hd : s[k].at_ ∈ atsS (selSw (s.take k) set)) : ¬ (atsS (selSw s set)).Nodup := by
  intro hn
  obtain ⟨R, hR⟩ := selSw_prefix s set (k + 1)
  rw [hR, selSw_take s set k h, if_pos hb] at hn
  unfold atsS at hn hd
  rw [List.map_append, List.map_append] at hn
  have h2 := (List.nodup_append.1 (List.nodup_append.1 hn).1).2.2 _ hd s[k].at_ (by simp)
  exact h2 rfl
theorem priceS_snoc (S : List Swap) (y : Swap) : priceS (S ++ [y]) = priceS S + y.price := by simp [priceS]
theorem moreS_snoc (p : List Part) (x : Losses) (S : List Swap) (y : Swap) : moreS p x (S ++ [y]) = moreS p x S + (lossOf y.by_ x - lossOf (p.getD y.at_.toNat default) x) := by simp [moreS]
theorem atsS_snoc (S : List Swap) (y : Swap) : atsS (S ++ [y]) = atsS S ++ [y.at_] := by simp [atsS]
set_option maxHeartbeats 8000000 in
set_option maxRecDepth 100000 in
theorem swapped_any (vp vs : Value) (p : List Part) (x : Losses) (s : List Swap) (set : Nat) (w : World) (hp : Arr Part.cells 2 w p vp) (hs : Arr Swap.cells 4 w s vs) (hpo : ∀ q ∈ p, q.Ok) (hpl : p.length ≤ 1000) (hx : x.Ok) (hso : SwapsOk p.length s) (hset : set < 4096) :
    Calls Try.prog 113 #[vp, .agg #[.int .i64 x.perKm, .int .i64 x.conn, .int .i64 x.dblg, .int .i64 x.exc], vs, .int .u64 set] w
    fun e w' => e = .returned (.tuple #[.int .i64 (swappedV p x s set).1, .int .i64 (swappedV p x s set).2.1, .bool (swappedV p x s set).2.2]) ∧ Below w.heap.size w w' := by
  obtain ⟨ap, capp, rfl, hcapp, hmaxp, hcp⟩ := hp
  obtain ⟨a, cap, rfl, hcap, hmax, hc⟩ := hs
  unfold maxLen at hmax hmaxp
  have HC := Lib.hid (And.intro hcp hc)
  clear hcp hc
  have hmm := @run_makeMap Try.prog
  obtain ⟨hs12, hso⟩ := hso
  have HO := Lib.hid (And.intro hpo (And.intro hso hx))
  clear hpo hso hx
  go_enter Try.func113, Try.ntmps113
  go_wp2
  have HBX := Lib.hid (Blk.new w #[.int .i64 x.perKm, .int .i64 x.conn, .int .i64 x.dblg, .int .i64 x.exc] 29)
  go_loopw [8, 9, 17] (fun pv mv i wr => ∃ k : Nat, k ≤ s.length ∧ i = .int .i64 k ∧ pv = .int .i64 (priceS (selSw (s.take k) set)) ∧ mv = .int .i64 (moreS p x (selSw (s.take k) set)) ∧ (atsS (selSw (s.take k) set)).Nodup ∧ IMap wr (w.heap.size + 1) k (fun q => decide (q ∈ atsS (selSw (s.take k) set))) ∧ Below (w.heap.size + 1) (w.alloc (.cells #[.int .i64 x.perKm, .int .i64 x.conn, .int .i64 x.dblg, .int .i64 x.exc] 29)) wr) (fun _ _ i _ => s.length - (intOf i).toNat)
  case atStart => exact ⟨0, by omega, rfl, rfl, rfl, by simp [selSw, atsS], imap_start _ (by simp) (fun q => by simp [selSw, atsS]), below_alloc (Below.refl _ _) _ (by simp)⟩
  case round =>
    obtain ⟨k, hk, rfl, rfl, rfl, hnd, hM, hB⟩ := hrel
    have hsz := hB.size
    simp only [World.size_alloc] at hsz
    have hBw : Below w.heap.size w wr := below_at (below_alloc (Below.refl _ _) _ (Nat.le_refl _)) hB (by omega)
    have hbx := HBX.out.below hB (by omega)
    have hlen1 := selSw_len (s.take k) set
    rw [List.length_take] at hlen1
    have hPb := priceS_bound (selSw (s.take k) set) (fun y hy => (HO.out.2.1 y (List.mem_of_mem_take (selSw_mem _ set y hy))).2.2)
    have hMb := moreS_bound HO.out.1 HO.out.2.2 (selSw (s.take k) set) (fun y hy => by have := HO.out.2.1 y (List.mem_of_mem_take (selSw_mem _ set y hy)); exact ⟨this.1, this.2.1⟩)
    have HS := Lib.hid (And.intro hnd (And.intro hM (And.intro hB (And.intro hBw hbx))))
    clear hnd hM hB hBw hbx
    by_cases hlt : k < s.length
    · obtain ⟨b, off, rfl, hb, hcc⟩ := HC.out.2 k hlt
      obtain ⟨c0, c1, c2, c3⟩ := swap_at hcc
      replace c0 := (HS.out.2.2.2.1.cell (p := ⟨b, _, none⟩) hb).trans c0
      replace c1 := (HS.out.2.2.2.1.cell (p := ⟨b, _, none⟩) hb).trans c1
      replace c2 := (HS.out.2.2.2.1.cell (p := ⟨b, _, none⟩) hb).trans c2
      replace c3 := (HS.out.2.2.2.1.cell (p := ⟨b, _, none⟩) hb).trans c3
      have htk := selSw_take s set k hlt
      have hbit := and_one set k hset
      obtain ⟨⟨ya, yb⟩, yo, yp, yq⟩ := HO.out.2.1 s[k] (List.getElem_mem _)
      clear hcc
      generalize hSk : selSw (s.take k) set = S at *
      generalize hPP : priceS S = P at *
      generalize hMM : moreS p x S = Mo at *
      have HPM := Lib.hid (And.intro hSk (And.intro hPP hMM))
      clear hSk hPP hMM
      cases hbk : bitB set k
      · rw [hbk] at htk hbit
        simp only [Bool.false_eq_true, if_false, List.append_nil] at htk hbit
        have HT := Lib.hid htk
        clear htk hbk
        go_wp2
        go_roundw
        case rel => exact ⟨k + 1, by omega, by go_num, by rw [HT.out, HPM.out.2.1], by rw [HT.out, HPM.out.2.2], by rw [HT.out]; exact HS.out.1, by rw [HT.out]; exact (HS.out.2.1.alloc _).mono (by omega), by have := HS.out.2.2.1; (repeat (first | exact Below.refl _ _ | assumption | refine below_draws ?_ _ | refine Below.drew ?_ | refine below_alloc ?_ _ (by first | omega | (simp; done) | (simp; omega)) | refine Below.setCell ?_ (by first | omega | (simp; done) | (simp; omega)) _ | refine below_at ?_ (by assumption) (by first | omega | (simp; done) | (simp; omega))))⟩
        case measure => simp [intOf]; omega
      · have hbk' := hbk
        rw [hbk] at htk hbit
        simp only [if_true] at htk hbit
        obtain ⟨i, hi⟩ := Int.eq_ofNat_of_zero_le ya
        have hip : i < p.length := by omega
        obtain ⟨kl, hkl⟩ := intKey (i : Int) (WalkArith.wf_i64 (by omega))
        have hkl : keyOf Try.prog 3 (intV (i : Int)) = some kl := hkl
        have HKL := Lib.hid hkl
        rw [hi] at c0
        cases hseen : decide ((i : Int) ∈ atsS S)
        · have HN := Lib.hid (show (i : Int) ∉ atsS S by simpa using hseen)
          have HT := Lib.hid htk
          obtain ⟨pb, poff, rfl, hpb, hpcc⟩ := HC.out.1 i hip
          obtain ⟨d0, d1⟩ := part_at hpcc
          have HD := Lib.hid (And.intro d0 d1)
          have hwr : w.heap.size + 2 ≤ wr.heap.size := by have := HS.out.2.1.lt; omega
          have hpo := HO.out.1 p[i] (List.getElem_mem _)
          have lb1 := lossOf_bound yo HO.out.2.2
          have lb2 := lossOf_bound hpo HO.out.2.2
          have HHi := Lib.hid hi
          clear htk hbk' hbk hkl d0 d1 hpcc hi
          go_wp2_with (first
            | (at_lookup; refine wpList_look (by rfl) _ _ _ rfl intKeyed Try.underlying150 (zeroBoolI _) (HS.out.2.1.alloc _) rfl (i : Int) HKL.out rfl ((boolI_get _ _).trans (congrArg Value.bool hseen)) ?_)
            | (at_mapUpdate; refine wpList_update (by rfl) _ _ _ _ rfl intKeyed Try.underlying150 intV_inj (HS.out.2.1.alloc _) (by unfold maxLen; omega) rfl (i : Int) HKL.out rfl _ rfl ?_; intro w5 hM5 hg5; have hs5 := hg5.size; simp only [World.size_alloc] at hs5; have ky := (Blk.new wr #[.int .i64 (i : Int), .int .i64 s[k].by_.kind, .int .i64 s[k].by_.amt, .int .i64 s[k].price] 113).grown hg5 (by simp; omega); have kx := (HS.out.2.2.2.2.alloc (.cells #[.int .i64 (i : Int), .int .i64 s[k].by_.kind, .int .i64 s[k].by_.amt, .int .i64 s[k].price] 113)).grown hg5 (by simp); have y0 := ky.cell 0 _ rfl; have y1 := ky.cell 1 _ rfl; have y2 := ky.cell 2 _ rfl; have y3 := ky.cell 3 _ rfl; have x0 := kx.cell 0 _ rfl; have x1 := kx.cell 1 _ rfl; have x2 := kx.cell 2 _ rfl; have x3 := kx.cell 3 _ rfl))
          have hB5 : Below (w.heap.size + 1) (w.alloc (.cells #[.int .i64 x.perKm, .int .i64 x.conn, .int .i64 x.dblg, .int .i64 x.exc] 29)) w5 := below_at (below_alloc HS.out.2.2.1 _ (by omega)) (grown_row hg5 (Nat.le_refl _) (by simp; omega)) (Nat.le_refl _)
          have hB5w : Below w.heap.size w w5 := below_at (below_alloc (Below.refl _ _) _ (Nat.le_refl _)) hB5 (by omega)
          have H5 := Lib.hid (And.intro hM5 hB5)
          have hS0 : w5.cell? ⟨w.heap.size, 0, none⟩ = some (.int .i64 x.perKm) ∧ w5.cell? ⟨w.heap.size, 1, none⟩ = some (.int .i64 x.conn) ∧ w5.cell? ⟨w.heap.size, 2, none⟩ = some (.int .i64 x.dblg) ∧ w5.cell? ⟨w.heap.size, 3, none⟩ = some (.int .i64 x.exc) ∧ w5.cell? ⟨wr.heap.size, 0, none⟩ = some (.int .i64 (i : Int)) ∧ w5.cell? ⟨wr.heap.size, 1, none⟩ = some (.int .i64 s[k].by_.kind) ∧ w5.cell? ⟨wr.heap.size, 2, none⟩ = some (.int .i64 s[k].by_.amt) ∧ w5.cell? ⟨pb, poff + i * 2, none⟩ = some (.int .i64 p[i].kind) ∧ w5.cell? ⟨pb, poff + i * 2 + 1, none⟩ = some (.int .i64 p[i].amt) := ⟨x0, x1, x2, x3, y0, y1, y2, (hB5w.cell (p := ⟨pb, _, none⟩) hpb).trans HD.out.1, (hB5w.cell (p := ⟨pb, _, none⟩) hpb).trans HD.out.2⟩
          have hKS : ∀ w' : World, Below w5.heap.size w5 w' → w'.cell? ⟨w.heap.size, 0, none⟩ = some (.int .i64 x.perKm) ∧ w'.cell? ⟨w.heap.size, 1, none⟩ = some (.int .i64 x.conn) ∧ w'.cell? ⟨w.heap.size, 2, none⟩ = some (.int .i64 x.dblg) ∧ w'.cell? ⟨w.heap.size, 3, none⟩ = some (.int .i64 x.exc) ∧ w'.cell? ⟨wr.heap.size, 0, none⟩ = some (.int .i64 (i : Int)) ∧ w'.cell? ⟨wr.heap.size, 1, none⟩ = some (.int .i64 s[k].by_.kind) ∧ w'.cell? ⟨wr.heap.size, 2, none⟩ = some (.int .i64 s[k].by_.amt) ∧ w'.cell? ⟨pb, poff + i * 2, none⟩ = some (.int .i64 p[i].kind) ∧ w'.cell? ⟨pb, poff + i * 2 + 1, none⟩ = some (.int .i64 p[i].amt) := fun w' hb' => by
            obtain ⟨t0, t1, t2, t3, t4, t5, t6, t7, t8⟩ := hS0
            have ha := bcellAt hb' w.heap.size (by omega)
            have hb2 := bcellAt hb' wr.heap.size (by omega)
            have hc2 := bcellAt hb' pb (by omega)
            exact ⟨by rw [ha]; exact t0, by rw [ha]; exact t1, by rw [ha]; exact t2, by rw [ha]; exact t3, by rw [hb2]; exact t4, by rw [hb2]; exact t5, by rw [hb2]; exact t6, by rw [hc2]; exact t7, by rw [hc2]; exact t8⟩
          have HKS := Lib.hid hKS
          have hS1 := hKS w5.drew (below_draws (Below.refl _ _) 1)
          have hBd : Below w5.heap.size w5 w5.drew := below_draws (Below.refl _ _) 1
          have z1 : IntKind.i64.wrap (lossOf s[k].by_ x - lossOf p[i] x) = lossOf s[k].by_ x - lossOf p[i] x := IntWalk.i64_in _ (by omega)
          have z2 : IntKind.i64.wrap (Mo + (lossOf s[k].by_ x - lossOf p[i] x)) = Mo + (lossOf s[k].by_ x - lossOf p[i] x) := IntWalk.i64_in _ (by omega)
          have bbi : (i : Int) < (p.length : Int) := by omega
          clear hS0 hKS x0 x1 x2 x3 y0 y1 y2 y3 kx ky hM5 hB5 hB5w
          refine WalkT.start (fun w' => w'.cell? ⟨w.heap.size, 0, none⟩ = some (.int .i64 x.perKm) ∧ w'.cell? ⟨w.heap.size, 1, none⟩ = some (.int .i64 x.conn) ∧ w'.cell? ⟨w.heap.size, 2, none⟩ = some (.int .i64 x.dblg) ∧ w'.cell? ⟨w.heap.size, 3, none⟩ = some (.int .i64 x.exc) ∧ w'.cell? ⟨wr.heap.size, 0, none⟩ = some (.int .i64 (i : Int)) ∧ w'.cell? ⟨wr.heap.size, 1, none⟩ = some (.int .i64 s[k].by_.kind) ∧ w'.cell? ⟨wr.heap.size, 2, none⟩ = some (.int .i64 s[k].by_.amt) ∧ w'.cell? ⟨pb, poff + i * 2, none⟩ = some (.int .i64 p[i].kind) ∧ w'.cell? ⟨pb, poff + i * 2 + 1, none⟩ = some (.int .i64 p[i].amt)) [] (by kernel_rfl) ?_
          have HBd := Lib.hid hBd
          clear hBd
          generalize w5.drew = w6 at *
          have hz6 := HBd.out.size
          refine WalkT.quiet (i := 0) (v := ?_) rfl (by kernel_rfl) (by kernel_rfl) (by kernel_rfl) (fun _ _ _ h => h) (Or.inl ⟨by rfl, ?_⟩) ?_; rotate_left; (· (intro wS hSw; (try dsimp only at hSw); go_simp; try with_reducible rfl)); try simp only [Act.put, List.setIfInBounds_toArray, List.set_cons_zero, List.set_cons_succ, List.getElem_toArray, List.getElem_cons_succ, List.getElem_cons_zero]
          refine WalkT.quiet (i := 1) (v := ?_) rfl (by kernel_rfl) (by kernel_rfl) (by kernel_rfl) (fun _ _ _ h => h) (Or.inl ⟨by rfl, ?_⟩) ?_; rotate_left; (· (intro wS hSw; (try dsimp only at hSw); go_simp; try with_reducible rfl)); try simp only [Act.put, List.setIfInBounds_toArray, List.set_cons_zero, List.set_cons_succ, List.getElem_toArray, List.getElem_cons_succ, List.getElem_cons_zero]
          refine WalkT.take (i := 2) (v := ?_) rfl (by kernel_rfl) (by kernel_rfl) (by kernel_rfl) (by kernel_rfl) (fun _ _ _ h => h) hS1 (Or.inl ⟨by rfl, ?_⟩) ?_; rotate_left; (· (intro wS hSw; (try dsimp only at hSw); obtain ⟨t0, t1, t2, t3, t4, t5, t6, t7, t8⟩ := hSw; go_simp; try with_reducible rfl)); try simp only [Act.put, List.setIfInBounds_toArray, List.set_cons_zero, List.set_cons_succ, List.getElem_toArray, List.getElem_cons_succ, List.getElem_cons_zero]
          refine WalkT.take (i := 3) (v := ?_) rfl (by kernel_rfl) (by kernel_rfl) (by kernel_rfl) (by kernel_rfl) (fun _ _ _ h => h) hS1 (Or.inl ⟨by rfl, ?_⟩) ?_; rotate_left; (· (intro wS hSw; (try dsimp only at hSw); obtain ⟨t0, t1, t2, t3, t4, t5, t6, t7, t8⟩ := hSw; go_simp; try with_reducible rfl)); try simp only [Act.put, List.setIfInBounds_toArray, List.set_cons_zero, List.set_cons_succ, List.getElem_toArray, List.getElem_cons_succ, List.getElem_cons_zero]
          refine WalkT.quiet (i := 5) (v := ?_) rfl (by kernel_rfl) (by kernel_rfl) (by kernel_rfl) (fun _ _ _ h => h) (Or.inl ⟨by rfl, ?_⟩) ?_; rotate_left; (· (intro wS hSw; (try dsimp only at hSw); go_simp; try with_reducible rfl)); try simp only [Act.put, List.setIfInBounds_toArray, List.set_cons_zero, List.set_cons_succ, List.getElem_toArray, List.getElem_cons_succ, List.getElem_cons_zero]
          refine WalkT.quiet (i := 6) (v := ?_) rfl (by kernel_rfl) (by kernel_rfl) (by kernel_rfl) (fun _ _ _ h => h) (Or.inl ⟨by rfl, ?_⟩) ?_; rotate_left; (· (intro wS hSw; (try dsimp only at hSw); go_simp; try with_reducible rfl)); try simp only [Act.put, List.setIfInBounds_toArray, List.set_cons_zero, List.set_cons_succ, List.getElem_toArray, List.getElem_cons_succ, List.getElem_cons_zero]
          refine WalkT.take (i := 7) (v := ?_) rfl (by kernel_rfl) (by kernel_rfl) (by kernel_rfl) (by kernel_rfl) (fun _ _ _ h => h) hS1 (Or.inl ⟨by rfl, ?_⟩) ?_; rotate_left; (· (intro wS hSw; (try dsimp only at hSw); obtain ⟨t0, t1, t2, t3, t4, t5, t6, t7, t8⟩ := hSw; go_simp; try with_reducible rfl)); try simp only [Act.put, List.setIfInBounds_toArray, List.set_cons_zero, List.set_cons_succ, List.getElem_toArray, List.getElem_cons_succ, List.getElem_cons_zero]
          refine WalkT.quiet (i := 8) (v := ?_) rfl (by kernel_rfl) (by kernel_rfl) (by kernel_rfl) (fun _ _ _ h => h) (Or.inl ⟨by rfl, ?_⟩) ?_; rotate_left; (· (intro wS hSw; (try dsimp only at hSw); go_simp; try with_reducible rfl)); try simp only [Act.put, List.setIfInBounds_toArray, List.set_cons_zero, List.set_cons_succ, List.getElem_toArray, List.getElem_cons_succ, List.getElem_cons_zero]
          refine WalkT.take (i := 9) (v := ?_) rfl (by kernel_rfl) (by kernel_rfl) (by kernel_rfl) (by kernel_rfl) (fun _ _ _ h => h) hS1 (Or.inl ⟨by rfl, ?_⟩) ?_; rotate_left; (· (intro wS hSw; (try dsimp only at hSw); obtain ⟨t0, t1, t2, t3, t4, t5, t6, t7, t8⟩ := hSw; go_simp; try with_reducible rfl)); try simp only [Act.put, List.setIfInBounds_toArray, List.set_cons_zero, List.set_cons_succ, List.getElem_toArray, List.getElem_cons_succ, List.getElem_cons_zero]
          refine WalkT.take (i := 10) (v := ?_) rfl (by kernel_rfl) (by kernel_rfl) (by kernel_rfl) (by kernel_rfl) (fun _ _ _ h => h) hS1 (Or.inl ⟨by rfl, ?_⟩) ?_; rotate_left; (· (intro wS hSw; (try dsimp only at hSw); obtain ⟨t0, t1, t2, t3, t4, t5, t6, t7, t8⟩ := hSw; go_simp; try with_reducible rfl)); try simp only [Act.put, List.setIfInBounds_toArray, List.set_cons_zero, List.set_cons_succ, List.getElem_toArray, List.getElem_cons_succ, List.getElem_cons_zero]
          refine WalkT.ready (rs := [4]) (by kernel_rfl) (by simp) (AllT.cons rfl (fun K hK => ?_) AllT.nil); go_simp
          refine (lossOf_any s[k].by_ x _ yo HO.out.2.2).mono ?_
          rintro e w7 ⟨rfl, hb7⟩
          have hb57 := below_at HBd.out hb7 (by omega)
          have H7 := Lib.hid hb57
          clear hb7 hb57
          refine hK.out _ _ (fun _ _ => HKS.out _ H7.out) ?_; clear hK K; try simp only [Act.put, List.setIfInBounds_toArray, List.set_cons_zero, List.set_cons_succ, List.getElem_toArray, List.getElem_cons_succ, List.getElem_cons_zero]
          refine WalkT.ready (rs := [11]) (by kernel_rfl) (by simp) (AllT.cons rfl (fun K hK => ?_) AllT.nil); go_simp
          refine (lossOf_any p[i] x _ hpo HO.out.2.2).mono ?_
          rintro e w8 ⟨rfl, hb8⟩
          have hz7 := H7.out.size
          have H8 := Lib.hid (below_at H7.out hb8 (by omega))
          clear hb8
          refine hK.out _ _ (fun _ _ => HKS.out _ H8.out) ?_; clear hK K; try simp only [Act.put, List.setIfInBounds_toArray, List.set_cons_zero, List.set_cons_succ, List.getElem_toArray, List.getElem_cons_succ, List.getElem_cons_zero]
          refine WalkT.quiet (i := 12) (v := ?_) rfl (by kernel_rfl) (by kernel_rfl) (by kernel_rfl) (fun _ _ _ h => h) (Or.inl ⟨by rfl, ?_⟩) ?_; rotate_left; (· (intro wS hSw; (try dsimp only at hSw); go_simp; try with_reducible rfl)); try simp only [Act.put, List.setIfInBounds_toArray, List.set_cons_zero, List.set_cons_succ, List.getElem_toArray, List.getElem_cons_succ, List.getElem_cons_zero]
          refine WalkT.quiet (i := 13) (v := ?_) rfl (by kernel_rfl) (by kernel_rfl) (by kernel_rfl) (fun _ _ _ h => h) (Or.inl ⟨by rfl, ?_⟩) ?_; rotate_left; (· (intro wS hSw; (try dsimp only at hSw); go_simp; try with_reducible rfl)); try simp only [Act.put, List.setIfInBounds_toArray, List.set_cons_zero, List.set_cons_succ, List.getElem_toArray, List.getElem_cons_succ, List.getElem_cons_zero]
          refine WalkT.quiet (i := 14) (v := ?_) rfl (by kernel_rfl) (by kernel_rfl) (by kernel_rfl) (fun _ _ _ h => h) (Or.inl ⟨by rfl, ?_⟩) ?_; rotate_left; (· (intro wS hSw; (try dsimp only at hSw); go_simp; try with_reducible rfl)); try simp only [Act.put, List.setIfInBounds_toArray, List.set_cons_zero, List.set_cons_succ, List.getElem_toArray, List.getElem_cons_succ, List.getElem_cons_zero]
          refine WalkT.done (by kernel_rfl) ?_
          go_wp2
          refine ⟨⟨k + 1, by omega, by go_num, ?_, ?_, ?_, ?_, below_at H5.out.2 H8.out (by omega)⟩, by simp [intOf]; omega⟩
          · rw [HT.out, priceS_snoc, HPM.out.2.1]
          · rw [HT.out, moreS_snoc, HPM.out.2.2, HHi.out, Int.toNat_natCast, List.getD_eq_getElem?_getD, List.getElem?_eq_getElem hip]; rfl
          · rw [HT.out, atsS_snoc]
            refine List.nodup_append.2 ⟨HS.out.1, by simp, fun q hq r hr e => ?_⟩
            rw [List.mem_singleton] at hr
            subst hr e
            exact HN.out (by rw [HHi.out] at hq; exact hq)
          · refine (H5.out.1.below H8.out H5.out.1.lt).congr (fun q => boolI_set (fun y => ?_) q)
            rw [HT.out, atsS_snoc, HHi.out]
            by_cases hy1 : y ∈ atsS S <;> by_cases hy2 : y = Int.ofNat i <;> simp [hy1, hy2] <;> simp_all
        · have HD := Lib.hid (show swappedV p x s set = (0, 0, false) by unfold swappedV; rw [if_neg (dup_stop hlt hbk' (by rw [HPM.out.1, hi]; simpa using hseen))])
          clear htk hbk' hbk hkl
          go_wp2_with (at_lookup; refine wpList_look (by rfl) _ _ _ rfl intKeyed Try.underlying150 (zeroBoolI _) (HS.out.2.1.alloc _) rfl (i : Int) HKL.out rfl ((boolI_get _ _).trans (congrArg Value.bool hseen)) ?_)
          go_ret3
          exact ⟨by rw [HD.out]; exact rfl, by have := HS.out.2.2.2.1; (repeat (first | exact Below.refl _ _ | assumption | refine below_draws ?_ _ | refine Below.drew ?_ | refine below_alloc ?_ _ (by first | omega | (simp; done) | (simp; omega)) | refine Below.setCell ?_ (by first | omega | (simp; done) | (simp; omega)) _ | refine below_at ?_ (by assumption) (by first | omega | (simp; done) | (simp; omega))))⟩
    · have hE : selSw (s.take k) set = selSw s set := by rw [List.take_of_length_le (by omega)]
      have HE := Lib.hid hE
      go_wp2
      go_ret3
      refine ⟨?_, HS.out.2.2.2.1⟩
      have hnd := HS.out.1
      rw [HE.out] at hnd
      unfold swappedV
      rw [if_pos hnd]
      rw [← HE.out]; exact rfl
end Go.Proofs.Ytagpcgnlbgndmaa
/- Walk: budget.Cheapest. -/
set_option linter.unusedVariables false
set_option linter.unusedSimpArgs false
namespace Go.Proofs.Ytagpcgnlbgndmaa
open Go Go.RowKit

def chpF (p : List Part) (x : Losses) (o : Optics) (s : List Swap) : Int := firstF [faultF p x o, swapsFault p.length s]
def ChpPost (p : List Part) (x : Losses) (o : Optics) (s : List Swap) (w : World) (e : Ending) (w' : World) : Prop :=
  ∃ a cap L S B, e = .returned (.tuple #[.slice a L.length cap, .int .i64 S, .bool B, .int .i64 (chpF p x o s)]) ∧ w'.ownsRow w.heap.size 3 1 (.slice a L.length cap) L.length (L.map (Value.int .i64)) ∧ Below w.heap.size w w' ∧
    (chpF p x o s ≠ 0 → S = 0 ∧ B = false ∧ L = []) ∧ (chpF p x o s = 0 → S = chSum (cheapV p x o s) ∧ B = chIs (cheapV p x o s) ∧ L = cheapL p x o s)
theorem chpF_zero {p : List Part} {x : Losses} {o : Optics} {s : List Swap} : chpF p x o s = 0 ↔ faultF p x o = 0 ∧ swapsFault p.length s = 0 := by
  unfold chpF
  rw [firstF_zero]
  simp
theorem OwnI2.form {base : Nat} {W : World} {v : Value} {l : List Int} (h : W.ownsRow base 3 1 v l.length (l.map (Value.int .i64))) : ∃ a cap, v = .slice a l.length cap ∧ l.length ≤ cap ∧ cap ≤ maxLen ∧ (0 < l.length → ∃ g, a = some ⟨g, 0, none⟩) := by
  rcases h.2 with ⟨h1, h2⟩ | ⟨g, cap, cur, hv, hg, hh, hc, hm, _⟩
  · exact ⟨none, 0, by rw [h1, h2], by omega, by simp [maxLen], fun h => by omega⟩
  · exact ⟨_, cap, hv, hc, hm, fun _ => ⟨g, rfl⟩⟩
theorem own_base {B B' : Nat} {W : World} {v : Value} {e : TypeId} {n sz : Nat} {xs : List Value} (h : W.ownsRow B e sz v n xs) (hB : B' ≤ B) : W.ownsRow B' e sz v n xs := by
  rcases h with ⟨h0, h1 | ⟨g, cap, cur, hv, hg, hr⟩⟩
  · exact ⟨h0, .inl h1⟩
  · exact ⟨h0, .inr ⟨g, cap, cur, hv, Nat.le_trans hB hg, hr⟩⟩
theorem ch_cases (st : Chp) : (st = none ∧ chIs st = false) ∨ ∃ b sv, st = some (b, sv) ∧ chSet st = b ∧ chSum st = sv ∧ chIs st = true := by
  rcases st with _ | ⟨b, sv⟩
  · exact .inl ⟨rfl, rfl⟩
  · exact .inr ⟨b, sv, rfl, rfl, rfl, rfl⟩
/-- the boxes of the losses and the powers -/
structure MSt (w : World) (x : Losses) (o : Optics) (W : World) : Prop where
  bel : Below w.heap.size w W
  x : Blk W w.heap.size #[.int .i64 x.perKm, .int .i64 x.conn, .int .i64 x.dblg, .int .i64 x.exc] 29
  o : Blk W (w.heap.size + 1) #[.int .i64 o.launch, .int .i64 o.least, .int .i64 o.most] 32
theorem MSt.below {w W W' : World} {x : Losses} {o : Optics} (h : MSt w x o W) (hB : Below W.heap.size W W') : MSt w x o W' :=
  ⟨below_at h.bel hB h.bel.size, h.x.below hB h.x.lt, h.o.below hB h.o.lt⟩
set_option maxHeartbeats 8000000 in
set_option maxRecDepth 100000 in
theorem cheapest_any (vp vs : Value) (p : List Part) (x : Losses) (o : Optics) (s : List Swap) (w : World) (hp : Arr Part.cells 2 w p vp) (hs : Arr Swap.cells 4 w s vs) : Calls Try.prog 50 #[vp, .agg #[.int .i64 x.perKm, .int .i64 x.conn, .int .i64 x.dblg, .int .i64 x.exc], .agg #[.int .i64 o.launch, .int .i64 o.least, .int .i64 o.most], vs] w (ChpPost p x o s w) := by
  have HA := Lib.hid (And.intro hp hs)
  obtain ⟨ap, capp, rfl, hcapp, hmaxp, -⟩ := hp
  obtain ⟨a, cap, rfl, hcap, hmax, -⟩ := hs
  unfold maxLen at hmax hmaxp
  obtain ⟨i0, hi, hz0, hz1, hz2⟩ := info_parts infoIntB
  have HF : Hid (firstF [faultF p x o, swapsFault p.length s] = chpF p x o s) := Lib.hid rfl
  by_cases hf : chpF p x o s = 0
  · obtain ⟨hf1, hf2⟩ := chpF_zero.1 hf
    obtain ⟨⟨hpl, hpo⟩, hx, ho⟩ := faultF_zero.1 hf1
    have hso := swapsOk_of hf2
    have hsl := hso.1
    have hrb := recvV_bound p x o
    have hrv : recvV p x o = o.launch - total p x := by unfold recvV; rw [if_pos hf1]
    rw [hrv] at hrb
    obtain ⟨hr1, hr2⟩ := hrb
    have hf0 : (chpF p x o s != 0) = false := by simp [hf]
    have HK := Lib.hid (And.intro hpo (And.intro hx (And.intro hso hf)))
    unfold Optics.Ok at ho
    obtain ⟨ho1, ho2, ho3, ho4, ho5⟩ := ho
    clear hf hf1 hf2 hpo hx hso hrv
    go_enter Try.func50, Try.ntmps50
    go_upto_region 4 with (first
      | (go_at_call 81; refine (fault_any _ p x o _ (by exact HA.out.1.below (by (repeat (first | exact Below.refl _ _ | assumption | refine below_draws ?_ _ | refine Below.drew ?_ | refine below_alloc ?_ _ (by first | omega | (simp; done) | (simp; omega)) | refine Below.setCell ?_ (by first | omega | (simp; done) | (simp; omega)) _ | refine below_at ?_ (by assumption) (by first | omega | (simp; done) | (simp; omega))))))).mono ?_; rintro e w1 ⟨rfl, hb1⟩; have hs1 := hb1.size; simp only [World.size_alloc] at hs1; have hB1 : Below w.heap.size w w1 := (by (repeat (first | exact Below.refl _ _ | assumption | refine below_draws ?_ _ | refine Below.drew ?_ | refine below_alloc ?_ _ (by first | omega | (simp; done) | (simp; omega)) | refine Below.setCell ?_ (by first | omega | (simp; done) | (simp; omega)) _ | refine below_at ?_ (by assumption) (by first | omega | (simp; done) | (simp; omega))))); have kx := (((Blk.new w #[.int .i64 x.perKm, .int .i64 x.conn, .int .i64 x.dblg, .int .i64 x.exc] 29).alloc (.cells #[.int .i64 o.launch, .int .i64 o.least, .int .i64 o.most] 32)).below hb1 (by simp; omega)); have ko := ((Blk.newAt (w := w.alloc (.cells #[.int .i64 x.perKm, .int .i64 x.conn, .int .i64 x.dblg, .int .i64 x.exc] 29)) (b := w.heap.size + 1) (cs := #[.int .i64 o.launch, .int .i64 o.least, .int .i64 o.most]) (t := 32) (by simp)).below hb1 (by simp)))
      | (go_at_call 112; refine (swapsFault_any _ _ p s _ (by exact HA.out.1.below (by (repeat (first | exact Below.refl _ _ | assumption | refine below_draws ?_ _ | refine Below.drew ?_ | refine below_alloc ?_ _ (by first | omega | (simp; done) | (simp; omega)) | refine Below.setCell ?_ (by first | omega | (simp; done) | (simp; omega)) _ | refine below_at ?_ (by assumption) (by first | omega | (simp; done) | (simp; omega)))))) (by exact HA.out.2.below (by (repeat (first | exact Below.refl _ _ | assumption | refine below_draws ?_ _ | refine Below.drew ?_ | refine below_alloc ?_ _ (by first | omega | (simp; done) | (simp; omega)) | refine Below.setCell ?_ (by first | omega | (simp; done) | (simp; omega)) _ | refine below_at ?_ (by assumption) (by first | omega | (simp; done) | (simp; omega))))))).mono ?_; rintro e w2 ⟨rfl, hb2⟩; have hs2 := hb2.size)
      | (go_at_call 84; refine (first_any _ [faultF p x o, swapsFault p.length s] _ (by exact Arr.lit (cells := intCells) (sz := 1) (fun _ => rfl) _ [faultF p x o, swapsFault p.length s] _ _ 2 (by rfl) rfl (by simp [maxLen]))).mono ?_; rintro e w4 ⟨rfl, rfl⟩; rw [HF.out]))
    have hB3 : Below w.heap.size w (w2.alloc (.cells #[.int .i64 (faultF p x o), .int .i64 (swapsFault p.length s)] 37)) := by (repeat (first | exact Below.refl _ _ | assumption | refine below_draws ?_ _ | refine Below.drew ?_ | refine below_alloc ?_ _ (by first | omega | (simp; done) | (simp; omega)) | refine Below.setCell ?_ (by first | omega | (simp; done) | (simp; omega)) _ | refine below_at ?_ (by assumption) (by first | omega | (simp; done) | (simp; omega))))
    have H3 := Lib.hid (show MSt w x o (w2.alloc (.cells #[.int .i64 (faultF p x o), .int .i64 (swapsFault p.length s)] 37)) from ⟨hB3, (kx.below hb2 (by omega)).alloc _, (ko.below hb2 (by omega)).alloc _⟩)
    clear hb1 hB1 hb2 hB3 kx ko
    generalize w2.alloc (.cells #[.int .i64 (faultF p x o), .int .i64 (swapsFault p.length s)] 37) = w3 at *
    have H4 := Lib.hid (H3.out.below (below_draws (Below.refl _ _) 1))
    have hS1 : w3.drew.cell? ⟨w.heap.size, 0, none⟩ = some (.int .i64 x.perKm) ∧ w3.drew.cell? ⟨w.heap.size, 1, none⟩ = some (.int .i64 x.conn) ∧ w3.drew.cell? ⟨w.heap.size, 2, none⟩ = some (.int .i64 x.dblg) ∧ w3.drew.cell? ⟨w.heap.size, 3, none⟩ = some (.int .i64 x.exc) ∧ w3.drew.cell? ⟨w.heap.size + 1, 0, none⟩ = some (.int .i64 o.launch) := ⟨H3.out.x.cell 0 _ rfl, H3.out.x.cell 1 _ rfl, H3.out.x.cell 2 _ rfl, H3.out.x.cell 3 _ rfl, H3.out.o.cell 0 _ rfl⟩
    have z1 : IntKind.i64.wrap (o.launch - total p x) = o.launch - total p x := IntWalk.i64_in _ (by omega)
    refine WalkT.start (fun w' => w'.cell? ⟨w.heap.size, 0, none⟩ = some (.int .i64 x.perKm) ∧ w'.cell? ⟨w.heap.size, 1, none⟩ = some (.int .i64 x.conn) ∧ w'.cell? ⟨w.heap.size, 2, none⟩ = some (.int .i64 x.dblg) ∧ w'.cell? ⟨w.heap.size, 3, none⟩ = some (.int .i64 x.exc) ∧ w'.cell? ⟨w.heap.size + 1, 0, none⟩ = some (.int .i64 o.launch)) [] (by kernel_rfl) ?_
    have H4' : Hid (MSt w x o w3.drew) := H4
    clear H4
    generalize w3.drew = w4 at *
    refine WalkT.quiet (i := 0) (v := ?_) rfl (by kernel_rfl) (by kernel_rfl) (by kernel_rfl) (fun _ _ _ h => h) (Or.inl ⟨by rfl, ?_⟩) ?_; rotate_left; (· (intro wS hSw; (try dsimp only at hSw); go_simp; try with_reducible rfl)); try simp only [Act.put, List.setIfInBounds_toArray, List.set_cons_zero, List.set_cons_succ, List.getElem_toArray, List.getElem_cons_succ, List.getElem_cons_zero]
    refine WalkT.take (i := 1) (v := ?_) rfl (by kernel_rfl) (by kernel_rfl) (by kernel_rfl) (by kernel_rfl) (fun _ _ _ h => h) hS1 (Or.inl ⟨by rfl, ?_⟩) ?_; rotate_left; (· (intro wS hSw; (try dsimp only at hSw); obtain ⟨t0, t1, t2, t3, t4⟩ := hSw; go_simp; try with_reducible rfl)); try simp only [Act.put, List.setIfInBounds_toArray, List.set_cons_zero, List.set_cons_succ, List.getElem_toArray, List.getElem_cons_succ, List.getElem_cons_zero]
    refine WalkT.quiet (i := 2) (v := ?_) rfl (by kernel_rfl) (by kernel_rfl) (by kernel_rfl) (fun _ _ _ h => h) (Or.inl ⟨by rfl, ?_⟩) ?_; rotate_left; (· (intro wS hSw; (try dsimp only at hSw); go_simp; try with_reducible rfl)); try simp only [Act.put, List.setIfInBounds_toArray, List.set_cons_zero, List.set_cons_succ, List.getElem_toArray, List.getElem_cons_succ, List.getElem_cons_zero]
    refine WalkT.take (i := 3) (v := ?_) rfl (by kernel_rfl) (by kernel_rfl) (by kernel_rfl) (by kernel_rfl) (fun _ _ _ h => h) hS1 (Or.inl ⟨by rfl, ?_⟩) ?_; rotate_left; (· (intro wS hSw; (try dsimp only at hSw); obtain ⟨t0, t1, t2, t3, t4⟩ := hSw; go_simp; try with_reducible rfl)); try simp only [Act.put, List.setIfInBounds_toArray, List.set_cons_zero, List.set_cons_succ, List.getElem_toArray, List.getElem_cons_succ, List.getElem_cons_zero]
    refine WalkT.ready (rs := [4]) (by kernel_rfl) (by simp) (AllT.cons rfl (fun K hK => ?_) AllT.nil); go_simp
    have hz4 := H4'.out.bel.size
    refine (total_any _ p x _ (HA.out.1.below (by have := H4'.out.bel; (repeat (first | exact Below.refl _ _ | assumption | refine below_draws ?_ _ | refine Below.drew ?_ | refine below_alloc ?_ _ (by first | omega | (simp; done) | (simp; omega)) | refine Below.setCell ?_ (by first | omega | (simp; done) | (simp; omega)) _ | refine below_at ?_ (by assumption) (by first | omega | (simp; done) | (simp; omega)))))) HK.out.1 hpl HK.out.2.1).mono ?_
    rintro e w5 ⟨rfl, hb5⟩
    have H5 := Lib.hid (H4'.out.below hb5)
    clear hb5 hS1 H3 H4'
    refine hK.out _ _ (fun _ _ => ⟨H5.out.x.cell 0 _ rfl, H5.out.x.cell 1 _ rfl, H5.out.x.cell 2 _ rfl, H5.out.x.cell 3 _ rfl, H5.out.o.cell 0 _ rfl⟩) ?_; clear hK K; try simp only [Act.put, List.setIfInBounds_toArray, List.set_cons_zero, List.set_cons_succ, List.getElem_toArray, List.getElem_cons_succ, List.getElem_cons_zero]
    refine WalkT.quiet (i := 5) (v := ?_) rfl (by kernel_rfl) (by kernel_rfl) (by kernel_rfl) (fun _ _ _ h => h) (Or.inl ⟨by rfl, ?_⟩) ?_; rotate_left; (· (intro wS hSw; (try dsimp only at hSw); go_simp; try with_reducible rfl)); try simp only [Act.put, List.setIfInBounds_toArray, List.set_cons_zero, List.set_cons_succ, List.getElem_toArray, List.getElem_cons_succ, List.getElem_cons_zero]
    refine WalkT.quiet (i := 6) (v := ?_) rfl (by kernel_rfl) (by kernel_rfl) (by kernel_rfl) (fun _ _ _ h => h) (Or.inl ⟨by rfl, ?_⟩) ?_; rotate_left; (· (intro wS hSw; (try dsimp only at hSw); go_simp; try with_reducible rfl)); try simp only [Act.put, List.setIfInBounds_toArray, List.set_cons_zero, List.set_cons_succ, List.getElem_toArray, List.getElem_cons_succ, List.getElem_cons_zero]
    refine WalkT.done (by kernel_rfl) ?_
    have HNw : Hid (∃ N, o.launch - total p x = N) := ⟨_, rfl⟩
    obtain ⟨N, hN⟩ := HNw.out
    rw [hN] at hr1 hr2 ⊢
    have HNN := Lib.hid hN
    clear hN HNw z1
    obtain ⟨E, hE⟩ : ∃ E, 2 ^ s.length = E := ⟨_, rfl⟩
    have hpw : E ≤ 4096 := by
      have := Nat.pow_le_pow_right (n := 2) (by omega) hsl
      rw [hE] at this
      simpa using this
    have hpi : IntKind.u64.wrap ((2 : Int) ^ s.length) = (E : Int) := by
      have h1 : ((2 : Int) ^ s.length) = ((2 ^ s.length : Nat) : Int) := by push_cast; rfl
      rw [h1, hE]; exact wrap_u _ (by omega) (by omega)
    have HE := Lib.hid hE
    clear hE
    go_wp2
    clear hpi
    go_loopw [14, 15, 16, 44] (fun bv sv fv i wr => ∃ (k : Nat) (st : Chp), k ≤ E ∧ i = .int .u64 k ∧ bv = .int .u64 (chSet st) ∧ sv = .int .i64 (chSum st) ∧ fv = .bool (chIs st) ∧ st = cheapSt p x o s k ∧ Below w5.heap.size w5 wr) (fun _ _ _ i _ => E - (intOf i).toNat)
    case atStart => exact ⟨0, none, Nat.zero_le _, rfl, rfl, rfl, rfl, rfl, Below.refl _ _⟩
    case round =>
      obtain ⟨k, st, hk, rfl, rfl, rfl, rfl, hst, hB⟩ := hrel
      have HM := Lib.hid (H5.out.below hB)
      have hz := HM.out.bel.size
      have HST := Lib.hid (And.intro hst hB)
      clear hst hB
      by_cases hlt : k < E
      · have hset : k < 4096 := by omega
        have x0 := HM.out.x.cell 0 _ rfl
        have x1 := HM.out.x.cell 1 _ rfl
        have x2 := HM.out.x.cell 2 _ rfl
        have x3 := HM.out.x.cell 3 _ rfl
        go_wp2_with fail
        refine (swapped_any _ _ p x s k _ (HA.out.1.below (by have := HM.out.bel; (repeat (first | exact Below.refl _ _ | assumption | refine below_draws ?_ _ | refine Below.drew ?_ | refine below_alloc ?_ _ (by first | omega | (simp; done) | (simp; omega)) | refine Below.setCell ?_ (by first | omega | (simp; done) | (simp; omega)) _ | refine below_at ?_ (by assumption) (by first | omega | (simp; done) | (simp; omega)))))) (HA.out.2.below (by have := HM.out.bel; (repeat (first | exact Below.refl _ _ | assumption | refine below_draws ?_ _ | refine Below.drew ?_ | refine below_alloc ?_ _ (by first | omega | (simp; done) | (simp; omega)) | refine Below.setCell ?_ (by first | omega | (simp; done) | (simp; omega)) _ | refine below_at ?_ (by assumption) (by first | omega | (simp; done) | (simp; omega)))))) HK.out.1 hpl HK.out.2.1 HK.out.2.2.1 hset).mono ?_
        rintro e w6 ⟨rfl, hb6⟩
        have HM6 := Lib.hid (HM.out.below hb6)
        have HB6 := Lib.hid (below_at HST.out.2 hb6 (by have := HST.out.2.size; omega))
        have hz6 := hb6.size
        clear hb6 x0 x1 x2 x3
        have o1 := HM6.out.o.cell 1 _ rfl
        have o2 := HM6.out.o.cell 2 _ rfl
        have HSK := Lib.hid (show cheapSt p x o s (k + 1) = stepS (candS p x o s k) k st by rw [cheapSt, ← HST.out.1])
        by_cases hn : (atsS (selSw s k)).Nodup
        · have hsv : swappedV p x s k = (priceS (selSw s k), moreS p x (selSw s k), true) := by unfold swappedV; rw [if_pos hn]
          rw [hsv]
          have hMb := moreS_bound HK.out.1 HK.out.2.1 (selSw s k) (fun y hy => by have := HK.out.2.2.1.2 y (selSw_mem s k y hy); exact ⟨this.1, this.2.1⟩)
          have hlen1 := selSw_len s k
          have HCd : Hid (candS p x o s k = if outB (N - moreS p x (selSw s k)) o.least o.most = false then some (priceS (selSw s k)) else none) := Lib.hid (by unfold candS; rw [HNN.out]; simp only [hn, true_and])
          clear hsv hn
          generalize priceS (selSw s k) = PV at *
          generalize moreS p x (selSw s k) = MV at *
          generalize selSw s k = Ls at *
          cases hout : outB (N - MV) o.least o.most
          · have HC2 := Lib.hid (show candS p x o s k = some PV by rw [HCd.out, if_pos hout])
            rcases ch_cases st with ⟨h1, h2⟩ | ⟨b, sv, h1, h2, h3, h4⟩
            · rw [h2]
              have H1 := Lib.hid h1
              clear h1 h2
              go_wp2_with (go_at_call 83; refine (out_any _ _ _ _).mono ?_; rintro e w' ⟨rfl, rfl⟩)
              go_roundw
              case rel => exact ⟨k + 1, some (k, PV), by omega, by go_num, rfl, rfl, rfl, by rw [HSK.out, HC2.out, H1.out]; rfl, HB6.out⟩
              case measure => simp [intOf]; omega
            · have hbk : b < 4096 := by have := cheapSt_lt p x o s k b sv (by rw [← HST.out.1, h1]); omega
              rw [h2, h3, h4]
              have H1 := Lib.hid h1
              clear h1 h2 h3 h4
              by_cases hl : PV < sv
              · have t1 : decide (PV < sv) = true := by simp [hl]
                go_wp2_with (go_at_call 83; refine (out_any _ _ _ _).mono ?_; rintro e w' ⟨rfl, rfl⟩)
                go_roundw
                case rel => exact ⟨k + 1, some (k, PV), by omega, by go_num, rfl, rfl, rfl, by rw [HSK.out, HC2.out, H1.out]; unfold stepS; simp only; rw [if_pos (.inl hl)], HB6.out⟩
                case measure => simp [intOf]; omega
              · have t1 : decide (PV < sv) = false := by simp; omega
                by_cases he : PV = sv
                · have t2 : (PV == sv) = true := by simp [he]
                  have HEq := Lib.hid he
                  cases hbf : befB k b
                  all_goals have HBf := Lib.hid hbf
                  · subst he
                    go_wp2_with (first | (go_at_call 83; refine (out_any _ _ _ _).mono ?_; rintro e w' ⟨rfl, rfl⟩) | (go_at_call 114; refine (setBefore_any k b _ hset hbk).mono ?_; rintro e w' ⟨rfl, rfl⟩; rw [HBf.out]))
                    go_roundw
                    case rel => exact ⟨k + 1, some (b, PV), by omega, by go_num, rfl, rfl, rfl, by rw [HSK.out, HC2.out, H1.out]; unfold stepS; simp only; rw [if_neg (by simp [HBf.out])], HB6.out⟩
                    case measure => simp [intOf]; omega
                  · subst he
                    go_wp2_with (first | (go_at_call 83; refine (out_any _ _ _ _).mono ?_; rintro e w' ⟨rfl, rfl⟩) | (go_at_call 114; refine (setBefore_any k b _ hset hbk).mono ?_; rintro e w' ⟨rfl, rfl⟩; rw [HBf.out]))
                    go_roundw
                    case rel => exact ⟨k + 1, some (k, PV), by omega, by go_num, rfl, rfl, rfl, by rw [HSK.out, HC2.out, H1.out]; unfold stepS; simp only; rw [if_pos (by simp [HBf.out])], HB6.out⟩
                    case measure => simp [intOf]; omega
                · have t2 : (PV == sv) = false := by simp [he]
                  have HNe := Lib.hid he
                  go_wp2_with (go_at_call 83; refine (out_any _ _ _ _).mono ?_; rintro e w' ⟨rfl, rfl⟩)
                  go_roundw
                  case rel => exact ⟨k + 1, some (b, sv), by omega, by go_num, rfl, rfl, rfl, by rw [HSK.out, HC2.out, H1.out]; unfold stepS; simp only; rw [if_neg (fun h => by rcases h with h | h; (· omega); (· exact HNe.out h.1))], HB6.out⟩
                  case measure => simp [intOf]; omega
          · have HC2 := Lib.hid (show candS p x o s k = none by rw [HCd.out, if_neg (by rw [hout]; decide)])
            go_wp2_with (go_at_call 83; refine (out_any _ _ _ _).mono ?_; rintro e w' ⟨rfl, rfl⟩)
            go_roundw
            case rel => exact ⟨k + 1, st, by omega, by go_num, rfl, rfl, rfl, by rw [HSK.out, HC2.out]; rfl, HB6.out⟩
            case measure => simp [intOf]; omega
        · have hsv : swappedV p x s k = (0, 0, false) := by unfold swappedV; rw [if_neg hn]
          rw [hsv]
          have HC2 := Lib.hid (show candS p x o s k = none by unfold candS; rw [if_neg (fun h => hn h.1)])
          clear hsv hn
          go_wp2
          go_roundw
          case rel => exact ⟨k + 1, st, by omega, by go_num, rfl, rfl, rfl, by rw [HSK.out, HC2.out]; rfl, HB6.out⟩
          case measure => simp [intOf]; omega
      · obtain rfl : k = E := by omega
        have hV : st = cheapV p x o s := by rw [HST.out.1]; unfold cheapV; rw [HE.out]
        have hb4 : chSet st < 4096 := by
          rcases ch_cases st with ⟨h1, h2⟩ | ⟨b, sv, h1, h2, h3, h4⟩
          · rw [h1]; decide
          · have := cheapSt_lt p x o s k b sv (by rw [← HST.out.1, h1]); omega
        have HV := Lib.hid hV
        clear hV
        have HW := Lib.hid (And.intro HM.out.bel HST.out.2)
        have HBs : Hid (∃ b, chSet st = b) := ⟨_, rfl⟩
        obtain ⟨b, hb⟩ := HBs.out
        rw [hb] at hb4 ⊢
        have HBB := Lib.hid hb
        clear hb HBs HST HM
        go_wp2
        go_loopw [21, 90] (fun ov i ws => ∃ j : Nat, j ≤ s.length ∧ i = .int .i64 j ∧ ws.ownsRow wr.heap.size 3 1 ov (membTo b j).length ((membTo b j).map (Value.int .i64)) ∧ Below wr.heap.size wr ws) (fun _ i _ => s.length - (intOf i).toNat)
        case atStart => exact ⟨0, by omega, rfl, World.ownsRow_nil _ _ _ _, Below.refl _ _⟩
        case round =>
          obtain ⟨j, hj, rfl, hown, hB⟩ := hrel
          have hszj := hB.size
          have HO := Lib.hid (And.intro hown hB)
          clear hown hB
          by_cases hjl : j < s.length
          · have hbit := and_one b j hb4
            have hsc := membTo_succ b j
            have hml := membTo_len b j
            cases hbk : bitB b j
            · rw [hbk] at hbit hsc
              simp only [Bool.false_eq_true, if_false] at hbit hsc
              have HSC := Lib.hid hsc
              clear hsc hbk
              go_wp2
              go_roundw
              case rel => exact ⟨j + 1, by omega, by go_num, by rw [HSC.out]; exact HO.out.1, HO.out.2⟩
              case measure => simp [intOf]; omega
            · rw [hbk] at hbit hsc
              simp only [if_true] at hbit hsc
              have HSC := Lib.hid hsc
              clear hsc hbk
              go_wp2_with ((at_builtin; go_must (refine wpList_append_own _ rfl _ _ 22 rfl _ 3 _ (.int .i64 0) 1 8 Try.underlying22 hi hz0 hz1 hz2 rfl (by decide) _ _ _ rfl (HO.out.1.alloc _) ⟨wr.heap.size, 0, none⟩ 1 1 [.int .i64 (j : Int)] rfl rfl (by exact news_at (by first | rfl | simp) (by rfl)) (by simp [Value.oneCell']) (by unfold maxLen; omega) (by omega) (by first | omega | (simp; done) | (simp; omega)) ?_)); intro v' w9 hown9 hg9 _)
              go_roundw
              case rel => exact ⟨j + 1, by omega, by go_num, by rw [HSC.out, List.length_append, List.map_append]; exact hown9, below_grown (by have := HO.out.2; (repeat (first | exact Below.refl _ _ | assumption | refine below_draws ?_ _ | refine Below.drew ?_ | refine below_alloc ?_ _ (by first | omega | (simp; done) | (simp; omega)) | refine Below.setCell ?_ (by first | omega | (simp; done) | (simp; omega)) _ | refine below_at ?_ (by assumption) (by first | omega | (simp; done) | (simp; omega))))) (HO.out.1.alloc (.cells #[.int .i64 (j : Int)] 3)) hg9 (Nat.le_refl _) (by simp; omega)⟩
              case measure => simp [intOf]; omega
          · obtain rfl : j = s.length := by omega
            obtain ⟨oa, ocap, rfl, -, -, -⟩ := OwnI2.form HO.out.1
            go_wp2
            ((try simp only [Exit.inBlock, Exit.then]); refine bodyPost_ret (results_tmp4 rfl _ _ _) rfl ?_)
            refine ⟨oa, ocap, _, chSum st, chIs st, by rw [HK.out.2.2.2]; exact rfl, own_base HO.out.1 HW.out.1.size, below_at HW.out.1 HO.out.2 hz, fun h => absurd HK.out.2.2.2 h, fun _ => ⟨by rw [HV.out], by rw [HV.out], by unfold cheapL; rw [← HV.out, HBB.out]⟩⟩
  · have hf1 : (chpF p x o s != 0) = true := by simp [hf]
    have HN := Lib.hid hf
    clear hf
    go_enter Try.func50, Try.ntmps50
    go_wp2_with (first
      | (go_at_call 81; refine (fault_any _ p x o _ (by exact HA.out.1.below (by (repeat (first | exact Below.refl _ _ | assumption | refine below_draws ?_ _ | refine Below.drew ?_ | refine below_alloc ?_ _ (by first | omega | (simp; done) | (simp; omega)) | refine Below.setCell ?_ (by first | omega | (simp; done) | (simp; omega)) _ | refine below_at ?_ (by assumption) (by first | omega | (simp; done) | (simp; omega))))))).mono ?_; rintro e w1 ⟨rfl, hb1⟩; have hs1 := hb1.size; simp only [World.size_alloc] at hs1; have hB1 : Below w.heap.size w w1 := (by (repeat (first | exact Below.refl _ _ | assumption | refine below_draws ?_ _ | refine Below.drew ?_ | refine below_alloc ?_ _ (by first | omega | (simp; done) | (simp; omega)) | refine Below.setCell ?_ (by first | omega | (simp; done) | (simp; omega)) _ | refine below_at ?_ (by assumption) (by first | omega | (simp; done) | (simp; omega))))))
      | (go_at_call 112; refine (swapsFault_any _ _ p s _ (by exact HA.out.1.below (by (repeat (first | exact Below.refl _ _ | assumption | refine below_draws ?_ _ | refine Below.drew ?_ | refine below_alloc ?_ _ (by first | omega | (simp; done) | (simp; omega)) | refine Below.setCell ?_ (by first | omega | (simp; done) | (simp; omega)) _ | refine below_at ?_ (by assumption) (by first | omega | (simp; done) | (simp; omega)))))) (by exact HA.out.2.below (by (repeat (first | exact Below.refl _ _ | assumption | refine below_draws ?_ _ | refine Below.drew ?_ | refine below_alloc ?_ _ (by first | omega | (simp; done) | (simp; omega)) | refine Below.setCell ?_ (by first | omega | (simp; done) | (simp; omega)) _ | refine below_at ?_ (by assumption) (by first | omega | (simp; done) | (simp; omega))))))).mono ?_; rintro e w2 ⟨rfl, hb2⟩; have hs2 := hb2.size)
      | (go_at_call 84; refine (first_any _ [faultF p x o, swapsFault p.length s] _ (by exact Arr.lit (cells := intCells) (sz := 1) (fun _ => rfl) _ [faultF p x o, swapsFault p.length s] _ _ 2 (by rfl) rfl (by simp [maxLen]))).mono ?_; rintro e w4 ⟨rfl, rfl⟩; rw [HF.out]))
    ((try simp only [Exit.inBlock, Exit.then]); refine bodyPost_ret (results_tmp4 rfl _ _ _) rfl ?_)
    exact ⟨none, 0, [], 0, false, rfl, World.ownsRow_nil _ _ _ _, by have := hB1.size; (repeat (first | exact Below.refl _ _ | assumption | refine below_draws ?_ _ | refine Below.drew ?_ | refine below_alloc ?_ _ (by first | omega | (simp; done) | (simp; omega)) | refine Below.setCell ?_ (by first | omega | (simp; done) | (simp; omega)) _ | refine below_at ?_ (by assumption) (by first | omega | (simp; done) | (simp; omega)))), fun _ => ⟨rfl, rfl, rfl⟩, fun h => absurd h HN.out⟩
end Go.Proofs.Ytagpcgnlbgndmaa
/- Plain: what the cheapest swaps do. No program. -/
set_option linter.unusedVariables false
set_option linter.unusedSimpArgs false
namespace Go.Proofs.Ytagpcgnlbgndmaa

theorem selSw_memb (t : List Swap) : ∀ (pre : List Swap) (b : Nat), selSw t b = (memb t.length pre.length b).map (fun z => (pre ++ t).getD z.toNat default) := by
  induction t with
  | nil => intro pre b; rfl
  | cons y t ih =>
    intro pre b
    have h1 := ih (pre ++ [y]) (b / 2)
    rw [List.append_assoc, List.singleton_append, List.length_append, List.length_singleton] at h1
    rw [selSw, List.length_cons, memb]
    have h2 : (pre ++ y :: t).getD ((pre.length : Int)).toNat default = y := by
      rw [Int.toNat_natCast, List.getD_eq_getElem?_getD, List.getElem?_append_right (Nat.le_refl _)]
      simp
    split
    · rw [List.map_cons, h1, h2]
    · rw [h1]
theorem selSw_members (s : List Swap) (b : Nat) : selSw s b = (membTo b s.length).map (fun z => s.getD z.toNat default) := by
  rw [membTo_eq]
  exact selSw_memb s [] b
theorem memb_bound (n b : Nat) : ∀ z ∈ membTo b n, 0 ≤ z ∧ z < n := by
  intro z hz
  rw [membTo_eq] at hz
  have := memb_ge n 0 b z hz
  omega
theorem cheapSt_cand (p : List Part) (x : Losses) (o : Optics) (s : List Swap) : ∀ k b c, cheapSt p x o s k = some (b, c) → candS p x o s b = some c := by
  intro k
  induction k with
  | zero => intro b c h; cases h
  | succ k ih =>
    intro b c h
    rw [cheapSt] at h
    unfold stepS at h
    split at h
    · exact ih b c h
    · rename_i c' pr hc
      split at h
      · simp only [Option.some.injEq, Prod.mk.injEq] at h
        obtain ⟨rfl, rfl⟩ := h
        exact hc
      · rename_i b' s' he
        split at h
        · simp only [Option.some.injEq, Prod.mk.injEq] at h
          obtain ⟨rfl, rfl⟩ := h
          exact hc
        · simp only [Option.some.injEq, Prod.mk.injEq] at h
          obtain ⟨rfl, rfl⟩ := h
          exact ih _ _ he
theorem selSw_zero (s : List Swap) : selSw s 0 = [] := by
  induction s with
  | nil => rfl
  | cons y s ih => unfold selSw; simp [ih]
theorem popc_zero : popc 0 = 0 := by decide +kernel
theorem befB_zero (k : Nat) : befB k 0 = false := by
  unfold befB
  rw [popc_zero]
  by_cases h : popc k = 0
  · have hl : lowB 12 k 0 = false := by
      cases h2 : lowB 12 k 0
      · rfl
      · exfalso
        have hk : memb 12 0 k = [] := List.length_eq_zero_iff.1 h
        have h0 : memb 12 0 0 = [] := memb_zeroS 12 0
        have := (cmpL_low 12 0 k 0 (by rw [hk, h0])).2 h2
        rw [hk, h0] at this
        simp [cmpL] at this
    simp [h, hl]
  · simp [h]
/-- nothing is swapped where it fits -/
theorem cheap_none {p : List Part} {x : Losses} {o : Optics} {s : List Swap} (hs : ∀ y ∈ s, 0 ≤ y.price ∧ y.price ≤ 1000000000) (h : outB (o.launch - total p x) o.least o.most = false) : ∀ k, cheapSt p x o s (k + 1) = some (0, 0) := by
  have h0 : candS p x o s 0 = some 0 := by
    unfold candS
    rw [selSw_zero]
    have : moreS p x [] = 0 := rfl
    rw [this, Int.sub_zero, if_pos ⟨by simp [atsS], h⟩]
    rfl
  intro k
  induction k with
  | zero => rw [cheapSt, h0]; rfl
  | succ k ih =>
    rw [cheapSt, ih]
    unfold stepS
    split
    · rfl
    · rename_i c' pr hc
      have := candS_price hs hc
      simp only
      rw [if_neg]
      rintro (h | ⟨_, h⟩)
      · omega
      · rw [befB_zero] at h; cases h
theorem cheapV_none {p : List Part} {x : Losses} {o : Optics} {s : List Swap} (hs : ∀ y ∈ s, 0 ≤ y.price ∧ y.price ≤ 1000000000) (h : outB (o.launch - total p x) o.least o.most = false) : cheapV p x o s = some (0, 0) ∧ cheapL p x o s = [] := by
  have h1 : cheapV p x o s = some (0, 0) := by
    unfold cheapV
    obtain ⟨k, hk⟩ : ∃ k, 2 ^ s.length = k + 1 := ⟨2 ^ s.length - 1, by have := Nat.one_le_two_pow (n := s.length); omega⟩
    rw [hk]; exact cheap_none hs h k
  refine ⟨h1, ?_⟩
  unfold cheapL
  rw [h1, membTo_eq]
  exact memb_zeroS _ _
/-- with what is swapped it fits, for the price -/
theorem cheap_fits {p : List Part} {x : Losses} {o : Optics} {s : List Swap} (hf : faultF p x o = 0) (hso : SwapsOk p.length s) {b : Nat} {c : Int} (h : cheapV p x o s = some (b, c)) :
    faultF (setAll p (selSw s b)) x o = 0 ∧ recvV (setAll p (selSw s b)) x o = o.launch - total p x - moreS p x (selSw s b) ∧ outB (o.launch - total p x - moreS p x (selSw s b)) o.least o.most = false ∧ c = priceS (selSw s b) ∧ (atsS (selSw s b)).Nodup := by
  have hc := cheapSt_cand p x o s _ b c h
  unfold candS at hc
  split at hc
  · rename_i hn
    simp only [Option.some.injEq] at hc
    obtain ⟨⟨hpl, hpo⟩, hx, ho⟩ := faultF_zero.1 hf
    have hf2 : faultF (setAll p (selSw s b)) x o = 0 := by
      refine faultF_zero.2 ⟨⟨by rw [setAll_len]; exact hpl, fun q hq => ?_⟩, hx, ho⟩
      rcases setAll_mem _ _ q hq with h | ⟨y, hy, rfl⟩
      · exact hpo q h
      · exact (hso.2 y (selSw_mem s b y hy)).2.1
    refine ⟨hf2, ?_, hn.2, hc.symm, hn.1⟩
    unfold recvV
    rw [if_pos hf2, total_setAll x _ p hn.1 (fun y hy => (hso.2 y (selSw_mem s b y hy)).1)]
    omega
  · cases hc
end Go.Proofs.Ytagpcgnlbgndmaa
