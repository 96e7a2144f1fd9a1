/- Texts of one subject in one: Table, PlainA, TableB, AsgP, AsgW, AsgA, AsgR, AsgS, AsgT; what each shows stands at its head. No condition. -/
import Derived.Test.YtagpcgnlbgndmaaRefB1
import Derived.Test.YtagpcgnlbgndmaaWalkB1
import Derived.Test.YtagpcgnlbgndmaaBuyAll
import Derived.Test.YtagpcgnlbgndmaaOrders
import Derived.Deep.AppendLies
import Derived.RegionTactic
import Derived.OpenShut
import Derived.Deep.CutRange
import Derived.Test.YtagpcgnlbgndmaaRefB5
/- Tables of numbers, plain and in memory; their error. Walk: the reference's AssignFault. -/
set_option linter.unusedVariables false
set_option linter.unusedSimpArgs false
namespace Go.Proofs.Ytagpcgnlbgndmaa
open Go Go.RowKit

/-- v reads as a slice of rows of integers -/
def Tab (w : World) (rows : List (List Int)) (v : Value) : Prop :=
  ∃ a cap, v = .slice a rows.length cap ∧ rows.length ≤ cap ∧ cap ≤ maxLen ∧
    ∀ k (hk : k < rows.length), ∃ b off r, a = some ⟨b, off, none⟩ ∧ b < w.heap.size ∧ w.cell? ⟨b, off + k, none⟩ = some r ∧ Arr intCells 1 w rows[k] r
theorem Tab.below {w w' : World} {rows : List (List Int)} {v : Value} (h : Tab w rows v) (hB : Below w.heap.size w w') : Tab w' rows v := by
  obtain ⟨a, cap, h1, h2, h3, h4⟩ := h
  refine ⟨a, cap, h1, h2, h3, fun k hk => ?_⟩
  obtain ⟨b, off, r, ha, hb, hc, hr⟩ := h4 k hk
  exact ⟨b, off, r, ha, Nat.lt_of_lt_of_le hb hB.size, (hB.cell (p := ⟨b, _, none⟩) hb).trans hc, hr.below hB⟩

def numF (x : Int) : Int := if outB x 0 1000000 then 1 else 0
def rowF (n : Nat) (r : List Int) : Int := if r.length = n then firstF (r.map numF) else 3
def tabF (rows : List (List Int)) (free : List Int) : Int :=
  if 9 < rows.length ∨ 6 < free.length then 2 else if firstF (rows.map (rowF free.length)) = 0 then firstF (free.map numF) else firstF (rows.map (rowF free.length))

set_option maxHeartbeats 4000000 in
set_option maxRecDepth 100000 in
theorem assignFault_any (v u : Value) (rows : List (List Int)) (free : List Int) (w : World) (h : Tab w rows v) (hf : Arr intCells 1 w free u) : Calls Try.prog 44 #[v, u] w
    fun e w' => e = .returned (.int .i64 (tabF rows free)) ∧ w = w' := by
  obtain ⟨a, cap, rfl, hcap, hmax, hc⟩ := h
  obtain ⟨a2, cap2, rfl, hcap2, hmax2, hc2⟩ := hf
  unfold maxLen at hmax hmax2
  by_cases h9 : 9 < rows.length
  · go_enter Try.func44, Try.ntmps44
    go_wp2
    go_ret
    exact ⟨ret_int (by unfold tabF; rw [if_pos (.inl h9)]), rfl⟩
  by_cases h6 : 6 < free.length
  · go_enter Try.func44, Try.ntmps44
    go_wp2
    go_ret
    exact ⟨ret_int (by unfold tabF; rw [if_pos (.inr h6)]), rfl⟩
  go_enter Try.func44, Try.ntmps44
  go_wp2
  go_loop [21] (fun i => ∃ k : Nat, k ≤ rows.length ∧ i = .int .i64 k ∧ firstF ((rows.map (rowF free.length)).take k) = 0) (fun i => rows.length - (intOf i).toNat)
  case atStart => exact ⟨0, by omega, rfl, rfl⟩
  case round =>
    obtain ⟨k, hk, rfl, hz⟩ := hrel
    have HZ := Lib.hid hz
    clear hz
    by_cases hlt : k < rows.length
    · obtain ⟨b, off, rv, rfl, hb, hcell, hr⟩ := hc k hlt
      have hlt' : k < (rows.map (rowF free.length)).length := by simpa using hlt
      obtain ⟨a3, cap3, rfl, hcap3, hmax3, hc3⟩ := hr
      unfold maxLen at hmax3
      have HR : Hid ((rows.map (rowF free.length))[k]'hlt' = rowF free.length rows[k]) := by unfold Hid; simp
      generalize rows[k] = r at *
      by_cases hn : r.length = free.length
      · have HN := Lib.hid hn
        have hne : ((r.length : Int) != (free.length : Int)) = false := by simp [hn]
        clear hn
        go_wp2
        go_loop [32] (fun i => ∃ j : Nat, j ≤ r.length ∧ i = .int .i64 j ∧ firstF ((r.map numF).take j) = 0) (fun i => r.length - (intOf i).toNat)
        case atStart => exact ⟨0, by omega, rfl, rfl⟩
        case round =>
          obtain ⟨j, hj, rfl, hz⟩ := hrel
          have HY := Lib.hid hz
          clear hz
          by_cases hjl : j < r.length
          · obtain ⟨b3, off3, rfl, hb3, hcc3⟩ := hc3 j hjl
            have c0 := hcc3 0 _ rfl
            simp only [Nat.mul_one, Nat.add_zero] at c0
            have hjl' : j < (r.map numF).length := by simpa using hjl
            have HE : Hid ((r.map numF)[j]'hjl' = numF r[j]) := by unfold Hid; simp
            generalize r[j] = y at *
            cases ho : outB y 0 1000000
            · have HV : Hid (numF y = 0) := by unfold Hid numF; rw [ho]; rfl
              go_wp2_with (go_at_call 80; refine (rin_any _ _ _ _).mono ?_; rintro e w' ⟨rfl, rfl⟩)
              go_round
              case rel => exact ⟨j + 1, by omega, by go_num, by rw [firstF_take_succ _ j hjl' HY.out, HE.out, HV.out]⟩
              case measure => simp [intOf]; omega
            · have HV : Hid (numF y = 1) := by unfold Hid numF; rw [ho]; rfl
              go_wp2_with (go_at_call 80; refine (rin_any _ _ _ _).mono ?_; rintro e w' ⟨rfl, rfl⟩)
              go_ret
              exact ⟨ret_int (by unfold tabF; rw [if_neg (by omega), firstF_hit _ k hlt' HZ.out (by rw [HR.out]; unfold rowF; rw [if_pos HN.out, firstF_hit _ j hjl' HY.out (by rw [HE.out, HV.out]; decide), HE.out, HV.out]; decide), HR.out]; unfold rowF; rw [if_pos HN.out, firstF_hit _ j hjl' HY.out (by rw [HE.out, HV.out]; decide), HE.out, HV.out]; rfl), rfl⟩
          · have HRZ : Hid (rowF free.length r = 0) := by
              have := HY.out
              rw [List.take_of_length_le (by simp; omega)] at this
              unfold Hid rowF; rw [if_pos HN.out, this]
            go_wp2
            go_round
            case rel => exact ⟨k + 1, by omega, by go_num, by rw [firstF_take_succ _ k hlt' HZ.out, HR.out, HRZ.out]⟩
            case measure => simp [intOf]; omega
      · have HN : Hid (rowF free.length r = 3) := by unfold Hid rowF; rw [if_neg hn]
        have hne : ((r.length : Int) != (free.length : Int)) = true := by rw [bne_iff_ne]; omega
        clear hn
        go_wp2
        go_ret
        exact ⟨ret_int (by unfold tabF; rw [if_neg (by omega), firstF_hit _ k hlt' HZ.out (by rw [HR.out, HN.out]; decide), HR.out, HN.out]; rfl), rfl⟩
    · have HRZ : Hid (firstF (rows.map (rowF free.length)) = 0) := by
        have := HZ.out
        rw [List.take_of_length_le (by simp; omega)] at this
        exact this
      go_wp2
      go_loop [43] (fun i => ∃ j : Nat, j ≤ free.length ∧ i = .int .i64 j ∧ firstF ((free.map numF).take j) = 0) (fun i => free.length - (intOf i).toNat)
      case atStart => exact ⟨0, by omega, rfl, rfl⟩
      case round =>
        obtain ⟨j, hj, rfl, hz⟩ := hrel
        have HY := Lib.hid hz
        clear hz
        by_cases hjl : j < free.length
        · obtain ⟨b3, off3, rfl, hb3, hcc3⟩ := hc2 j hjl
          have c0 := hcc3 0 _ rfl
          simp only [Nat.mul_one, Nat.add_zero] at c0
          have hjl' : j < (free.map numF).length := by simpa using hjl
          have HE : Hid ((free.map numF)[j]'hjl' = numF free[j]) := by unfold Hid; simp
          generalize free[j] = y at *
          cases ho : outB y 0 1000000
          · have HV : Hid (numF y = 0) := by unfold Hid numF; rw [ho]; rfl
            go_wp2_with (go_at_call 80; refine (rin_any _ _ _ _).mono ?_; rintro e w' ⟨rfl, rfl⟩)
            go_round
            case rel => exact ⟨j + 1, by omega, by go_num, by rw [firstF_take_succ _ j hjl' HY.out, HE.out, HV.out]⟩
            case measure => simp [intOf]; omega
          · have HV : Hid (numF y = 1) := by unfold Hid numF; rw [ho]; rfl
            go_wp2_with (go_at_call 80; refine (rin_any _ _ _ _).mono ?_; rintro e w' ⟨rfl, rfl⟩)
            go_ret
            exact ⟨ret_int (by unfold tabF; rw [if_neg (by omega), if_pos HRZ.out, firstF_hit _ j hjl' HY.out (by rw [HE.out, HV.out]; decide), HE.out, HV.out]), rfl⟩
        · go_wp2
          go_ret
          exact ⟨ret_int (by have := HY.out; rw [List.take_of_length_le (by simp; omega)] at this; unfold tabF; rw [if_neg (by omega), if_pos HRZ.out, this]), rfl⟩
end Go.Proofs.Ytagpcgnlbgndmaa
/- Plain: the search for the cheapest assignment of customers to cabinets. No program. -/
set_option linter.unusedVariables false
set_option linter.unusedSimpArgs false
namespace Go.Proofs.Ytagpcgnlbgndmaa

/-- the best so far -/
abbrev Best := Option (List Int × Int)
def full (st : Best) (c : Int) : Bool := match st with | none => false | some (_, s) => decide (s ≤ c)
/-- one cabinet after the other is tried for a customer -/
def tryAll (f : List Int → List Int → Int → Best → Best) (room now : List Int) (c : Int) : List Int → Nat → Best → Best
  | [], _, st => st
  | n :: r, k, st => tryAll f room now c r (k + 1) (if 0 < room.getD k 0 then f (room.set k (room.getD k 0 - 1)) (now ++ [(k : Int)]) (c + n) st else st)
def search : List (List Int) → List Int → List Int → Int → Best → Best
  | [], _, now, c, st => if full st c then st else some (now, c)
  | row :: rest, room, now, c, st => if full st c then st else tryAll (search rest) room now c row 0 st
theorem tryAll_take (f : List Int → List Int → Int → Best → Best) (room now : List Int) (c : Int) (row : List Int) (k j : Nat) (st : Best) (h : k < row.length) :
    tryAll f room now c (row.drop k) j st = tryAll f room now c (row.drop (k + 1)) (j + 1) (if 0 < room.getD j 0 then f (room.set j (room.getD j 0 - 1)) (now ++ [(j : Int)]) (c + row[k]) st else st) := by
  rw [List.drop_eq_getElem_cons h, tryAll]
/-- what is known of the best: it is of the length of the table, its cost is no less than 0 -/
def BestOk (st : Best) : Prop := ∀ l s, st = some (l, s) → 0 ≤ s
theorem tryAll_ok {f : List Int → List Int → Int → Best → Best} (hf : ∀ r n c st, 0 ≤ c → BestOk st → BestOk (f r n c st)) (room now : List Int) (c : Int) (hc : 0 ≤ c) (row : List Int) (hr : ∀ x ∈ row, 0 ≤ x) : ∀ (k : Nat) (st : Best), BestOk st → BestOk (tryAll f room now c row k st) := by
  induction row with
  | nil => intro k st h; exact h
  | cons n r ih =>
    intro k st h
    have hn := hr n (by simp)
    refine ih (fun x hx => hr x (by simp [hx])) (k + 1) _ ?_
    split
    · exact hf _ _ _ _ (by omega) h
    · exact h
theorem search_ok (rows : List (List Int)) (hr : ∀ r ∈ rows, ∀ x ∈ r, 0 ≤ x) : ∀ (room now : List Int) (c : Int) (st : Best), 0 ≤ c → BestOk st → BestOk (search rows room now c st) := by
  induction rows with
  | nil =>
    intro room now c st hc h
    unfold search
    split
    · exact h
    · intro l s e
      simp only [Option.some.injEq, Prod.mk.injEq] at e
      omega
  | cons row rest ih =>
    intro room now c st hc h
    unfold search
    split
    · exact h
    · exact tryAll_ok (ih (fun r hx => hr r (by simp [hx]))) room now c hc row (hr row (by simp)) 0 st h
/-- a table that is right -/
theorem tab_ok {rows : List (List Int)} {free : List Int} (h : tabF rows free = 0) : rows.length ≤ 9 ∧ free.length ≤ 6 ∧ (∀ r ∈ rows, r.length = free.length ∧ ∀ x ∈ r, 0 ≤ x ∧ x ≤ 1000000) ∧ ∀ x ∈ free, 0 ≤ x ∧ x ≤ 1000000 := by
  unfold tabF at h
  split at h
  · omega
  rename_i h1
  have hnum : ∀ x, numF x = 0 → 0 ≤ x ∧ x ≤ 1000000 := by
    intro x hx
    unfold numF at hx
    split at hx
    · omega
    · rename_i ho; exact outB_false.1 (by simpa using ho)
  split at h
  · rename_i h2
    refine ⟨by omega, by omega, fun r hr => ?_, fun x hx => hnum x (firstF_zero.1 h _ (List.mem_map_of_mem hx))⟩
    have h3 := firstF_zero.1 h2 _ (List.mem_map_of_mem hr)
    unfold rowF at h3
    split at h3
    · rename_i h4
      exact ⟨h4, fun x hx => hnum x (firstF_zero.1 h3 _ (List.mem_map_of_mem hx))⟩
    · omega
  · rename_i h2; exact absurd h h2
def bestL (st : Best) : List Int := match st with | none => [] | some (l, _) => l
def bestS (st : Best) : Int := match st with | none => 0 | some (_, s) => s
def bestB (st : Best) : Bool := st.isSome
def assignedV (rows : List (List Int)) (free : List Int) : Best := search rows free [] 0 none
end Go.Proofs.Ytagpcgnlbgndmaa
/- Walk: tree.assignFault. -/
set_option linter.unusedVariables false
set_option linter.unusedSimpArgs false
namespace Go.Proofs.Ytagpcgnlbgndmaa
open Go Go.RowKit
set_option maxHeartbeats 4000000 in
set_option maxRecDepth 100000 in
theorem passignFault_any (v u : Value) (rows : List (List Int)) (free : List Int) (w : World) (h : Tab w rows v) (hf : Arr intCells 1 w free u) : Calls Try.prog 104 #[v, u] w
    fun e w' => e = .returned (.int .i64 (tabF rows free)) ∧ w = w' := by
  obtain ⟨a, cap, rfl, hcap, hmax, hc⟩ := h
  obtain ⟨a2, cap2, rfl, hcap2, hmax2, hc2⟩ := hf
  unfold maxLen at hmax hmax2
  by_cases h9 : 9 < rows.length
  · go_enter Try.func104, Try.ntmps104
    go_wp2
    go_ret
    exact ⟨ret_int (by unfold tabF; rw [if_pos (.inl h9)]), rfl⟩
  by_cases h6 : 6 < free.length
  · go_enter Try.func104, Try.ntmps104
    go_wp2
    go_ret
    exact ⟨ret_int (by unfold tabF; rw [if_pos (.inr h6)]), rfl⟩
  go_enter Try.func104, Try.ntmps104
  go_wp2
  go_loop [21] (fun i => ∃ k : Nat, k ≤ rows.length ∧ i = .int .i64 k ∧ firstF ((rows.map (rowF free.length)).take k) = 0) (fun i => rows.length - (intOf i).toNat)
  case atStart => exact ⟨0, by omega, rfl, rfl⟩
  case round =>
    obtain ⟨k, hk, rfl, hz⟩ := hrel
    have HZ := Lib.hid hz
    clear hz
    by_cases hlt : k < rows.length
    · obtain ⟨b, off, rv, rfl, hb, hcell, hr⟩ := hc k hlt
      have hlt' : k < (rows.map (rowF free.length)).length := by simpa using hlt
      obtain ⟨a3, cap3, rfl, hcap3, hmax3, hc3⟩ := hr
      unfold maxLen at hmax3
      have HR : Hid ((rows.map (rowF free.length))[k]'hlt' = rowF free.length rows[k]) := by unfold Hid; simp
      generalize rows[k] = r at *
      by_cases hn : r.length = free.length
      · have HN := Lib.hid hn
        have hne : ((r.length : Int) != (free.length : Int)) = false := by simp [hn]
        clear hn
        go_wp2
        go_loop [32] (fun i => ∃ j : Nat, j ≤ r.length ∧ i = .int .i64 j ∧ firstF ((r.map numF).take j) = 0) (fun i => r.length - (intOf i).toNat)
        case atStart => exact ⟨0, by omega, rfl, rfl⟩
        case round =>
          obtain ⟨j, hj, rfl, hz⟩ := hrel
          have HY := Lib.hid hz
          clear hz
          by_cases hjl : j < r.length
          · obtain ⟨b3, off3, rfl, hb3, hcc3⟩ := hc3 j hjl
            have c0 := hcc3 0 _ rfl
            simp only [Nat.mul_one, Nat.add_zero] at c0
            have hjl' : j < (r.map numF).length := by simpa using hjl
            have HE : Hid ((r.map numF)[j]'hjl' = numF r[j]) := by unfold Hid; simp
            generalize r[j] = y at *
            cases ho : outB y 0 1000000
            · have HV : Hid (numF y = 0) := by unfold Hid numF; rw [ho]; rfl
              go_wp2_with (go_at_call 83; refine (out_any _ _ _ _).mono ?_; rintro e w' ⟨rfl, rfl⟩)
              go_round
              case rel => exact ⟨j + 1, by omega, by go_num, by rw [firstF_take_succ _ j hjl' HY.out, HE.out, HV.out]⟩
              case measure => simp [intOf]; omega
            · have HV : Hid (numF y = 1) := by unfold Hid numF; rw [ho]; rfl
              go_wp2_with (go_at_call 83; refine (out_any _ _ _ _).mono ?_; rintro e w' ⟨rfl, rfl⟩)
              go_ret
              exact ⟨ret_int (by unfold tabF; rw [if_neg (by omega), firstF_hit _ k hlt' HZ.out (by rw [HR.out]; unfold rowF; rw [if_pos HN.out, firstF_hit _ j hjl' HY.out (by rw [HE.out, HV.out]; decide), HE.out, HV.out]; decide), HR.out]; unfold rowF; rw [if_pos HN.out, firstF_hit _ j hjl' HY.out (by rw [HE.out, HV.out]; decide), HE.out, HV.out]; rfl), rfl⟩
          · have HRZ : Hid (rowF free.length r = 0) := by
              have := HY.out
              rw [List.take_of_length_le (by simp; omega)] at this
              unfold Hid rowF; rw [if_pos HN.out, this]
            go_wp2
            go_round
            case rel => exact ⟨k + 1, by omega, by go_num, by rw [firstF_take_succ _ k hlt' HZ.out, HR.out, HRZ.out]⟩
            case measure => simp [intOf]; omega
      · have HN : Hid (rowF free.length r = 3) := by unfold Hid rowF; rw [if_neg hn]
        have hne : ((r.length : Int) != (free.length : Int)) = true := by rw [bne_iff_ne]; omega
        clear hn
        go_wp2
        go_ret
        exact ⟨ret_int (by unfold tabF; rw [if_neg (by omega), firstF_hit _ k hlt' HZ.out (by rw [HR.out, HN.out]; decide), HR.out, HN.out]; rfl), rfl⟩
    · have HRZ : Hid (firstF (rows.map (rowF free.length)) = 0) := by
        have := HZ.out
        rw [List.take_of_length_le (by simp; omega)] at this
        exact this
      go_wp2
      go_loop [42] (fun i => ∃ j : Nat, j ≤ free.length ∧ i = .int .i64 j ∧ firstF ((free.map numF).take j) = 0) (fun i => free.length - (intOf i).toNat)
      case atStart => exact ⟨0, by omega, rfl, rfl⟩
      case round =>
        obtain ⟨j, hj, rfl, hz⟩ := hrel
        have HY := Lib.hid hz
        clear hz
        by_cases hjl : j < free.length
        · obtain ⟨b3, off3, rfl, hb3, hcc3⟩ := hc2 j hjl
          have c0 := hcc3 0 _ rfl
          simp only [Nat.mul_one, Nat.add_zero] at c0
          have hjl' : j < (free.map numF).length := by simpa using hjl
          have HE : Hid ((free.map numF)[j]'hjl' = numF free[j]) := by unfold Hid; simp
          generalize free[j] = y at *
          cases ho : outB y 0 1000000
          · have HV : Hid (numF y = 0) := by unfold Hid numF; rw [ho]; rfl
            go_wp2_with (go_at_call 83; refine (out_any _ _ _ _).mono ?_; rintro e w' ⟨rfl, rfl⟩)
            go_round
            case rel => exact ⟨j + 1, by omega, by go_num, by rw [firstF_take_succ _ j hjl' HY.out, HE.out, HV.out]⟩
            case measure => simp [intOf]; omega
          · have HV : Hid (numF y = 1) := by unfold Hid numF; rw [ho]; rfl
            go_wp2_with (go_at_call 83; refine (out_any _ _ _ _).mono ?_; rintro e w' ⟨rfl, rfl⟩)
            go_ret
            exact ⟨ret_int (by unfold tabF; rw [if_neg (by omega), if_pos HRZ.out, firstF_hit _ j hjl' HY.out (by rw [HE.out, HV.out]; decide), HE.out, HV.out]), rfl⟩
        · go_wp2
          go_ret
          exact ⟨ret_int (by have := HY.out; rw [List.take_of_length_le (by simp; omega)] at this; unfold tabF; rw [if_neg (by omega), if_pos HRZ.out, this]), rfl⟩
end Go.Proofs.Ytagpcgnlbgndmaa
/- The search for an assignment in memory: what the search owns, step by step. -/
set_option linter.unusedVariables false
set_option linter.unusedSimpArgs false
namespace Go.Proofs.Ytagpcgnlbgndmaa
open Go Go.RowKit

def OwnI (base : Nat) (W : World) (v : Value) (l : List Int) : Prop := W.ownsRow base 3 1 v l.length (l.map (Value.int .i64))
theorem OwnI.kept {base : Nat} {W W' : World} {v : Value} {l : List Int} (h : OwnI base W v l) {row : Option Nat} (hg : W.grownBy W' row) (hne : ∀ g, v.ownBlock = some g → row ≠ some g) : OwnI base W' v l := by
  refine World.ownsRow.kept h hg ?_
  cases hv : v.ownBlock with
  | none => exact .inl rfl
  | some g => exact .inr (fun e => hne g hv e.symm)
theorem OwnI.below {base : Nat} {W W' : World} {v : Value} {l : List Int} (h : OwnI base W v l) (hB : Below W.heap.size W W') : OwnI base W' v l := own_below h hB
theorem OwnI.base {base base' : Nat} {W : World} {v : Value} {l : List Int} (h : OwnI base W v l) (hb : base' ≤ base) : OwnI base' W v l := by
  refine ⟨h.1, ?_⟩
  rcases h.2 with h1 | ⟨g, cap, cur, hv, hg, rest⟩
  · exact .inl h1
  · exact .inr ⟨g, cap, cur, hv, by omega, rest⟩
/-- cut after its first elements -/
theorem OwnI.cut {base : Nat} {W : World} {g cap : Nat} {l : List Int} {x : Int} (h : OwnI base W (.slice (some ⟨g, 0, none⟩) (l.length + 1) cap) (l ++ [x])) : OwnI base W (.slice (some ⟨g, 0, none⟩) l.length cap) l := by
  refine ⟨by simp, .inr ?_⟩
  rcases h.2 with ⟨h1, _⟩ | ⟨g', cap', cur, hv, hg, hh, hc, hm, hs, ht⟩
  · cases h1
  · simp only [Value.slice.injEq, Option.some.injEq, Addr.mk.injEq, and_true] at hv
    obtain ⟨rfl, _, rfl⟩ := hv
    refine ⟨g, cap, cur, rfl, hg, hh, by simp at hc; omega, hm, hs, ?_⟩
    have h2 := congrArg (List.take (l.length * 1)) ht
    rw [List.take_take, List.map_append, List.take_append_of_le_length (by simp)] at h2
    rw [show min (l.length * 1) ((l ++ [x]).length * 1) = l.length * 1 by simp] at h2
    rw [h2, List.take_of_length_le (by simp)]
theorem OwnI.cell {base : Nat} {W : World} {g n cap : Nat} {l : List Int} (h : OwnI base W (.slice (some ⟨g, 0, none⟩) n cap) l) (hn : n = l.length) {k : Nat} (hk : k < l.length) : W.cell? ⟨g, k, none⟩ = some (.int .i64 l[k]) := by
  subst hn
  have := World.ownsRow.cellAt (w := W) h k (by omega)
  rw [this, List.getElem?_map, List.getElem?_eq_getElem hk]; rfl

/-- the fields of the search -/
def asgCells (cv rv nv : Value) (c : Int) (bv : Value) (st : Best) : Array Value := #[cv, rv, nv, .int .i64 c, bv, .int .i64 (bestS st), .bool (bestB st)]
structure ASt (W0 : World) (p : Nat) (cv rv nv bv : Value) (room now : List Int) (c : Int) (st : Best) (W : World) : Prop where
  bel : Below W0.heap.size W0 W
  pl : W0.heap.size ≤ p
  blk : Blk W p (asgCells cv rv nv c bv st) 139
  orv : OwnI W0.heap.size W rv room
  onv : OwnI W0.heap.size W nv now
  obv : OwnI W0.heap.size W bv (bestL st)
  rp : rv.ownBlock ≠ some p
  np : nv.ownBlock ≠ some p
  bp : bv.ownBlock ≠ some p
  rn : ∀ g, rv.ownBlock = some g → nv.ownBlock ≠ some g
  rb : ∀ g, rv.ownBlock = some g → bv.ownBlock ≠ some g
  nb : ∀ g, nv.ownBlock = some g → bv.ownBlock ≠ some g

theorem ASt.below {W0 W W' : World} {p : Nat} {cv rv nv bv : Value} {room now : List Int} {c : Int} {st : Best} (h : ASt W0 p cv rv nv bv room now c st W) (hB : Below W.heap.size W W') : ASt W0 p cv rv nv bv room now c st W' :=
  ⟨below_at h.bel hB h.bel.size, h.pl, h.blk.below hB h.blk.lt, h.orv.below hB, h.onv.below hB, h.obv.below hB, h.rp, h.np, h.bp, h.rn, h.rb, h.nb⟩
theorem grown_setB (w : World) (g o : Nat) (v : Value) : w.grownBy (w.setCell ⟨g, o, none⟩ v) (some g) := grown_setCells g [v] o w
theorem below_setB {W0 W : World} {g o : Nat} {v : Value} (h : Below W0.heap.size W0 W) (hg : W0.heap.size ≤ g) : Below W0.heap.size W0 (W.setCell ⟨g, o, none⟩ v) := Below.setCell h (by simpa using hg) _
/-- an assignment is found -/
theorem ASt.found {W0 W W1 : World} {p : Nat} {cv rv nv bv bv' : Value} {room now : List Int} {c : Int} {st : Best} (h : ASt W0 p cv rv nv bv room now c st W) (hB : Below W.heap.size W W1) (hb : OwnI W.heap.size W1 bv' now) :
    ASt W0 p cv rv nv bv' room now c (some (now, c)) (((W1.setCell ⟨p, 4, none⟩ bv').setCell ⟨p, 5, none⟩ (.int .i64 c)).setCell ⟨p, 6, none⟩ (.bool true)) := by
  have h1 := h.below hB
  have hpl := h.blk.lt
  have hsz := h.bel.size
  have hnew : ∀ g, bv'.ownBlock = some g → W.heap.size ≤ g := fun g hg => (World.ownsRow.lt hb g hg).1
  have hgr := grown_trans (grown_trans (grown_setB W1 p 4 bv') (grown_setB _ p 5 (.int .i64 c))) (grown_setB _ p 6 (.bool true))
  refine ⟨below_setB (below_setB (below_setB h1.bel h.pl) h.pl) h.pl, h.pl, ?_, h1.orv.kept hgr (fun g hg e => h.rp (by rw [hg, e])), h1.onv.kept hgr (fun g hg e => h.np (by rw [hg, e])), ?_, h.rp, h.np, ?_, h.rn, ?_, ?_⟩
  · have := ((h1.blk.set 4 bv').set 5 (.int .i64 c)).set 6 (.bool true)
    exact this
  · exact (hb.base hsz).kept hgr (fun g hg e => by have := hnew g hg; simp at e; omega)
  · intro e; have := hnew p e; omega
  · intro g hg e; have h2 := hnew g e; have h3 := (World.ownsRow.lt h.orv g hg).2; omega
  · intro g hg e; have h2 := hnew g e; have h3 := (World.ownsRow.lt h.onv g hg).2; omega
/-- the room of a cabinet turns -/
theorem ASt.room {W0 W : World} {p g cap : Nat} {cv nv bv : Value} {room now : List Int} {c : Int} {st : Best} (h : ASt W0 p cv (.slice (some ⟨g, 0, none⟩) room.length cap) nv bv room now c st W) (k : Nat) (x : Int) :
    ASt W0 p cv (.slice (some ⟨g, 0, none⟩) room.length cap) nv bv (room.set k x) now c st (W.setCell ⟨g, k, none⟩ (.int .i64 x)) := by
  have hgr := grown_setB W g k (.int .i64 x)
  have hgl := (World.ownsRow.lt h.orv g rfl).1
  refine ⟨below_setB h.bel hgl, h.pl, h.blk.setOther (fun e => h.rp (by rw [e]; rfl)) _ _, ?_, h.onv.kept hgr (fun g' hg e => h.rn g rfl (by rw [hg, e])), h.obv.kept hgr (fun g' hg e => h.rb g rfl (by rw [hg, e])), h.rp, h.np, h.bp, h.rn, h.rb, h.nb⟩
  have := (World.ownsRow.stored (w := W) h.orv k (.int .i64 x)).1
  unfold OwnI
  rw [List.length_set, List.map_set]; exact this
/-- a customer is put to a cabinet -/
theorem ASt.push {W0 W W2 : World} {p g cap : Nat} {cv rv nv bv : Value} {room now : List Int} {c : Int} {st : Best} (h : ASt W0 p cv rv nv bv room now c st W) (k n : Int) (hg : W.grownBy W2 nv.ownBlock) (ho : OwnI W0.heap.size W2 (.slice (some ⟨g, 0, none⟩) (now.length + 1) cap) (now ++ [k])) (hat : nv.ownBlock = some g ∨ W.heap.size ≤ g) :
    ASt W0 p cv rv (.slice (some ⟨g, 0, none⟩) (now.length + 1) cap) bv room (now ++ [k]) (c + n) st ((W2.setCell ⟨p, 2, none⟩ (.slice (some ⟨g, 0, none⟩) (now.length + 1) cap)).setCell ⟨p, 3, none⟩ (.int .i64 (c + n))) := by
  have hpl := h.blk.lt
  have hgr := grown_trans (grown_setB W2 p 2 (.slice (some ⟨g, 0, none⟩) (now.length + 1) cap)) (grown_setB _ p 3 (.int .i64 (c + n)))
  have hgp : g ≠ p := by
    rcases hat with e | e
    · intro e2; exact h.np (by rw [e, e2])
    · omega
  have hbel2 : Below W0.heap.size W0 W2 := h.bel.grown hg h.bel.size fun k' hk => (World.ownsRow.lt h.onv k' hk).1
  refine ⟨below_setB (below_setB hbel2 h.pl) h.pl, h.pl, ?_, ?_, ?_, ?_, h.rp, ?_, h.bp, ?_, h.rb, ?_⟩
  · have := ((h.blk.grown hg (fun e => h.np e.symm)).set 2 (.slice (some ⟨g, 0, none⟩) (now.length + 1) cap)).set 3 (.int .i64 (c + n))
    exact this
  · exact (h.orv.kept hg (fun g' hg' e => h.rn g' hg' e)).kept hgr (fun g' hg' e => h.rp (by rw [hg', e]))
  · exact ho.kept hgr (fun g' hg' e => by simp [Value.ownBlock] at hg' e; omega)
  · exact (h.obv.kept hg (fun g' hg' e => h.nb g' e hg')).kept hgr (fun g' hg' e => h.bp (by rw [hg', e]))
  · intro e; simp [Value.ownBlock] at e; exact hgp e
  · intro g' hg' e
    simp [Value.ownBlock] at e
    subst e
    rcases hat with e | e
    · exact h.rn g hg' e
    · have := (World.ownsRow.lt h.orv g hg').2; omega
  · intro g' hg' e
    simp [Value.ownBlock] at hg'
    subst hg'
    rcases hat with e2 | e2
    · exact h.nb g e2 e
    · have := (World.ownsRow.lt h.obv g e).2; omega
/-- and taken from it -/
theorem ASt.pop {W0 W : World} {p g cap : Nat} {cv rv bv : Value} {room now : List Int} {c c' : Int} {st : Best} {k : Int} (h : ASt W0 p cv rv (.slice (some ⟨g, 0, none⟩) (now.length + 1) cap) bv room (now ++ [k]) c' st W) :
    ASt W0 p cv rv (.slice (some ⟨g, 0, none⟩) now.length cap) bv room now c st ((W.setCell ⟨p, 2, none⟩ (.slice (some ⟨g, 0, none⟩) now.length cap)).setCell ⟨p, 3, none⟩ (.int .i64 c)) := by
  have hgr := grown_trans (grown_setB W p 2 (.slice (some ⟨g, 0, none⟩) now.length cap)) (grown_setB _ p 3 (.int .i64 c))
  have hgp : g ≠ p := fun e => h.np (by rw [e]; rfl)
  refine ⟨below_setB (below_setB h.bel h.pl) h.pl, h.pl, ?_, h.orv.kept hgr (fun g' hg' e => h.rp (by rw [hg', e])), (OwnI.cut (by have := h.onv; simpa using this)).kept hgr (fun g' hg' e => by simp [Value.ownBlock] at hg' e; omega), h.obv.kept hgr (fun g' hg' e => h.bp (by rw [hg', e])), h.rp, ?_, h.bp, h.rn, h.rb, h.nb⟩
  · have := (h.blk.set 2 (.slice (some ⟨g, 0, none⟩) now.length cap)).set 3 (.int .i64 c)
    exact this
  · intro e; simp [Value.ownBlock] at e; exact hgp e
end Go.Proofs.Ytagpcgnlbgndmaa
/- Walk: the search of tree.Assign. -/
set_option linter.unusedVariables false
set_option linter.unusedSimpArgs false
namespace Go.Proofs.Ytagpcgnlbgndmaa
open Go Go.RowKit

theorem OwnI.form {base : Nat} {W : World} {v : Value} {l : List Int} (h : OwnI base W v l) : ∃ a cap, v = .slice a l.length cap ∧ l.length ≤ cap ∧ cap ≤ maxLen ∧ (0 < l.length → ∃ g, a = some ⟨g, 0, none⟩) := by
  rcases h.2 with ⟨h1, h2⟩ | ⟨g, cap, cur, hv, hg, hh, hc, hm, _⟩
  · exact ⟨none, 0, by rw [h1, h2], by omega, by simp [maxLen], fun h => by omega⟩
  · exact ⟨_, cap, hv, hc, hm, fun _ => ⟨g, rfl⟩⟩
def AsgPost (W0 : World) (p : Nat) (cv rv : Value) (room now : List Int) (c : Int) (st : Best) (e : Ending) (w' : World) : Prop :=
  e = .returned (.tuple #[]) ∧ ∃ nv bv, ASt W0 p cv rv nv bv room now c st w'
theorem full_none (c : Int) : full none c = false := rfl
theorem full_some (l : List Int) (s c : Int) : full (some (l, s)) c = decide (s ≤ c) := rfl
theorem search_nil (room now : List Int) (c : Int) (st : Best) : search [] room now c st = if full st c then st else some (now, c) := by rw [search]
theorem search_cons (row : List Int) (rest : List (List Int)) (room now : List Int) (c : Int) (st : Best) : search (row :: rest) room now c st = if full st c then st else tryAll (search rest) room now c row 0 st := by rw [search]

set_option maxHeartbeats 4000000 in
set_option maxRecDepth 100000 in
theorem from_any (W0 : World) (p M : Nat) (cv rv : Value) (rows : List (List Int)) (hT : Tab W0 rows cv) (hrows : ∀ r ∈ rows, r.length = M ∧ ∀ x ∈ r, 0 ≤ x ∧ x ≤ 1000000) (hM : M ≤ 6) (hlen : rows.length ≤ 9) (rest : List (List Int)) :
    ∀ (room now : List Int) (c : Int) (st : Best) (nv bv : Value) (w : World), rows.drop now.length = rest → now.length ≤ rows.length → room.length = M → (∀ x ∈ room, 0 ≤ x ∧ x ≤ 1000000) → 0 ≤ c → c ≤ 1000000 * now.length → ASt W0 p cv rv nv bv room now c st w →
      Calls Try.prog 105 #[.pointer (some ⟨p, 0, none⟩)] w (AsgPost W0 p cv rv room now c (search rest room now c st)) := by
  have HT := Lib.hid hT
  obtain ⟨ta, tcap, rfl, htc, htm, hrow⟩ := hT
  unfold maxLen at htm
  obtain ⟨i0, hi, hz0, hz1, hz2⟩ := info_parts infoIntB
  have HRW := Lib.hid (And.intro hrow hrows)
  clear hrow hrows
  induction rest with
  | nil =>
    intro room now c st nv bv w hd hnl hrl hrb hc0 hc1 hA
    have hnr : now.length = rows.length := by have := congrArg List.length hd; simp at this; omega
    have HD := Lib.hid (And.intro hd (And.intro hrb (And.intro hrl hnr)))
    have hnr' : ((now.length : Int) == (rows.length : Int)) = true := by rw [hnr]; simp
    have hn9 : now.length ≤ 9 := by omega
    clear hd hrb hrl hnr
    obtain ⟨na, ncap, rfl, hnc, hnm, hng⟩ := hA.onv.form
    obtain ⟨ra, rcap, rfl, hrc, hrm, hrg⟩ := hA.orv.form
    have HA := Lib.hid hA
    have hbel := hA.bel.size
    have e0 : w.cell? ⟨p, 0, none⟩ = some (.slice ta rows.length tcap) := hA.blk.cell 0 _ rfl
    have e1 : w.cell? ⟨p, 1, none⟩ = some (.slice ra room.length rcap) := hA.blk.cell 1 _ rfl
    have e2 : w.cell? ⟨p, 2, none⟩ = some (.slice na now.length ncap) := hA.blk.cell 2 _ rfl
    have e3 : w.cell? ⟨p, 3, none⟩ = some (.int .i64 c) := hA.blk.cell 3 _ rfl
    have e5 : w.cell? ⟨p, 5, none⟩ = some (.int .i64 (bestS st)) := hA.blk.cell 5 _ rfl
    have e6 : w.cell? ⟨p, 6, none⟩ = some (.bool (bestB st)) := hA.blk.cell 6 _ rfl
    have hpl := hA.blk.lt
    clear hA
    unfold maxLen at hnm hrm
    go_enter Try.func105, Try.ntmps105
    go_upto_region 0 with fail
    go_cut [19] from 5 to 19 (fun t wc => t = .bool (full st c) ∧ w.drew = wc)
    case first =>
      rcases st with _ | ⟨bl, bs⟩
      · have e6' : w.cell? ⟨p, 6, none⟩ = some (.bool false) := e6
        clear e6 e5 e0 e1 e2
        go_region
        go_wp2
        go_meet
        exact ⟨rfl, rfl⟩
      · have e6' : w.cell? ⟨p, 6, none⟩ = some (.bool true) := e6
        have e5' : w.cell? ⟨p, 5, none⟩ = some (.int .i64 bs) := e5
        clear e6 e5 e0 e1 e2
        go_region
        go_wp2
        go_meet
        exact ⟨rfl, rfl⟩
    case rest =>
    obtain ⟨rfl, rfl⟩ := hcut
    cases hf : full st c
    · have e0' : w.drew.cell? ⟨p, 0, none⟩ = some (.slice ta rows.length tcap) := e0
      have e2' : w.drew.cell? ⟨p, 2, none⟩ = some (.slice na now.length ncap) := e2
      have e3' : w.drew.cell? ⟨p, 3, none⟩ = some (.int .i64 c) := e3
      have HA1 : Hid (ASt W0 p (.slice ta rows.length tcap) (.slice ra room.length rcap) (.slice na now.length ncap) bv room now c st w.drew) := Lib.hid (HA.out.below (below_draws (Below.refl _ _) 1))
      generalize w.drew = w1 at *
      clear e0 e1 e2 e3 e5 e6 HA hpl hbel
      go_wp2
      have HA2 : Hid (ASt W0 p (.slice ta rows.length tcap) (.slice ra room.length rcap) (.slice na now.length ncap) bv room now c st w1.drew) := Lib.hid (HA1.out.below (below_draws (Below.refl _ _) 1))
      have hS0 : w1.drew.cell? ⟨p, 2, none⟩ = some (.slice na now.length ncap) ∧ w1.drew.cell? ⟨p, 3, none⟩ = some (.int .i64 c) := ⟨e2', e3'⟩
      refine WalkT.start (fun w' => w'.cell? ⟨p, 2, none⟩ = some (.slice na now.length ncap) ∧ w'.cell? ⟨p, 3, none⟩ = some (.int .i64 c)) [] (by kernel_rfl) ?_
      generalize w1.drew = w2 at *
      clear e0' e2' e3' HA1
      refine WalkT.quiet (i := 0) (v := ?_) rfl (by kernel_rfl) (by kernel_rfl) (by kernel_rfl) (fun _ _ _ h => h) (Or.inl ⟨by rfl, ?_⟩) ?_; rotate_left; (· (intro wS hSw; (try dsimp only at hSw); go_simp; try with_reducible rfl)); try simp only [Act.put, List.setIfInBounds_toArray, List.set_cons_zero, List.set_cons_succ, List.getElem_toArray, List.getElem_cons_succ, List.getElem_cons_zero]
      refine WalkT.quiet (i := 1) (v := ?_) rfl (by kernel_rfl) (by kernel_rfl) (by kernel_rfl) (fun _ _ _ h => h) (Or.inl ⟨by rfl, ?_⟩) ?_; rotate_left; (· (intro wS hSw; (try dsimp only at hSw); go_simp; try with_reducible rfl)); try simp only [Act.put, List.setIfInBounds_toArray, List.set_cons_zero, List.set_cons_succ, List.getElem_toArray, List.getElem_cons_succ, List.getElem_cons_zero]
      refine WalkT.quiet (i := 2) (v := ?_) rfl (by kernel_rfl) (by kernel_rfl) (by kernel_rfl) (fun _ _ _ h => h) (Or.inl ⟨by rfl, ?_⟩) ?_; rotate_left; (· (intro wS hSw; (try dsimp only at hSw); go_simp; try with_reducible rfl)); try simp only [Act.put, List.setIfInBounds_toArray, List.set_cons_zero, List.set_cons_succ, List.getElem_toArray, List.getElem_cons_succ, List.getElem_cons_zero]
      refine WalkT.quiet (i := 3) (v := ?_) rfl (by kernel_rfl) (by kernel_rfl) (by kernel_rfl) (fun _ _ _ h => h) (Or.inl ⟨by rfl, ?_⟩) ?_; rotate_left; (· (intro wS hSw; (try dsimp only at hSw); go_simp; try with_reducible rfl)); try simp only [Act.put, List.setIfInBounds_toArray, List.set_cons_zero, List.set_cons_succ, List.getElem_toArray, List.getElem_cons_succ, List.getElem_cons_zero]
      refine WalkT.quiet (i := 4) (v := ?_) rfl (by kernel_rfl) (by kernel_rfl) (by kernel_rfl) (fun _ _ _ h => h) (Or.inl ⟨by rfl, ?_⟩) ?_; rotate_left; (· (intro wS hSw; (try dsimp only at hSw); go_simp; try with_reducible rfl)); try simp only [Act.put, List.setIfInBounds_toArray, List.set_cons_zero, List.set_cons_succ, List.getElem_toArray, List.getElem_cons_succ, List.getElem_cons_zero]
      refine WalkT.quiet (i := 5) (v := ?_) rfl (by kernel_rfl) (by kernel_rfl) (by kernel_rfl) (fun _ _ _ h => h) (Or.inl ⟨by rfl, ?_⟩) ?_; rotate_left; (· (intro wS hSw; (try dsimp only at hSw); go_simp; try with_reducible rfl)); try simp only [Act.put, List.setIfInBounds_toArray, List.set_cons_zero, List.set_cons_succ, List.getElem_toArray, List.getElem_cons_succ, List.getElem_cons_zero]
      refine WalkT.take (i := 6) (v := ?_) rfl (by kernel_rfl) (by kernel_rfl) (by kernel_rfl) (by kernel_rfl) (fun _ _ _ h => h) hS0 (Or.inl ⟨by rfl, ?_⟩) ?_; rotate_left; (· (intro wS hSw; (try dsimp only at hSw); obtain ⟨s0, s1⟩ := hSw; go_simp; try with_reducible rfl)); try simp only [Act.put, List.setIfInBounds_toArray, List.set_cons_zero, List.set_cons_succ, List.getElem_toArray, List.getElem_cons_succ, List.getElem_cons_zero]
      refine WalkT.quiet (i := 8) (v := ?_) rfl (by kernel_rfl) (by kernel_rfl) (by kernel_rfl) (fun _ _ _ h => h) (Or.inl ⟨by rfl, ?_⟩) ?_; rotate_left; (· (intro wS hSw; (try dsimp only at hSw); go_simp; try with_reducible rfl)); try simp only [Act.put, List.setIfInBounds_toArray, List.set_cons_zero, List.set_cons_succ, List.getElem_toArray, List.getElem_cons_succ, List.getElem_cons_zero]
      refine WalkT.quiet (i := 9) (v := ?_) rfl (by kernel_rfl) (by kernel_rfl) (by kernel_rfl) (fun _ _ _ h => h) (Or.inl ⟨by rfl, ?_⟩) ?_; rotate_left; (· (intro wS hSw; (try dsimp only at hSw); go_simp; try with_reducible rfl)); try simp only [Act.put, List.setIfInBounds_toArray, List.set_cons_zero, List.set_cons_succ, List.getElem_toArray, List.getElem_cons_succ, List.getElem_cons_zero]
      refine WalkT.quiet (i := 10) (v := ?_) rfl (by kernel_rfl) (by kernel_rfl) (by kernel_rfl) (fun _ _ _ h => h) (Or.inl ⟨by rfl, ?_⟩) ?_; rotate_left; (· (intro wS hSw; (try dsimp only at hSw); go_simp; try with_reducible rfl)); try simp only [Act.put, List.setIfInBounds_toArray, List.set_cons_zero, List.set_cons_succ, List.getElem_toArray, List.getElem_cons_succ, List.getElem_cons_zero]
      refine WalkT.take (i := 11) (v := ?_) rfl (by kernel_rfl) (by kernel_rfl) (by kernel_rfl) (by kernel_rfl) (fun _ _ _ h => h) hS0 (Or.inl ⟨by rfl, ?_⟩) ?_; rotate_left; (· (intro wS hSw; (try dsimp only at hSw); obtain ⟨s0, s1⟩ := hSw; go_simp; try with_reducible rfl)); try simp only [Act.put, List.setIfInBounds_toArray, List.set_cons_zero, List.set_cons_succ, List.getElem_toArray, List.getElem_cons_succ, List.getElem_cons_zero]
      refine WalkT.ready (rs := [7]) (by kernel_rfl) (by simp) (AllT.cons rfl (fun K hK => ?_) AllT.nil); go_simp
      refine (clone_int _ now _ (Arr.of_ints HA2.out.onv) (by omega)).mono ?_
      rintro e w5 ⟨bv', rfl, ⟨hown5, hform⟩, hb5⟩
      have hA5 := HA2.out.below hb5
      have f2 : w5.cell? ⟨p, 2, none⟩ = some (.slice na now.length ncap) := hA5.blk.cell 2 _ rfl
      have f3 : w5.cell? ⟨p, 3, none⟩ = some (.int .i64 c) := hA5.blk.cell 3 _ rfl
      have f4 : w5.cell? ⟨p, 4, none⟩ = some bv := hA5.blk.cell 4 _ rfl
      have f5 : w5.cell? ⟨p, 5, none⟩ = some (.int .i64 (bestS st)) := hA5.blk.cell 5 _ rfl
      have f6 : w5.cell? ⟨p, 6, none⟩ = some (.bool (bestB st)) := hA5.blk.cell 6 _ rfl
      have z4 := hA5.blk.free 4
      have z5 := hA5.blk.free 5
      have z6 := hA5.blk.free 6
      have hO5 : OwnI w2.heap.size w5 bv' now := by unfold OwnI; rw [← flat_one]; exact hown5
      have HF := Lib.hid (HA2.out.found hb5 hO5)
      obtain ⟨va, vcap, rfl⟩ : ∃ a cap, bv' = .slice a now.length cap := by obtain ⟨a, cap, h, _⟩ := hO5.form; exact ⟨a, cap, h⟩
      have HB5 := Lib.hid hA5.blk
      clear hown5 hform hA5 hO5 hb5 hS0 HA2
      refine hK.out _ _ (fun _ _ => ⟨f2, f3⟩) ?_; clear hK K; try simp only [Act.put, List.setIfInBounds_toArray, List.set_cons_zero, List.set_cons_succ, List.getElem_toArray, List.getElem_cons_succ, List.getElem_cons_zero]
      refine WalkT.quiet (i := 12) (v := ?_) rfl (by kernel_rfl) (by kernel_rfl) (by kernel_rfl) (fun _ _ _ h => h) (Or.inl ⟨by rfl, ?_⟩) ?_; rotate_left; (· (intro wS hSw; (try dsimp only at hSw); go_simp; try with_reducible rfl)); try simp only [Act.put, List.setIfInBounds_toArray, List.set_cons_zero, List.set_cons_succ, List.getElem_toArray, List.getElem_cons_succ, List.getElem_cons_zero]
      refine WalkT.quiet (i := 13) (v := ?_) rfl (by kernel_rfl) (by kernel_rfl) (by kernel_rfl) (fun _ _ _ h => h) (Or.inl ⟨by rfl, ?_⟩) ?_; rotate_left; (· (intro wS hSw; (try dsimp only at hSw); go_simp; try with_reducible rfl)); try simp only [Act.put, List.setIfInBounds_toArray, List.set_cons_zero, List.set_cons_succ, List.getElem_toArray, List.getElem_cons_succ, List.getElem_cons_zero]
      refine WalkT.ready (rs := [14]) (by kernel_rfl) (by simp) (AllT.cons rfl (fun K hK => ?_) AllT.nil); go_simp
      refine hK.out _ _ (fun _ _ => ⟨(HB5.out.set 4 _).cell 2 _ rfl, (HB5.out.set 4 _).cell 3 _ rfl⟩) ?_; clear hK K; try simp only [Act.put, List.setIfInBounds_toArray, List.set_cons_zero, List.set_cons_succ, List.getElem_toArray, List.getElem_cons_succ, List.getElem_cons_zero]
      refine WalkT.quiet (i := 15) (v := ?_) rfl (by kernel_rfl) (by kernel_rfl) (by kernel_rfl) (fun _ _ _ h => h) (Or.inl ⟨by rfl, ?_⟩) ?_; rotate_left; (· (intro wS hSw; (try dsimp only at hSw); go_simp; try with_reducible rfl)); try simp only [Act.put, List.setIfInBounds_toArray, List.set_cons_zero, List.set_cons_succ, List.getElem_toArray, List.getElem_cons_succ, List.getElem_cons_zero]
      refine WalkT.quiet (i := 16) (v := ?_) rfl (by kernel_rfl) (by kernel_rfl) (by kernel_rfl) (fun _ _ _ h => h) (Or.inl ⟨by rfl, ?_⟩) ?_; rotate_left; (· (intro wS hSw; (try dsimp only at hSw); go_simp; try with_reducible rfl)); try simp only [Act.put, List.setIfInBounds_toArray, List.set_cons_zero, List.set_cons_succ, List.getElem_toArray, List.getElem_cons_succ, List.getElem_cons_zero]
      refine WalkT.ready (rs := [17]) (by kernel_rfl) (by simp) (AllT.cons rfl (fun K hK => ?_) AllT.nil); go_simp
      refine hK.out _ _ (fun _ _ => ⟨((HB5.out.set 4 _).set 5 _).cell 2 _ rfl, ((HB5.out.set 4 _).set 5 _).cell 3 _ rfl⟩) ?_; clear hK K; try simp only [Act.put, List.setIfInBounds_toArray, List.set_cons_zero, List.set_cons_succ, List.getElem_toArray, List.getElem_cons_succ, List.getElem_cons_zero]
      refine WalkT.quiet (i := 18) (v := ?_) rfl (by kernel_rfl) (by kernel_rfl) (by kernel_rfl) (fun _ _ _ h => h) (Or.inl ⟨by rfl, ?_⟩) ?_; rotate_left; (· (intro wS hSw; (try dsimp only at hSw); go_simp; try with_reducible rfl)); try simp only [Act.put, List.setIfInBounds_toArray, List.set_cons_zero, List.set_cons_succ, List.getElem_toArray, List.getElem_cons_succ, List.getElem_cons_zero]
      refine WalkT.quiet (i := 19) (v := ?_) rfl (by kernel_rfl) (by kernel_rfl) (by kernel_rfl) (fun _ _ _ h => h) (Or.inl ⟨by rfl, ?_⟩) ?_; rotate_left; (· (intro wS hSw; (try dsimp only at hSw); go_simp; try with_reducible rfl)); try simp only [Act.put, List.setIfInBounds_toArray, List.set_cons_zero, List.set_cons_succ, List.getElem_toArray, List.getElem_cons_succ, List.getElem_cons_zero]
      refine WalkT.ready (rs := [20]) (by kernel_rfl) (by simp) (AllT.cons rfl (fun K hK => ?_) AllT.nil); go_simp
      refine hK.out _ _ (fun _ _ => ⟨(((HB5.out.set 4 _).set 5 _).set 6 _).cell 2 _ rfl, (((HB5.out.set 4 _).set 5 _).set 6 _).cell 3 _ rfl⟩) ?_; clear hK K; try simp only [Act.put, List.setIfInBounds_toArray, List.set_cons_zero, List.set_cons_succ, List.getElem_toArray, List.getElem_cons_succ, List.getElem_cons_zero]
      refine WalkT.done (by kernel_rfl) ?_
      go_wp2
      ((try simp only [Exit.inBlock, Exit.then]); refine bodyPost_ret (results_none rfl _ _ _) rfl ?_)
      exact ⟨rfl, _, _, by rw [search_nil, if_neg (by rw [hf]; decide)]; exact HF.out⟩
    · go_wp2
      ((try simp only [Exit.inBlock, Exit.then]); refine bodyPost_ret (results_none rfl _ _ _) rfl ?_)
      exact ⟨rfl, _, _, by rw [search_nil, if_pos hf]; exact HA.out.below (below_draws (Below.refl _ _) 1)⟩
  | cons row rest ih =>
    intro room now c st nv bv w hd hnl hrl hrb hc0 hc1 hA
    have hnlt : now.length < rows.length := by have := congrArg List.length hd; simp at this; omega
    have hrw : rows[now.length] = row := by rw [List.drop_eq_getElem_cons hnlt] at hd; exact (List.cons.inj hd).1
    have hdr : rows.drop (now.length + 1) = rest := by rw [List.drop_eq_getElem_cons hnlt] at hd; exact (List.cons.inj hd).2
    have hrl2 := (HRW.out.2 row (by rw [← hrw]; exact List.getElem_mem _)).1
    have hrb2 := (HRW.out.2 row (by rw [← hrw]; exact List.getElem_mem _)).2
    have hne : ((now.length : Int) == (rows.length : Int)) = false := by rw [beq_eq_false_iff_ne]; omega
    have hrm6 : row.length ≤ 6 := by omega
    have hrm7 : row.length ≤ room.length := by omega
    have HD := Lib.hid (And.intro hdr (And.intro hrb (And.intro hrb2 (And.intro hrl hrw))))
    have hn9 : now.length < 9 := by omega
    clear hd hrb hrl hrw hdr hrb2 hrl2
    obtain ⟨na, ncap, rfl, hnc, hnm, hng⟩ := hA.onv.form
    obtain ⟨ra, rcap, rfl, hrc, hrm, hrg⟩ := hA.orv.form
    have HA := Lib.hid hA
    have hbel := hA.bel.size
    have e0 : w.cell? ⟨p, 0, none⟩ = some (.slice ta rows.length tcap) := hA.blk.cell 0 _ rfl
    have e1 : w.cell? ⟨p, 1, none⟩ = some (.slice ra room.length rcap) := hA.blk.cell 1 _ rfl
    have e2 : w.cell? ⟨p, 2, none⟩ = some (.slice na now.length ncap) := hA.blk.cell 2 _ rfl
    have e3 : w.cell? ⟨p, 3, none⟩ = some (.int .i64 c) := hA.blk.cell 3 _ rfl
    have e5 : w.cell? ⟨p, 5, none⟩ = some (.int .i64 (bestS st)) := hA.blk.cell 5 _ rfl
    have e6 : w.cell? ⟨p, 6, none⟩ = some (.bool (bestB st)) := hA.blk.cell 6 _ rfl
    have hpl := hA.blk.lt
    clear hA
    unfold maxLen at hnm hrm
    go_enter Try.func105, Try.ntmps105
    go_upto_region 0 with fail
    go_cut [19] from 5 to 19 (fun t wc => t = .bool (full st c) ∧ w.drew = wc)
    case first =>
      rcases st with _ | ⟨bl, bs⟩
      · have e6' : w.cell? ⟨p, 6, none⟩ = some (.bool false) := e6
        clear e6 e5 e0 e1 e2
        go_region
        go_wp2
        go_meet
        exact ⟨rfl, rfl⟩
      · have e6' : w.cell? ⟨p, 6, none⟩ = some (.bool true) := e6
        have e5' : w.cell? ⟨p, 5, none⟩ = some (.int .i64 bs) := e5
        clear e6 e5 e0 e1 e2
        go_region
        go_wp2
        go_meet
        exact ⟨rfl, rfl⟩
    case rest =>
    obtain ⟨rfl, rfl⟩ := hcut
    cases hf : full st c
    · obtain ⟨tb, toff, rv, rfl, htb, htc2, hArow⟩ := HRW.out.1 now.length hnlt
      rw [HD.out.2.2.2.2] at hArow
      obtain ⟨wa, wcap, rfl, hwc, hwm, hwcc⟩ := hArow
      unfold maxLen at hwm
      have HW := Lib.hid hwcc
      have e0' : w.drew.cell? ⟨p, 0, none⟩ = some (.slice (some ⟨tb, toff, none⟩) rows.length tcap) := e0
      have e2' : w.drew.cell? ⟨p, 2, none⟩ = some (.slice na now.length ncap) := e2
      have htc3 : w.drew.cell? ⟨tb, toff + now.length, none⟩ = some (.slice wa row.length wcap) := (HA.out.bel.cell (p := ⟨tb, _, none⟩) htb).trans htc2
      have HA1 : Hid (ASt W0 p (.slice (some ⟨tb, toff, none⟩) rows.length tcap) (.slice ra room.length rcap) (.slice na now.length ncap) bv room now c st w.drew) := Lib.hid (HA.out.below (below_draws (Below.refl _ _) 1))
      generalize w.drew = w1 at *
      clear e0 e1 e2 e3 e5 e6 HA hpl hbel hwcc htc2
      go_wp2
      clear e0' e2' htc3
      go_loopw [58] (fun i ws => ∃ (k : Nat) (st' : Best) (nv' bv' : Value), k ≤ row.length ∧ i = .int .i64 k ∧ ASt W0 p (.slice (some ⟨tb, toff, none⟩) rows.length tcap) (.slice ra room.length rcap) nv' bv' room now c st' ws ∧ tryAll (search rest) room now c row 0 st = tryAll (search rest) room now c (row.drop k) k st') (fun i _ => row.length - (intOf i).toNat)
      case atStart => exact ⟨0, st, _, bv, by omega, rfl, HA1.out, rfl⟩
      case round =>
        obtain ⟨k, st', nv', bv', hk, rfl, hS, htry⟩ := hrel
        have HS := Lib.hid (And.intro hS htry)
        clear htry
        obtain ⟨na', ncap', rfl, hnc', hnm', hng'⟩ := hS.onv.form
        have hbel := hS.bel.size
        have hpl := hS.blk.lt
        clear hS
        unfold maxLen at hnm'
        by_cases hlt : k < row.length
        · obtain ⟨rg, rfl⟩ := hrg (by omega)
          obtain ⟨wb, woff, rfl, hwb, hwcc⟩ := HW.out k hlt
          have c0 := hwcc 0 _ rfl
          simp only [Nat.mul_one, Nat.add_zero] at c0
          replace c0 := (HS.out.1.bel.cell (p := ⟨wb, _, none⟩) hwb).trans c0
          have e1 : wr.cell? ⟨p, 1, none⟩ = some (.slice (some ⟨rg, 0, none⟩) room.length rcap) := HS.out.1.blk.cell 1 _ rfl
          have hkr : k < room.length := by omega
          have r0 := OwnI.cell HS.out.1.orv rfl hkr
          have rf := World.ownsRow.frozenAt (w := wr) HS.out.1.orv k
          have hrk := HD.out.2.1 room[k] (List.getElem_mem _)
          have hrow := HD.out.2.2.1 row[k] (List.getElem_mem _)
          have htk := tryAll_take (search rest) room now c row k k st' hlt
          rw [List.getD_eq_getElem?_getD, List.getElem?_eq_getElem hkr, Option.getD_some] at htk
          have HTK := Lib.hid htk
          clear htk hwcc
          have HN : Hid (∃ n, row[k] = n) := ⟨_, rfl⟩
          have HR : Hid (∃ n, room[k] = n) := ⟨_, rfl⟩
          obtain ⟨n, hn⟩ := HN.out
          obtain ⟨q, hq⟩ := HR.out
          rw [hn] at c0 hrow
          rw [hq] at r0 hrk
          have HNQ := Lib.hid (And.intro hn hq)
          clear hn hq HN HR
          obtain ⟨hq0, hq1⟩ := hrk
          obtain ⟨hn0, hn1⟩ := hrow
          by_cases hz : q = 0
          · have hz' : (q == 0) = true := by simp [hz]
            have HZ := Lib.hid hz
            clear hz
            go_wp2
            go_roundw
            case rel =>
              refine ⟨k + 1, st', _, bv', by omega, by go_num, HS.out.1, ?_⟩
              rw [HS.out.2, HTK.out, if_neg (by rw [HNQ.out.2, HZ.out]; omega)]
            case measure => simp [intOf]; omega
          · have hz' : (q == 0) = false := by simp [hz]
            have HS1 := Lib.hid (HS.out.1.room k (q - 1))
            go_wp2
            generalize wr.setCell ⟨rg, k, none⟩ (.int .i64 (q - 1)) = w2 at *
            have f2 : w2.drew.cell? ⟨p, 2, none⟩ = some (.slice na' now.length ncap') := HS1.out.blk.cell 2 _ rfl
            have f3 : w2.drew.cell? ⟨p, 3, none⟩ = some (.int .i64 c) := HS1.out.blk.cell 3 _ rfl
            have hS0 : w2.drew.cell? ⟨p, 2, none⟩ = some (.slice na' now.length ncap') ∧ w2.drew.cell? ⟨p, 3, none⟩ = some (.int .i64 c) := ⟨f2, f3⟩
            have HS2 : Hid (ASt W0 p (.slice (some ⟨tb, toff, none⟩) rows.length tcap) (.slice (some ⟨rg, 0, none⟩) room.length rcap) (.slice na' now.length ncap') bv' (room.set k (q - 1)) now c st' w2.drew) := Lib.hid (HS1.out.below (below_draws (Below.refl _ _) 1))
            have x3 : IntKind.i64.wrap (c + n) = c + n := IntWalk.i64_in _ (by omega)
            refine WalkT.start (fun w' => w'.cell? ⟨p, 2, none⟩ = some (.slice na' now.length ncap') ∧ w'.cell? ⟨p, 3, none⟩ = some (.int .i64 c)) [17, 20] (by kernel_rfl) ?_
            generalize w2.drew = w3 at *
            have hz3 := HS2.out.bel.size
            have hpl3 := HS2.out.blk.lt
            clear f2 f3 HS1 e1 c0 r0 rf
            refine WalkT.quiet (i := 0) (v := ?_) rfl (by kernel_rfl) (by kernel_rfl) (by kernel_rfl) (fun _ _ _ h => h) (Or.inl ⟨by rfl, ?_⟩) ?_; rotate_left; (· (intro wS hSw; (try dsimp only at hSw); go_simp; try with_reducible rfl)); try simp only [Act.put, List.setIfInBounds_toArray, List.set_cons_zero, List.set_cons_succ, List.getElem_toArray, List.getElem_cons_succ, List.getElem_cons_zero]
            refine WalkT.quiet (i := 1) (v := ?_) rfl (by kernel_rfl) (by kernel_rfl) (by kernel_rfl) (fun _ _ _ h => h) (Or.inl ⟨by rfl, ?_⟩) ?_; rotate_left; (· (intro wS hSw; (try dsimp only at hSw); go_simp; try with_reducible rfl)); try simp only [Act.put, List.setIfInBounds_toArray, List.set_cons_zero, List.set_cons_succ, List.getElem_toArray, List.getElem_cons_succ, List.getElem_cons_zero]
            refine WalkT.quiet (i := 2) (v := ?_) rfl (by kernel_rfl) (by kernel_rfl) (by kernel_rfl) (fun _ _ _ h => h) (Or.inl ⟨by rfl, ?_⟩) ?_; rotate_left; (· (intro wS hSw; (try dsimp only at hSw); go_simp; try with_reducible rfl)); try simp only [Act.put, List.setIfInBounds_toArray, List.set_cons_zero, List.set_cons_succ, List.getElem_toArray, List.getElem_cons_succ, List.getElem_cons_zero]
            refine WalkT.quiet (i := 3) (v := ?_) rfl (by kernel_rfl) (by kernel_rfl) (by kernel_rfl) (fun _ _ _ h => h) (Or.inl ⟨by rfl, ?_⟩) ?_; rotate_left; (· (intro wS hSw; (try dsimp only at hSw); go_simp; try with_reducible rfl)); try simp only [Act.put, List.setIfInBounds_toArray, List.set_cons_zero, List.set_cons_succ, List.getElem_toArray, List.getElem_cons_succ, List.getElem_cons_zero]
            refine WalkT.quiet (i := 4) (v := ?_) rfl (by kernel_rfl) (by kernel_rfl) (by kernel_rfl) (fun _ _ _ h => h) (Or.inl ⟨by rfl, ?_⟩) ?_; rotate_left; (· (intro wS hSw; (try dsimp only at hSw); go_simp; try with_reducible rfl)); try simp only [Act.put, List.setIfInBounds_toArray, List.set_cons_zero, List.set_cons_succ, List.getElem_toArray, List.getElem_cons_succ, List.getElem_cons_zero]
            refine WalkT.take (i := 5) (v := ?_) rfl (by kernel_rfl) (by kernel_rfl) (by kernel_rfl) (by kernel_rfl) (fun _ _ _ h => h) hS0 (Or.inl ⟨by rfl, ?_⟩) ?_; rotate_left; (· (intro wS hSw; (try dsimp only at hSw); obtain ⟨s0, s1⟩ := hSw; go_simp; try with_reducible rfl)); try simp only [Act.put, List.setIfInBounds_toArray, List.set_cons_zero, List.set_cons_succ, List.getElem_toArray, List.getElem_cons_succ, List.getElem_cons_zero]
            refine WalkT.quiet (i := 6) (v := ?_) rfl (by kernel_rfl) (by kernel_rfl) (by kernel_rfl) (fun _ _ _ h => h) (Or.inl ⟨by rfl, ?_⟩) ?_; rotate_left; (· (intro wS hSw; (try dsimp only at hSw); go_simp; try with_reducible rfl)); try simp only [Act.put, List.setIfInBounds_toArray, List.set_cons_zero, List.set_cons_succ, List.getElem_toArray, List.getElem_cons_succ, List.getElem_cons_zero]
            refine WalkT.quiet (i := 9) (v := ?_) rfl (by kernel_rfl) (by kernel_rfl) (by kernel_rfl) (fun _ _ _ h => h) (Or.inl ⟨by rfl, ?_⟩) ?_; rotate_left; (· (intro wS hSw; (try dsimp only at hSw); go_simp; try with_reducible rfl)); try simp only [Act.put, List.setIfInBounds_toArray, List.set_cons_zero, List.set_cons_succ, List.getElem_toArray, List.getElem_cons_succ, List.getElem_cons_zero]
            refine WalkT.quiet (i := 10) (v := ?_) rfl (by kernel_rfl) (by kernel_rfl) (by kernel_rfl) (fun _ _ _ h => h) (Or.inl ⟨by rfl, ?_⟩) ?_; rotate_left; (· (intro wS hSw; (try dsimp only at hSw); go_simp; try with_reducible rfl)); try simp only [Act.put, List.setIfInBounds_toArray, List.set_cons_zero, List.set_cons_succ, List.getElem_toArray, List.getElem_cons_succ, List.getElem_cons_zero]
            refine WalkT.quiet (i := 11) (v := ?_) rfl (by kernel_rfl) (by kernel_rfl) (by kernel_rfl) (fun _ _ _ h => h) (Or.inl ⟨by rfl, ?_⟩) ?_; rotate_left; (· (intro wS hSw; (try dsimp only at hSw); go_simp; try with_reducible rfl)); try simp only [Act.put, List.setIfInBounds_toArray, List.set_cons_zero, List.set_cons_succ, List.getElem_toArray, List.getElem_cons_succ, List.getElem_cons_zero]
            refine WalkT.take (i := 12) (v := ?_) rfl (by kernel_rfl) (by kernel_rfl) (by kernel_rfl) (by kernel_rfl) (fun _ _ _ h => h) hS0 (Or.inl ⟨by rfl, ?_⟩) ?_; rotate_left; (· (intro wS hSw; (try dsimp only at hSw); obtain ⟨s0, s1⟩ := hSw; go_simp; try with_reducible rfl)); try simp only [Act.put, List.setIfInBounds_toArray, List.set_cons_zero, List.set_cons_succ, List.getElem_toArray, List.getElem_cons_succ, List.getElem_cons_zero]
            refine WalkT.quiet (i := 13) (v := ?_) rfl (by kernel_rfl) (by kernel_rfl) (by kernel_rfl) (fun _ _ _ h => h) (Or.inl ⟨by rfl, ?_⟩) ?_; rotate_left; (· (intro wS hSw; (try dsimp only at hSw); go_simp; try with_reducible rfl)); try simp only [Act.put, List.setIfInBounds_toArray, List.set_cons_zero, List.set_cons_succ, List.getElem_toArray, List.getElem_cons_succ, List.getElem_cons_zero]
            refine WalkT.quiet (i := 14) (v := ?_) rfl (by kernel_rfl) (by kernel_rfl) (by kernel_rfl) (fun _ _ _ h => h) (Or.inl ⟨by rfl, ?_⟩) ?_; rotate_left; (· (intro wS hSw; (try dsimp only at hSw); go_simp; try with_reducible rfl)); try simp only [Act.put, List.setIfInBounds_toArray, List.set_cons_zero, List.set_cons_succ, List.getElem_toArray, List.getElem_cons_succ, List.getElem_cons_zero]
            refine WalkT.ready (rs := [7]) (by kernel_rfl) (by simp) (AllT.cons rfl (fun K hK => ?_) AllT.nil); go_simp
            have hB4 : Below w3.heap.size w3 (w3.alloc (.cells #[.int .i64 (k : Int)] 3)) := below_alloc (Below.refl _ _) _ (Nat.le_refl _)
            have HS4 := Lib.hid (HS2.out.below hB4)
            refine hK.out _ _ (fun _ _ => ⟨HS4.out.blk.cell 2 _ rfl, HS4.out.blk.cell 3 _ rfl⟩) ?_; clear hK K; try simp only [Act.put, List.setIfInBounds_toArray, List.set_cons_zero, List.set_cons_succ, List.getElem_toArray, List.getElem_cons_succ, List.getElem_cons_zero]
            refine WalkT.ready (rs := [8]) (by kernel_rfl) (by simp) (AllT.cons rfl (fun K hK => ?_) AllT.nil)
            refine step_append_lies _ (by rfl) _ _ _ (by rfl) _ 3 _ _ 1 8 Try.underlying22 hi hz0 hz1 hz2 rfl (by decide) _ now.length _ (by rfl) HS4.out.onv ⟨_, 0, none⟩ 1 1 [.int .i64 (k : Int)] (by rfl) rfl (by exact news_at (by first | rfl | simp) (by rfl)) (by simp [Value.oneCell']) (by omega) (by unfold maxLen; omega) (by omega) (by have := HS4.out.bel.size; omega) _ rfl ?_
            intro g cap5 w5 hown5 hg5 hat5 hlt5
            have hB5 := (HS2.out.blk.alloc (.cells #[.int .i64 (k : Int)] 3)).grown hg5 (fun e => HS2.out.np e.symm)
            have hP5 := HS2.out.push (W2 := w5) (g := g) (cap := cap5) (k : Int) n (grown_trans (World.grownBy_alloc w3 _ _) hg5) (by unfold OwnI; rw [List.length_append, List.map_append]; exact hown5) (hat5.imp id (fun h => by rw [h]; simp))
            have g2 : w5.cell? ⟨p, 2, none⟩ = some (.slice na' now.length ncap') := hB5.cell 2 _ rfl
            have g3 : w5.cell? ⟨p, 3, none⟩ = some (.int .i64 c) := hB5.cell 3 _ rfl
            have z2 := hB5.free 2
            have z3 := hB5.free 3
            have HP5 := Lib.hid hP5
            clear hown5 hg5 hat5 hB5 hP5 hS0
            refine hK.out _ _ (fun _ _ => ⟨g2, g3⟩) ?_; clear hK K; try simp only [Act.put, List.setIfInBounds_toArray, List.set_cons_zero, List.set_cons_succ, List.getElem_toArray, List.getElem_cons_succ, List.getElem_cons_zero]
            refine WalkT.quiet (i := 15) (v := ?_) rfl (by kernel_rfl) (by kernel_rfl) (by kernel_rfl) (fun _ _ _ h => h) (Or.inl ⟨by rfl, ?_⟩) ?_; rotate_left; (· (intro wS hSw; (try dsimp only at hSw); go_simp; try with_reducible rfl)); try simp only [Act.put, List.setIfInBounds_toArray, List.set_cons_zero, List.set_cons_succ, List.getElem_toArray, List.getElem_cons_succ, List.getElem_cons_zero]
            refine WalkT.quiet (i := 16) (v := ?_) rfl (by kernel_rfl) (by kernel_rfl) (by kernel_rfl) (fun _ _ _ h => h) (Or.inl ⟨by rfl, ?_⟩) ?_; rotate_left; (· (intro wS hSw; (try dsimp only at hSw); go_simp; try with_reducible rfl)); try simp only [Act.put, List.setIfInBounds_toArray, List.set_cons_zero, List.set_cons_succ, List.getElem_toArray, List.getElem_cons_succ, List.getElem_cons_zero]
            refine WalkT.ready (rs := [17]) (by kernel_rfl) (by simp) (AllT.cons rfl (fun K hK => ?_) AllT.nil); go_simp
            refine hK.out _ _ (fun h => absurd h (by decide)) ?_; clear hK K; try simp only [Act.put, List.setIfInBounds_toArray, List.set_cons_zero, List.set_cons_succ, List.getElem_toArray, List.getElem_cons_succ, List.getElem_cons_zero]
            refine WalkT.quiet (i := 18) (v := ?_) rfl (by kernel_rfl) (by kernel_rfl) (by kernel_rfl) (fun _ _ _ h => h) (Or.inl ⟨by rfl, ?_⟩) ?_; rotate_left; (· (intro wS hSw; (try dsimp only at hSw); go_simp; try with_reducible rfl)); try simp only [Act.put, List.setIfInBounds_toArray, List.set_cons_zero, List.set_cons_succ, List.getElem_toArray, List.getElem_cons_succ, List.getElem_cons_zero]
            refine WalkT.quiet (i := 19) (v := ?_) rfl (by kernel_rfl) (by kernel_rfl) (by kernel_rfl) (fun _ _ _ h => h) (Or.inl ⟨by rfl, ?_⟩) ?_; rotate_left; (· (intro wS hSw; (try dsimp only at hSw); go_simp; try with_reducible rfl)); try simp only [Act.put, List.setIfInBounds_toArray, List.set_cons_zero, List.set_cons_succ, List.getElem_toArray, List.getElem_cons_succ, List.getElem_cons_zero]
            refine WalkT.ready (rs := [20]) (by kernel_rfl) (by simp) (AllT.cons rfl (fun K hK => ?_) AllT.nil); go_simp
            refine hK.out _ _ (fun h => absurd h (by decide)) ?_; clear hK K; try simp only [Act.put, List.setIfInBounds_toArray, List.set_cons_zero, List.set_cons_succ, List.getElem_toArray, List.getElem_cons_succ, List.getElem_cons_zero]
            refine WalkT.done (by kernel_rfl) ?_
            generalize (w5.setCell ⟨p, 2, none⟩ (.slice (some ⟨g, 0, none⟩) (now.length + 1) cap5)).setCell ⟨p, 3, none⟩ (.int .i64 (c + n)) = w6 at *
            clear g2 g3 z2 z3 x3
            go_wp2_with fail
            refine (ih (room.set k (q - 1)) (now ++ [(k : Int)]) (c + n) st' _ _ _ (by rw [List.length_append]; exact HD.out.1) (by rw [List.length_append]; exact hnlt) (by rw [List.length_set]; exact HD.out.2.2.2.1) ?_ (by omega) (by rw [List.length_append]; simp only [List.length_cons, List.length_nil]; omega) HP5.out).mono ?_
            · intro x hx
              rcases List.mem_or_eq_of_mem_set hx with h | h
              · exact HD.out.2.1 x h
              · omega
            rintro e w7 ⟨rfl, nv7, bv7, hS7⟩
            obtain ⟨na7, cap7, rfl, hc7, hm7, hg7⟩ := hS7.onv.form
            obtain ⟨g7, rfl⟩ := hg7 (by simp)
            rw [List.length_append] at hS7 hc7
            simp only [List.length_cons, List.length_nil, Nat.zero_add] at hS7 hc7
            have HS7 := Lib.hid hS7
            clear hS7 HP5 HS4
            go_wp2_with fail
            have f2 : w7.drew.cell? ⟨p, 2, none⟩ = some (.slice (some ⟨g7, 0, none⟩) (now.length + 1) cap7) := HS7.out.blk.cell 2 _ rfl
            have f3 : w7.drew.cell? ⟨p, 3, none⟩ = some (.int .i64 (c + n)) := HS7.out.blk.cell 3 _ rfl
            have hS0 : w7.drew.cell? ⟨p, 2, none⟩ = some (.slice (some ⟨g7, 0, none⟩) (now.length + 1) cap7) ∧ w7.drew.cell? ⟨p, 3, none⟩ = some (.int .i64 (c + n)) := ⟨f2, f3⟩
            have HS8 : Hid (ASt W0 p (.slice (some ⟨tb, toff, none⟩) rows.length tcap) (.slice (some ⟨rg, 0, none⟩) room.length rcap) (.slice (some ⟨g7, 0, none⟩) (now.length + 1) cap7) bv7 (room.set k (q - 1)) (now ++ [(k : Int)]) (c + n) (search rest (room.set k (q - 1)) (now ++ [(k : Int)]) (c + n) st') w7.drew) := Lib.hid (HS7.out.below (below_draws (Below.refl _ _) 1))
            have z2 := HS8.out.blk.free 2
            have z3 := HS8.out.blk.free 3
            have x3 : IntKind.i64.wrap c = c := IntWalk.i64_in _ (by omega)
            have bb1 : (now.length : Int) ≤ (cap7 : Int) := by omega
            have bb2 : now.length ≤ cap7 := by omega
            refine WalkT.start (fun w' => w'.cell? ⟨p, 2, none⟩ = some (.slice (some ⟨g7, 0, none⟩) (now.length + 1) cap7) ∧ w'.cell? ⟨p, 3, none⟩ = some (.int .i64 (c + n))) [16, 19] (by kernel_rfl) ?_
            generalize w7.drew = w8 at *
            have hz8 := HS8.out.bel.size
            clear HS7
            refine WalkT.quiet (i := 0) (v := ?_) rfl (by kernel_rfl) (by kernel_rfl) (by kernel_rfl) (fun _ _ _ h => h) (Or.inl ⟨by rfl, ?_⟩) ?_; rotate_left; (· (intro wS hSw; (try dsimp only at hSw); go_simp; try with_reducible rfl)); try simp only [Act.put, List.setIfInBounds_toArray, List.set_cons_zero, List.set_cons_succ, List.getElem_toArray, List.getElem_cons_succ, List.getElem_cons_zero]
            refine WalkT.quiet (i := 1) (v := ?_) rfl (by kernel_rfl) (by kernel_rfl) (by kernel_rfl) (fun _ _ _ h => h) (Or.inl ⟨by rfl, ?_⟩) ?_; rotate_left; (· (intro wS hSw; (try dsimp only at hSw); go_simp; try with_reducible rfl)); try simp only [Act.put, List.setIfInBounds_toArray, List.set_cons_zero, List.set_cons_succ, List.getElem_toArray, List.getElem_cons_succ, List.getElem_cons_zero]
            refine WalkT.quiet (i := 2) (v := ?_) rfl (by kernel_rfl) (by kernel_rfl) (by kernel_rfl) (fun _ _ _ h => h) (Or.inl ⟨by rfl, ?_⟩) ?_; rotate_left; (· (intro wS hSw; (try dsimp only at hSw); go_simp; try with_reducible rfl)); try simp only [Act.put, List.setIfInBounds_toArray, List.set_cons_zero, List.set_cons_succ, List.getElem_toArray, List.getElem_cons_succ, List.getElem_cons_zero]
            refine WalkT.quiet (i := 3) (v := ?_) rfl (by kernel_rfl) (by kernel_rfl) (by kernel_rfl) (fun _ _ _ h => h) (Or.inl ⟨by rfl, ?_⟩) ?_; rotate_left; (· (intro wS hSw; (try dsimp only at hSw); go_simp; try with_reducible rfl)); try simp only [Act.put, List.setIfInBounds_toArray, List.set_cons_zero, List.set_cons_succ, List.getElem_toArray, List.getElem_cons_succ, List.getElem_cons_zero]
            refine WalkT.quiet (i := 4) (v := ?_) rfl (by kernel_rfl) (by kernel_rfl) (by kernel_rfl) (fun _ _ _ h => h) (Or.inl ⟨by rfl, ?_⟩) ?_; rotate_left; (· (intro wS hSw; (try dsimp only at hSw); go_simp; try with_reducible rfl)); try simp only [Act.put, List.setIfInBounds_toArray, List.set_cons_zero, List.set_cons_succ, List.getElem_toArray, List.getElem_cons_succ, List.getElem_cons_zero]
            refine WalkT.take (i := 5) (v := ?_) rfl (by kernel_rfl) (by kernel_rfl) (by kernel_rfl) (by kernel_rfl) (fun _ _ _ h => h) hS0 (Or.inl ⟨by rfl, ?_⟩) ?_; rotate_left; (· (intro wS hSw; (try dsimp only at hSw); obtain ⟨s0, s1⟩ := hSw; go_simp; try with_reducible rfl)); try simp only [Act.put, List.setIfInBounds_toArray, List.set_cons_zero, List.set_cons_succ, List.getElem_toArray, List.getElem_cons_succ, List.getElem_cons_zero]
            refine WalkT.quiet (i := 6) (v := ?_) rfl (by kernel_rfl) (by kernel_rfl) (by kernel_rfl) (fun _ _ _ h => h) (Or.inl ⟨by rfl, ?_⟩) ?_; rotate_left; (· (intro wS hSw; (try dsimp only at hSw); go_simp; try with_reducible rfl)); try simp only [Act.put, List.setIfInBounds_toArray, List.set_cons_zero, List.set_cons_succ, List.getElem_toArray, List.getElem_cons_succ, List.getElem_cons_zero]
            refine WalkT.quiet (i := 7) (v := ?_) rfl (by kernel_rfl) (by kernel_rfl) (by kernel_rfl) (fun _ _ _ h => h) (Or.inl ⟨by rfl, ?_⟩) ?_; rotate_left; (· (intro wS hSw; (try dsimp only at hSw); go_simp; try with_reducible rfl)); try simp only [Act.put, List.setIfInBounds_toArray, List.set_cons_zero, List.set_cons_succ, List.getElem_toArray, List.getElem_cons_succ, List.getElem_cons_zero]
            refine WalkT.quiet (i := 8) (v := ?_) rfl (by kernel_rfl) (by kernel_rfl) (by kernel_rfl) (fun _ _ _ h => h) (Or.inl ⟨by rfl, ?_⟩) ?_; rotate_left; (· (intro wS hSw; (try dsimp only at hSw); go_simp; try with_reducible rfl)); try simp only [Act.put, List.setIfInBounds_toArray, List.set_cons_zero, List.set_cons_succ, List.getElem_toArray, List.getElem_cons_succ, List.getElem_cons_zero]
            refine WalkT.quiet (i := 9) (v := ?_) rfl (by kernel_rfl) (by kernel_rfl) (by kernel_rfl) (fun _ _ _ h => h) (Or.inl ⟨by rfl, ?_⟩) ?_; rotate_left; (· (intro wS hSw; (try dsimp only at hSw); go_simp; try with_reducible rfl)); try simp only [Act.put, List.setIfInBounds_toArray, List.set_cons_zero, List.set_cons_succ, List.getElem_toArray, List.getElem_cons_succ, List.getElem_cons_zero]
            refine WalkT.quiet (i := 10) (v := ?_) rfl (by kernel_rfl) (by kernel_rfl) (by kernel_rfl) (fun _ _ _ h => h) (Or.inl ⟨by rfl, ?_⟩) ?_; rotate_left; (· (intro wS hSw; (try dsimp only at hSw); go_simp; try with_reducible rfl)); try simp only [Act.put, List.setIfInBounds_toArray, List.set_cons_zero, List.set_cons_succ, List.getElem_toArray, List.getElem_cons_succ, List.getElem_cons_zero]
            refine WalkT.take (i := 11) (v := ?_) rfl (by kernel_rfl) (by kernel_rfl) (by kernel_rfl) (by kernel_rfl) (fun _ _ _ h => h) hS0 (Or.inl ⟨by rfl, ?_⟩) ?_; rotate_left; (· (intro wS hSw; (try dsimp only at hSw); obtain ⟨s0, s1⟩ := hSw; go_simp; try with_reducible rfl)); try simp only [Act.put, List.setIfInBounds_toArray, List.set_cons_zero, List.set_cons_succ, List.getElem_toArray, List.getElem_cons_succ, List.getElem_cons_zero]
            refine WalkT.quiet (i := 12) (v := ?_) rfl (by kernel_rfl) (by kernel_rfl) (by kernel_rfl) (fun _ _ _ h => h) (Or.inl ⟨by rfl, ?_⟩) ?_; rotate_left; (· (intro wS hSw; (try dsimp only at hSw); go_simp; try with_reducible rfl)); try simp only [Act.put, List.setIfInBounds_toArray, List.set_cons_zero, List.set_cons_succ, List.getElem_toArray, List.getElem_cons_succ, List.getElem_cons_zero]
            refine WalkT.quiet (i := 13) (v := ?_) rfl (by kernel_rfl) (by kernel_rfl) (by kernel_rfl) (fun _ _ _ h => h) (Or.inl ⟨by rfl, ?_⟩) ?_; rotate_left; (· (intro wS hSw; (try dsimp only at hSw); go_simp; try with_reducible rfl)); try simp only [Act.put, List.setIfInBounds_toArray, List.set_cons_zero, List.set_cons_succ, List.getElem_toArray, List.getElem_cons_succ, List.getElem_cons_zero]
            have HP9 := Lib.hid (HS8.out.pop (c := c))
            obtain ⟨s2, s3⟩ := hS0
            refine WalkT.quiet (i := 14) (v := ?_) rfl (by kernel_rfl) (by kernel_rfl) (by kernel_rfl) (fun _ _ _ h => h) (Or.inl ⟨by rfl, ?_⟩) ?_; rotate_left; (· (intro wS hSw; (try dsimp only at hSw); go_simp; try with_reducible rfl)); try simp only [Act.put, List.setIfInBounds_toArray, List.set_cons_zero, List.set_cons_succ, List.getElem_toArray, List.getElem_cons_succ, List.getElem_cons_zero]
            refine WalkT.quiet (i := 15) (v := ?_) rfl (by kernel_rfl) (by kernel_rfl) (by kernel_rfl) (fun _ _ _ h => h) (Or.inl ⟨by rfl, ?_⟩) ?_; rotate_left; (· (intro wS hSw; (try dsimp only at hSw); go_simp; try with_reducible rfl)); try simp only [Act.put, List.setIfInBounds_toArray, List.set_cons_zero, List.set_cons_succ, List.getElem_toArray, List.getElem_cons_succ, List.getElem_cons_zero]
            refine WalkT.ready (rs := [16]) (by kernel_rfl) (by simp) (AllT.cons rfl (fun K hK => ?_) AllT.nil); go_simp
            refine hK.out _ _ (fun h => absurd h (by decide)) ?_; clear hK K; try simp only [Act.put, List.setIfInBounds_toArray, List.set_cons_zero, List.set_cons_succ, List.getElem_toArray, List.getElem_cons_succ, List.getElem_cons_zero]
            refine WalkT.quiet (i := 17) (v := ?_) rfl (by kernel_rfl) (by kernel_rfl) (by kernel_rfl) (fun _ _ _ h => h) (Or.inl ⟨by rfl, ?_⟩) ?_; rotate_left; (· (intro wS hSw; (try dsimp only at hSw); go_simp; try with_reducible rfl)); try simp only [Act.put, List.setIfInBounds_toArray, List.set_cons_zero, List.set_cons_succ, List.getElem_toArray, List.getElem_cons_succ, List.getElem_cons_zero]
            refine WalkT.quiet (i := 18) (v := ?_) rfl (by kernel_rfl) (by kernel_rfl) (by kernel_rfl) (fun _ _ _ h => h) (Or.inl ⟨by rfl, ?_⟩) ?_; rotate_left; (· (intro wS hSw; (try dsimp only at hSw); go_simp; try with_reducible rfl)); try simp only [Act.put, List.setIfInBounds_toArray, List.set_cons_zero, List.set_cons_succ, List.getElem_toArray, List.getElem_cons_succ, List.getElem_cons_zero]
            refine WalkT.ready (rs := [19]) (by kernel_rfl) (by simp) (AllT.cons rfl (fun K hK => ?_) AllT.nil); go_simp
            refine hK.out _ _ (fun h => absurd h (by decide)) ?_; clear hK K; try simp only [Act.put, List.setIfInBounds_toArray, List.set_cons_zero, List.set_cons_succ, List.getElem_toArray, List.getElem_cons_succ, List.getElem_cons_zero]
            refine WalkT.done (by kernel_rfl) ?_
            generalize (w8.setCell ⟨p, 2, none⟩ (.slice (some ⟨g7, 0, none⟩) now.length cap7)).setCell ⟨p, 3, none⟩ (.int .i64 c) = w9 at *
            clear s2 s3 z2 z3 f2 f3 x3 HS8
            have e1 : w9.cell? ⟨p, 1, none⟩ = some (.slice (some ⟨rg, 0, none⟩) room.length rcap) := HP9.out.blk.cell 1 _ rfl
            have hor := HP9.out.orv
            rw [show (Value.slice (some ⟨rg, 0, none⟩) room.length rcap) = .slice (some ⟨rg, 0, none⟩) (room.set k (q - 1)).length rcap by rw [List.length_set]] at hor
            have r0 := OwnI.cell hor rfl (k := k) (by rw [List.length_set]; exact hkr)
            rw [List.getElem_set_self] at r0
            have rf := World.ownsRow.frozenAt (w := w9) hor k
            have hfin := HP9.out
            rw [show (Value.slice (some ⟨rg, 0, none⟩) room.length rcap) = .slice (some ⟨rg, 0, none⟩) (room.set k (q - 1)).length rcap by rw [List.length_set]] at hfin
            replace hfin := hfin.room k (q - 1 + 1)
            rw [List.length_set, List.set_set, show q - 1 + 1 = q by omega, ← HNQ.out.2, List.set_getElem_self, HNQ.out.2] at hfin
            have HX := Lib.hid hfin
            clear hor hfin
            go_wp2
            refine ⟨⟨k + 1, _, _, bv7, by omega, by go_num, HX.out, ?_⟩, by simp [intOf]; omega⟩
            rw [HS.out.2, HTK.out, if_pos (by rw [HNQ.out.2]; omega), HNQ.out.1, HNQ.out.2]
        · go_wp2
          ((try simp only [Exit.inBlock, Exit.then]); refine bodyPost_end (results_none rfl _ _ _) rfl ?_)
          refine ⟨rfl, .slice na' now.length ncap', bv', ?_⟩
          have h1 := HS.out.2
          rw [List.drop_of_length_le (by omega)] at h1
          rw [search_cons, if_neg (by rw [hf]; decide), h1]
          exact HS.out.1
    · go_wp2
      ((try simp only [Exit.inBlock, Exit.then]); refine bodyPost_ret (results_none rfl _ _ _) rfl ?_)
      exact ⟨rfl, _, _, by rw [search_cons, if_pos hf]; exact HA.out.below (below_draws (Below.refl _ _) 1)⟩
end Go.Proofs.Ytagpcgnlbgndmaa
/- Walk: tree.Assign. -/
set_option linter.unusedVariables false
set_option linter.unusedSimpArgs false
namespace Go.Proofs.Ytagpcgnlbgndmaa
open Go Go.RowKit

def AssignPost (rows : List (List Int)) (free : List Int) (w : World) (e : Ending) (w' : World) : Prop :=
  ∃ v, e = .returned (.tuple #[v, .int .i64 (if tabF rows free = 0 then bestS (assignedV rows free) else 0), .bool (decide (tabF rows free = 0 ∧ bestB (assignedV rows free) = true)), .int .i64 (tabF rows free)]) ∧
    Arr intCells 1 w' (if tabF rows free = 0 then bestL (assignedV rows free) else []) v ∧ Below w.heap.size w w'

set_option maxHeartbeats 4000000 in
set_option maxRecDepth 100000 in
theorem assign_any (v u : Value) (rows : List (List Int)) (free : List Int) (w : World) (h : Tab w rows v) (hf : Arr intCells 1 w free u) : Calls Try.prog 43 #[v, u] w (AssignPost rows free w) := by
  have HT := Lib.hid h
  have HF := Lib.hid hf
  obtain ⟨a, cap, rfl, hcap, hmax, hc⟩ := h
  obtain ⟨a2, cap2, rfl, hcap2, hmax2, hc2⟩ := hf
  unfold maxLen at hmax hmax2
  clear hc hc2
  by_cases h0 : tabF rows free = 0
  · have hok := tab_ok h0
    obtain ⟨ok1, ok2, ok3, ok4⟩ := hok
    have HK := Lib.hid (And.intro ok3 (And.intro ok4 h0))
    have h0' : (tabF rows free != 0) = false := by simp [h0]
    clear ok3 ok4 h0
    go_enter Try.func43, Try.ntmps43
    go_wp2_with (go_at_call 104; refine (passignFault_any _ _ rows free _ (by exact HT.out) (by exact HF.out)).mono ?_; rintro e w1 ⟨rfl, rfl⟩)
    refine (clone_int _ free _ (by exact HF.out) (by omega)).mono ?_
    rintro e w2 ⟨rv, rfl, ⟨hown2, hform⟩, hb2⟩
    have hO2 : OwnI w.heap.size w2 rv free := by unfold OwnI; rw [← flat_one]; exact hown2
    obtain ⟨ra, rcap, rfl⟩ : ∃ a cap, rv = .slice a free.length cap := by obtain ⟨a, cap, h, _⟩ := hO2.form; exact ⟨a, cap, h⟩
    have hz2 := hb2.size
    have H2 := Lib.hid (And.intro hO2 hb2)
    clear hown2 hform hO2 hb2
    go_wp2_with fail
    have hA : ASt w w2.heap.size (.slice a rows.length cap) (.slice ra free.length rcap) (.slice none 0 0) (.slice none 0 0) free [] 0 none (w2.alloc (.cells #[.slice a rows.length cap, .slice ra free.length rcap, .slice none 0 0, .int .i64 0, .slice none 0 0, .int .i64 0, .bool false] 139)) := by
      have hl := World.ownsRow.lt H2.out.1
      refine ⟨below_alloc H2.out.2 _ hz2, hz2, Blk.new w2 _ _, World.ownsRow.alloc H2.out.1 _, World.ownsRow_nil _ _ _ _, World.ownsRow_nil _ _ _ _, fun e => (by have := (hl _ e).2; omega), fun e => (by cases e), fun e => (by cases e), fun g _ e => (by cases e), fun g _ e => (by cases e), fun g _ e => (by cases e)⟩
    refine (from_any w w2.heap.size free.length _ _ rows HT.out HK.out.1 ok2 ok1 rows free [] 0 none _ _ _ rfl (by simp) rfl HK.out.2.1 (by omega) (by simp) hA).mono ?_
    rintro e w3 ⟨rfl, nv, bv, hS⟩
    clear hA
    have HV : Hid (assignedV rows free = search rows free [] 0 none) := Lib.hid rfl
    generalize search rows free [] 0 none = st at *
    obtain ⟨ba, bcap, rfl, -, -, -⟩ := hS.obv.form
    have HS := Lib.hid hS
    have e4 : w3.cell? ⟨w2.heap.size, 4, none⟩ = some (.slice ba (bestL st).length bcap) := hS.blk.cell 4 _ rfl
    have e5 : w3.cell? ⟨w2.heap.size, 5, none⟩ = some (.int .i64 (bestS st)) := hS.blk.cell 5 _ rfl
    have e6 : w3.cell? ⟨w2.heap.size, 6, none⟩ = some (.bool (bestB st)) := hS.blk.cell 6 _ rfl
    clear hS
    go_wp2_with fail
    go_region
    go_wp2
    ((try simp only [Exit.inBlock, Exit.then]); refine bodyPost_ret (results_tmp4 rfl _ _ _) rfl ?_)
    refine ⟨.slice ba (bestL st).length bcap, ?_, by rw [if_pos HK.out.2.2, HV.out]; exact Arr.of_ints (w := w3) HS.out.obv, below_draws HS.out.bel 1⟩
    have hd : decide (tabF rows free = 0 ∧ bestB (assignedV rows free) = true) = bestB st := by rw [HK.out.2.2, HV.out]; simp
    rw [hd, if_pos HK.out.2.2, HV.out, HK.out.2.2]; exact rfl
  · have h0' : (tabF rows free != 0) = true := by simp [h0]
    have H0 := Lib.hid h0
    clear h0
    go_enter Try.func43, Try.ntmps43
    go_wp2_with (go_at_call 104; refine (passignFault_any _ _ rows free _ (by exact HT.out) (by exact HF.out)).mono ?_; rintro e w1 ⟨rfl, rfl⟩)
    ((try simp only [Exit.inBlock, Exit.then]); refine bodyPost_ret (results_tmp4 rfl _ _ _) rfl ?_)
    exact ⟨_, by rw [if_neg H0.out, decide_eq_false (fun h => H0.out h.1)]; exact rfl, by rw [if_neg H0.out]; exact Arr.nil _ _ _, Below.refl _ _⟩
end Go.Proofs.Ytagpcgnlbgndmaa
/- Walk: the search of the reference's Assigned. -/
set_option linter.unusedVariables false
set_option linter.unusedSimpArgs false
namespace Go.Proofs.Ytagpcgnlbgndmaa
open Go Go.RowKit

def leastV (st : Best) : Int := match st with | none => -1 | some (_, s) => s
def tryCp (pc pr pb pl pt : Nat) : Array Value := #[.pointer (some ⟨pl, 0, none⟩), .pointer (some ⟨pc, 0, none⟩), .pointer (some ⟨pb, 0, none⟩), .pointer (some ⟨pr, 0, none⟩), .pointer (some ⟨pt, 0, none⟩)]
def offAll (pc pr pb pl pt : Nat) (v : Value) : Prop := ∀ g, v.ownBlock = some g → g ≠ pc ∧ g ≠ pr ∧ g ≠ pb ∧ g ≠ pl ∧ g ≠ pt
structure RSt (W0 : World) (pc pr pb pl pt : Nat) (cv rv bv : Value) (room : List Int) (st : Best) (W : World) : Prop where
  bel : Below W0.heap.size W0 W
  ord : W0.heap.size ≤ pc ∧ pc < pr ∧ pr < pb ∧ pb < pl ∧ pl < pt ∧ pt < W.heap.size
  kc : Blk W pc #[cv] 67
  kr : Blk W pr #[rv] 22
  kb : Blk W pb #[bv] 22
  kl : Blk W pl #[.int .i64 (leastV st)] 3
  kt : Blk W pt #[.func (.func 107) #[] (tryCp pc pr pb pl pt)] 141
  orv : OwnI W0.heap.size W rv room
  obv : OwnI W0.heap.size W bv (bestL st)
  rx : offAll pc pr pb pl pt rv
  bx : offAll pc pr pb pl pt bv
  rb : ∀ g, rv.ownBlock = some g → bv.ownBlock ≠ some g
  ok : BestOk st
/-- what else is owned stays -/
def FR (pb pl : Nat) (rv : Value) (W w' : World) : Prop := W.heap.size ≤ w'.heap.size ∧ ∀ k, k < W.heap.size → k ≠ pb → k ≠ pl → rv.ownBlock ≠ some k → w'.heap[k]? = W.heap[k]?
theorem FR.refl (pb pl : Nat) (rv : Value) (W : World) : FR pb pl rv W W := ⟨Nat.le_refl _, fun _ _ _ _ _ => rfl⟩
theorem FR.trans {pb pl : Nat} {rv : Value} {a b c : World} (h : FR pb pl rv a b) (k : FR pb pl rv b c) : FR pb pl rv a c := ⟨Nat.le_trans h.1 k.1, fun i h1 h2 h3 h4 => (k.2 i (Nat.lt_of_lt_of_le h1 h.1) h2 h3 h4).trans (h.2 i h1 h2 h3 h4)⟩
theorem FR.of_below {pb pl : Nat} {rv : Value} {a b : World} (h : Below a.heap.size a b) : FR pb pl rv a b := ⟨h.size, fun k hk _ _ _ => h.block k hk⟩
theorem FR.own {pb pl : Nat} {rv : Value} {a b : World} (h : FR pb pl rv a b) {base : Nat} {v : Value} {l : List Int} (ho : OwnI base a v l) (h1 : v.ownBlock ≠ some pb) (h2 : v.ownBlock ≠ some pl) (h3 : ∀ g, rv.ownBlock = some g → v.ownBlock ≠ some g) : OwnI base b v l := by
  have hl := fun g hg => (World.ownsRow.lt ho g hg).2
  refine ⟨ho.1, ?_⟩
  rcases ho.2 with hn | ⟨g, cap, cur, rfl, hb, hgg, rest⟩
  · exact .inl hn
  · refine .inr ⟨g, cap, cur, rfl, hb, ?_, rest⟩
    rw [h.2 g (hl g rfl) (fun e => h1 (by rw [e]; rfl)) (fun e => h2 (by rw [e]; rfl)) (fun e => h3 g e rfl)]
    exact hgg
theorem RSt.below {W0 W W' : World} {pc pr pb pl pt : Nat} {cv rv bv : Value} {room : List Int} {st : Best} (h : RSt W0 pc pr pb pl pt cv rv bv room st W) (hB : Below W.heap.size W W') : RSt W0 pc pr pb pl pt cv rv bv room st W' :=
  ⟨below_at h.bel hB h.bel.size, ⟨h.ord.1, h.ord.2.1, h.ord.2.2.1, h.ord.2.2.2.1, h.ord.2.2.2.2.1, Nat.lt_of_lt_of_le h.ord.2.2.2.2.2 hB.size⟩, h.kc.below hB h.kc.lt, h.kr.below hB h.kr.lt, h.kb.below hB h.kb.lt, h.kl.below hB h.kl.lt, h.kt.below hB h.kt.lt, h.orv.below hB, h.obv.below hB, h.rx, h.bx, h.rb, h.ok⟩
/-- an assignment is found -/
theorem RSt.found {W0 W : World} {pc pr pb pl pt : Nat} {cv rv bv lv : Value} {room now : List Int} {c : Int} {st : Best} (h : RSt W0 pc pr pb pl pt cv rv bv room st W) (hl : OwnI W0.heap.size W lv now) (hx : offAll pc pr pb pl pt lv) (hr : ∀ g, rv.ownBlock = some g → lv.ownBlock ≠ some g) (hc : 0 ≤ c) :
    RSt W0 pc pr pb pl pt cv rv lv room (some (now, c)) ((W.setCell ⟨pb, 0, none⟩ lv).setCell ⟨pl, 0, none⟩ (.int .i64 c)) ∧ FR pb pl rv W ((W.setCell ⟨pb, 0, none⟩ lv).setCell ⟨pl, 0, none⟩ (.int .i64 c)) := by
  obtain ⟨o1, o2, o3, o4, o5, o6⟩ := h.ord
  have hg1 := grown_setB W pb 0 lv
  have hg2 := grown_setB (W.setCell ⟨pb, 0, none⟩ lv) pl 0 (.int .i64 c)
  refine ⟨⟨below_setB (below_setB h.bel (by omega)) (by omega), ⟨o1, o2, o3, o4, o5, by simpa [World.setCell] using o6⟩, (h.kc.setOther (by omega) _ _).setOther (by omega) _ _, (h.kr.setOther (by omega) _ _).setOther (by omega) _ _, ?_, ?_, (h.kt.setOther (by omega) _ _).setOther (by omega) _ _, ?_, ?_, h.rx, hx, hr, ?_⟩, ?_, ?_⟩
  · exact (h.kb.set 0 lv).setOther (by omega) _ _
  · exact (h.kl.setOther (by omega) _ _).set 0 _
  · exact (h.orv.kept hg1 (fun g hg e => (h.rx g hg).2.2.1 (by simpa using e.symm))).kept hg2 (fun g hg e => (h.rx g hg).2.2.2.1 (by simpa using e.symm))
  · exact (hl.kept hg1 (fun g hg e => (hx g hg).2.2.1 (by simpa using e.symm))).kept hg2 (fun g hg e => (hx g hg).2.2.2.1 (by simpa using e.symm))
  · intro l s e
    simp only [Option.some.injEq, Prod.mk.injEq] at e
    omega
  · simp [World.setCell]
  · intro k hk h1 h2 _
    rw [Below.heap_setCell _ _ _ _ h2, Below.heap_setCell _ _ _ _ h1]
/-- the room of a cabinet turns -/
theorem RSt.room {W0 W : World} {pc pr pb pl pt g cap : Nat} {cv bv : Value} {room : List Int} {st : Best} (h : RSt W0 pc pr pb pl pt cv (.slice (some ⟨g, 0, none⟩) room.length cap) bv room st W) (k : Nat) (x : Int) :
    RSt W0 pc pr pb pl pt cv (.slice (some ⟨g, 0, none⟩) room.length cap) bv (room.set k x) st (W.setCell ⟨g, k, none⟩ (.int .i64 x)) ∧ FR pb pl (.slice (some ⟨g, 0, none⟩) room.length cap) W (W.setCell ⟨g, k, none⟩ (.int .i64 x)) := by
  have hgr := grown_setB W g k (.int .i64 x)
  have hgl := (World.ownsRow.lt h.orv g rfl).1
  obtain ⟨x1, x2, x3, x4, x5⟩ := h.rx g rfl
  obtain ⟨o1, o2, o3, o4, o5, o6⟩ := h.ord
  refine ⟨⟨below_setB h.bel hgl, ⟨o1, o2, o3, o4, o5, by simpa [World.setCell] using o6⟩, h.kc.setOther (Ne.symm x1) _ _, h.kr.setOther (Ne.symm x2) _ _, h.kb.setOther (Ne.symm x3) _ _, h.kl.setOther (Ne.symm x4) _ _, h.kt.setOther (Ne.symm x5) _ _, ?_, h.obv.kept hgr (fun g' hg e => h.rb g rfl (by rw [hg, e])), h.rx, h.bx, h.rb, h.ok⟩, ?_, ?_⟩
  · have := (World.ownsRow.stored (w := W) h.orv k (.int .i64 x)).1
    unfold OwnI
    rw [List.length_set, List.map_set]; exact this
  · simp [World.setCell]
  · intro i hi h1 h2 h3
    exact Below.heap_setCell _ _ _ _ (fun e => h3 (by rw [e]; rfl))
end Go.Proofs.Ytagpcgnlbgndmaa
/- Walk: the closure that searches, of the reference's Assigned. -/
set_option linter.unusedVariables false
set_option linter.unusedSimpArgs false
namespace Go.Proofs.Ytagpcgnlbgndmaa
open Go Go.RowKit

theorem news_after {w w' : World} {b : Nat} {cs : Array Value} {news : List Value} {t : TypeId} (hb : b = w.heap.size) (hcs : cs.toList = news) (h : Below (w.alloc (.cells cs t)).heap.size (w.alloc (.cells cs t)) w') : ∀ j u, news[j]? = some u → w'.cell? ((⟨b, 0, none⟩ : Addr).add j) = some u := by
  intro j u hu
  have h1 := news_at (w := w) (t := t) hb hcs j u hu
  have e : ((⟨b, 0, none⟩ : Addr).add j) = ⟨b, 0 + j, none⟩ := by
    unfold Addr.add
    split
    · rename_i h; simp [h]
    · rfl
  rw [e] at h1 ⊢
  exact (h.cell (p := ⟨b, _, none⟩) (by subst hb; simp)).trans h1
def TryPost (W0 : World) (pc pr pb pl pt : Nat) (cv rv : Value) (room : List Int) (st : Best) (W : World) (e : Ending) (w' : World) : Prop :=
  e = .returned (.tuple #[]) ∧ (∃ bv, RSt W0 pc pr pb pl pt cv rv bv room st w') ∧ FR pb pl rv W w'
theorem full_iff (st : Best) (c : Int) (h : BestOk st) : full st c = (decide (0 ≤ leastV st) && decide (leastV st ≤ c)) := by
  rcases st with _ | ⟨l, s⟩
  · rfl
  · have := h l s rfl
    show decide (s ≤ c) = (decide (0 ≤ s) && decide (s ≤ c))
    simp [this]
set_option maxHeartbeats 4000000 in
set_option maxRecDepth 100000 in
theorem try_any (W0 : World) (pc pr pb pl pt M : Nat) (cv rv : Value) (rows : List (List Int)) (hT : Tab W0 rows cv) (hrows : ∀ r ∈ rows, r.length = M ∧ ∀ x ∈ r, 0 ≤ x ∧ x ≤ 1000000) (hM : M ≤ 6) (hlen : rows.length ≤ 9) (rest : List (List Int)) :
    ∀ (room now : List Int) (c : Int) (st : Best) (lv bv : Value) (w : World), rows.drop now.length = rest → now.length ≤ rows.length → room.length = M → (∀ x ∈ room, 0 ≤ x ∧ x ≤ 1000000) → 0 ≤ c → c ≤ 1000000 * now.length →
      RSt W0 pc pr pb pl pt cv rv bv room st w → OwnI W0.heap.size w lv now → offAll pc pr pb pl pt lv → (∀ g, rv.ownBlock = some g → lv.ownBlock ≠ some g) →
      Calls Try.prog 107 (#[lv, .int .i64 c] ++ tryCp pc pr pb pl pt) w (TryPost W0 pc pr pb pl pt cv rv room (search rest room now c st) w) := by
  have HT := Lib.hid hT
  obtain ⟨ta, tcap, rfl, htc, htm, hrow⟩ := hT
  unfold maxLen at htm
  obtain ⟨i0, hi, hz0, hz1, hz2⟩ := info_parts infoIntB
  have HRW := Lib.hid (And.intro hrow hrows)
  clear hrow hrows
  have HF : Hid (∀ (args : Array Value) (w : World), (callFunc 107 args).run Try.prog w = .ok (.enter 107 args) w) := run_fn Try.func107 (by kernel_rfl) rfl
  induction rest with
  | nil =>
    intro room now c st lv bv w hd hnl hrl hrb hc0 hc1 hA hl hlx hlr
    have hnr : now.length = rows.length := by have := congrArg List.length hd; simp at this; omega
    have hnr' : ((now.length : Int) == (rows.length : Int)) = true := by rw [hnr]; simp
    have hn9 : now.length ≤ 9 := by omega
    clear hd hrb hrl hnr
    obtain ⟨la, lcap, rfl, hlc, hlm, hlg⟩ := hl.form
    obtain ⟨ra, rcap, rfl, hrc, hrm, hrg⟩ := hA.orv.form
    have HA := Lib.hid (And.intro hA (And.intro hl (And.intro hlx hlr)))
    have hbel := hA.bel.size
    have hfi := full_iff st c hA.ok
    obtain ⟨o1, o2, o3, o4, o5, o6⟩ := hA.ord
    have e0 : w.cell? ⟨pc, 0, none⟩ = some (.slice ta rows.length tcap) := hA.kc.cell 0 _ rfl
    have e2 : w.cell? ⟨pb, 0, none⟩ = some bv := hA.kb.cell 0 _ rfl
    have e3 : w.cell? ⟨pl, 0, none⟩ = some (.int .i64 (leastV st)) := hA.kl.cell 0 _ rfl
    have z2 := hA.kb.free 0
    have z3 := hA.kl.free 0
    clear hA hl hlx hlr
    unfold maxLen at hlm hrm
    unfold tryCp
    show Calls Try.prog 107 #[.slice la now.length lcap, .int .i64 c, .pointer (some ⟨pl, 0, none⟩), .pointer (some ⟨pc, 0, none⟩), .pointer (some ⟨pb, 0, none⟩), .pointer (some ⟨pr, 0, none⟩), .pointer (some ⟨pt, 0, none⟩)] w _
    generalize hlv : leastV st = lv at *
    go_enter Try.func107, Try.ntmps107
    go_upto_region 0 with fail
    go_cut [17] from 11 to 17 (fun t wc => t = .bool (full st c) ∧ w = wc)
    case first =>
      cases h1 : decide (0 ≤ lv)
      · rw [h1] at hfi
        have HFI := Lib.hid hfi
        clear hfi
        go_wp2
        go_meet
        exact ⟨by rw [HFI.out]; rfl, rfl⟩
      · cases h2 : decide (lv ≤ c)
        all_goals
          rw [h1, h2] at hfi
          have HFI := Lib.hid hfi
          clear hfi
          go_wp2
          go_meet
          exact ⟨by rw [HFI.out]; rfl, rfl⟩
    case rest =>
    obtain ⟨rfl, rfl⟩ := hcut
    clear hfi
    cases hf : full st c
    · have HFo := Lib.hid (HA.out.1.found HA.out.2.1 HA.out.2.2.1 HA.out.2.2.2 hc0)
      go_wp2
      ((try simp only [Exit.inBlock, Exit.then]); refine bodyPost_ret (results_none rfl _ _ _) rfl ?_)
      exact ⟨rfl, ⟨_, by rw [search_nil, if_neg (by rw [hf]; decide)]; exact HFo.out.1⟩, HFo.out.2⟩
    · go_wp2
      ((try simp only [Exit.inBlock, Exit.then]); refine bodyPost_ret (results_none rfl _ _ _) rfl ?_)
      exact ⟨rfl, ⟨bv, by rw [search_nil, if_pos hf]; exact HA.out.1⟩, FR.refl _ _ _ _⟩
  | cons row rest ih =>
    intro room now c st lv bv w hd hnl hrl hrb hc0 hc1 hA hl hlx hlr
    have hnlt : now.length < rows.length := by have := congrArg List.length hd; simp at this; omega
    have hrw : rows[now.length] = row := by rw [List.drop_eq_getElem_cons hnlt] at hd; exact (List.cons.inj hd).1
    have hdr : rows.drop (now.length + 1) = rest := by rw [List.drop_eq_getElem_cons hnlt] at hd; exact (List.cons.inj hd).2
    have hrl2 := (HRW.out.2 row (by rw [← hrw]; exact List.getElem_mem _)).1
    have hrb2 := (HRW.out.2 row (by rw [← hrw]; exact List.getElem_mem _)).2
    have hne : ((now.length : Int) == (rows.length : Int)) = false := by rw [beq_eq_false_iff_ne]; omega
    have hrm6 : row.length ≤ 6 := by omega
    have hrm7 : row.length ≤ room.length := by omega
    have HD := Lib.hid (And.intro hdr (And.intro hrb (And.intro hrb2 (And.intro hrl hrw))))
    have hn9 : now.length < 9 := by omega
    clear hd hrb hrl hrw hdr hrb2 hrl2
    obtain ⟨la, lcap, rfl, hlc, hlm, hlg⟩ := hl.form
    obtain ⟨ra, rcap, rfl, hrc, hrm, hrg⟩ := hA.orv.form
    have HA := Lib.hid (And.intro hA (And.intro hl (And.intro hlx hlr)))
    have hbel := hA.bel.size
    have hfi := full_iff st c hA.ok
    obtain ⟨o1, o2, o3, o4, o5, o6⟩ := hA.ord
    have e0 : w.cell? ⟨pc, 0, none⟩ = some (.slice ta rows.length tcap) := hA.kc.cell 0 _ rfl
    have e2 : w.cell? ⟨pb, 0, none⟩ = some bv := hA.kb.cell 0 _ rfl
    have e3 : w.cell? ⟨pl, 0, none⟩ = some (.int .i64 (leastV st)) := hA.kl.cell 0 _ rfl
    have z2 := hA.kb.free 0
    have z3 := hA.kl.free 0
    clear hA hl hlx hlr
    unfold maxLen at hlm hrm
    unfold tryCp
    show Calls Try.prog 107 #[.slice la now.length lcap, .int .i64 c, .pointer (some ⟨pl, 0, none⟩), .pointer (some ⟨pc, 0, none⟩), .pointer (some ⟨pb, 0, none⟩), .pointer (some ⟨pr, 0, none⟩), .pointer (some ⟨pt, 0, none⟩)] w _
    generalize hlv : leastV st = lv at *
    go_enter Try.func107, Try.ntmps107
    go_upto_region 0 with fail
    go_cut [17] from 11 to 17 (fun t wc => t = .bool (full st c) ∧ w = wc)
    case first =>
      cases h1 : decide (0 ≤ lv)
      · rw [h1] at hfi
        have HFI := Lib.hid hfi
        clear hfi
        go_wp2
        go_meet
        exact ⟨by rw [HFI.out]; rfl, rfl⟩
      · cases h2 : decide (lv ≤ c)
        all_goals
          rw [h1, h2] at hfi
          have HFI := Lib.hid hfi
          clear hfi
          go_wp2
          go_meet
          exact ⟨by rw [HFI.out]; rfl, rfl⟩
    case rest =>
    obtain ⟨rfl, rfl⟩ := hcut
    clear hfi
    cases hf : full st c
    · obtain ⟨tb, toff, rv, rfl, htb, htc2, hArow⟩ := HRW.out.1 now.length hnlt
      rw [HD.out.2.2.2.2] at hArow
      obtain ⟨wa, wcap, rfl, hwc, hwm, hwcc⟩ := hArow
      unfold maxLen at hwm
      have HW := Lib.hid hwcc
      have htc3 : w.cell? ⟨tb, toff + now.length, none⟩ = some (.slice wa row.length wcap) := (HA.out.1.bel.cell (p := ⟨tb, _, none⟩) htb).trans htc2
      clear e2 e3 z2 z3 hwcc htc2
      go_wp2
      clear e0 htc3
      go_loopw [31] (fun i ws => ∃ (k : Nat) (st' : Best) (bv' : Value), k ≤ row.length ∧ i = .int .i64 k ∧ RSt W0 pc pr pb pl pt (.slice (some ⟨tb, toff, none⟩) rows.length tcap) (.slice ra room.length rcap) bv' room st' ws ∧ FR pb pl (.slice ra room.length rcap) w ws ∧ tryAll (search rest) room now c row 0 st = tryAll (search rest) room now c (row.drop k) k st') (fun i _ => row.length - (intOf i).toNat)
      case atStart => exact ⟨0, st, bv, by omega, rfl, HA.out.1, FR.refl _ _ _ _, rfl⟩
      case round =>
        obtain ⟨k, st', bv', hk, rfl, hS, hFR, htry⟩ := hrel
        have HS := Lib.hid (And.intro hS (And.intro hFR htry))
        have hbel := hS.bel.size
        have hord := hS.ord.2.2.2.2.2
        clear htry hFR hS
        by_cases hlt : k < row.length
        · obtain ⟨rg, rfl⟩ := hrg (by omega)
          obtain ⟨wb, woff, rfl, hwb, hwcc⟩ := HW.out k hlt
          have c0 := hwcc 0 _ rfl
          simp only [Nat.mul_one, Nat.add_zero] at c0
          replace c0 := (HS.out.1.bel.cell (p := ⟨wb, _, none⟩) hwb).trans c0
          have e1 : wr.cell? ⟨pr, 0, none⟩ = some (.slice (some ⟨rg, 0, none⟩) room.length rcap) := HS.out.1.kr.cell 0 _ rfl
          have hkr : k < room.length := by omega
          have r0 := OwnI.cell HS.out.1.orv rfl hkr
          have rf := World.ownsRow.frozenAt (w := wr) HS.out.1.orv k
          have hrk := HD.out.2.1 room[k] (List.getElem_mem _)
          have hrow := HD.out.2.2.1 row[k] (List.getElem_mem _)
          have htk := tryAll_take (search rest) room now c row k k st' hlt
          rw [List.getD_eq_getElem?_getD, List.getElem?_eq_getElem hkr, Option.getD_some] at htk
          have HTK := Lib.hid htk
          clear htk hwcc
          have HN : Hid (∃ n, row[k] = n) := ⟨_, rfl⟩
          have HR : Hid (∃ n, room[k] = n) := ⟨_, rfl⟩
          obtain ⟨n, hn⟩ := HN.out
          obtain ⟨q, hq⟩ := HR.out
          rw [hn] at c0 hrow
          rw [hq] at r0 hrk
          have HNQ := Lib.hid (And.intro hn hq)
          clear hn hq HN HR
          obtain ⟨hq0, hq1⟩ := hrk
          obtain ⟨hn0, hn1⟩ := hrow
          by_cases hz : 0 < q
          · have hz' : decide (0 < q) = true := by simp [hz]
            have HS1 := Lib.hid (HS.out.1.room k (q - 1))
            have hL1 : OwnI W0.heap.size (wr.setCell ⟨rg, k, none⟩ (.int .i64 (q - 1))) (.slice la now.length lcap) now :=
              HS1.out.2.own (HS.out.2.1.own HA.out.2.1 (fun e => (HA.out.2.2.1 _ e).2.2.1 rfl) (fun e => (HA.out.2.2.1 _ e).2.2.2.1 rfl) HA.out.2.2.2) (fun e => (HA.out.2.2.1 _ e).2.2.1 rfl) (fun e => (HA.out.2.2.1 _ e).2.2.2.1 rfl) HA.out.2.2.2
            have HL1 := Lib.hid hL1
            clear hL1
            go_wp2
            have hFR3 := (HS.out.2.1.trans HS1.out.2).trans (FR.of_below (below_draws (Below.refl _ _) 1))
            generalize wr.setCell ⟨rg, k, none⟩ (.int .i64 (q - 1)) = w2 at *
            have hS0 : w2.drew.cell? ⟨pt, 0, none⟩ = some (.func (.func 107) #[] (tryCp pc pr pb pl pt)) := HS1.out.1.kt.cell 0 _ rfl
            have hB2 : Below w2.heap.size w2 w2.drew := below_draws (Below.refl _ _) 1
            have hFR4 : FR pb pl (.slice (some ⟨rg, 0, none⟩) room.length rcap) w w2.drew := hFR3
            have HS3 := Lib.hid (And.intro (HS1.out.1.below hB2) (And.intro (HL1.out.below hB2) hFR4))
            have x3 : IntKind.i64.wrap (c + n) = c + n := IntWalk.i64_in _ (by omega)
            refine WalkT.start (fun w' => w'.cell? ⟨pt, 0, none⟩ = some (.func (.func 107) #[] (tryCp pc pr pb pl pt))) [] (by kernel_rfl) ?_
            generalize w2.drew = w3 at *
            have hz3 := HS3.out.1.bel.size
            have hord3 := HS3.out.1.ord
            have hF := HF.out
            clear HS1 HL1 e1 c0 r0 rf hB2 hFR3 hFR4
            refine WalkT.quiet (i := 1) (v := ?_) rfl (by kernel_rfl) (by kernel_rfl) (by kernel_rfl) (fun _ _ _ h => h) (Or.inl ⟨by rfl, ?_⟩) ?_; rotate_left; (· (intro wS hSw; (try dsimp only at hSw); go_simp; try with_reducible rfl)); try simp only [Act.put, List.setIfInBounds_toArray, List.set_cons_zero, List.set_cons_succ, List.getElem_toArray, List.getElem_cons_succ, List.getElem_cons_zero]
            refine WalkT.quiet (i := 3) (v := ?_) rfl (by kernel_rfl) (by kernel_rfl) (by kernel_rfl) (fun _ _ _ h => h) (Or.inl ⟨by rfl, ?_⟩) ?_; rotate_left; (· (intro wS hSw; (try dsimp only at hSw); go_simp; try with_reducible rfl)); try simp only [Act.put, List.setIfInBounds_toArray, List.set_cons_zero, List.set_cons_succ, List.getElem_toArray, List.getElem_cons_succ, List.getElem_cons_zero]
            refine WalkT.quiet (i := 6) (v := ?_) rfl (by kernel_rfl) (by kernel_rfl) (by kernel_rfl) (fun _ _ _ h => h) (Or.inl ⟨by rfl, ?_⟩) ?_; rotate_left; (· (intro wS hSw; (try dsimp only at hSw); go_simp; try with_reducible rfl)); try simp only [Act.put, List.setIfInBounds_toArray, List.set_cons_zero, List.set_cons_succ, List.getElem_toArray, List.getElem_cons_succ, List.getElem_cons_zero]
            refine WalkT.quiet (i := 7) (v := ?_) rfl (by kernel_rfl) (by kernel_rfl) (by kernel_rfl) (fun _ _ _ h => h) (Or.inl ⟨by rfl, ?_⟩) ?_; rotate_left; (· (intro wS hSw; (try dsimp only at hSw); go_simp; try with_reducible rfl)); try simp only [Act.put, List.setIfInBounds_toArray, List.set_cons_zero, List.set_cons_succ, List.getElem_toArray, List.getElem_cons_succ, List.getElem_cons_zero]
            refine WalkT.quiet (i := 8) (v := ?_) rfl (by kernel_rfl) (by kernel_rfl) (by kernel_rfl) (fun _ _ _ h => h) (Or.inl ⟨by rfl, ?_⟩) ?_; rotate_left; (· (intro wS hSw; (try dsimp only at hSw); go_simp; try with_reducible rfl)); try simp only [Act.put, List.setIfInBounds_toArray, List.set_cons_zero, List.set_cons_succ, List.getElem_toArray, List.getElem_cons_succ, List.getElem_cons_zero]
            refine WalkT.take (i := 0) (v := ?_) rfl (by kernel_rfl) (by kernel_rfl) (by kernel_rfl) (by kernel_rfl) (fun _ _ _ h => h) hS0 (Or.inl ⟨by rfl, ?_⟩) ?_; rotate_left; (· (intro wS hSw; (try dsimp only at hSw); go_simp; try with_reducible rfl)); try simp only [Act.put, List.setIfInBounds_toArray, List.set_cons_zero, List.set_cons_succ, List.getElem_toArray, List.getElem_cons_succ, List.getElem_cons_zero]
            refine WalkT.ready (rs := [2, 4]) (by kernel_rfl) (by simp) ?_
            refine AllT.cons rfl (fun K hK => ?_) ?_
            · go_simp
              refine (clone_int _ now _ (Arr.of_ints HS3.out.2.1) (by omega)).mono ?_
              rintro e w5 ⟨v', rfl, ⟨hown5, hform⟩, hb5⟩
              have hO5 : OwnI w3.heap.size w5 v' now := by unfold OwnI; rw [← flat_one]; exact hown5
              obtain ⟨va, vcap, rfl⟩ : ∃ a cap, v' = .slice a now.length cap := by obtain ⟨a, cap, h, _⟩ := hO5.form; exact ⟨a, cap, h⟩
              have hz5 := hb5.size
              refine hK.out _ _ (fun _ _ => (HS3.out.1.below hb5).kt.cell 0 _ rfl) ?_; clear hK K; try simp only [Act.put, List.setIfInBounds_toArray, List.set_cons_zero, List.set_cons_succ, List.getElem_toArray, List.getElem_cons_succ, List.getElem_cons_zero]
              refine WalkT.ready (rs := [4]) (by kernel_rfl) (by simp) (AllT.cons rfl (fun K hK => ?_) AllT.nil); go_simp
              have hb6 : Below w3.heap.size w3 (w5.alloc (.cells #[.int .i64 (k : Int)] 3)) := below_alloc hb5 _ hz5
              have H6 := Lib.hid (And.intro hb6 (And.intro (World.ownsRow.alloc hO5 (.cells #[.int .i64 (k : Int)] 3)) (news_at (w := w5) (cs := #[.int .i64 (k : Int)]) (news := [.int .i64 (k : Int)]) (t := 3) rfl rfl)))
              clear hown5 hform hb5 hb6 hO5
              refine hK.out _ _ (fun _ _ => (HS3.out.1.below H6.out.1).kt.cell 0 _ rfl) ?_; clear hK K; try simp only [Act.put, List.setIfInBounds_toArray, List.set_cons_zero, List.set_cons_succ, List.getElem_toArray, List.getElem_cons_succ, List.getElem_cons_zero]
              refine WalkT.ready (rs := [5]) (by kernel_rfl) (by simp) (AllT.cons rfl (fun K hK => ?_) AllT.nil)
              refine step_append_lies _ (by rfl) _ _ _ (by rfl) w3.heap.size 3 _ _ 1 8 Try.underlying22 hi hz0 hz1 hz2 rfl (by decide) _ now.length _ (by rfl) H6.out.2.1 ⟨_, 0, none⟩ 1 1 [.int .i64 (k : Int)] (by rfl) rfl H6.out.2.2 (by simp [Value.oneCell']) (by omega) (by unfold maxLen; omega) (by omega) (by exact H6.out.1.size) _ rfl ?_
              intro g cap7 w7 hown7 hg7 hat7 hlt7
              have hB7 : Below w3.heap.size w3 w7 := H6.out.1.grown hg7 H6.out.1.size fun k' hk => (World.ownsRow.lt H6.out.2.1 k' hk).1
              have hO7 : OwnI w3.heap.size w7 (.slice (some ⟨g, 0, none⟩) (now.length + 1) cap7) (now ++ [(k : Int)]) := by unfold OwnI; rw [List.length_append, List.map_append]; exact hown7
              have hgl := (World.ownsRow.lt hO7 g rfl).1
              have H7 := Lib.hid (And.intro (HS3.out.1.below hB7) (And.intro hO7 hB7))
              clear hown7 hg7 hat7 hB7 hO7
              refine hK.out _ _ (fun _ _ => H7.out.1.kt.cell 0 _ rfl) ?_; clear hK K; try simp only [Act.put, List.setIfInBounds_toArray, List.set_cons_zero, List.set_cons_succ, List.getElem_toArray, List.getElem_cons_succ, List.getElem_cons_zero]
              refine WalkT.ready (rs := [9]) (by kernel_rfl) (by simp) (AllT.cons rfl (fun K hK => ?_) AllT.nil); go_simp
              refine (ih (room.set k (q - 1)) (now ++ [(k : Int)]) (c + n) st' (.slice (some ⟨g, 0, none⟩) (now.length + 1) cap7) bv' w7 (by rw [List.length_append]; exact HD.out.1) (by rw [List.length_append]; exact hnlt) (by rw [List.length_set]; exact HD.out.2.2.2.1) ?_ (by omega) (by rw [List.length_append]; simp only [List.length_cons, List.length_nil]; omega) H7.out.1 (H7.out.2.1.base hz3) ?_ ?_).mono ?_
              · intro x hx
                rcases List.mem_or_eq_of_mem_set hx with h | h
                · exact HD.out.2.1 x h
                · omega
              · intro g' e
                simp only [Value.ownBlock, Option.some.injEq] at e
                subst e
                omega
              · intro g' e1 e2
                simp only [Value.ownBlock, Option.some.injEq] at e1 e2
                have := (World.ownsRow.lt HS3.out.1.orv rg rfl).2
                omega
              rintro e w8 ⟨rfl, ⟨bv8, hS8⟩, hFR8⟩
              have H8 := Lib.hid (And.intro hS8 (HS3.out.2.2.trans ((FR.of_below H7.out.2.2).trans hFR8)))
              clear hS8 hFR8
              refine hK.out _ _ (fun _ _ => H8.out.1.kt.cell 0 _ rfl) ?_; clear hK K; try simp only [Act.put, List.setIfInBounds_toArray, List.set_cons_zero, List.set_cons_succ, List.getElem_toArray, List.getElem_cons_succ, List.getElem_cons_zero]
              refine WalkT.done (by kernel_rfl) ?_
              have e1 : w8.cell? ⟨pr, 0, none⟩ = some (.slice (some ⟨rg, 0, none⟩) room.length rcap) := H8.out.1.kr.cell 0 _ rfl
              have hor := H8.out.1.orv
              rw [show (Value.slice (some ⟨rg, 0, none⟩) room.length rcap) = .slice (some ⟨rg, 0, none⟩) (room.set k (q - 1)).length rcap by rw [List.length_set]] at hor
              have r0 := OwnI.cell hor rfl (k := k) (by rw [List.length_set]; exact hkr)
              rw [List.getElem_set_self] at r0
              have rf := World.ownsRow.frozenAt (w := w8) hor k
              have hfin := H8.out.1
              rw [show (Value.slice (some ⟨rg, 0, none⟩) room.length rcap) = .slice (some ⟨rg, 0, none⟩) (room.set k (q - 1)).length rcap by rw [List.length_set]] at hfin
              replace hfin := hfin.room k (q - 1 + 1)
              rw [List.length_set, List.set_set, show q - 1 + 1 = q by omega, ← HNQ.out.2, List.set_getElem_self, HNQ.out.2] at hfin
              have HX := Lib.hid hfin
              clear hor hfin
              go_wp2
              refine ⟨⟨k + 1, _, bv8, by omega, by go_num, HX.out.1, H8.out.2.trans HX.out.2, ?_⟩, by simp [intOf]; omega⟩
              rw [HS.out.2.2, HTK.out, if_pos (by rw [HNQ.out.2]; omega), HNQ.out.1, HNQ.out.2]
            refine AllT.cons rfl (fun K hK => ?_) AllT.nil
            · go_simp
              have hb5 : Below w3.heap.size w3 (w3.alloc (.cells #[.int .i64 (k : Int)] 3)) := below_alloc (Below.refl _ _) _ (Nat.le_refl _)
              have hz5 := hb5.size
              have H5 := Lib.hid (And.intro hb5 (World.ownsRow.alloc HS3.out.2.1 (.cells #[.int .i64 (k : Int)] 3)))
              refine hK.out _ _ (fun _ _ => (HS3.out.1.below hb5).kt.cell 0 _ rfl) ?_; clear hK K; try simp only [Act.put, List.setIfInBounds_toArray, List.set_cons_zero, List.set_cons_succ, List.getElem_toArray, List.getElem_cons_succ, List.getElem_cons_zero]
              clear hb5
              refine WalkT.ready (rs := [2]) (by kernel_rfl) (by simp) (AllT.cons rfl (fun K hK => ?_) AllT.nil); go_simp
              refine (clone_int _ now _ (Arr.of_ints H5.out.2) (by omega)).mono ?_
              rintro e w6 ⟨v', rfl, ⟨hown6, hform⟩, hb6⟩
              have hO6 : OwnI w3.heap.size w6 v' now := OwnI.base (base := (w3.alloc (.cells #[.int .i64 (k : Int)] 3)).heap.size) (by unfold OwnI; rw [← flat_one]; exact hown6) hz5
              obtain ⟨va, vcap, rfl⟩ : ∃ a cap, v' = .slice a now.length cap := by obtain ⟨a, cap, h, _⟩ := hO6.form; exact ⟨a, cap, h⟩
              have H6 := Lib.hid (And.intro (below_at H5.out.1 hb6 hz5) (And.intro hO6 (news_after (w := w3) (cs := #[.int .i64 (k : Int)]) (news := [.int .i64 (k : Int)]) (t := 3) rfl rfl hb6)))
              clear hown6 hform hb6 hO6
              refine hK.out _ _ (fun _ _ => (HS3.out.1.below H6.out.1).kt.cell 0 _ rfl) ?_; clear hK K; try simp only [Act.put, List.setIfInBounds_toArray, List.set_cons_zero, List.set_cons_succ, List.getElem_toArray, List.getElem_cons_succ, List.getElem_cons_zero]
              refine WalkT.ready (rs := [5]) (by kernel_rfl) (by simp) (AllT.cons rfl (fun K hK => ?_) AllT.nil)
              refine step_append_lies _ (by rfl) _ _ _ (by rfl) w3.heap.size 3 _ _ 1 8 Try.underlying22 hi hz0 hz1 hz2 rfl (by decide) _ now.length _ (by rfl) H6.out.2.1 ⟨_, 0, none⟩ 1 1 [.int .i64 (k : Int)] (by rfl) rfl H6.out.2.2 (by simp [Value.oneCell']) (by omega) (by unfold maxLen; omega) (by omega) (by exact H6.out.1.size) _ rfl ?_
              intro g cap7 w7 hown7 hg7 hat7 hlt7
              have hB7 : Below w3.heap.size w3 w7 := H6.out.1.grown hg7 H6.out.1.size fun k' hk => (World.ownsRow.lt H6.out.2.1 k' hk).1
              have hO7 : OwnI w3.heap.size w7 (.slice (some ⟨g, 0, none⟩) (now.length + 1) cap7) (now ++ [(k : Int)]) := by unfold OwnI; rw [List.length_append, List.map_append]; exact hown7
              have hgl := (World.ownsRow.lt hO7 g rfl).1
              have H7 := Lib.hid (And.intro (HS3.out.1.below hB7) (And.intro hO7 hB7))
              clear hown7 hg7 hat7 hB7 hO7
              refine hK.out _ _ (fun _ _ => H7.out.1.kt.cell 0 _ rfl) ?_; clear hK K; try simp only [Act.put, List.setIfInBounds_toArray, List.set_cons_zero, List.set_cons_succ, List.getElem_toArray, List.getElem_cons_succ, List.getElem_cons_zero]
              refine WalkT.ready (rs := [9]) (by kernel_rfl) (by simp) (AllT.cons rfl (fun K hK => ?_) AllT.nil); go_simp
              refine (ih (room.set k (q - 1)) (now ++ [(k : Int)]) (c + n) st' (.slice (some ⟨g, 0, none⟩) (now.length + 1) cap7) bv' w7 (by rw [List.length_append]; exact HD.out.1) (by rw [List.length_append]; exact hnlt) (by rw [List.length_set]; exact HD.out.2.2.2.1) ?_ (by omega) (by rw [List.length_append]; simp only [List.length_cons, List.length_nil]; omega) H7.out.1 (H7.out.2.1.base hz3) ?_ ?_).mono ?_
              · intro x hx
                rcases List.mem_or_eq_of_mem_set hx with h | h
                · exact HD.out.2.1 x h
                · omega
              · intro g' e
                simp only [Value.ownBlock, Option.some.injEq] at e
                subst e
                omega
              · intro g' e1 e2
                simp only [Value.ownBlock, Option.some.injEq] at e1 e2
                have := (World.ownsRow.lt HS3.out.1.orv rg rfl).2
                omega
              rintro e w8 ⟨rfl, ⟨bv8, hS8⟩, hFR8⟩
              have H8 := Lib.hid (And.intro hS8 (HS3.out.2.2.trans ((FR.of_below H7.out.2.2).trans hFR8)))
              clear hS8 hFR8
              refine hK.out _ _ (fun _ _ => H8.out.1.kt.cell 0 _ rfl) ?_; clear hK K; try simp only [Act.put, List.setIfInBounds_toArray, List.set_cons_zero, List.set_cons_succ, List.getElem_toArray, List.getElem_cons_succ, List.getElem_cons_zero]
              refine WalkT.done (by kernel_rfl) ?_
              have e1 : w8.cell? ⟨pr, 0, none⟩ = some (.slice (some ⟨rg, 0, none⟩) room.length rcap) := H8.out.1.kr.cell 0 _ rfl
              have hor := H8.out.1.orv
              rw [show (Value.slice (some ⟨rg, 0, none⟩) room.length rcap) = .slice (some ⟨rg, 0, none⟩) (room.set k (q - 1)).length rcap by rw [List.length_set]] at hor
              have r0 := OwnI.cell hor rfl (k := k) (by rw [List.length_set]; exact hkr)
              rw [List.getElem_set_self] at r0
              have rf := World.ownsRow.frozenAt (w := w8) hor k
              have hfin := H8.out.1
              rw [show (Value.slice (some ⟨rg, 0, none⟩) room.length rcap) = .slice (some ⟨rg, 0, none⟩) (room.set k (q - 1)).length rcap by rw [List.length_set]] at hfin
              replace hfin := hfin.room k (q - 1 + 1)
              rw [List.length_set, List.set_set, show q - 1 + 1 = q by omega, ← HNQ.out.2, List.set_getElem_self, HNQ.out.2] at hfin
              have HX := Lib.hid hfin
              clear hor hfin
              go_wp2
              refine ⟨⟨k + 1, _, bv8, by omega, by go_num, HX.out.1, H8.out.2.trans HX.out.2, ?_⟩, by simp [intOf]; omega⟩
              rw [HS.out.2.2, HTK.out, if_pos (by rw [HNQ.out.2]; omega), HNQ.out.1, HNQ.out.2]
          · have hz' : decide (0 < q) = false := by simp; omega
            go_wp2
            go_roundw
            case rel =>
              refine ⟨k + 1, st', bv', by omega, by go_num, HS.out.1, HS.out.2.1, ?_⟩
              rw [HS.out.2.2, HTK.out, if_neg (by rw [HNQ.out.2]; omega)]
            case measure => simp [intOf]; omega
        · go_wp2
          ((try simp only [Exit.inBlock, Exit.then]); refine bodyPost_end (results_none rfl _ _ _) rfl ?_)
          refine ⟨rfl, ⟨bv', ?_⟩, HS.out.2.1⟩
          have h1 := HS.out.2.2
          rw [List.drop_of_length_le (by omega)] at h1
          rw [search_cons, if_neg (by rw [hf]; decide), h1]
          exact HS.out.1
    · go_wp2
      ((try simp only [Exit.inBlock, Exit.then]); refine bodyPost_ret (results_none rfl _ _ _) rfl ?_)
      exact ⟨rfl, ⟨bv, by rw [search_cons, if_pos hf]; exact HA.out.1⟩, FR.refl _ _ _ _⟩
end Go.Proofs.Ytagpcgnlbgndmaa
/- Walk: the reference's Assigned. -/
set_option linter.unusedVariables false
set_option linter.unusedSimpArgs false
namespace Go.Proofs.Ytagpcgnlbgndmaa
open Go Go.RowKit

def AsgdPost (rows : List (List Int)) (free : List Int) (w : World) (e : Ending) (w' : World) : Prop :=
  ∃ v, e = .returned (.tuple #[v, .int .i64 (bestS (assignedV rows free)), .bool (bestB (assignedV rows free))]) ∧ Arr intCells 1 w' (bestL (assignedV rows free)) v ∧ Below w.heap.size w w'

set_option maxHeartbeats 4000000 in
set_option maxRecDepth 100000 in
theorem assigned_any (v u : Value) (rows : List (List Int)) (free : List Int) (w : World) (h : Tab w rows v) (hf : Arr intCells 1 w free u) (h0 : tabF rows free = 0) : Calls Try.prog 46 #[v, u] w (AsgdPost rows free w) := by
  have HT := Lib.hid h
  have HF := Lib.hid hf
  obtain ⟨a, cap, rfl, hcap, hmax, hc⟩ := h
  obtain ⟨a2, cap2, rfl, hcap2, hmax2, hc2⟩ := hf
  unfold maxLen at hmax hmax2
  clear hc hc2
  obtain ⟨ok1, ok2, ok3, ok4⟩ := tab_ok h0
  have HK := Lib.hid (And.intro ok3 (And.intro ok4 h0))
  have hst : ∀ (w : World) (a : Addr) (f : Fn) (x : Array Value) (y : Array Value) (m : Mode), (store a (.func f x y) m).run Try.prog w = stored Try.prog w a (.func f x y) m := fun w a f x y m => run_store Try.prog w a _ m rfl
  have hF : ∀ (args : Array Value) (w : World), (callFunc 107 args).run Try.prog w = .ok (.enter 107 args) w := run_fn Try.func107 (by kernel_rfl) rfl
  clear ok3 ok4 h0
  go_enter Try.func46, Try.ntmps46
  go_wp2_with fail
  have hB4 : Below w.heap.size w ((((w.alloc (.cells #[.slice a rows.length cap] 67)).alloc (.cells #[.slice a2 free.length cap2] 22)).alloc (.cells #[.slice none 0 0] 22)).alloc (.cells #[.int .i64 (-1)] 3)) := by (repeat (first | exact Below.refl _ _ | assumption | refine below_draws ?_ _ | refine Below.drew ?_ | refine below_alloc ?_ _ (by first | omega | (simp; done) | (simp; omega)) | refine Below.setCell ?_ (by first | omega | (simp; done) | (simp; omega)) _ | refine below_at ?_ (by assumption) (by first | omega | (simp; done) | (simp; omega))))
  have k0 : Blk ((((w.alloc (.cells #[.slice a rows.length cap] 67)).alloc (.cells #[.slice a2 free.length cap2] 22)).alloc (.cells #[.slice none 0 0] 22)).alloc (.cells #[.int .i64 (-1)] 3)) w.heap.size #[.slice a rows.length cap] 67 := (((Blk.new w _ _).alloc _).alloc _).alloc _
  have k1 : Blk ((((w.alloc (.cells #[.slice a rows.length cap] 67)).alloc (.cells #[.slice a2 free.length cap2] 22)).alloc (.cells #[.slice none 0 0] 22)).alloc (.cells #[.int .i64 (-1)] 3)) (w.heap.size + 1) #[.slice a2 free.length cap2] 22 := ((Blk.newAt (by simp)).alloc _).alloc _
  have k2 : Blk ((((w.alloc (.cells #[.slice a rows.length cap] 67)).alloc (.cells #[.slice a2 free.length cap2] 22)).alloc (.cells #[.slice none 0 0] 22)).alloc (.cells #[.int .i64 (-1)] 3)) (w.heap.size + 1 + 1) #[.slice none 0 0] 22 := (Blk.newAt (by simp)).alloc _
  have k3 : Blk ((((w.alloc (.cells #[.slice a rows.length cap] 67)).alloc (.cells #[.slice a2 free.length cap2] 22)).alloc (.cells #[.slice none 0 0] 22)).alloc (.cells #[.int .i64 (-1)] 3)) (w.heap.size + 1 + 1 + 1) #[.int .i64 (-1)] 3 := Blk.newAt (by simp)
  refine (clone_int _ free _ (by exact HF.out.below hB4) (by omega)).mono ?_
  rintro e w2 ⟨rv, rfl, ⟨hown2, hform⟩, hb2⟩
  have hO2 : OwnI (w.heap.size + 4) w2 rv free := by
    have : OwnI ((((w.alloc (.cells #[.slice a rows.length cap] 67)).alloc (.cells #[.slice a2 free.length cap2] 22)).alloc (.cells #[.slice none 0 0] 22)).alloc (.cells #[.int .i64 (-1)] 3)).heap.size w2 rv free := by unfold OwnI; rw [← flat_one]; exact hown2
    exact this.base (by simp)
  obtain ⟨ra, rcap, rfl, -, -, -⟩ := hO2.form
  have hz2 := hb2.size
  simp only [World.size_alloc] at hz2
  replace k0 := k0.below hb2 (by simp; omega)
  replace k1 := k1.below hb2 (by simp)
  replace k2 := k2.below hb2 (by simp)
  replace k3 := k3.below hb2 (by simp)
  have c1 := k1.cell 0 _ rfl
  have f1 := k1.free 0
  have hB2 : Below w.heap.size w w2 := below_at hB4 hb2 (by simp; omega)
  have H2 := Lib.hid (And.intro k0 (And.intro k1 (And.intro k2 (And.intro k3 (And.intro hO2 hB2)))))
  clear k0 k1 k2 k3 hO2 hB2 hB4 hb2 hown2 hform
  have kn : Blk ((w2.setCell ⟨w.heap.size + 1, 0, none⟩ (.slice ra free.length rcap)).alloc (.cells #[.nilFunc] 141)) w2.heap.size #[.nilFunc] 141 := Blk.newAt (by simp [World.setCell])
  have n0 := kn.cell 0 _ rfl
  have n1 := kn.free 0
  have HN := Lib.hid kn
  clear kn
  go_wp2_with fail
  have hR : RSt w w.heap.size (w.heap.size + 1) (w.heap.size + 1 + 1) (w.heap.size + 1 + 1 + 1) w2.heap.size (.slice a rows.length cap) (.slice ra free.length rcap) (.slice none 0 0) free none
      ((w2.setCell ⟨w.heap.size + 1, 0, none⟩ (.slice ra free.length rcap)).alloc (.cells #[.func (.func 107) #[] (tryCp w.heap.size (w.heap.size + 1) (w.heap.size + 1 + 1) (w.heap.size + 1 + 1 + 1) w2.heap.size)] 141)) := by
    obtain ⟨k0, k1, k2, k3, hO2, hB2⟩ := H2.out
    have hlt := World.ownsRow.lt hO2
    refine ⟨below_alloc (below_setB hB2 (by omega)) _ (by simp [World.setCell]; omega), ⟨by omega, by omega, by omega, by omega, by omega, by simp [World.setCell]⟩, (k0.setOther (by omega) _ _).alloc _, (k1.set 0 _).alloc _, (k2.setOther (by omega) _ _).alloc _, (k3.setOther (by omega) _ _).alloc _, Blk.newAt (by simp [World.setCell]), World.ownsRow.alloc ((hO2.base (by omega)).kept (grown_setB _ _ _ _) (fun g hg e => by have := (hlt g hg).1; simp at e; omega)) _, World.ownsRow_nil _ _ _ _, ?_, ?_, ?_, ?_⟩
    · intro g hg; have := hlt g hg; omega
    · intro g hg; cases hg
    · intro g _ e; cases e
    · intro l s e; cases e
  refine (try_any w _ _ _ _ _ free.length _ _ rows HT.out HK.out.1 ok2 ok1 rows free [] 0 none (.slice none 0 0) _ _ rfl (by simp) rfl HK.out.2.1 (by omega) (by simp) hR (World.ownsRow_nil _ _ _ _) (fun g e => by cases e) (fun g _ e => by cases e)).mono ?_
  rintro e w3 ⟨rfl, ⟨bv, hS⟩, -⟩
  clear hR
  have HV : Hid (assignedV rows free = search rows free [] 0 none) := Lib.hid rfl
  generalize search rows free [] 0 none = st at *
  obtain ⟨ba, bcap, rfl, -, -, -⟩ := hS.obv.form
  have HS := Lib.hid hS
  have e4 : w3.cell? ⟨w.heap.size + 1 + 1, 0, none⟩ = some (.slice ba (bestL st).length bcap) := hS.kb.cell 0 _ rfl
  have e5 : w3.cell? ⟨w.heap.size + 1 + 1 + 1, 0, none⟩ = some (.int .i64 (leastV st)) := hS.kl.cell 0 _ rfl
  have hmx : (if leastV st < 0 then 0 else leastV st) = bestS st := by
    rcases st with _ | ⟨l, s⟩
    · rfl
    · have := hS.ok l s rfl
      show (if s < 0 then 0 else s) = s
      rw [if_neg (by omega)]
  have hdb : decide (0 ≤ leastV st) = bestB st := by
    rcases st with _ | ⟨l, s⟩
    · rfl
    · have := hS.ok l s rfl
      show decide (0 ≤ s) = true
      simp [this]
  clear hS
  generalize leastV st = lv at *
  go_wp2_with fail
  go_region
  go_wp2
  go_ret3
  exact ⟨.slice ba (bestL st).length bcap, by rw [HV.out]; exact rfl, by rw [HV.out]; exact Arr.of_ints (w := w3) HS.out.obv, below_draws HS.out.bel 1⟩
end Go.Proofs.Ytagpcgnlbgndmaa
