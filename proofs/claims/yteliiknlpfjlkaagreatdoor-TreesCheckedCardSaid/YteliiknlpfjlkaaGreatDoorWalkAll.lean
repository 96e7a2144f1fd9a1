/- Texts of one subject in one: WalkB1, WalkB2, WalkB3, WalkB4; what each shows stands at its head. No condition. -/
import Derived.Test.YteliiknlpfjlkaaGreatDoorPlainB
import Derived.Test.YteliiknlpfjlkaaGreatDoorProg
/- Walks of the small functions of packages base and budget: each returns what the plain law says. Conditions: none but that slices read as data. -/
set_option linter.unusedVariables false
set_option linter.unusedSimpArgs false
namespace Go.Proofs.YteliiknlpfjlkaaGreatDoor
open Go Go.RowKit

theorem out_any (n lo hi : Int) (w : World) : Calls Tryz.prog 50 #[.int .i64 n, .int .i64 lo, .int .i64 hi] w
    fun e w' => e = .returned (.bool (outB n lo hi)) ∧ w = w' := by
  by_cases h1 : n < lo
  · go_enter Tryz.func50, Tryz.ntmps50
    go_wp2
    go_ret
    exact ⟨ret_bool (by simp [outB]; omega), rfl⟩
  · go_enter Tryz.func50, Tryz.ntmps50
    go_wp2
    go_ret
    exact ⟨ret_bool (by simp [outB]; omega), rfl⟩

theorem and_ways : ∀ k : Nat, k < 129 → 2 ≤ k → (bits BinOp.and IntKind.i64 (k : Int) ((k : Int) - 1) == 0) = waysB k := by decide +kernel

set_option maxHeartbeats 1000000 in
theorem ways_any (n : Int) (w : World) : Calls Tryz.prog 80 #[.int .i64 n] w
    fun e w' => e = .returned (.bool (waysB n)) ∧ w = w' := by
  by_cases h1 : 2 ≤ n
  · by_cases h2 : n ≤ 128
    · obtain ⟨k, rfl⟩ := Int.eq_ofNat_of_zero_le (show 0 ≤ n by omega)
      have h3 := and_ways k (by omega) (by omega)
      go_enter Tryz.func80, Tryz.ntmps80
      go_wp2
      go_ret
      exact ⟨ret_bool (by simp), rfl⟩
    · have h3 : waysB n = false := by
        unfold waysB
        simp
        have := dbl_cases n
        omega
      go_enter Tryz.func80, Tryz.ntmps80
      go_wp2
      go_ret
      exact ⟨ret_bool (by simp [h3]), rfl⟩
  · have h3 : waysB n = false := by
      unfold waysB
      simp
      have := dbl_cases n
      omega
    go_enter Tryz.func80, Tryz.ntmps80
    go_wp2
    go_ret
    exact ⟨ret_bool (by simp [h3]), rfl⟩

set_option maxHeartbeats 1000000 in
theorem first_any (v : Value) (l : List Int) (w : World) (h : Arr intCells 1 w l v) : Calls Tryz.prog 52 #[v] w
    fun e w' => e = .returned (.int .i64 (firstF l)) ∧ w = w' := by
  obtain ⟨a, cap, rfl, hcap, hmax, hc⟩ := h
  have hlen : l.length ≤ maxLen := by omega
  unfold maxLen at hlen hmax
  go_enter Tryz.func52, Tryz.ntmps52
  go_wp2
  go_loop [7] (fun i => ∃ k : Nat, k ≤ l.length ∧ i = .int .i64 k ∧ firstF (l.take k) = 0) (fun i => l.length - (intOf i).toNat)
  case atStart => exact ⟨0, by omega, rfl, rfl⟩
  case round =>
    obtain ⟨k, hk, rfl, hz⟩ := hrel
    have HZ := Lib.hid hz
    clear hz
    by_cases hlt : k < l.length
    · obtain ⟨b, off, rfl, hb, hcc⟩ := hc k hlt
      have h0 := hcc 0 _ rfl
      simp only [Nat.mul_one, Nat.add_zero] at h0
      clear hc hcc
      by_cases hx : l[k] = 0
      · have hx' : (l[k] != 0) = false := by simp [hx]
        have HX := Lib.hid hx
        clear hx
        go_wp2
        go_round
        case rel => exact ⟨k + 1, by omega, by go_num, by rw [firstF_take_succ l k hlt HZ.out]; exact HX.out⟩
        case measure => simp [intOf]; omega
      · have hx' : (l[k] != 0) = true := by simp [hx]
        have HX := Lib.hid hx
        clear hx
        go_wp2
        go_ret
        exact ⟨ret_int (by rw [firstF_hit l k hlt HZ.out HX.out]), rfl⟩
    · go_wp2
      go_ret
      exact ⟨ret_int (by have := HZ.out; rw [List.take_of_length_le (by omega)] at this; rw [this]), rfl⟩

set_option maxHeartbeats 1000000 in
theorem partFault_any (p : Part) (w : World) : Calls Tryz.prog 49 #[.agg #[.int .i64 p.kind, .int .i64 p.amt]] w
    fun e w' => e = .returned (.int .i64 (partFault p)) ∧ Below w.heap.size w w' := by
  obtain ⟨k, a⟩ := p
  by_cases h1 : k = 1
  · subst h1
    cases ho : outB a 1 200000
    all_goals
      go_enter Tryz.func49, Tryz.ntmps49
      go_wp2_with (first | (go_at_call 50; refine (out_any _ _ _ _).mono ?_; rintro e w' ⟨rfl, rfl⟩) | (go_at_call 80; refine (ways_any _ _).mono ?_; rintro e w' ⟨rfl, rfl⟩))
      go_ret
      exact ⟨ret_int (by simp [partFault, ho]), by (repeat (first | exact Below.refl _ _ | assumption | refine below_draws ?_ _ | refine Below.drew ?_ | refine below_alloc ?_ _ (by first | omega | (simp; done) | (simp; omega)) | refine Below.setCell ?_ (by first | omega | (simp; done) | (simp; omega)) _ | refine below_at ?_ (by assumption) (by first | omega | (simp; done) | (simp; omega))))⟩
  by_cases h2 : k = 2
  · subst h2
    cases ho : outB a 0 10000
    all_goals
      go_enter Tryz.func49, Tryz.ntmps49
      go_wp2_with (first | (go_at_call 50; refine (out_any _ _ _ _).mono ?_; rintro e w' ⟨rfl, rfl⟩) | (go_at_call 80; refine (ways_any _ _).mono ?_; rintro e w' ⟨rfl, rfl⟩))
      go_ret
      exact ⟨ret_int (by simp [partFault, ho]), by (repeat (first | exact Below.refl _ _ | assumption | refine below_draws ?_ _ | refine Below.drew ?_ | refine below_alloc ?_ _ (by first | omega | (simp; done) | (simp; omega)) | refine Below.setCell ?_ (by first | omega | (simp; done) | (simp; omega)) _ | refine below_at ?_ (by assumption) (by first | omega | (simp; done) | (simp; omega))))⟩
  by_cases h3 : k = 3
  · subst h3
    cases ho : outB a 1 100
    all_goals
      go_enter Tryz.func49, Tryz.ntmps49
      go_wp2_with (first | (go_at_call 50; refine (out_any _ _ _ _).mono ?_; rintro e w' ⟨rfl, rfl⟩) | (go_at_call 80; refine (ways_any _ _).mono ?_; rintro e w' ⟨rfl, rfl⟩))
      go_ret
      exact ⟨ret_int (by simp [partFault, ho]), by (repeat (first | exact Below.refl _ _ | assumption | refine below_draws ?_ _ | refine Below.drew ?_ | refine below_alloc ?_ _ (by first | omega | (simp; done) | (simp; omega)) | refine Below.setCell ?_ (by first | omega | (simp; done) | (simp; omega)) _ | refine below_at ?_ (by assumption) (by first | omega | (simp; done) | (simp; omega))))⟩
  by_cases h4 : k = 4
  · subst h4
    cases ho : waysB a
    all_goals
      go_enter Tryz.func49, Tryz.ntmps49
      go_wp2_with (first | (go_at_call 50; refine (out_any _ _ _ _).mono ?_; rintro e w' ⟨rfl, rfl⟩) | (go_at_call 80; refine (ways_any _ _).mono ?_; rintro e w' ⟨rfl, rfl⟩))
      go_ret
      exact ⟨ret_int (by simp [partFault, ho]), by (repeat (first | exact Below.refl _ _ | assumption | refine below_draws ?_ _ | refine Below.drew ?_ | refine below_alloc ?_ _ (by first | omega | (simp; done) | (simp; omega)) | refine Below.setCell ?_ (by first | omega | (simp; done) | (simp; omega)) _ | refine below_at ?_ (by assumption) (by first | omega | (simp; done) | (simp; omega))))⟩
  have e1 : (k == 1) = false := by simp [h1]
  have e2 : (k == 2) = false := by simp [h2]
  have e3 : (k == 3) = false := by simp [h3]
  have e4 : (k == 4) = false := by simp [h4]
  have H := Lib.hid (And.intro h1 (And.intro h2 (And.intro h3 h4)))
  clear h1 h2 h3 h4
  go_enter Tryz.func49, Tryz.ntmps49
  go_wp2
  go_ret
  obtain ⟨h1, h2, h3, h4⟩ := H.out
  exact ⟨ret_int (by simp [partFault, h1, h2, h3, h4]), by (repeat (first | exact Below.refl _ _ | assumption | refine below_draws ?_ _ | refine Below.drew ?_ | refine below_alloc ?_ _ (by first | omega | (simp; done) | (simp; omega)) | refine Below.setCell ?_ (by first | omega | (simp; done) | (simp; omega)) _ | refine below_at ?_ (by assumption) (by first | omega | (simp; done) | (simp; omega))))⟩

/-- a slice of parts, opened at one element -/
theorem part_at {w : World} {b off k : Nat} {p : Part} (h : ∀ j u, p.cells[j]? = some u → w.cell? ⟨b, off + k * 2 + j, none⟩ = some u) :
    w.cell? ⟨b, off + k * 2, none⟩ = some (.int .i64 p.kind) ∧ w.cell? ⟨b, off + k * 2 + 1, none⟩ = some (.int .i64 p.amt) :=
  ⟨h 0 _ rfl, h 1 _ rfl⟩

set_option maxHeartbeats 1000000 in
theorem checkParts_any (v : Value) (l : List Part) (w : World) (h : Arr Part.cells 2 w l v) : Calls Tryz.prog 12 #[v] w
    fun e w' => e = .returned (.int .i64 (partsFault l)) ∧ Below w.heap.size w w' := by
  obtain ⟨a, cap, rfl, hcap, hmax, hc⟩ := h
  have hlen : l.length ≤ maxLen := by omega
  unfold maxLen at hlen hmax
  by_cases hbig : 1000 < l.length
  · go_enter Tryz.func12, Tryz.ntmps12
    go_wp2
    go_ret
    exact ⟨ret_int (by simp [partsFault, hbig]), by (repeat (first | exact Below.refl _ _ | assumption | refine below_draws ?_ _ | refine Below.drew ?_ | refine below_alloc ?_ _ (by first | omega | (simp; done) | (simp; omega)) | refine Below.setCell ?_ (by first | omega | (simp; done) | (simp; omega)) _ | refine below_at ?_ (by assumption) (by first | omega | (simp; done) | (simp; omega))))⟩
  go_enter Tryz.func12, Tryz.ntmps12
  go_wp2
  go_loopw [11] (fun i wr => ∃ k : Nat, k ≤ l.length ∧ i = .int .i64 k ∧ firstF ((l.map partFault).take k) = 0 ∧ Below w.heap.size w wr) (fun i _ => l.length - (intOf i).toNat)
  case atStart => exact ⟨0, by omega, rfl, rfl, Below.refl _ _⟩
  case round =>
    obtain ⟨k, hk, rfl, hz, hB⟩ := hrel
    have HZ := Lib.hid hz
    clear hz
    have hsz := hB.size
    by_cases hlt : k < l.length
    · obtain ⟨b, off, rfl, hb, hcc⟩ := hc k hlt
      obtain ⟨c0, c1⟩ := part_at hcc
      replace c0 := (hB.cell (p := ⟨b, _, none⟩) hb).trans c0
      replace c1 := (hB.cell (p := ⟨b, _, none⟩) hb).trans c1
      clear hc hcc
      have hlt' : k < (l.map partFault).length := by simpa using hlt
      by_cases hx : partFault l[k] = 0
      · have hx' : (partFault l[k] != 0) = false := by simp [hx]
        have HX := Lib.hid hx
        clear hx
        go_wp2_with (go_at_call 49; refine (partFault_any _ _).mono ?_; rintro e w1 ⟨rfl, hb1⟩)
        go_roundw
        case rel => exact ⟨k + 1, by omega, by go_num, by rw [firstF_take_succ _ k hlt' HZ.out]; simpa using HX.out, by (repeat (first | exact Below.refl _ _ | assumption | refine below_draws ?_ _ | refine Below.drew ?_ | refine below_alloc ?_ _ (by first | omega | (simp; done) | (simp; omega)) | refine Below.setCell ?_ (by first | omega | (simp; done) | (simp; omega)) _ | refine below_at ?_ (by assumption) (by first | omega | (simp; done) | (simp; omega))))⟩
        case measure => simp [intOf]; omega
      · have hx' : (partFault l[k] != 0) = true := by simp [hx]
        have HX := Lib.hid hx
        clear hx
        go_wp2_with (go_at_call 49; refine (partFault_any _ _).mono ?_; rintro e w1 ⟨rfl, hb1⟩)
        go_ret
        exact ⟨ret_int (by unfold partsFault; rw [if_neg hbig, firstF_hit _ k hlt' HZ.out (by simpa using HX.out)]; simp), by (repeat (first | exact Below.refl _ _ | assumption | refine below_draws ?_ _ | refine Below.drew ?_ | refine below_alloc ?_ _ (by first | omega | (simp; done) | (simp; omega)) | refine Below.setCell ?_ (by first | omega | (simp; done) | (simp; omega)) _ | refine below_at ?_ (by assumption) (by first | omega | (simp; done) | (simp; omega))))⟩
    · go_wp2
      go_ret
      exact ⟨ret_int (by have := HZ.out; rw [List.take_of_length_le (by simp; omega)] at this; unfold partsFault; rw [if_neg hbig, this]), by (repeat (first | exact Below.refl _ _ | assumption | refine below_draws ?_ _ | refine Below.drew ?_ | refine below_alloc ?_ _ (by first | omega | (simp; done) | (simp; omega)) | refine Below.setCell ?_ (by first | omega | (simp; done) | (simp; omega)) _ | refine below_at ?_ (by assumption) (by first | omega | (simp; done) | (simp; omega))))⟩
end Go.Proofs.YteliiknlpfjlkaaGreatDoor
/- Walks of the checks of losses and optics, of sums of losses, and of the functions of package budget that start from them. -/
set_option linter.unusedVariables false
set_option linter.unusedSimpArgs false
namespace Go.Proofs.YteliiknlpfjlkaaGreatDoor
open Go Go.RowKit

theorem lossesFault_eq (x : Losses) : lossesFault x = firstF ([x.perKm, x.conn, x.dblg, x.exc].map fun n => if outB n 0 1000 then 1 else 0) := by
  unfold lossesFault
  simp only [List.map_cons, List.map_nil, firstF]
  generalize outB x.perKm 0 1000 = a
  generalize outB x.conn 0 1000 = b
  generalize outB x.dblg 0 1000 = c
  generalize outB x.exc 0 1000 = d
  revert a b c d
  decide

set_option maxHeartbeats 1000000 in
theorem checkLosses_any (x : Losses) (w : World) : Calls Tryz.prog 13 #[.agg #[.int .i64 x.perKm, .int .i64 x.conn, .int .i64 x.dblg, .int .i64 x.exc]] w
    fun e w' => e = .returned (.int .i64 (lossesFault x)) ∧ Below w.heap.size w w' := by
  have hA := Arr.lit (cells := intCells) (sz := 1) (fun _ => rfl) (w.alloc (.cells #[.int .i64 x.perKm, .int .i64 x.conn, .int .i64 x.dblg, .int .i64 x.exc] 29)) [x.perKm, x.conn, x.dblg, x.exc] #[.int .i64 x.perKm, .int .i64 x.conn, .int .i64 x.dblg, .int .i64 x.exc] 3 4 rfl rfl (by simp [maxLen])
  generalize hl : [x.perKm, x.conn, x.dblg, x.exc] = l at hA
  have hl4 : l.length = 4 := by rw [← hl]; rfl
  have HL := Lib.hid hl
  clear hl
  obtain ⟨a, cap, he, hcap, hmax, hc⟩ := hA
  simp only [World.size_alloc, Value.slice.injEq] at he
  obtain ⟨he1, he2, he3⟩ := he
  have HE := Lib.hid he1
  clear he1 he2 he3
  have H4 := Lib.hid hl4
  have hl5 : l.length ≤ 4 := by omega
  have hl6 : 4 ≤ l.length := by omega
  clear hl4
  go_enter Tryz.func13, Tryz.ntmps13
  go_wp2
  go_loopw [15] (fun i wr => ∃ k : Nat, k ≤ 4 ∧ i = .int .i64 k ∧ firstF ((l.map fun n => if outB n 0 1000 then 1 else 0).take k) = 0 ∧
    Below (w.heap.size + 2) ((w.alloc (.cells #[.int .i64 x.perKm, .int .i64 x.conn, .int .i64 x.dblg, .int .i64 x.exc] 29)).alloc (.cells #[.int .i64 x.perKm, .int .i64 x.conn, .int .i64 x.dblg, .int .i64 x.exc] 3)) wr) (fun i _ => 4 - (intOf i).toNat)
  case atStart => exact ⟨0, by omega, rfl, rfl, Below.refl _ _⟩
  case round =>
    obtain ⟨k, hk, rfl, hz, hB⟩ := hrel
    have HZ := Lib.hid hz
    clear hz
    have hB0 : Below w.heap.size w wr := by (repeat (first | exact Below.refl _ _ | assumption | refine below_draws ?_ _ | refine Below.drew ?_ | refine below_alloc ?_ _ (by first | omega | (simp; done) | (simp; omega)) | refine Below.setCell ?_ (by first | omega | (simp; done) | (simp; omega)) _ | refine below_at ?_ (by assumption) (by first | omega | (simp; done) | (simp; omega))))
    by_cases hlt : k < l.length
    · obtain ⟨b, off, ha, hb, hcc⟩ := hc k hlt
      have h1 := HE.out
      rw [ha] at h1
      simp only [Option.some.injEq, Addr.mk.injEq, and_true] at h1
      obtain ⟨rfl, rfl⟩ := h1
      have c0 := hcc 0 _ rfl
      simp only [Nat.mul_one, Nat.add_zero, Nat.zero_add] at c0
      replace c0 := (hB.cell (p := ⟨w.heap.size + 1, _, none⟩) (by simp)).trans c0
      clear hc hcc ha
      have hlt' : k < (l.map fun n => if outB n 0 1000 then (1 : Int) else 0).length := by simpa using hlt
      cases hx : outB l[k] 0 1000
      · go_wp2_with (go_at_call 50; refine (out_any _ _ _ _).mono ?_; rintro e w' ⟨rfl, rfl⟩)
        go_roundw
        case rel => exact ⟨k + 1, by omega, by go_num, by rw [firstF_take_succ _ k hlt' HZ.out]; simp [hx], by (repeat (first | exact Below.refl _ _ | assumption | refine below_draws ?_ _ | refine Below.drew ?_ | refine below_alloc ?_ _ (by first | omega | (simp; done) | (simp; omega)) | refine Below.setCell ?_ (by first | omega | (simp; done) | (simp; omega)) _ | refine below_at ?_ (by assumption) (by first | omega | (simp; done) | (simp; omega))))⟩
        case measure => simp [intOf]; omega
      · go_wp2_with (go_at_call 50; refine (out_any _ _ _ _).mono ?_; rintro e w' ⟨rfl, rfl⟩)
        go_ret
        exact ⟨ret_int (by rw [lossesFault_eq, HL.out, firstF_hit _ k hlt' HZ.out (by simp [hx])]; simp [hx]), by (repeat (first | exact Below.refl _ _ | assumption | refine below_draws ?_ _ | refine Below.drew ?_ | refine below_alloc ?_ _ (by first | omega | (simp; done) | (simp; omega)) | refine Below.setCell ?_ (by first | omega | (simp; done) | (simp; omega)) _ | refine below_at ?_ (by assumption) (by first | omega | (simp; done) | (simp; omega))))⟩
    · go_wp2
      go_ret
      exact ⟨ret_int (by have := HZ.out; rw [List.take_of_length_le (by simp; omega)] at this; rw [lossesFault_eq, HL.out, this]), by (repeat (first | exact Below.refl _ _ | assumption | refine below_draws ?_ _ | refine Below.drew ?_ | refine below_alloc ?_ _ (by first | omega | (simp; done) | (simp; omega)) | refine Below.setCell ?_ (by first | omega | (simp; done) | (simp; omega)) _ | refine below_at ?_ (by assumption) (by first | omega | (simp; done) | (simp; omega))))⟩
theorem opticsOut (o : Optics) : (if (outB o.launch (-10000) 10000 || outB o.least (-10000) 10000 || outB o.most (-10000) 10000) then 1 else 0) = firstF ([o.launch, o.least, o.most].map fun n => if outB n (-10000) 10000 then 1 else 0) := by
  simp only [List.map_cons, List.map_nil, firstF]
  generalize outB o.launch (-10000) 10000 = a
  generalize outB o.least (-10000) 10000 = b
  generalize outB o.most (-10000) 10000 = c
  revert a b c
  decide

set_option maxHeartbeats 1000000 in
theorem checkOptics_any (o : Optics) (w : World) : Calls Tryz.prog 14 #[.agg #[.int .i64 o.launch, .int .i64 o.least, .int .i64 o.most]] w
    fun e w' => e = .returned (.int .i64 (opticsFault o)) ∧ Below w.heap.size w w' := by
  have hA := Arr.lit (cells := intCells) (sz := 1) (fun _ => rfl) (w.alloc (.cells #[.int .i64 o.launch, .int .i64 o.least, .int .i64 o.most] 32)) [o.launch, o.least, o.most] #[.int .i64 o.launch, .int .i64 o.least, .int .i64 o.most] 3 3 rfl rfl (by simp [maxLen])
  generalize hl : [o.launch, o.least, o.most] = l at hA
  have hl4 : l.length = 3 := by rw [← hl]; rfl
  have HL := Lib.hid hl
  clear hl
  obtain ⟨a, cap, he, hcap, hmax, hc⟩ := hA
  simp only [World.size_alloc, Value.slice.injEq] at he
  obtain ⟨he1, he2, he3⟩ := he
  have HE := Lib.hid he1
  clear he1 he2 he3
  have H4 := Lib.hid hl4
  have hl5 : l.length ≤ 3 := by omega
  have hl6 : 3 ≤ l.length := by omega
  clear hl4
  go_enter Tryz.func14, Tryz.ntmps14
  go_wp2
  go_loopw [13] (fun i wr => ∃ k : Nat, k ≤ 3 ∧ i = .int .i64 k ∧ firstF ((l.map fun n => if outB n (-10000) 10000 then 1 else 0).take k) = 0 ∧
    Below (w.heap.size + 2) ((w.alloc (.cells #[.int .i64 o.launch, .int .i64 o.least, .int .i64 o.most] 32)).alloc (.cells #[.int .i64 o.launch, .int .i64 o.least, .int .i64 o.most] 3)) wr) (fun i _ => 3 - (intOf i).toNat)
  case atStart => exact ⟨0, by omega, rfl, rfl, Below.refl _ _⟩
  case round =>
    obtain ⟨k, hk, rfl, hz, hB⟩ := hrel
    have HZ := Lib.hid hz
    clear hz
    have hB0 : Below w.heap.size w wr := by (repeat (first | exact Below.refl _ _ | assumption | refine below_draws ?_ _ | refine Below.drew ?_ | refine below_alloc ?_ _ (by first | omega | (simp; done) | (simp; omega)) | refine Below.setCell ?_ (by first | omega | (simp; done) | (simp; omega)) _ | refine below_at ?_ (by assumption) (by first | omega | (simp; done) | (simp; omega))))
    by_cases hlt : k < l.length
    · obtain ⟨b, off, ha, hb, hcc⟩ := hc k hlt
      have h1 := HE.out
      rw [ha] at h1
      simp only [Option.some.injEq, Addr.mk.injEq, and_true] at h1
      obtain ⟨rfl, rfl⟩ := h1
      have c0 := hcc 0 _ rfl
      simp only [Nat.mul_one, Nat.add_zero, Nat.zero_add] at c0
      replace c0 := (hB.cell (p := ⟨w.heap.size + 1, _, none⟩) (by simp)).trans c0
      clear hc hcc ha
      have hlt' : k < (l.map fun n => if outB n (-10000) 10000 then (1 : Int) else 0).length := by simpa using hlt
      cases hx : outB l[k] (-10000) 10000
      · go_wp2_with (go_at_call 50; refine (out_any _ _ _ _).mono ?_; rintro e w' ⟨rfl, rfl⟩)
        go_roundw
        case rel => exact ⟨k + 1, by omega, by go_num, by rw [firstF_take_succ _ k hlt' HZ.out]; simp [hx], by (repeat (first | exact Below.refl _ _ | assumption | refine below_draws ?_ _ | refine Below.drew ?_ | refine below_alloc ?_ _ (by first | omega | (simp; done) | (simp; omega)) | refine Below.setCell ?_ (by first | omega | (simp; done) | (simp; omega)) _ | refine below_at ?_ (by assumption) (by first | omega | (simp; done) | (simp; omega))))⟩
        case measure => simp [intOf]; omega
      · go_wp2_with (go_at_call 50; refine (out_any _ _ _ _).mono ?_; rintro e w' ⟨rfl, rfl⟩)
        go_ret
        have hf : (outB o.launch (-10000) 10000 || outB o.least (-10000) 10000 || outB o.most (-10000) 10000) = true := by
          have := opticsOut o
          rw [HL.out, firstF_hit _ k hlt' HZ.out (by simp [hx])] at this
          revert this
          cases (outB o.launch (-10000) 10000 || outB o.least (-10000) 10000 || outB o.most (-10000) 10000) <;> simp [hx]
        exact ⟨ret_int (by unfold opticsFault; rw [hf]; simp), by (repeat (first | exact Below.refl _ _ | assumption | refine below_draws ?_ _ | refine Below.drew ?_ | refine below_alloc ?_ _ (by first | omega | (simp; done) | (simp; omega)) | refine Below.setCell ?_ (by first | omega | (simp; done) | (simp; omega)) _ | refine below_at ?_ (by assumption) (by first | omega | (simp; done) | (simp; omega))))⟩
    · have hk3 : k = l.length := by omega
      have HK := Lib.hid hk3
      clear hk3
      have hf : (outB o.launch (-10000) 10000 || outB o.least (-10000) 10000 || outB o.most (-10000) 10000) = false := by
        have e := HZ.out
        rw [List.take_of_length_le (by simp; omega)] at e
        have := opticsOut o
        rw [HL.out, e] at this
        revert this
        cases (outB o.launch (-10000) 10000 || outB o.least (-10000) 10000 || outB o.most (-10000) 10000) <;> simp
      have HF := Lib.hid hf
      clear hf
      have hb2 : Blk wr w.heap.size #[.int .i64 o.launch, .int .i64 o.least, .int .i64 o.most] 32 := ((Blk.new w _ _).alloc _).below hB (by omega)
      have d1 := hb2.cell 1 _ rfl
      have d2 := hb2.cell 2 _ rfl
      go_wp2
      all_goals go_ret
      · exact ⟨ret_int (by unfold opticsFault; rw [HF.out]; simp [*]), by (repeat (first | exact Below.refl _ _ | assumption | refine below_draws ?_ _ | refine Below.drew ?_ | refine below_alloc ?_ _ (by first | omega | (simp; done) | (simp; omega)) | refine Below.setCell ?_ (by first | omega | (simp; done) | (simp; omega)) _ | refine below_at ?_ (by assumption) (by first | omega | (simp; done) | (simp; omega))))⟩
      · exact ⟨ret_int (by unfold opticsFault; rw [HF.out]; simp [*]), by (repeat (first | exact Below.refl _ _ | assumption | refine below_draws ?_ _ | refine Below.drew ?_ | refine below_alloc ?_ _ (by first | omega | (simp; done) | (simp; omega)) | refine Below.setCell ?_ (by first | omega | (simp; done) | (simp; omega)) _ | refine below_at ?_ (by assumption) (by first | omega | (simp; done) | (simp; omega))))⟩

end Go.Proofs.YteliiknlpfjlkaaGreatDoor
/- Walks of package budget that add up losses and use powers. -/
set_option linter.unusedVariables false
set_option linter.unusedSimpArgs false
namespace Go.Proofs.YteliiknlpfjlkaaGreatDoor
open Go Go.RowKit

set_option maxHeartbeats 1000000 in
set_option maxRecDepth 100000 in
theorem len_ways (n : Int) (h : 1 ≤ dbl n) (w : World) : Calls Tryz.prog 95 #[.int .u64 n] w
    fun e w' => e = .returned (.int .i64 (dbl n + 1)) ∧ w = w' := by
  rcases dbl_cases n h with rfl | rfl | rfl | rfl | rfl | rfl | rfl
  all_goals
    clear h
    go_enter Tryz.func95, Tryz.ntmps95
    go_wp2
    go_ret
    exact ⟨ret_int (by decide +kernel), rfl⟩

theorem quo_pos (a : Int) (h : 0 ≤ a) : (a + 1000 - 1) / 1000 = (a + 999) / 1000 := by rw [show a + 1000 - 1 = a + 999 from by omega]

set_option maxHeartbeats 1000000 in
theorem lossOf_any (p : Part) (x : Losses) (w : World) (hp : p.Ok) (hx : x.Ok) : Calls Tryz.prog 54 #[.agg #[.int .i64 p.kind, .int .i64 p.amt], .agg #[.int .i64 x.perKm, .int .i64 x.conn, .int .i64 x.dblg, .int .i64 x.exc]] w
    fun e w' => e = .returned (.int .i64 (lossOf p x)) ∧ Below w.heap.size w w' := by
  obtain ⟨k, a⟩ := p
  obtain ⟨pk, cn, db, ex⟩ := x
  have hbd := lossOf_bound hp hx
  unfold Losses.Ok at hx
  obtain ⟨a1, a2, b1, b2, c1, c2, d1, d2⟩ := hx
  simp only at a1 a2 b1 b2 c1 c2 d1 d2
  rcases hp with ⟨hk, h1, h2⟩ | ⟨hk, h1, h2⟩ | ⟨hk, h1, h2⟩ | ⟨hk, h1⟩ <;> simp only at hk h1 <;> subst hk
  · simp only at h2
    have m1 : 0 ≤ pk * a := Int.mul_nonneg a1 (by omega)
    have m2 : pk * a ≤ 1000 * 200000 := Int.mul_le_mul a2 h2 (by omega) (by omega)
    clear hbd
    go_enter Tryz.func54, Tryz.ntmps54
    go_wp2
    go_ret
    exact ⟨ret_int (by simp [lossOf]; omega), by (repeat (first | exact Below.refl _ _ | assumption | refine below_draws ?_ _ | refine Below.drew ?_ | refine below_alloc ?_ _ (by first | omega | (simp; done) | (simp; omega)) | refine Below.setCell ?_ (by first | omega | (simp; done) | (simp; omega)) _ | refine below_at ?_ (by assumption) (by first | omega | (simp; done) | (simp; omega))))⟩
  · clear hbd
    go_enter Tryz.func54, Tryz.ntmps54
    go_wp2
    go_ret
    exact ⟨ret_int (by simp [lossOf]), by (repeat (first | exact Below.refl _ _ | assumption | refine below_draws ?_ _ | refine Below.drew ?_ | refine below_alloc ?_ _ (by first | omega | (simp; done) | (simp; omega)) | refine Below.setCell ?_ (by first | omega | (simp; done) | (simp; omega)) _ | refine below_at ?_ (by assumption) (by first | omega | (simp; done) | (simp; omega))))⟩
  · simp only at h2
    have m1 : 0 ≤ cn * a := Int.mul_nonneg b1 (by omega)
    have m2 : cn * a ≤ 1000 * 100 := Int.mul_le_mul b2 h2 (by omega) (by omega)
    clear hbd
    go_enter Tryz.func54, Tryz.ntmps54
    go_wp2
    go_ret
    exact ⟨ret_int (by simp [lossOf]), by (repeat (first | exact Below.refl _ _ | assumption | refine below_draws ?_ _ | refine Below.drew ?_ | refine below_alloc ?_ _ (by first | omega | (simp; done) | (simp; omega)) | refine Below.setCell ?_ (by first | omega | (simp; done) | (simp; omega)) _ | refine below_at ?_ (by assumption) (by first | omega | (simp; done) | (simp; omega))))⟩
  · have h3 := dbl_le a
    have h4 := dbl_cases a h1
    have h5 : 2 ≤ a ∧ a ≤ 128 := by omega
    obtain ⟨h5, h6⟩ := h5
    have m1 : 0 ≤ db * dbl a := Int.mul_nonneg c1 (by omega)
    have m2 : db * dbl a ≤ 1000 * 7 := Int.mul_le_mul c2 h3.2 (by omega) (by omega)
    clear h4 hbd
    have hl := fun w => len_ways a h1 w
    have HL := Lib.hid hl
    clear hl
    have h7 := h3.2
    clear h3
    generalize hd : dbl a = d at *
    have HD := Lib.hid hd
    clear hd
    go_enter Tryz.func54, Tryz.ntmps54
    go_wp2
    go_quiet ((go_at_call 95; exact Calls.quiet_of_same ((HL.out _).mono (by rintro e w' ⟨rfl, rfl⟩; exact ⟨rfl, rfl⟩))))
    go_wp2
    go_ret
    exact ⟨ret_int (by simp [lossOf, HD.out]), by (repeat (first | exact Below.refl _ _ | assumption | refine below_draws ?_ _ | refine Below.drew ?_ | refine below_alloc ?_ _ (by first | omega | (simp; done) | (simp; omega)) | refine Below.setCell ?_ (by first | omega | (simp; done) | (simp; omega)) _ | refine below_at ?_ (by assumption) (by first | omega | (simp; done) | (simp; omega))))⟩
end Go.Proofs.YteliiknlpfjlkaaGreatDoor
/- Walks of package budget: total, Loss, Received, Margin, Attenuator, Reach, Repairs. -/
set_option linter.unusedVariables false
set_option linter.unusedSimpArgs false
namespace Go.Proofs.YteliiknlpfjlkaaGreatDoor
open Go Go.RowKit

set_option maxHeartbeats 1000000 in
theorem total_any (v : Value) (l : List Part) (x : Losses) (w : World) (h : Arr Part.cells 2 w l v) (hp : ∀ p ∈ l, p.Ok) (hl : l.length ≤ 1000) (hx : x.Ok) : Calls Tryz.prog 53 #[v, .agg #[.int .i64 x.perKm, .int .i64 x.conn, .int .i64 x.dblg, .int .i64 x.exc]] w
    fun e w' => e = .returned (.int .i64 (total l x)) ∧ Below w.heap.size w w' := by
  obtain ⟨a, cap, rfl, hcap, hmax, hc⟩ := h
  clear hcap hmax
  have HX := Lib.hid hx
  have HP := Lib.hid hp
  clear hx hp
  go_enter Tryz.func53, Tryz.ntmps53
  go_wp2
  go_loopw [5, 10] (fun n i wr => ∃ k : Nat, k ≤ l.length ∧ i = .int .i64 k ∧ n = .int .i64 (total (l.take k) x) ∧ Below (w.heap.size + 1) (w.alloc (.cells #[.int .i64 x.perKm, .int .i64 x.conn, .int .i64 x.dblg, .int .i64 x.exc] 29)) wr) (fun _ i _ => l.length - (intOf i).toNat)
  case atStart => exact ⟨0, by omega, rfl, rfl, Below.refl _ _⟩
  case round =>
    obtain ⟨k, hk, rfl, rfl, hB⟩ := hrel
    have hsz : w.heap.size < wr.heap.size := by have := hB.size; simp at this; omega
    have hB0 : Below w.heap.size w wr := by (repeat (first | exact Below.refl _ _ | assumption | refine below_draws ?_ _ | refine Below.drew ?_ | refine below_alloc ?_ _ (by first | omega | (simp; done) | (simp; omega)) | refine Below.setCell ?_ (by first | omega | (simp; done) | (simp; omega)) _ | refine below_at ?_ (by assumption) (by first | omega | (simp; done) | (simp; omega))))
    by_cases hlt : k < l.length
    · obtain ⟨b, off, rfl, hb, hcc⟩ := hc k hlt
      obtain ⟨c0, c1⟩ := part_at hcc
      replace c0 := (hB0.cell (p := ⟨b, _, none⟩) hb).trans c0
      replace c1 := (hB0.cell (p := ⟨b, _, none⟩) hb).trans c1
      clear hc hcc
      have hbx : Blk wr w.heap.size #[.int .i64 x.perKm, .int .i64 x.conn, .int .i64 x.dblg, .int .i64 x.exc] 29 := (Blk.new w _ _).below hB (by omega)
      have d0 := hbx.cell 0 _ rfl
      have d1 := hbx.cell 1 _ rfl
      have d2 := hbx.cell 2 _ rfl
      have d3 := hbx.cell 3 _ rfl
      have hlb := lossOf_bound (HP.out l[k] (List.getElem_mem _)) HX.out
      have htb := total_bound HX.out (l := l.take k) (fun p hp => HP.out p (List.mem_of_mem_take hp))
      have hlk : (l.take k).length ≤ 1000 := by rw [List.length_take]; omega
      obtain ⟨lb1, lb2⟩ := hlb
      obtain ⟨tb1, tb2⟩ := htb
      have tb3 : total (l.take k) x ≤ 200000000 := by omega
      clear tb2 hlk
      have HT := Lib.hid (total_take_succ l x k hlt)
      go_wp2_with (go_at_call 54; refine (lossOf_any l[k] x _ (HP.out l[k] (List.getElem_mem _)) HX.out).mono ?_; rintro e w1 ⟨rfl, hb1⟩)
      go_roundw
      case rel => exact ⟨k + 1, by omega, by go_num, by rw [HT.out], by (repeat (first | exact Below.refl _ _ | assumption | refine below_draws ?_ _ | refine Below.drew ?_ | refine below_alloc ?_ _ (by first | omega | (simp; done) | (simp; omega)) | refine Below.setCell ?_ (by first | omega | (simp; done) | (simp; omega)) _ | refine below_at ?_ (by assumption) (by first | omega | (simp; done) | (simp; omega))))⟩
      case measure => simp [intOf]; omega
    · go_wp2
      go_ret
      exact ⟨ret_int (by rw [List.take_of_length_le (by omega)]), hB0⟩

end Go.Proofs.YteliiknlpfjlkaaGreatDoor
