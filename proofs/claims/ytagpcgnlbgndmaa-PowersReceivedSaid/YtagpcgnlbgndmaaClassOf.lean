/- Walk: the program's choice of a class. -/
import Derived.Test.YtagpcgnlbgndmaaClasses
import Derived.Test.YtagpcgnlbgndmaaWalkB4
set_option linter.unusedVariables false
set_option linter.unusedSimpArgs false
namespace Go.Proofs.Ytagpcgnlbgndmaa
open Go Go.RowKit

theorem ret_sbi {a a' : ByteArray} {b b' : Bool} {c c' : Int} (h1 : a = a') (h2 : b = b') (h3 : c = c') : Ending.returned (.tuple #[.string a, .bool b, .int .i64 c]) = .returned (.tuple #[.string a', .bool b', .int .i64 c']) := by rw [h1, h2, h3]

def classOfF (l : List Part) (x : Losses) (c : List Class) : Int := firstF [partsFault l, lossesFault x, classesF c]
def classOfV (l : List Part) (x : Losses) (c : List Class) : ByteArray × Bool := if classOfF l x c = 0 then classFor (total l x) c else (⟨#[]⟩, false)
theorem classOfF_zero {l : List Part} {x : Losses} {c : List Class} : classOfF l x c = 0 ↔ (l.length ≤ 1000 ∧ ∀ p ∈ l, p.Ok) ∧ x.Ok ∧ classesF c = 0 := by
  unfold classOfF
  rw [firstF_zero]
  simp [partsFault_zero, lossesFault_zero]

/-- where the search stands behind k classes -/
def Best (n : Int) (c : List Class) (k : Nat) (best : Int) : Prop :=
  ((c.take k).filter (inC n) = [] ∧ best = -1) ∨ ∃ b : Nat, ∃ hb : b < c.length, b < k ∧ best = b ∧ (c.take k).filter (inC n) ≠ [] ∧ c[b] = minC ((c.take k).filter (inC n))
theorem filter_take_succ (n : Int) (c : List Class) (k : Nat) (h : k < c.length) : (c.take (k + 1)).filter (inC n) = (c.take k).filter (inC n) ++ (if inC n c[k] then [c[k]] else []) := by
  rw [List.take_succ_eq_append_getElem h, List.filter_append]
  congr 1
  simp only [List.filter_cons, List.filter_nil]
theorem Best.out {n : Int} {c : List Class} {k : Nat} {best : Int} (h : Best n c k best) (hk : k < c.length) (hin : inC n c[k] = false) : Best n c (k + 1) best := by
  unfold Best
  rw [filter_take_succ n c k hk, hin]
  simp only [Bool.false_eq_true, if_false, List.append_nil]
  rcases h with h | ⟨b, hb, h1, h2⟩
  · exact .inl h
  · exact .inr ⟨b, hb, by omega, h2⟩
theorem Best.one {n : Int} {c : List Class} {k : Nat} (h : Best n c k (-1)) (hk : k < c.length) (hin : inC n c[k] = true) : Best n c (k + 1) k := by
  unfold Best
  rw [filter_take_succ n c k hk, hin]
  rcases h with ⟨h, _⟩ | ⟨b, hb, h1, h2, _⟩
  · refine .inr ⟨k, hk, by omega, rfl, by simp, ?_⟩
    rw [h]; rfl
  · omega
theorem Best.step {n : Int} {c : List Class} {k b : Nat} (h : Best n c k b) (hk : k < c.length) (hin : inC n c[k] = true) (hb : b < c.length) : Best n c (k + 1) (if c[k].max < c[b].max then (k : Int) else b) := by
  unfold Best
  rw [filter_take_succ n c k hk, hin]
  rcases h with ⟨_, h⟩ | ⟨b', hb', h1, h2, h3, h4⟩
  · omega
  · obtain rfl : b = b' := by omega
    simp only [if_true]
    right
    by_cases hlt : c[k].max < c[b].max
    · refine ⟨k, hk, by omega, by rw [if_pos hlt], by simp, ?_⟩
      rw [minC_snoc _ _ h3, ← h4]; unfold stepC; rw [if_pos hlt]
    · refine ⟨b, hb, by omega, by rw [if_neg hlt], by simp, ?_⟩
      rw [minC_snoc _ _ h3, ← h4]; unfold stepC; rw [if_neg hlt]

set_option maxHeartbeats 1000000 in
set_option maxRecDepth 100000 in
theorem classOf_any (v u : Value) (l : List Part) (x : Losses) (c : List Class) (w : World) (h : Arr Part.cells 2 w l v) (hu : Arr Class.cells 3 w c u) : Calls Try.prog 28 #[v, .agg #[.int .i64 x.perKm, .int .i64 x.conn, .int .i64 x.dblg, .int .i64 x.exc], u] w
    fun e w' => e = .returned (.tuple #[.string (classOfV l x c).1, .bool (classOfV l x c).2, .int .i64 (classOfF l x c)]) ∧ Below w.heap.size w w' := by
  have hu' := hu
  obtain ⟨a, cap, rfl, hcap, hmax, hc⟩ := hu
  have hlen : c.length ≤ maxLen := by omega
  unfold maxLen at hlen hmax
  by_cases hf : classOfF l x c = 0
  · have hf' : (classOfF l x c != 0) = false := by simp [hf]
    obtain ⟨⟨h1, h2⟩, h3, h4⟩ := classOfF_zero.1 hf
    have hV : classOfV l x c = classFor (total l x) c := by unfold classOfV; rw [if_pos hf]
    have HF := Lib.hid (And.intro hf (And.intro hV (And.intro h1 (And.intro h2 h3))))
    have hFe : firstF [partsFault l, lossesFault x, classesF c] = classOfF l x c := rfl
    have HFe := Lib.hid hFe
    clear hf h1 h2 h3 h4 hV hFe
    go_enter Try.func28, Try.ntmps28
    go_wp2
    go_region_held3 (fun w' => w'.cell? ⟨w.heap.size, 0, none⟩ = some (.int .i64 x.perKm) ∧ w'.cell? ⟨w.heap.size, 1, none⟩ = some (.int .i64 x.conn) ∧ w'.cell? ⟨w.heap.size, 2, none⟩ = some (.int .i64 x.dblg) ∧ w'.cell? ⟨w.heap.size, 3, none⟩ = some (.int .i64 x.exc)) (go_keep)
      (first
        | (go_at_call 85; refine (checkParts_any _ l _ ?_).mono ?_; (exact h.below (by (repeat (first | exact Below.refl _ _ | assumption | refine below_draws ?_ _ | refine Below.drew ?_ | refine below_alloc ?_ _ (by first | omega | (simp; done) | (simp; omega)) | refine Below.setCell ?_ (by first | omega | (simp; done) | (simp; omega)) _ | refine below_at ?_ (by assumption) (by first | omega | (simp; done) | (simp; omega)))))); rintro e w1 ⟨rfl, hb1⟩; have s1 : w.heap.size + 1 ≤ w1.heap.size := (by have := hb1.size; (try simp at this); omega); have hc1 := bcellAt hb1 w.heap.size (by first | omega | (simp; done) | (simp; omega)))
        | (go_at_call 86; refine (checkLosses_any x _).mono ?_; rintro e w2 ⟨rfl, hb2⟩; have s2 : w.heap.size + 1 ≤ w2.heap.size := (by have := hb2.size; (try simp at this); omega); have hc2 := bcellAt hb2 w.heap.size (by first | omega | (simp; done) | (simp; omega)))
        | (go_at_call 87; refine (classesFault_any _ c _ ?_).mono ?_; (exact hu'.below (by (repeat (first | exact Below.refl _ _ | assumption | refine below_draws ?_ _ | refine Below.drew ?_ | refine below_alloc ?_ _ (by first | omega | (simp; done) | (simp; omega)) | refine Below.setCell ?_ (by first | omega | (simp; done) | (simp; omega)) _ | refine below_at ?_ (by assumption) (by first | omega | (simp; done) | (simp; omega)))))); rintro e w3 ⟨rfl, hb3⟩; have s3 : w.heap.size + 1 ≤ w3.heap.size := (by have := hb3.size; (try simp at this); omega); have hc3 := bcellAt hb3 w.heap.size (by first | omega | (simp; done) | (simp; omega)))
        | (go_at_call 84; refine (first_any _ [partsFault l, lossesFault x, classesF c] _ (by (try refine Arr.drew ?_); exact Arr.litAt (cells := intCells) (sz := 1) (fun _ => rfl) (by first | rfl | simp) (by rfl) (by rfl) (by simp [maxLen]))).mono ?_; rw [HFe.out]; rintro e w4 ⟨rfl, rfl⟩))
    go_wp2_with (go_at_call 82; refine (total_any _ l x _ ?_ HF.out.2.2.2.1 HF.out.2.2.1 HF.out.2.2.2.2).mono ?_; (exact h.below (by (repeat (first | exact Below.refl _ _ | assumption | refine below_draws ?_ _ | refine Below.drew ?_ | refine below_alloc ?_ _ (by first | omega | (simp; done) | (simp; omega)) | refine Below.setCell ?_ (by first | omega | (simp; done) | (simp; omega)) _ | refine below_at ?_ (by assumption) (by first | omega | (simp; done) | (simp; omega)))))); rintro e w5 ⟨rfl, hb5⟩)
    have hb05 : Below w.heap.size w w5 := by (repeat (first | exact Below.refl _ _ | assumption | refine below_draws ?_ _ | refine Below.drew ?_ | refine below_alloc ?_ _ (by first | omega | (simp; done) | (simp; omega)) | refine Below.setCell ?_ (by first | omega | (simp; done) | (simp; omega)) _ | refine below_at ?_ (by assumption) (by first | omega | (simp; done) | (simp; omega))))
    generalize hT : total l x = n at *
    have HT := Lib.hid hT
    clear hT hb1 hb2 hb3 hb5 hc1 hc2 hc3
    go_loopw [11, 30] (fun bv i wr => ∃ k : Nat, ∃ best : Int, k ≤ c.length ∧ i = .int .i64 k ∧ bv = .int .i64 best ∧ Best n c k best ∧ Below w.heap.size w wr) (fun _ i _ => c.length - (intOf i).toNat)
    case atStart => exact ⟨0, -1, by omega, rfl, rfl, .inl ⟨by simp, rfl⟩, hb05⟩
    case round =>
      obtain ⟨k, best, hk, rfl, rfl, hbest, hB⟩ := hrel
      have HB := Lib.hid hbest
      have hsz := hB.size
      by_cases hlt : k < c.length
      · obtain ⟨b, off, rfl, hb, hcc⟩ := hc k hlt
        obtain ⟨d0, d1, d2⟩ := class_at hcc
        replace d0 := (hB.cell (p := ⟨b, _, none⟩) hb).trans d0
        replace d1 := (hB.cell (p := ⟨b, _, none⟩) hb).trans d1
        replace d2 := (hB.cell (p := ⟨b, _, none⟩) hb).trans d2
        cases hin : outB n c[k].min c[k].max
        · have hinC : inC n c[k] = true := by unfold inC; rw [hin]; rfl
          rcases hbest with ⟨-, rfl⟩ | ⟨j, hj, hjk, rfl, -, -⟩
          · have HN := Lib.hid (HB.out.one hlt hinC)
            clear hc hcc hinC
            generalize c[k] = y at *
            go_wp2_with fail
            go_quiet ((go_at_call 83; exact Calls.quiet_of_same ((out_any _ _ _ _).mono (by rintro e w' ⟨rfl, rfl⟩; exact ⟨rfl, rfl⟩))))
            go_wp2
            exact ⟨⟨k + 1, k, by omega, by go_num, rfl, HN.out, by (repeat (first | exact Below.refl _ _ | assumption | refine below_draws ?_ _ | refine Below.drew ?_ | refine below_alloc ?_ _ (by first | omega | (simp; done) | (simp; omega)) | refine Below.setCell ?_ (by first | omega | (simp; done) | (simp; omega)) _ | refine below_at ?_ (by assumption) (by first | omega | (simp; done) | (simp; omega))))⟩, by simp [intOf]; omega⟩
          · have HN := Lib.hid (HB.out.step hlt hinC hj)
            obtain ⟨b', off', he, hb', hcc'⟩ := hc j hj
            simp only [Option.some.injEq, Addr.mk.injEq, and_true] at he
            obtain ⟨rfl, rfl⟩ := he
            obtain ⟨_, _, e2⟩ := class_at hcc'
            replace e2 := (hB.cell (p := ⟨b, _, none⟩) hb).trans e2
            have hbw : b < wr.heap.size := by omega
            have hj0 : (0 : Int) ≤ (j : Int) := by omega
            have hj1 : (j : Int) < (c.length : Int) := by omega
            have hjn : decide ((j : Int) < 0) = false := by simp
            clear hc hcc hcc' hinC
            by_cases hm : c[k].max < c[j].max
            · have hq : (if c[k].max < c[j].max then (k : Int) else (j : Int)) = k := if_pos hm
              have HM := Lib.hid hq
              clear hq
              have hmB : decide (c[k].max < c[j].max) = true := by simp [hm]
              generalize c[k] = y at *
              generalize c[j] = z at *
              go_wp2_with fail
              go_quiet ((go_at_call 83; exact Calls.quiet_of_same ((out_any _ _ _ _).mono (by rintro e w' ⟨rfl, rfl⟩; exact ⟨rfl, rfl⟩))))
              go_wp2
              exact ⟨⟨k + 1, k, by omega, by go_num, rfl, by have := HN.out; rw [HM.out] at this; exact this, by (repeat (first | exact Below.refl _ _ | assumption | refine below_draws ?_ _ | refine Below.drew ?_ | refine below_alloc ?_ _ (by first | omega | (simp; done) | (simp; omega)) | refine Below.setCell ?_ (by first | omega | (simp; done) | (simp; omega)) _ | refine below_at ?_ (by assumption) (by first | omega | (simp; done) | (simp; omega))))⟩, by simp [intOf]; omega⟩
            · have hq : (if c[k].max < c[j].max then (k : Int) else (j : Int)) = j := if_neg hm
              have HM := Lib.hid hq
              clear hq
              have hmB : decide (c[k].max < c[j].max) = false := by simp; omega
              generalize c[k] = y at *
              generalize c[j] = z at *
              go_wp2_with fail
              go_quiet ((go_at_call 83; exact Calls.quiet_of_same ((out_any _ _ _ _).mono (by rintro e w' ⟨rfl, rfl⟩; exact ⟨rfl, rfl⟩))))
              go_wp2
              exact ⟨⟨k + 1, j, by omega, by go_num, rfl, by have := HN.out; rw [HM.out] at this; exact this, by (repeat (first | exact Below.refl _ _ | assumption | refine below_draws ?_ _ | refine Below.drew ?_ | refine below_alloc ?_ _ (by first | omega | (simp; done) | (simp; omega)) | refine Below.setCell ?_ (by first | omega | (simp; done) | (simp; omega)) _ | refine below_at ?_ (by assumption) (by first | omega | (simp; done) | (simp; omega))))⟩, by simp [intOf]; omega⟩
        · have hinC : inC n c[k] = false := by unfold inC; rw [hin]; rfl
          have HN := Lib.hid (HB.out.out hlt hinC)
          clear hc hcc hinC hbest
          generalize c[k] = y at *
          go_wp2_with fail
          go_quiet ((go_at_call 83; exact Calls.quiet_of_same ((out_any _ _ _ _).mono (by rintro e w' ⟨rfl, rfl⟩; exact ⟨rfl, rfl⟩))))
          go_wp2
          exact ⟨⟨k + 1, best, by omega, by go_num, rfl, HN.out, by (repeat (first | exact Below.refl _ _ | assumption | refine below_draws ?_ _ | refine Below.drew ?_ | refine below_alloc ?_ _ (by first | omega | (simp; done) | (simp; omega)) | refine Below.setCell ?_ (by first | omega | (simp; done) | (simp; omega)) _ | refine below_at ?_ (by assumption) (by first | omega | (simp; done) | (simp; omega))))⟩, by simp [intOf]; omega⟩
      · obtain rfl : k = c.length := by omega
        rcases hbest with ⟨h0, rfl⟩ | ⟨j, hj, hjk, rfl, h0, hjm⟩
        · rw [List.take_length] at h0
          have hR : classFor n c = (⟨#[]⟩, false) := by unfold classFor; rw [if_pos h0]
          have HR := Lib.hid hR
          clear h0 hR
          go_wp2
          go_ret3
          exact ⟨ret_sbi (by rw [HF.out.2.1, HR.out]) (by rw [HF.out.2.1, HR.out]) (by rw [HF.out.1]), hB⟩
        · rw [List.take_length] at h0 hjm
          have hR : classFor n c = (c[j].key, true) := by unfold classFor; rw [if_neg h0, ← hjm]
          have HR := Lib.hid hR
          obtain ⟨b, off, rfl, hb, hcc⟩ := hc j hj
          obtain ⟨e0, _, _⟩ := class_at hcc
          replace e0 := (hB.cell (p := ⟨b, _, none⟩) hb).trans e0
          clear h0 hR hjm hc hcc
          generalize c[j] = y at *
          have hj0 : ¬ (j : Int) < 0 := by omega
          go_wp2
          go_ret3
          exact ⟨ret_sbi (by rw [HF.out.2.1, HR.out]) (by rw [HF.out.2.1, HR.out]) (by rw [HF.out.1]), hB⟩
  · have hf' : (classOfF l x c != 0) = true := by simp [hf]
    have hV : classOfV l x c = (⟨#[]⟩, false) := by unfold classOfV; rw [if_neg hf]
    have HV := Lib.hid hV
    have hFe : firstF [partsFault l, lossesFault x, classesF c] = classOfF l x c := rfl
    have HFe := Lib.hid hFe
    clear hf hV hFe
    go_enter Try.func28, Try.ntmps28
    go_wp2
    go_region_held3 (fun w' => w'.cell? ⟨w.heap.size, 0, none⟩ = some (.int .i64 x.perKm) ∧ w'.cell? ⟨w.heap.size, 1, none⟩ = some (.int .i64 x.conn) ∧ w'.cell? ⟨w.heap.size, 2, none⟩ = some (.int .i64 x.dblg) ∧ w'.cell? ⟨w.heap.size, 3, none⟩ = some (.int .i64 x.exc)) (go_keep)
      (first
        | (go_at_call 85; refine (checkParts_any _ l _ ?_).mono ?_; (exact h.below (by (repeat (first | exact Below.refl _ _ | assumption | refine below_draws ?_ _ | refine Below.drew ?_ | refine below_alloc ?_ _ (by first | omega | (simp; done) | (simp; omega)) | refine Below.setCell ?_ (by first | omega | (simp; done) | (simp; omega)) _ | refine below_at ?_ (by assumption) (by first | omega | (simp; done) | (simp; omega)))))); rintro e w1 ⟨rfl, hb1⟩; have s1 : w.heap.size + 1 ≤ w1.heap.size := (by have := hb1.size; (try simp at this); omega); have hc1 := bcellAt hb1 w.heap.size (by first | omega | (simp; done) | (simp; omega)))
        | (go_at_call 86; refine (checkLosses_any x _).mono ?_; rintro e w2 ⟨rfl, hb2⟩; have s2 : w.heap.size + 1 ≤ w2.heap.size := (by have := hb2.size; (try simp at this); omega); have hc2 := bcellAt hb2 w.heap.size (by first | omega | (simp; done) | (simp; omega)))
        | (go_at_call 87; refine (classesFault_any _ c _ ?_).mono ?_; (exact hu'.below (by (repeat (first | exact Below.refl _ _ | assumption | refine below_draws ?_ _ | refine Below.drew ?_ | refine below_alloc ?_ _ (by first | omega | (simp; done) | (simp; omega)) | refine Below.setCell ?_ (by first | omega | (simp; done) | (simp; omega)) _ | refine below_at ?_ (by assumption) (by first | omega | (simp; done) | (simp; omega)))))); rintro e w3 ⟨rfl, hb3⟩; have s3 : w.heap.size + 1 ≤ w3.heap.size := (by have := hb3.size; (try simp at this); omega); have hc3 := bcellAt hb3 w.heap.size (by first | omega | (simp; done) | (simp; omega)))
        | (go_at_call 84; refine (first_any _ [partsFault l, lossesFault x, classesF c] _ (by (try refine Arr.drew ?_); exact Arr.litAt (cells := intCells) (sz := 1) (fun _ => rfl) (by first | rfl | simp) (by rfl) (by rfl) (by simp [maxLen]))).mono ?_; rw [HFe.out]; rintro e w4 ⟨rfl, rfl⟩))
    go_wp2
    go_ret3
    exact ⟨ret_sbi (by rw [HV.out]) (by rw [HV.out]) rfl, by (repeat (first | exact Below.refl _ _ | assumption | refine below_draws ?_ _ | refine Below.drew ?_ | refine below_alloc ?_ _ (by first | omega | (simp; done) | (simp; omega)) | refine Below.setCell ?_ (by first | omega | (simp; done) | (simp; omega)) _ | refine below_at ?_ (by assumption) (by first | omega | (simp; done) | (simp; omega))))⟩
end Go.Proofs.Ytagpcgnlbgndmaa
