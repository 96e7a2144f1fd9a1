/- Walks of the reference's functions for chapter 2: powers, attenuators, the greatest number. -/
import Derived.Test.YtagpcgnlbgndmaaRefB4
set_option linter.unusedVariables false
set_option linter.unusedSimpArgs false
namespace Go.Proofs.Ytagpcgnlbgndmaa
open Go Go.RowKit

def AllOk (l : List Part) (x : Losses) : Prop := (∀ p ∈ l, p.Ok) ∧ l.length ≤ 1000 ∧ x.Ok
theorem AllOk.bound {l : List Part} {x : Losses} (h : AllOk l x) : 0 ≤ total l x ∧ total l x ≤ 200000000 := by
  have := total_bound h.2.2 h.1
  have := h.2.1
  omega

set_option maxHeartbeats 1000000 in
theorem receivedOf_any (v : Value) (l : List Part) (x : Losses) (o : Optics) (w : World) (h : Arr Part.cells 2 w l v) (ok : AllOk l x) (oo : o.Ok) : Calls Try.prog 34 #[v, .agg #[.int .i64 x.perKm, .int .i64 x.conn, .int .i64 x.dblg, .int .i64 x.exc], .agg #[.int .i64 o.launch, .int .i64 o.least, .int .i64 o.most]] w
    fun e w' => e = .returned (.int .i64 (o.launch - total l x)) ∧ Below w.heap.size w w' := by
  have hb := ok.bound
  unfold Optics.Ok at oo
  have hw : IntKind.i64.wrap (o.launch - total l x) = o.launch - total l x := IntWalk.i64_in _ (by omega)
  have OK := Lib.hid ok
  clear ok oo hb
  go_enter Try.func34, Try.ntmps34
  go_wp2
  go_region_held3 (fun w' => w'.cell? ⟨w.heap.size, 0, none⟩ = some (.int .i64 x.perKm) ∧ w'.cell? ⟨w.heap.size, 1, none⟩ = some (.int .i64 x.conn) ∧ w'.cell? ⟨w.heap.size, 2, none⟩ = some (.int .i64 x.dblg) ∧ w'.cell? ⟨w.heap.size, 3, none⟩ = some (.int .i64 x.exc) ∧ w'.cell? ⟨w.heap.size + 1, 0, none⟩ = some (.int .i64 o.launch) ∧ w'.cell? ⟨w.heap.size + 1, 1, none⟩ = some (.int .i64 o.least) ∧ w'.cell? ⟨w.heap.size + 1, 2, none⟩ = some (.int .i64 o.most)) (go_keep)
      ((go_at_call 90; refine (rlossOf_any _ l x _ ?_ OK.out.1 OK.out.2.1 OK.out.2.2).mono ?_; (exact h.below (by (repeat (first | exact Below.refl _ _ | assumption | refine below_draws ?_ _ | refine Below.drew ?_ | refine below_alloc ?_ _ (by first | omega | (simp; done) | (simp; omega)) | refine Below.setCell ?_ (by first | omega | (simp; done) | (simp; omega)) _ | refine below_at ?_ (by assumption) (by first | omega | (simp; done) | (simp; omega)))))); rintro e w2 ⟨rfl, hb2⟩; have s2 : w.heap.size + 2 ≤ w2.heap.size := (by have := hb2.size; (try simp at this); omega); have hc2 := bcellAt hb2 w.heap.size (by first | omega | (simp; done) | (simp; omega)); have hd2 := bcellAt hb2 (w.heap.size + 1) (by first | omega | (simp; done) | (simp; omega))))
  go_wp2
  go_ret
  exact ⟨rfl, by (repeat (first | exact Below.refl _ _ | assumption | refine below_draws ?_ _ | refine Below.drew ?_ | refine below_alloc ?_ _ (by first | omega | (simp; done) | (simp; omega)) | refine Below.setCell ?_ (by first | omega | (simp; done) | (simp; omega)) _ | refine below_at ?_ (by assumption) (by first | omega | (simp; done) | (simp; omega))))⟩

theorem ret_ib {a a' : Int} {b b' : Bool} (h1 : a = a') (h2 : b = b') : Ending.returned (.tuple #[.int .i64 a, .bool b]) = .returned (.tuple #[.int .i64 a', .bool b']) := by rw [h1, h2]
set_option maxHeartbeats 1000000 in
theorem attenuatorOf_any (v : Value) (l : List Part) (x : Losses) (o : Optics) (w : World) (h : Arr Part.cells 2 w l v) (hf : faultF l x o = 0) : Calls Try.prog 35 #[v, .agg #[.int .i64 x.perKm, .int .i64 x.conn, .int .i64 x.dblg, .int .i64 x.exc], .agg #[.int .i64 o.launch, .int .i64 o.least, .int .i64 o.most]] w
    fun e w' => e = .returned (.tuple #[.int .i64 (attenV l x o).1, .bool (attenV l x o).2]) ∧ Below w.heap.size w w' := by
  obtain ⟨⟨z1, z2⟩, z3, oo⟩ := faultF_zero.1 hf
  have ok : AllOk l x := ⟨z2, z1, z3⟩
  have hb := ok.bound
  have OK := Lib.hid (And.intro ok oo)
  unfold Optics.Ok at oo
  obtain ⟨o1, o2, o3, o4, o5⟩ := oo
  have hR : recvV l x o = o.launch - total l x := by unfold recvV; rw [if_pos hf]
  clear ok z1 z2 z3
  generalize hT : total l x = T at *
  have HT := Lib.hid hT
  clear hT
  by_cases hl : o.launch - T < o.least
  · have HR : Hid (attenV l x o = (0, false)) := by unfold attenV; rw [if_pos (.inr (by omega))]; exact rfl
    clear hf hR
    go_enter Try.func35, Try.ntmps35
    go_wp2_with (go_at_call 34; refine (receivedOf_any _ l x o _ ?_ OK.out.1 OK.out.2).mono ?_; (exact h.below (by (repeat (first | exact Below.refl _ _ | assumption | refine below_draws ?_ _ | refine Below.drew ?_ | refine below_alloc ?_ _ (by first | omega | (simp; done) | (simp; omega)) | refine Below.setCell ?_ (by first | omega | (simp; done) | (simp; omega)) _ | refine below_at ?_ (by assumption) (by first | omega | (simp; done) | (simp; omega)))))); rintro e w1 ⟨rfl, hb1⟩; have s1 : w.heap.size + 2 ≤ w1.heap.size := (by have := hb1.size; (try simp at this); omega); have hc1 := bcellAt hb1 w.heap.size (by first | omega | (simp; done) | (simp; omega)); have hd1 := bcellAt hb1 (w.heap.size + 1) (by first | omega | (simp; done) | (simp; omega)); rw [HT.out])
    go_ret2
    exact ⟨ret_ib (by rw [HR.out]) (by rw [HR.out]), by (repeat (first | exact Below.refl _ _ | assumption | refine below_draws ?_ _ | refine Below.drew ?_ | refine below_alloc ?_ _ (by first | omega | (simp; done) | (simp; omega)) | refine Below.setCell ?_ (by first | omega | (simp; done) | (simp; omega)) _ | refine below_at ?_ (by assumption) (by first | omega | (simp; done) | (simp; omega))))⟩
  · have HR : Hid (attenV l x o = (max 0 (o.launch - T - o.most), true)) := by unfold attenV; rw [if_neg (by omega), hR]; exact rfl
    clear hf hR
    go_enter Try.func35, Try.ntmps35
    go_wp2_with (go_at_call 34; refine (receivedOf_any _ l x o _ ?_ OK.out.1 OK.out.2).mono ?_; (exact h.below (by (repeat (first | exact Below.refl _ _ | assumption | refine below_draws ?_ _ | refine Below.drew ?_ | refine below_alloc ?_ _ (by first | omega | (simp; done) | (simp; omega)) | refine Below.setCell ?_ (by first | omega | (simp; done) | (simp; omega)) _ | refine below_at ?_ (by assumption) (by first | omega | (simp; done) | (simp; omega)))))); rintro e w1 ⟨rfl, hb1⟩; have s1 : w.heap.size + 2 ≤ w1.heap.size := (by have := hb1.size; (try simp at this); omega); have hc1 := bcellAt hb1 w.heap.size (by first | omega | (simp; done) | (simp; omega)); have hd1 := bcellAt hb1 (w.heap.size + 1) (by first | omega | (simp; done) | (simp; omega)); rw [HT.out])
    all_goals go_ret2
    all_goals exact ⟨ret_ib (by rw [HR.out]; simp <;> omega) (by rw [HR.out]), by (repeat (first | exact Below.refl _ _ | assumption | refine below_draws ?_ _ | refine Below.drew ?_ | refine below_alloc ?_ _ (by first | omega | (simp; done) | (simp; omega)) | refine Below.setCell ?_ (by first | omega | (simp; done) | (simp; omega)) _ | refine below_at ?_ (by assumption) (by first | omega | (simp; done) | (simp; omega))))⟩

theorem run_fn {f : FuncId} {fn : Func} {c : Code} (hf : Try.prog.funcs[f]? = some fn) (hname : (fn.name == "runtime.NumGoroutine") = false) (hb : fn.body = some c) :
    ∀ (args : Array Value) (w : World), (callFunc f args).run Try.prog w = .ok (.enter f args) w := fun args w => by
  have h1 : fn.name ≠ "runtime.NumGoroutine" := by simpa using hname
  simp [callFunc, hf, h1, hb]

set_option maxHeartbeats 1000000 in
set_option maxRecDepth 100000 in
theorem greatest_any (F : FuncId) (p1 p2 p3 : Value) (most M : Int) (w : World) (h0 : 0 ≤ most) (h1 : most ≤ 1000000) (hM : 0 ≤ M) (hF : ∀ (args : Array Value) (w : World), (callFunc F args).run Try.prog w = .ok (.enter F args) w)
    (hcall : ∀ (n : Int) (w' : World), 1 ≤ n → n ≤ most → Below w.heap.size w w' → Calls Try.prog F #[.int .i64 n, p1, p2, p3] w' fun e w'' => e = .returned (.bool (decide (n ≤ M))) ∧ Below w'.heap.size w' w'') :
    Calls Try.prog 97 #[.int .i64 most, .func (.func F) #[] #[p1, p2, p3]] w fun e w' => e = .returned (.int .i64 (min most M)) ∧ Below w.heap.size w w' := by
  have HC := Lib.hid hcall
  clear hcall
  go_enter Try.func97, Try.ntmps97
  go_wp2
  go_loopw [5, 6] (fun o b wr => ∃ out bit : Int, o = .int .i64 out ∧ b = .int .i64 bit ∧ 0 ≤ out ∧ out ≤ min most M ∧ Below w.heap.size w wr ∧ ((bit = 0 ∧ out = min most M) ∨ ∃ j : Nat, j ≤ 20 ∧ bit = 2 ^ j ∧ min most M < out + 2 * 2 ^ j)) (fun _ b _ => (intOf b).toNat)
  case atStart => exact ⟨0, 1048576, rfl, rfl, by omega, by omega, Below.refl _ _, .inr ⟨20, by omega, by decide, by omega⟩⟩
  case round =>
    obtain ⟨out, bit, rfl, rfl, q1, q2, hB, hq⟩ := hrel
    have hsz := hB.size
    rcases hq with ⟨rfl, rfl⟩ | ⟨j, hj, hbit, hlt⟩
    · go_wp2
      go_ret
      exact ⟨rfl, hB⟩
    · have hb0 : 1 ≤ bit := by rw [hbit]; exact_mod_cast Nat.one_le_two_pow (n := j)
      have hb1 : bit ≤ 1048576 := by rw [hbit]; have : (2 : Int) ^ j ≤ 2 ^ 20 := by exact_mod_cast Nat.pow_le_pow_right (by decide) hj
                                     simpa using this
      have hlt' : min most M < out + 2 * bit := by rw [hbit]; exact hlt
      have hnext : bit / 2 = 0 ∧ bit = 1 ∨ ∃ i : Nat, i ≤ 20 ∧ bit / 2 = 2 ^ i ∧ bit = 2 * 2 ^ i := by
        cases j with
        | zero => left; simp at hbit; omega
        | succ i => right; refine ⟨i, by omega, ?_, ?_⟩ <;> rw [hbit, Int.pow_succ] <;> omega
      have HN := Lib.hid hnext
      clear hnext hlt hbit
      by_cases hle : out + bit ≤ most
      · by_cases hp : out + bit ≤ M
        · have hp' : decide (out + bit ≤ M) = true := by simp [hp]
          go_wp2_with fail
          refine (HC.out (out + bit) _ (by omega) hle ?_).mono ?_
          · (repeat (first | exact Below.refl _ _ | assumption | refine below_draws ?_ _ | refine Below.drew ?_ | refine below_alloc ?_ _ (by first | omega | (simp; done) | (simp; omega)) | refine Below.setCell ?_ (by first | omega | (simp; done) | (simp; omega)) _ | refine below_at ?_ (by assumption) (by first | omega | (simp; done) | (simp; omega))))
          rintro e w1 ⟨rfl, hb2⟩
          go_wp2
          rcases HN.out with ⟨e1, e2⟩ | ⟨i, e1, e2, e3⟩
          · exact ⟨⟨out + bit, bit / 2, rfl, rfl, by omega, by omega, by (repeat (first | exact Below.refl _ _ | assumption | refine below_draws ?_ _ | refine Below.drew ?_ | refine below_alloc ?_ _ (by first | omega | (simp; done) | (simp; omega)) | refine Below.setCell ?_ (by first | omega | (simp; done) | (simp; omega)) _ | refine below_at ?_ (by assumption) (by first | omega | (simp; done) | (simp; omega)))), .inl ⟨e1, by omega⟩⟩, by simp [intOf]; omega⟩
          · exact ⟨⟨out + bit, bit / 2, rfl, rfl, by omega, by omega, by (repeat (first | exact Below.refl _ _ | assumption | refine below_draws ?_ _ | refine Below.drew ?_ | refine below_alloc ?_ _ (by first | omega | (simp; done) | (simp; omega)) | refine Below.setCell ?_ (by first | omega | (simp; done) | (simp; omega)) _ | refine below_at ?_ (by assumption) (by first | omega | (simp; done) | (simp; omega)))), .inr ⟨i, e1, e2, by omega⟩⟩, by simp [intOf]; omega⟩
        · have hp' : decide (out + bit ≤ M) = false := by simp; omega
          go_wp2_with fail
          refine (HC.out (out + bit) _ (by omega) hle ?_).mono ?_
          · (repeat (first | exact Below.refl _ _ | assumption | refine below_draws ?_ _ | refine Below.drew ?_ | refine below_alloc ?_ _ (by first | omega | (simp; done) | (simp; omega)) | refine Below.setCell ?_ (by first | omega | (simp; done) | (simp; omega)) _ | refine below_at ?_ (by assumption) (by first | omega | (simp; done) | (simp; omega))))
          rintro e w1 ⟨rfl, hb2⟩
          go_wp2
          rcases HN.out with ⟨e1, e2⟩ | ⟨i, e1, e2, e3⟩
          · exact ⟨⟨out, bit / 2, rfl, rfl, by omega, by omega, by (repeat (first | exact Below.refl _ _ | assumption | refine below_draws ?_ _ | refine Below.drew ?_ | refine below_alloc ?_ _ (by first | omega | (simp; done) | (simp; omega)) | refine Below.setCell ?_ (by first | omega | (simp; done) | (simp; omega)) _ | refine below_at ?_ (by assumption) (by first | omega | (simp; done) | (simp; omega)))), .inl ⟨e1, by omega⟩⟩, by simp [intOf]; omega⟩
          · exact ⟨⟨out, bit / 2, rfl, rfl, by omega, by omega, by (repeat (first | exact Below.refl _ _ | assumption | refine below_draws ?_ _ | refine Below.drew ?_ | refine below_alloc ?_ _ (by first | omega | (simp; done) | (simp; omega)) | refine Below.setCell ?_ (by first | omega | (simp; done) | (simp; omega)) _ | refine below_at ?_ (by assumption) (by first | omega | (simp; done) | (simp; omega)))), .inr ⟨i, e1, e2, by omega⟩⟩, by simp [intOf]; omega⟩
      · have hle' : decide (out + bit ≤ most) = false := by simp; omega
        go_wp2
        rcases HN.out with ⟨e1, e2⟩ | ⟨i, e1, e2, e3⟩
        · exact ⟨⟨out, bit / 2, rfl, rfl, by omega, by omega, by (repeat (first | exact Below.refl _ _ | assumption | refine below_draws ?_ _ | refine Below.drew ?_ | refine below_alloc ?_ _ (by first | omega | (simp; done) | (simp; omega)) | refine Below.setCell ?_ (by first | omega | (simp; done) | (simp; omega)) _ | refine below_at ?_ (by assumption) (by first | omega | (simp; done) | (simp; omega)))), .inl ⟨e1, by omega⟩⟩, by simp [intOf]; omega⟩
        · exact ⟨⟨out, bit / 2, rfl, rfl, by omega, by omega, by (repeat (first | exact Below.refl _ _ | assumption | refine below_draws ?_ _ | refine Below.drew ?_ | refine below_alloc ?_ _ (by first | omega | (simp; done) | (simp; omega)) | refine Below.setCell ?_ (by first | omega | (simp; done) | (simp; omega)) _ | refine below_at ?_ (by assumption) (by first | omega | (simp; done) | (simp; omega)))), .inr ⟨i, e1, e2, by omega⟩⟩, by simp [intOf]; omega⟩

end Go.Proofs.Ytagpcgnlbgndmaa
