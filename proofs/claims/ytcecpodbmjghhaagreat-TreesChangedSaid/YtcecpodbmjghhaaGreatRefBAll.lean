/- Texts of one subject in one: RefB1, RefB2, RefB3, RefB4, RefB5; what each shows stands at its head. No condition. -/
import Derived.Test.YtcecpodbmjghhaaGreatWalkAll
import Derived.Test.YtcecpodbmjghhaaGreatKeysAll
/- Walks of the reference's small functions for chapter 2. -/
set_option linter.unusedVariables false
set_option linter.unusedSimpArgs false
namespace Go.Proofs.YtcecpodbmjghhaaGreat
open Go Go.RowKit
theorem rin_any (n lo hi : Int) (w : World) : Calls Tryz.prog 39 #[.int .i64 n, .int .i64 lo, .int .i64 hi] w
    fun e w' => e = .returned (.bool (!outB n lo hi)) ∧ w = w' := by
  by_cases h1 : lo ≤ n
  · by_cases h2 : n ≤ hi
    · go_enter Tryz.func39, Tryz.ntmps39
      go_wp2
      go_ret
      exact ⟨ret_bool (by simp [outB]; omega), rfl⟩
    · go_enter Tryz.func39, Tryz.ntmps39
      go_wp2
      go_ret
      exact ⟨ret_bool (by simp [outB]; omega), rfl⟩
  · go_enter Tryz.func39, Tryz.ntmps39
    go_wp2
    go_ret
    exact ⟨ret_bool (by simp [outB]; omega), rfl⟩
set_option maxHeartbeats 1000000 in
theorem index_int_any (v : Value) (l : List Int) (n : Int) (w : World) (h : Arr intCells 1 w l v) : Calls Tryz.prog 126 #[v, .int .i64 n] w
    fun e w' => e = .returned (.int .i64 (idxF (fun y => n == y) l)) ∧ w = w' := by
  obtain ⟨a, cap, rfl, hcap, hmax, hc⟩ := h
  have hlen : l.length ≤ maxLen := by omega
  unfold maxLen at hlen hmax
  go_enter Tryz.func126, Tryz.ntmps126
  go_wp2
  go_loop [8] (fun i => ∃ k : Nat, k ≤ l.length ∧ i = .int .i64 k ∧ (l.take k).any (fun y => n == y) = false) (fun i => l.length - (intOf i).toNat)
  case atStart => exact ⟨0, by omega, rfl, rfl⟩
  case round =>
    obtain ⟨k, hk, rfl, hz⟩ := hrel
    have HZ := Lib.hid hz
    clear hz
    by_cases hlt : k < l.length
    · obtain ⟨b, off, rfl, hb, hcc⟩ := hc k hlt
      have h0 := hcc 0 _ rfl
      simp only [Nat.mul_one, Nat.add_zero] at h0
      clear hc hcc
      cases hx : (n == l[k])
      · have HT := Lib.hid (any_take_succ _ l k hlt HZ.out)
        have HX := Lib.hid hx
        go_wp2
        exact ⟨⟨k + 1, by omega, by go_num, by rw [HT.out]; exact HX.out⟩, by simp [intOf]; omega⟩
      · have HX := Lib.hid (idxF_hit hlt HZ.out hx)
        go_wp2
        go_ret
        exact ⟨ret_int (by rw [HX.out]), rfl⟩
    · go_wp2
      go_ret
      exact ⟨ret_int (by rw [idxF_none (any_take_all (by omega) HZ.out)]), rfl⟩
theorem dbl_idx (n : Int) : dbl n = idxF (fun y => n == y) [1, 2, 4, 8, 16, 32, 64, 128] := by
  simp only [idxF, beq_iff_eq]
  unfold dbl
  repeat' split
  all_goals omega
set_option maxHeartbeats 1000000 in
theorem doublings_any (n : Int) (w : World) : Calls Tryz.prog 89 #[.int .i64 n] w
    fun e w' => e = .returned (.int .i64 (dbl n)) ∧ Below w.heap.size w w' := by
  go_enter Tryz.func89, Tryz.ntmps89
  go_wp2_with (go_at_call 126; refine (index_int_any _ [1, 2, 4, 8, 16, 32, 64, 128] n _ (by exact Arr.lit (cells := intCells) (sz := 1) (fun _ => rfl) _ [1, 2, 4, 8, 16, 32, 64, 128] _ _ 8 (by rfl) rfl (by simp [maxLen]))).mono ?_; rintro e w' ⟨rfl, rfl⟩)
  go_ret
  exact ⟨ret_int (dbl_idx n).symm, by (repeat (first | exact Below.refl _ _ | assumption | refine below_draws ?_ _ | refine Below.drew ?_ | refine below_alloc ?_ _ (by first | omega | (simp; done) | (simp; omega)) | refine Below.setCell ?_ (by first | omega | (simp; done) | (simp; omega)) _ | refine below_at ?_ (by assumption) (by first | omega | (simp; done) | (simp; omega))))⟩
end Go.Proofs.YtcecpodbmjghhaaGreat
/- Walks of the reference's functions for chapter 2: sums of losses. -/
namespace Go.Proofs.YtcecpodbmjghhaaGreat
open Go Go.RowKit
end Go.Proofs.YtcecpodbmjghhaaGreat
/- Walks of the reference's functions for chapter 2: faults. -/
namespace Go.Proofs.YtcecpodbmjghhaaGreat
open Go Go.RowKit
end Go.Proofs.YtcecpodbmjghhaaGreat
/- Walks of the reference's functions for chapter 2: losses, powers, the greatest number. -/
namespace Go.Proofs.YtcecpodbmjghhaaGreat
open Go Go.RowKit
end Go.Proofs.YtcecpodbmjghhaaGreat
/- Walks of the reference's functions for chapter 2: powers, attenuators, the greatest number. -/
namespace Go.Proofs.YtcecpodbmjghhaaGreat
open Go Go.RowKit
def AllOk (l : List Part) (x : Losses) : Prop := (∀ p ∈ l, p.Ok) ∧ l.length ≤ 1000 ∧ x.Ok
theorem AllOk.bound {l : List Part} {x : Losses} (h : AllOk l x) : 0 ≤ total l x ∧ total l x ≤ 200000000 := by
  have := total_bound h.2.2 h.1
  have := h.2.1
  omega
theorem ret_ib {a a' : Int} {b b' : Bool} (h1 : a = a') (h2 : b = b') : Ending.returned (.tuple #[.int .i64 a, .bool b]) = .returned (.tuple #[.int .i64 a', .bool b']) := by rw [h1, h2]
theorem run_fn {f : FuncId} {fn : Func} {c : Code} (hf : Tryz.prog.funcs[f]? = some fn) (hname : (fn.name == "runtime.NumGoroutine") = false) (hb : fn.body = some c) :
    ∀ (args : Array Value) (w : World), (callFunc f args).run Tryz.prog w = .ok (.enter f args) w := fun args w => by
  have h1 : fn.name ≠ "runtime.NumGoroutine" := by simpa using hname
  simp [callFunc, hf, h1, hb]
end Go.Proofs.YtcecpodbmjghhaaGreat
