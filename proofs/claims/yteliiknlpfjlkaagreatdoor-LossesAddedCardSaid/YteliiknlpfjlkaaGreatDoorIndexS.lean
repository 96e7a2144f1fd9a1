/- Walk: slices.Index at strings. -/
import Derived.Test.YteliiknlpfjlkaaGreatDoorBase
import Derived.Test.YteliiknlpfjlkaaGreatDoorPlainC
import Derived.Test.YteliiknlpfjlkaaGreatDoorProg
set_option linter.unusedVariables false
set_option linter.unusedSimpArgs false
namespace Go.Proofs.YteliiknlpfjlkaaGreatDoor
open Go Go.RowKit

set_option maxHeartbeats 1000000 in
theorem index_str_any (v : Value) (l : List ByteArray) (y : ByteArray) (w : World) (h : Arr strCells 1 w l v) : Calls Tryz.prog 69 #[v, .string y] w
    fun e w' => e = .returned (.int .i64 (idxF (fun x => strB y x) l)) ∧ w = w' := by
  obtain ⟨a, cap, rfl, hcap, hmax, hc⟩ := h
  have hlen : l.length ≤ maxLen := by omega
  unfold maxLen at hlen hmax
  go_enter Tryz.func69, Tryz.ntmps69
  go_wp2
  go_loop [8] (fun i => ∃ k : Nat, k ≤ l.length ∧ i = .int .i64 k ∧ (l.take k).any (fun x => strB y x) = false) (fun i => l.length - (intOf i).toNat)
  case atStart => exact ⟨0, by omega, rfl, rfl⟩
  case round =>
    obtain ⟨k, hk, rfl, hz⟩ := hrel
    have HZ := Lib.hid hz
    clear hz
    by_cases hlt : k < l.length
    · obtain ⟨b, off, rfl, hb, hcc⟩ := hc k hlt
      have h0 := hcc 0 _ rfl
      simp only [Nat.mul_one, Nat.add_zero] at h0
      clear hc hcc
      cases hx : strB y l[k]
      · have hx' : (y.toList == l[k].toList) = false := hx
        have HT : Hid ((l.take (k + 1)).any (fun x => strB y x) = false) := by rw [any_take_succ _ l k hlt HZ.out]; exact hx
        clear hx
        go_wp2
        go_round
        case rel => exact ⟨k + 1, by omega, by go_num, HT.out⟩
        case measure => simp [intOf]; omega
      · have hx' : (y.toList == l[k].toList) = true := hx
        have HT : Hid (idxF (fun x => strB y x) l = k) := idxF_hit hlt HZ.out hx
        clear hx
        go_wp2
        go_ret
        exact ⟨ret_int HT.out.symm, rfl⟩
    · have HT : Hid (idxF (fun x => strB y x) l = -1) := idxF_none (any_take_all (by omega) HZ.out)
      go_wp2
      go_ret
      exact ⟨ret_int HT.out.symm, rfl⟩
end Go.Proofs.YteliiknlpfjlkaaGreatDoor
