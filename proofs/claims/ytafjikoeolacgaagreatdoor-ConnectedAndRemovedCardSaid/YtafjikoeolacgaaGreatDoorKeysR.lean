/- Keys: the reference's test of keys is the same function. -/
import Derived.Test.YtafjikoeolacgaaGreatDoorKeys
import Derived.Test.YtafjikoeolacgaaGreatDoorShelf
set_option linter.unusedVariables false
set_option linter.unusedSimpArgs false
namespace Go.Proofs.YtafjikoeolacgaaGreatDoor
open Go Go.RowKit

theorem r2in_any (n lo hi : Int) (w : World) : Calls Tryz.prog 138 #[.int .i64 n, .int .i64 lo, .int .i64 hi] w
    fun e w' => e = .returned (.bool (!outB n lo hi)) ∧ w = w' := by
  by_cases h1 : lo ≤ n
  · by_cases h2 : n ≤ hi
    · go_enter Tryz.func138, Tryz.ntmps138
      go_wp2
      go_ret
      exact ⟨ret_bool (by simp [outB]; omega), rfl⟩
    · go_enter Tryz.func138, Tryz.ntmps138
      go_wp2
      go_ret
      exact ⟨ret_bool (by simp [outB]; omega), rfl⟩
  · go_enter Tryz.func138, Tryz.ntmps138
    go_wp2
    go_ret
    exact ⟨ret_bool (by simp [outB]; omega), rfl⟩

/-- all bytes of s are so (behind a name) -/
def allB (s : ByteArray) (q : UInt8 → Bool) : Bool := s.data.toList.all q

set_option maxHeartbeats 1000000 in
theorem only_any (s t : ByteArray) (q : UInt8 → Bool) (w : World) (hs : s.size ≤ 1000000) (hq : ∀ c, (Lib.indexByte t.data.toList c < 0) ↔ q c = false) : Calls Tryz.prog 134 #[.string s, .string t] w
    fun e w' => e = .returned (.bool (allB s q)) ∧ w = w' := by
  have HQ := Lib.hid hq
  clear hq
  go_enter Tryz.func134, Tryz.ntmps134
  go_wp2
  go_loop [8] (fun i => ∃ k : Nat, k ≤ s.size ∧ i = .int .i64 k ∧ (s.data.toList.take k).all q = true) (fun i => s.size - (intOf i).toNat)
  case atStart => exact ⟨0, by omega, rfl, by simp⟩
  case round =>
    obtain ⟨k, hk, rfl, hz⟩ := hrel
    have HZ := Lib.hid hz
    clear hz
    by_cases hlt : k < s.size
    · have hc8 : ((s[k].toNat : Int)).toNat.toUInt8 = s[k] := by simp
      cases hx : q s[k]
      · have HX := Lib.hid (all_hit s q k hlt hx)
        have hi := (HQ.out s[k]).2 hx
        have HC := Lib.hid hc8
        clear hx hc8
        generalize hI : Lib.indexByte t.data.toList s[k] = I at hi
        have HI := Lib.hid hI
        clear hI
        go_wp2_with (go_at_call 160; refine (Tryz.strings_IndexByte t _ _).mono ?_; rw [HC.out, HI.out]; rintro e w' ⟨rfl, rfl⟩)
        go_ret
        exact ⟨ret_bool (by unfold allB; rw [HX.out]), rfl⟩
      · have HT := Lib.hid (all_take_succ s q k hlt HZ.out)
        have hi : ¬ Lib.indexByte t.data.toList s[k] < 0 := fun h => by rw [(HQ.out s[k]).1 h] at hx; cases hx
        have HX := Lib.hid hx
        have HC := Lib.hid hc8
        clear hx hc8
        generalize hI : Lib.indexByte t.data.toList s[k] = I at hi
        have HI := Lib.hid hI
        clear hI
        go_wp2_with (go_at_call 160; refine (Tryz.strings_IndexByte t _ _).mono ?_; rw [HC.out, HI.out]; rintro e w' ⟨rfl, rfl⟩)
        exact ⟨⟨k + 1, by omega, by go_num, by rw [HT.out]; exact HX.out⟩, by simp [intOf]; omega⟩
    · go_wp2
      go_ret
      exact ⟨ret_bool (by have := HZ.out; rw [List.take_of_length_le (by simp; omega)] at this; unfold allB; exact this.symm), rfl⟩

def smallsL : List UInt8 := [97,98,99,100,101,102,103,104,105,106,107,108,109,110,111,112,113,114,115,116,117,118,119,120,121,122]
def keysL : List UInt8 := smallsL ++ [48,49,50,51,52,53,54,55,56,57,45,95]
theorem of_nat8 (P : UInt8 → Prop) (h : ∀ n, n < 256 → P (UInt8.ofNat n)) (c : UInt8) : P c := by
  have := h c.toNat c.toNat_lt
  rwa [UInt8.ofNat_toNat] at this
theorem smalls_ix (c : UInt8) : (Lib.indexByte smallsL c < 0) ↔ smallI c.toNat = false :=
  of_nat8 (fun c => (Lib.indexByte smallsL c < 0) ↔ smallI c.toNat = false) (by decide +kernel) c
theorem keys_ix (c : UInt8) : (Lib.indexByte keysL c < 0) ↔ keyI c.toNat = false :=
  of_nat8 (fun c => (Lib.indexByte keysL c < 0) ↔ keyI c.toNat = false) (by decide +kernel) c

theorem keyB_take (s : ByteArray) (h : 1 ≤ s.size ∧ s.size ≤ 40) : keyB s = (allB (s.extract 0 1) (fun c => smallI c.toNat) && allB s fun c => keyI c.toNat) := by
  obtain ⟨r, hr⟩ := head_of s (by omega)
  have e : (s.extract 0 1).data.toList = [s[0]] := by rw [Lib.extract_data, hr]; rfl
  unfold keyB allB
  rw [e, hr, decide_eq_true h]
  simp
set_option maxHeartbeats 1000000 in
theorem rkey_any (s : ByteArray) (w : World) : Calls Tryz.prog 91 #[.string s] w
    fun e w' => e = .returned (.bool (keyB s)) ∧ w = w' := by
  by_cases h : 1 ≤ s.size ∧ s.size ≤ 40
  · have ho : outB s.size 1 40 = false := by rw [outB_false]; omega
    have HK := Lib.hid (keyB_take s h)
    obtain ⟨h1, h2⟩ := h
    have h3 : 1 ≤ s.size := h1
    have hsz : (s.extract 0 1).size ≤ 1000000 := by simp; omega
    have HS := Lib.hid hsz
    clear hsz
    cases hs : allB (s.extract 0 1) (fun c => smallI c.toNat)
    · have H2 := Lib.hid hs
      go_enter Tryz.func91, Tryz.ntmps91
      go_wp2_with (go_at_call 138; refine (r2in_any _ _ _ _).mono ?_; rintro e w' ⟨rfl, rfl⟩)
      refine (only_any (s.extract 0 1) _ (fun c => smallI c.toNat) _ HS.out smalls_ix).mono ?_
      rintro e w' ⟨rfl, rfl⟩
      go_wp2
      go_ret
      exact ⟨ret_bool (by rw [HK.out, hs]; simp), rfl⟩
    · have H2 := Lib.hid hs
      go_enter Tryz.func91, Tryz.ntmps91
      go_wp2_with (go_at_call 138; refine (r2in_any _ _ _ _).mono ?_; rintro e w' ⟨rfl, rfl⟩)
      refine (only_any (s.extract 0 1) _ (fun c => smallI c.toNat) _ HS.out smalls_ix).mono ?_
      rintro e w' ⟨rfl, rfl⟩
      go_wp2_with fail
      refine (only_any s _ (fun c => keyI c.toNat) _ (by omega) keys_ix).mono ?_
      rintro e w' ⟨rfl, rfl⟩
      go_wp2
      go_ret
      exact ⟨ret_bool (by rw [HK.out, hs]; simp), rfl⟩
  · have ho : outB s.size 1 40 = true := by rw [outB_true]; omega
    have hk : keyB s = false := by unfold keyB; rw [decide_eq_false h]; simp
    have HK := Lib.hid hk
    clear hk h
    go_enter Tryz.func91, Tryz.ntmps91
    go_wp2_with (go_at_call 138; refine (r2in_any _ _ _ _).mono ?_; rintro e w' ⟨rfl, rfl⟩)
    go_ret
    exact ⟨ret_bool (by rw [HK.out]), rfl⟩
end Go.Proofs.YtafjikoeolacgaaGreatDoor
