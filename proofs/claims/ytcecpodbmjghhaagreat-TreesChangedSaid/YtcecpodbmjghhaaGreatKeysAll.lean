/- Texts of one subject in one: Keys, KeysR; what each shows stands at its head. No condition. -/
import Derived.Test.YtcecpodbmjghhaaGreatPlainB
import Derived.Test.YtcecpodbmjghhaaGreatProg
import Derived.Test.YtcecpodbmjghhaaGreatShelf
/- Keys: the program's test of keys and the reference's are one function. -/
set_option linter.unusedVariables false
set_option linter.unusedSimpArgs false
namespace Go.Proofs.YtcecpodbmjghhaaGreat
open Go Go.RowKit
def smallI (n : Int) : Bool := decide (97 ≤ n ∧ n ≤ 122)
def keyI (n : Int) : Bool := decide ((97 ≤ n ∧ n ≤ 122) ∨ (48 ≤ n ∧ n ≤ 57) ∨ n = 45 ∨ n = 95)
/-- s is a key -/
def keyB (s : ByteArray) : Bool := decide (1 ≤ s.size ∧ s.size ≤ 40) && (match s.data.toList with | c :: _ => smallI c.toNat | [] => false) && s.data.toList.all fun c => keyI c.toNat
theorem keyB_empty (s : ByteArray) (h : s.size = 0) : keyB s = false := by simp [keyB, h]
theorem keyB_long (s : ByteArray) (h : 40 < s.size) : keyB s = false := by simp [keyB]; omega
theorem head_of (s : ByteArray) (h : 0 < s.size) : ∃ r, s.data.toList = s[0] :: r := by
  have e : s.data.toList.length = s.size := by simp
  match hl : s.data.toList, e with
  | [], e => simp at e; omega
  | c :: r, _ =>
    refine ⟨r, ?_⟩
    have : s[0] = s.data.toList[0]'(by rw [hl]; simp) := rfl
    rw [this]; simp [hl]
theorem keyB_head (s : ByteArray) (h : 0 < s.size) (h1 : smallI s[0].toNat = false) : keyB s = false := by
  obtain ⟨r, hr⟩ := head_of s h
  simp [keyB, hr, h1]
theorem keyB_all (s : ByteArray) (h : 0 < s.size) (h2 : s.size ≤ 40) (h1 : smallI s[0].toNat = true) : keyB s = s.data.toList.all fun c => keyI c.toNat := by
  obtain ⟨r, hr⟩ := head_of s h
  simp only [keyB, hr, h1, Bool.and_true]
  rw [decide_eq_true ⟨by omega, h2⟩]; simp
theorem all_take_succ (s : ByteArray) (p : UInt8 → Bool) (k : Nat) (h : k < s.size) (h0 : (s.data.toList.take k).all p = true) : (s.data.toList.take (k + 1)).all p = p s[k] := by
  rw [List.take_succ_eq_append_getElem (by simpa using h), List.all_append, h0]
  simp; rfl
theorem all_hit (s : ByteArray) (p : UInt8 → Bool) (k : Nat) (h : k < s.size) (h0 : p s[k] = false) : s.data.toList.all p = false := by
  rw [List.all_eq_false]
  exact ⟨s[k], by have : s[k] = s.data.toList[k]'(by simpa using h) := rfl
                  rw [this]; exact List.getElem_mem _, by simp [h0]⟩
theorem isEmpty_size (s : ByteArray) : s.toList.isEmpty = decide (s.size = 0) := by
  rw [ByteArray.toList_eq]
  have : s.data.toList.length = s.size := by simp
  generalize hn : s.size = n at *
  cases hh : s.data.toList with
  | nil => rw [hh] at this; simp only [List.length_nil] at this; simp [← this]
  | cons a b => rw [hh] at this; simp only [List.length_cons] at this; simp; omega
set_option maxHeartbeats 1000000 in
theorem key_any (s : ByteArray) (w : World) : Calls Tryz.prog 45 #[.string s] w
    fun e w' => e = .returned (.bool (keyB s)) ∧ w = w' := by
  by_cases h0 : s.size = 0
  · have hE : s.toList.isEmpty = true := by rw [isEmpty_size]; simp [h0]
    have HK := Lib.hid (keyB_empty s h0)
    clear h0
    go_enter Tryz.func45, Tryz.ntmps45
    go_wp2
    go_ret
    exact ⟨ret_bool (by rw [HK.out]), rfl⟩
  · have hpos : 0 < s.size := by omega
    have hE : s.toList.isEmpty = false := by rw [isEmpty_size]; simp [h0]
    by_cases hlong : 40 < s.size
    · have HK := Lib.hid (keyB_long s hlong)
      clear h0
      go_enter Tryz.func45, Tryz.ntmps45
      go_wp2
      go_ret
      exact ⟨ret_bool (by rw [HK.out]), rfl⟩
    · cases hsm : smallI s[0].toNat
      · have HK := Lib.hid (keyB_head s hpos hsm)
        unfold smallI at hsm
        have hsm' := of_decide_eq_false hsm
        clear h0 hsm
        by_cases h97 : (s[0].toNat : Int) < 97
        · clear hsm'
          go_enter Tryz.func45, Tryz.ntmps45
          go_wp2
          go_ret
          exact ⟨ret_bool (by rw [HK.out]), rfl⟩
        · have h122 : 122 < (s[0].toNat : Int) := by omega
          clear hsm'
          go_enter Tryz.func45, Tryz.ntmps45
          go_wp2
          go_ret
          exact ⟨ret_bool (by rw [HK.out]), rfl⟩
      · have HK := Lib.hid (keyB_all s hpos (by omega) hsm)
        unfold smallI at hsm
        obtain ⟨h97, h122⟩ := of_decide_eq_true hsm
        clear h0 hsm
        go_enter Tryz.func45, Tryz.ntmps45
        go_wp2
        go_loop [24] (fun i => ∃ k : Nat, k ≤ s.size ∧ i = .int .i64 k ∧ ((s.data.toList.take k).all fun c => keyI c.toNat) = true) (fun i => s.size - (intOf i).toNat)
        case atStart => exact ⟨0, by omega, rfl, by simp⟩
        case round =>
          obtain ⟨k, hk, rfl, hz⟩ := hrel
          have HZ := Lib.hid hz
          clear hz
          by_cases hlt : k < s.size
          · cases hc : keyI s[k].toNat
            · have HC := Lib.hid hc
              unfold keyI at hc
              have hc' := of_decide_eq_false hc
              clear hc
              have a3 : ((s[k].toNat : Int) == 45) = false := by simp; omega
              have a4 : ((s[k].toNat : Int) == 95) = false := by simp; omega
              rcases (show (s[k].toNat : Int) < 48 ∨ (57 < (s[k].toNat : Int) ∧ (s[k].toNat : Int) < 97) ∨ 122 < (s[k].toNat : Int) from by omega) with q | ⟨q, q'⟩ | q
              all_goals
                clear hc'
                go_wp2
                all_goals first
                  | (go_ret; exact ⟨ret_bool (by rw [HK.out, all_hit s _ k hlt HC.out]), rfl⟩)
                  | (exfalso; rename_i h; simp at h; omega)
            · have HC := Lib.hid hc
              unfold keyI at hc
              have hc' := of_decide_eq_true hc
              clear hc
              have HT := Lib.hid (all_take_succ s (fun c => keyI c.toNat) k hlt HZ.out)
              rcases hc' with ⟨q1, q2⟩ | ⟨q1, q2⟩ | q1 | q1 <;> go_wp2 <;>
                exact ⟨⟨k + 1, by omega, by go_num, by rw [HT.out]; exact HC.out⟩, by simp [intOf]; omega⟩
          · go_wp2
            go_ret
            exact ⟨ret_bool (by rw [HK.out]; have := HZ.out; rw [List.take_of_length_le (by simp; omega)] at this; exact this.symm), rfl⟩
end Go.Proofs.YtcecpodbmjghhaaGreat
/- Keys: the reference's test of keys is the same function. -/
namespace Go.Proofs.YtcecpodbmjghhaaGreat
open Go Go.RowKit
theorem r2in_any (n lo hi : Int) (w : World) : Calls Tryz.prog 91 #[.int .i64 n, .int .i64 lo, .int .i64 hi] w
    fun e w' => e = .returned (.bool (!outB n lo hi)) ∧ w = w' := by
  by_cases h1 : lo ≤ n
  · by_cases h2 : n ≤ hi
    · go_enter Tryz.func91, Tryz.ntmps91
      go_wp2
      go_ret
      exact ⟨ret_bool (by simp [outB]; omega), rfl⟩
    · go_enter Tryz.func91, Tryz.ntmps91
      go_wp2
      go_ret
      exact ⟨ret_bool (by simp [outB]; omega), rfl⟩
  · go_enter Tryz.func91, Tryz.ntmps91
    go_wp2
    go_ret
    exact ⟨ret_bool (by simp [outB]; omega), rfl⟩
/-- all bytes of s are so (behind a name) -/
def allB (s : ByteArray) (q : UInt8 → Bool) : Bool := s.data.toList.all q
set_option maxHeartbeats 1000000 in
theorem only_any (s t : ByteArray) (q : UInt8 → Bool) (w : World) (hs : s.size ≤ 1000000) (hq : ∀ c, (Lib.indexByte t.data.toList c < 0) ↔ q c = false) : Calls Tryz.prog 92 #[.string s, .string t] w
    fun e w' => e = .returned (.bool (allB s q)) ∧ w = w' := by
  have HQ := Lib.hid hq
  clear hq
  go_enter Tryz.func92, Tryz.ntmps92
  go_wp2
  go_loop [8] (fun i => ∃ k : Nat, k ≤ s.size ∧ i = .int .i64 k ∧ (s.data.toList.take k).all q = true) (fun i => s.size - (intOf i).toNat)
  case atStart => exact ⟨0, by omega, rfl, by simp⟩
  case round =>
    obtain ⟨k, hk, rfl, hz⟩ := hrel
    have HZ := Lib.hid hz
    clear hz
    by_cases hlt : k < s.size
    · have hc8 : ((s[k].toNat : Int)).toNat.toUInt8 = s[k] := by simp
      cases hx : q s[k]
      · have HX := Lib.hid (all_hit s q k hlt hx)
        have hi := (HQ.out s[k]).2 hx
        have HC := Lib.hid hc8
        clear hx hc8
        generalize hI : Lib.indexByte t.data.toList s[k] = I at hi
        have HI := Lib.hid hI
        clear hI
        go_wp2_with (go_at_call 127; refine (Tryz.strings_IndexByte t _ _).mono ?_; rw [HC.out, HI.out]; rintro e w' ⟨rfl, rfl⟩)
        go_ret
        exact ⟨ret_bool (by unfold allB; rw [HX.out]), rfl⟩
      · have HT := Lib.hid (all_take_succ s q k hlt HZ.out)
        have hi : ¬ Lib.indexByte t.data.toList s[k] < 0 := fun h => by rw [(HQ.out s[k]).1 h] at hx; cases hx
        have HX := Lib.hid hx
        have HC := Lib.hid hc8
        clear hx hc8
        generalize hI : Lib.indexByte t.data.toList s[k] = I at hi
        have HI := Lib.hid hI
        clear hI
        go_wp2_with (go_at_call 127; refine (Tryz.strings_IndexByte t _ _).mono ?_; rw [HC.out, HI.out]; rintro e w' ⟨rfl, rfl⟩)
        exact ⟨⟨k + 1, by omega, by go_num, by rw [HT.out]; exact HX.out⟩, by simp [intOf]; omega⟩
    · go_wp2
      go_ret
      exact ⟨ret_bool (by have := HZ.out; rw [List.take_of_length_le (by simp; omega)] at this; unfold allB; exact this.symm), rfl⟩
def smallsL : List UInt8 := [97,98,99,100,101,102,103,104,105,106,107,108,109,110,111,112,113,114,115,116,117,118,119,120,121,122]
def keysL : List UInt8 := smallsL ++ [48,49,50,51,52,53,54,55,56,57,45,95]
theorem of_nat8 (P : UInt8 → Prop) (h : ∀ n, n < 256 → P (UInt8.ofNat n)) (c : UInt8) : P c := by
  have := h c.toNat c.toNat_lt
  rwa [UInt8.ofNat_toNat] at this
theorem smalls_ix (c : UInt8) : (Lib.indexByte smallsL c < 0) ↔ smallI c.toNat = false :=
  of_nat8 (fun c => (Lib.indexByte smallsL c < 0) ↔ smallI c.toNat = false) (by decide +kernel) c
theorem keys_ix (c : UInt8) : (Lib.indexByte keysL c < 0) ↔ keyI c.toNat = false :=
  of_nat8 (fun c => (Lib.indexByte keysL c < 0) ↔ keyI c.toNat = false) (by decide +kernel) c
theorem keyB_take (s : ByteArray) (h : 1 ≤ s.size ∧ s.size ≤ 40) : keyB s = (allB (s.extract 0 1) (fun c => smallI c.toNat) && allB s fun c => keyI c.toNat) := by
  obtain ⟨r, hr⟩ := head_of s (by omega)
  have e : (s.extract 0 1).data.toList = [s[0]] := by rw [Lib.extract_data, hr]; rfl
  unfold keyB allB
  rw [e, hr, decide_eq_true h]
  simp
set_option maxHeartbeats 1000000 in
theorem rkey_any (s : ByteArray) (w : World) : Calls Tryz.prog 38 #[.string s] w
    fun e w' => e = .returned (.bool (keyB s)) ∧ w = w' := by
  by_cases h : 1 ≤ s.size ∧ s.size ≤ 40
  · have ho : outB s.size 1 40 = false := by rw [outB_false]; omega
    have HK := Lib.hid (keyB_take s h)
    obtain ⟨h1, h2⟩ := h
    have h3 : 1 ≤ s.size := h1
    have hsz : (s.extract 0 1).size ≤ 1000000 := by simp; omega
    have HS := Lib.hid hsz
    clear hsz
    cases hs : allB (s.extract 0 1) (fun c => smallI c.toNat)
    · have H2 := Lib.hid hs
      go_enter Tryz.func38, Tryz.ntmps38
      go_wp2_with (go_at_call 91; refine (r2in_any _ _ _ _).mono ?_; rintro e w' ⟨rfl, rfl⟩)
      refine (only_any (s.extract 0 1) _ (fun c => smallI c.toNat) _ HS.out smalls_ix).mono ?_
      rintro e w' ⟨rfl, rfl⟩
      go_wp2
      go_ret
      exact ⟨ret_bool (by rw [HK.out, hs]; simp), rfl⟩
    · have H2 := Lib.hid hs
      go_enter Tryz.func38, Tryz.ntmps38
      go_wp2_with (go_at_call 91; refine (r2in_any _ _ _ _).mono ?_; rintro e w' ⟨rfl, rfl⟩)
      refine (only_any (s.extract 0 1) _ (fun c => smallI c.toNat) _ HS.out smalls_ix).mono ?_
      rintro e w' ⟨rfl, rfl⟩
      go_wp2_with fail
      refine (only_any s _ (fun c => keyI c.toNat) _ (by omega) keys_ix).mono ?_
      rintro e w' ⟨rfl, rfl⟩
      go_wp2
      go_ret
      exact ⟨ret_bool (by rw [HK.out, hs]; simp), rfl⟩
  · have ho : outB s.size 1 40 = true := by rw [outB_true]; omega
    have hk : keyB s = false := by unfold keyB; rw [decide_eq_false h]; simp
    have HK := Lib.hid hk
    clear hk h
    go_enter Tryz.func38, Tryz.ntmps38
    go_wp2_with (go_at_call 91; refine (r2in_any _ _ _ _).mono ?_; rintro e w' ⟨rfl, rfl⟩)
    go_ret
    exact ⟨ret_bool (by rw [HK.out]), rfl⟩
end Go.Proofs.YtcecpodbmjghhaaGreat
