/- Walk of the stream's strings of trees. -/
import Derived.Test.YteliiknlpfjlkaaGreatDoorTyL
import Derived.Test.YteliiknlpfjlkaaGreatDoorTxG
import Derived.Test.YteliiknlpfjlkaaGreatDoorStreamYZ
set_option linter.unusedVariables false
set_option linter.unusedSimpArgs false
namespace Go.Proofs.YteliiknlpfjlkaaGreatDoor
open Go Go.RowKit

set_option maxHeartbeats 2000000 in
set_option maxRecDepth 100000 in
theorem treeString_any (s m : Nat) (w : World) (h : Strm w s m) (hm : m ≤ 40000) (hlow : ∀ w', w.grownBy w' (some s) → Tab10 w') : Calls Tryz.prog 34 #[.pointer (some ⟨s, 0, none⟩)] w
    (Draw (StrLe 2000) s m 600 w) := by
  have hl := h.lt
  have HL := Lib.hid hlow
  clear hlow
  go_enter Tryz.func34, Tryz.ntmps34
  go_wp2_with fail
  refine (rightTree_any s m _ h (by omega)).mono ?_
  rintro e w1 ⟨v, rfl, ⟨v1, v2, l, d, rfl, hl4, hd6, hf, hA1, hA2, -, -⟩, hs1, hg1⟩
  have H1 := Lib.hid (And.intro hs1 hg1)
  have hlen := (tree_lines (tx_tree hf).1 (tx_tree hf).2).2.2
  have hA := Lib.hid (And.intro hA1 hA2)
  obtain ⟨a1, c1, rfl, -, -, -⟩ := hA1
  obtain ⟨a2, c2, rfl, -, -, -⟩ := hA2
  clear hs1 hg1
  go_wp2_with fail
  refine (treeLines_any _ _ l d _ hA.out.1 hA.out.2 (HL.out _ H1.out.2) hf (by omega)).mono ?_
  rintro e w2 ⟨rfl, hb2⟩
  have H2 := Lib.hid (And.intro (H1.out.1.below hb2 (Nat.le_refl _)) (grown_trans H1.out.2 (grown_below (some s) hb2)))
  obtain ⟨T, hT⟩ : ∃ T, T = bA (treeText l d) := ⟨_, rfl⟩
  have hTs : T.size ≤ 1260 := by rw [hT, size_bA]; omega
  rw [← hT]
  clear hT hb2 hA hf hlen
  go_wp2_with fail
  refine (pick_lit s _ [0, 0, 1, 2] _ H2.out.1 (by omega) (by simp) (by simp) (by first | rfl | simp) (by rfl) (by rfl)).mono ?_
  rintro e w3 ⟨v, rfl, ⟨r, rfl, hr⟩, hs3, hg3⟩
  have hrr : 0 ≤ r ∧ r ≤ 2 := by simp only [List.mem_cons, List.not_mem_nil, or_false] at hr; omega
  obtain ⟨n, rfl⟩ := Int.eq_ofNat_of_zero_le hrr.1
  have hn : n ≤ 2 := by omega
  have H3 := Lib.hid (And.intro hs3 (grown_trans H2.out.2 hg3))
  clear hs3 hg3 hr hrr
  go_wp2
  go_loopw [3, 10] (fun tv i wr => ∃ (k : Nat) (t : ByteArray), k ≤ n ∧ i = .int .i64 k ∧ tv = .string t ∧ t.size ≤ 1260 + 11 * k ∧ Strm wr s (m + 481 + 3 * k) ∧ w.grownBy wr (some s)) (fun _ i _ => n - (intOf i).toNat)
  case atStart => exact ⟨0, T, by omega, rfl, rfl, by omega, H3.out.1.mono (by omega), H3.out.2⟩
  case round =>
    obtain ⟨k, t, hk, rfl, rfl, hts, hst, hgr⟩ := hrel
    have HR := Lib.hid (And.intro hst hgr)
    clear hst hgr
    by_cases hlt : k < n
    · go_wp2_with fail
      refine (changed_any s _ t ⟨#[32, 10, 48, 49, 115, 100, 45]⟩ _ HR.out.1 (by omega) (by omega) (by decide)).mono ?_
      rintro e w4 ⟨v, rfl, ⟨t2, rfl, ht2⟩, hs4, hg4⟩
      have hsz : (⟨#[32, 10, 48, 49, 115, 100, 45]⟩ : ByteArray).size = 7 := rfl
      have H4 := Lib.hid (And.intro hs4 (grown_trans HR.out.2 hg4))
      have ht3 : t2.size ≤ 1260 + 11 * (k + 1) := by omega
      clear hs4 hg4 hsz ht2
      go_wp2
      exact ⟨⟨k + 1, t2, by omega, by go_num, rfl, ht3, H4.out.1.mono (by omega), H4.out.2⟩, by simp [intOf]; omega⟩
    · obtain rfl : k = n := by omega
      go_wp2
      go_ret
      exact ⟨_, rfl, ⟨t, rfl, by omega⟩, HR.out.1.mono (by omega), HR.out.2⟩
end Go.Proofs.YteliiknlpfjlkaaGreatDoor
