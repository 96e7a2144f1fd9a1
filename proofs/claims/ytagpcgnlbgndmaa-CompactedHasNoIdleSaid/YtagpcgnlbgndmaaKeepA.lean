/- Walks: right parts drawn from the stream; a copy of parts. -/
import Derived.Test.YtagpcgnlbgndmaaStream3
import Derived.Test.YtagpcgnlbgndmaaRefB3
import Derived.Test.YtagpcgnlbgndmaaLibB
set_option linter.unusedVariables false
set_option linter.unusedSimpArgs false
namespace Go.Proofs.Ytagpcgnlbgndmaa
open Go Go.RowKit

theorem part_one (l : List Part) : ∀ u ∈ l.flatMap Part.cells, u.oneCell' = true := by
  intro u hu
  obtain ⟨c, _, hc⟩ := List.mem_flatMap.1 hu
  simp [Part.cells] at hc
  rcases hc with rfl | rfl <;> rfl
set_option maxHeartbeats 1000000 in
set_option maxRecDepth 100000 in
theorem clone_part (v : Value) (l : List Part) (w : World) (h : Arr Part.cells 2 w l v) (hl : l.length ≤ 100000000) : Calls Try.prog 54 #[v] w
    (Ret (fun v' w' => Cloned Part.cells 2 81 w.heap.size l v' w') w) := by
  have h' := h
  obtain ⟨a, cap, rfl, hcap, hmax, hc⟩ := h
  obtain ⟨i0, hi, hz0, hz1, hz2⟩ := info_parts infoPart
  have heq := fun (w : World) (a : Option Addr) (n c n' c' : Nat) => Lib.run_eql_slice_nil (P := Try.prog) w 26 81 a n c n' c' Try.underlying26
  cases a with
  | none =>
    have h0 : l = [] := by
      rcases Nat.eq_zero_or_pos l.length with h | h
      · exact List.length_eq_zero_iff.1 h
      · obtain ⟨_, _, e, _⟩ := hc 0 h; cases e
    subst h0
    go_enter Try.func54, Try.ntmps54
    go_wp2
    go_ret
    exact ⟨_, rfl, ⟨World.ownsRow_nil _ _ _ _, .inl ⟨rfl, rfl⟩⟩, by (repeat (first | exact Below.refl _ _ | assumption | refine below_draws ?_ _ | refine Below.drew ?_ | refine below_alloc ?_ _ (by first | omega | (simp; done) | (simp; omega)) | refine Below.setCell ?_ (by first | omega | (simp; done) | (simp; omega)) _ | refine below_at ?_ (by assumption) (by first | omega | (simp; done) | (simp; omega))))⟩
  | some ad =>
    have hnews := h'.news Part.cells_len
    have HN := Lib.hid hnews
    clear hnews hc h'
    have hsl : (l.flatMap Part.cells).length = l.length * 2 := flat_len Part.cells_len l
    have HSL := Lib.hid hsl
    clear hsl
    go_enter Try.func54, Try.ntmps54
    go_wp2_with (at_builtin; go_must (refine wpList_append_own _ rfl _ _ 26 rfl w.heap.size 81 _ _ 2 16 Try.underlying26 hi hz0 hz1 hz2 rfl (by decide) _ 0 [] rfl (World.ownsRow_lit w #[] 0 (Nat.le_refl _) (by simp [maxLen]) rfl) ad l.length cap (l.flatMap Part.cells) rfl HSL.out (fun j u hu => Lib.cell?_alloc_some _ (HN.out j u hu)) (part_one l) (by unfold maxLen; omega) (by omega) (by first | omega | (simp; done) | (simp; omega)) ?_); intro v' w1 hown1 hgrow hnil)
    go_ret
    refine ⟨_, rfl, ⟨?_, .inr ?_⟩, ?_⟩
    · have := hown1; rw [Nat.zero_add, List.nil_append] at this; exact this
    · exact own_form hown1 (fun e => by have := (hnil.1 e).1; cases this)
    · exact below_grown (by (repeat (first | exact Below.refl _ _ | assumption | refine below_draws ?_ _ | refine Below.drew ?_ | refine below_alloc ?_ _ (by first | omega | (simp; done) | (simp; omega)) | refine Below.setCell ?_ (by first | omega | (simp; done) | (simp; omega)) _ | refine below_at ?_ (by assumption) (by first | omega | (simp; done) | (simp; omega))))) (World.ownsRow_lit (e := 81) (size := 2) w #[] 0 (Nat.le_refl _) (by simp [maxLen]) rfl) hgrow (Nat.le_refl _) (by first | omega | (simp; done) | (simp; omega))

/-- parts that are right, at most so many -/
def RightP (s most : Nat) (v : Value) (w : World) : Prop := ∃ l : List Part, l.length ≤ most ∧ partsFault l = 0 ∧ Arr Part.cells 2 w l v ∧ ∀ b off n cap, v = .slice (some ⟨b, off, none⟩) n cap → s < b
set_option maxHeartbeats 1000000 in
set_option maxRecDepth 100000 in
theorem rightParts_any (s m : Nat) (most : Nat) (w : World) (h : Strm w s m) (hm : m ≤ 50000) (hmost : most ≤ 100) : Calls Try.prog 52 #[.pointer (some ⟨s, 0, none⟩), .int .i64 most] w
    (Draw (RightP s most) s m 6000 w) := by
  have hl := h.lt
  go_enter Try.func52, Try.ntmps52
  go_wp2
  go_loopw [6] (fun i wr => ∃ k : Nat, k ≤ 6 ∧ i = .int .i64 k ∧ Strm wr s (m + 1000 * k) ∧ w.grownBy wr (some s)) (fun i _ => 6 - (intOf i).toNat)
  case atStart => exact ⟨0, by omega, rfl, h, grown_self _ _⟩
  case round =>
    obtain ⟨k, hk, rfl, hs, hg⟩ := hrel
    have HS := Lib.hid (And.intro hs hg)
    clear hs hg
    by_cases hlt : k < 6
    · have hlt' : (k : Int) < 6 := by omega
      go_wp2_with fail
      refine (partListL_any s (m + 1000 * k) most _ HS.out.1 (by omega) hmost).mono ?_
      rintro e w1 ⟨v, rfl, ⟨l, hll, hA, hne⟩, hs1, hg1⟩
      have H1 := Lib.hid (And.intro hA (And.intro hne (And.intro hs1 hg1)))
      clear hA hne hs1 hg1
      go_wp2_with fail
      refine (rpartsFault_any _ l _ H1.out.1).mono ?_
      rintro e w2 ⟨rfl, hb2⟩
      have H2 := Lib.hid hb2
      clear hb2
      by_cases hf : partsFault l = 0
      · have hf1 : (partsFault l == 0) = true := by simp [hf]
        have HF := Lib.hid hf
        clear hf
        go_wp2
        go_ret
        exact ⟨_, rfl, ⟨l, hll, HF.out, H1.out.1.below H2.out, H1.out.2.1⟩, (H1.out.2.2.1.below H2.out (Nat.le_refl _)).mono (by omega), grown_trans HS.out.2 (grown_trans H1.out.2.2.2 (grown_below _ H2.out))⟩
      · have hf1 : (partsFault l == 0) = false := by simp [hf]
        clear hf
        go_wp2
        exact ⟨⟨k + 1, by omega, by go_num, (H1.out.2.2.1.below H2.out (Nat.le_refl _)).mono (by omega), grown_trans HS.out.2 (grown_trans H1.out.2.2.2 (grown_below _ H2.out))⟩, by simp [intOf]; omega⟩
    · have hge : ¬ (k : Int) < 6 := by omega
      go_wp2
      go_ret
      exact ⟨_, rfl, ⟨[], by simp, rfl, Arr.nil _ _ _, fun b off n cap e => by cases e⟩, HS.out.1.mono (by omega), HS.out.2⟩
end Go.Proofs.Ytagpcgnlbgndmaa
