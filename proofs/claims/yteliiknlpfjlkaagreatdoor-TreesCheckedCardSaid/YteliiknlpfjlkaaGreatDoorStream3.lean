/- Walks of the stream: what draws lists of parts. -/
import Derived.Test.YteliiknlpfjlkaaGreatDoorStreamL
set_option linter.unusedVariables false
set_option linter.unusedSimpArgs false
namespace Go.Proofs.YteliiknlpfjlkaaGreatDoor
open Go Go.RowKit

theorem infoPart : (Tryz.prog.info? 54).map (fun i => (i.zero, i.size, i.bytes)) = some (some (.agg #[.int .i64 0, .int .i64 0]), 2, 16) := by kernel_rfl

set_option maxHeartbeats 1000000 in
set_option maxRecDepth 100000 in
theorem partListL_any (s m : Nat) (most : Nat) (w : World) (h : Strm w s m) (hm : m ≤ 100000) (hmost : most ≤ 100) : Calls Tryz.prog 7 #[.pointer (some ⟨s, 0, none⟩), .int .i64 most] w
    (Draw (fun v w => ∃ l : List Part, l.length ≤ most ∧ Arr Part.cells 2 w l v ∧ ∀ b off n cap, v = .slice (some ⟨b, off, none⟩) n cap → s < b) s m 1000 w) := by
  have hl := h.lt
  obtain ⟨i0, hi, hz0, hz1, hz2⟩ := info_parts infoPart
  go_enter Tryz.func7, Tryz.ntmps7
  go_wp2_with fail
  refine (range_any s m _ _ _ h (by omega) (by omega) (by omega) (by omega)).mono ?_
  rintro e w1 ⟨v, rfl, ⟨r, rfl, r0, r1⟩, hs1, hg1⟩
  obtain ⟨n, rfl⟩ := Int.eq_ofNat_of_zero_le r0
  have hn : n ≤ 100 := by omega
  have hnm : n ≤ most := by omega
  have HI := Lib.hid (And.intro hs1 hg1)
  clear hs1 hg1
  go_wp2
  go_loopw [5, 9] (fun v i wr => ∃ l : List Part, l.length ≤ n ∧ i = .int .i64 l.length ∧ wr.ownsRow w.heap.size 54 2 v l.length (l.flatMap Part.cells) ∧ Strm wr s (m + 1 + 9 * l.length) ∧ w.grownBy wr (some s)) (fun _ i _ => n - (intOf i).toNat)
  case atStart => exact ⟨[], by simp, rfl, World.ownsRow_nil _ _ _ _, HI.out.1, HI.out.2⟩
  case round =>
    obtain ⟨l, hk, rfl, hown, hs, hg⟩ := hrel
    have hsz : w.heap.size ≤ wr.heap.size := hg.size
    have HO := Lib.hid (And.intro hown hg)
    clear hown hg
    by_cases hlt : l.length < n
    · go_wp2_with fail
      refine (apart_any s (m + 1 + 9 * l.length) _ hs (by omega)).mono ?_
      rintro e w2 ⟨v, rfl, ⟨p, rfl, hp⟩, hs2, hg2⟩
      have l2 := hg2.size
      have HO2 := Lib.hid (own_grown HO.out.1 hg2 hl)
      have HG2 := Lib.hid (grown_trans HO.out.2 hg2)
      clear hp hs hg2 HO
      go_wp2_with ((at_builtin; go_must (refine wpList_append_own _ rfl _ _ 26 rfl _ 54 _ (.agg #[.int .i64 0, .int .i64 0]) 2 16 Tryz.underlying26 hi hz0 hz1 hz2 rfl (by decide) _ _ _ rfl (own_below HO2.out (by (repeat (first | exact Below.refl _ _ | assumption | refine below_draws ?_ _ | refine Below.drew ?_ | refine below_alloc ?_ _ (by first | omega | (simp; done) | (simp; omega)) | refine Below.setCell ?_ (by first | omega | (simp; done) | (simp; omega)) _ | refine below_at ?_ (by assumption) (by first | omega | (simp; done) | (simp; omega)))))) ⟨w2.heap.size, 0, none⟩ 1 1 [.int .i64 p.kind, .int .i64 p.amt] rfl rfl (by exact news_at (by first | rfl | simp) (by rfl)) (by simp [Value.oneCell']) (by unfold maxLen; omega) (by omega) (by first | omega | (simp; done) | (simp; omega)) ?_)); intro v' w3 hown3 hgrow _)
      refine ⟨⟨l ++ [p], by simp only [List.length_append, List.length_cons, List.length_nil]; omega, by simp, ?_, ?_, ?_⟩, by simp [intOf]; omega⟩
      · simp only [List.length_append, List.length_cons, List.length_nil, List.flatMap_append, List.flatMap_cons, List.flatMap_nil, List.append_nil]; exact hown3
      · refine (strm_app (hs2.alloc _) (own_below HO2.out (by (repeat (first | exact Below.refl _ _ | assumption | refine below_draws ?_ _ | refine Below.drew ?_ | refine below_alloc ?_ _ (by first | omega | (simp; done) | (simp; omega)) | refine Below.setCell ?_ (by first | omega | (simp; done) | (simp; omega)) _ | refine below_at ?_ (by assumption) (by first | omega | (simp; done) | (simp; omega)))))) hgrow hl).mono (by simp; omega)
      · exact grown_app (grown_alloc HG2.out _) (own_below HO2.out (by (repeat (first | exact Below.refl _ _ | assumption | refine below_draws ?_ _ | refine Below.drew ?_ | refine below_alloc ?_ _ (by first | omega | (simp; done) | (simp; omega)) | refine Below.setCell ?_ (by first | omega | (simp; done) | (simp; omega)) _ | refine below_at ?_ (by assumption) (by first | omega | (simp; done) | (simp; omega)))))) hgrow (Nat.le_refl _)
    · go_wp2
      go_ret
      exact ⟨_, rfl, ⟨l, by omega, Arr.of_own Part.cells_len HO.out.1, fun b off n cap e => Nat.lt_of_lt_of_le hl (HO.out.1.lt b (congrArg Value.ownBlock e)).1⟩, hs.mono (by omega), HO.out.2⟩
theorem partList_any (s m : Nat) (most : Nat) (w : World) (h : Strm w s m) (hm : m ≤ 100000) (hmost : most ≤ 100) : Calls Tryz.prog 7 #[.pointer (some ⟨s, 0, none⟩), .int .i64 most] w
    (Draw (NewArr Part.cells 2 s) s m 1000 w) :=
  (partListL_any s m most w h hm hmost).mono fun _ _ ⟨v, he, ⟨l, _, h1, h2⟩, hs, hg⟩ => ⟨v, he, ⟨l, h1, h2⟩, hs, hg⟩
end Go.Proofs.YteliiknlpfjlkaaGreatDoor
