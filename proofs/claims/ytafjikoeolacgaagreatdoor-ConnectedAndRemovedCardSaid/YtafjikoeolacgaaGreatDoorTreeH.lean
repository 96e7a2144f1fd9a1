/- Walks: copies of splitters, of drops, of trees; whether two trees that are the same are told so. -/
import Derived.Test.YtafjikoeolacgaaGreatDoorTreeG
import Derived.Test.YtafjikoeolacgaaGreatDoorKeepA
import Derived.RegionTactic
set_option linter.unusedVariables false
set_option linter.unusedSimpArgs false
namespace Go.Proofs.YtafjikoeolacgaaGreatDoor
open Go Go.RowKit

theorem splt_one (l : List Splt) : ∀ u ∈ l.flatMap Splt.cells, u.oneCell' = true := by
  intro u hu
  obtain ⟨c, _, hc⟩ := List.mem_flatMap.1 hu
  simp [Splt.cells] at hc
  rcases hc with rfl | rfl | rfl | rfl <;> rfl
theorem drp_one (l : List Drp) : ∀ u ∈ l.flatMap Drp.cells, u.oneCell' = true := by
  intro u hu
  obtain ⟨c, _, hc⟩ := List.mem_flatMap.1 hu
  simp [Drp.cells] at hc
  rcases hc with rfl | rfl | rfl <;> rfl
theorem infoDrpH : (Tryz.prog.info? 38).map (fun i => (i.zero, i.size, i.bytes)) = some (some (.agg #[.string ⟨#[]⟩, .string ⟨#[]⟩, .int .i64 0]), 3, 40) := by kernel_rfl
set_option maxHeartbeats 1000000 in
set_option maxRecDepth 100000 in
theorem clone_splt (v : Value) (l : List Splt) (w : World) (h : Arr Splt.cells 4 w l v) (hl : l.length ≤ 100000000) : Calls Tryz.prog 144 #[v] w
    (Ret (fun v' w' => Cloned Splt.cells 4 36 w.heap.size l v' w') w) := by
  have h' := h
  obtain ⟨a, cap, rfl, hcap, hmax, hc⟩ := h
  obtain ⟨i0, hi, hz0, hz1, hz2⟩ := info_parts infoSplt
  have heq := fun (w : World) (a : Option Addr) (n c n' c' : Nat) => Lib.run_eql_slice_nil (P := Tryz.prog) w 26 36 a n c n' c' Tryz.underlying26
  cases a with
  | none =>
    have h0 : l = [] := by
      rcases Nat.eq_zero_or_pos l.length with h | h
      · exact List.length_eq_zero_iff.1 h
      · obtain ⟨_, _, e, _⟩ := hc 0 h; cases e
    subst h0
    go_enter Tryz.func144, Tryz.ntmps144
    go_wp2
    go_ret
    exact ⟨_, rfl, ⟨World.ownsRow_nil _ _ _ _, .inl ⟨rfl, rfl⟩⟩, by (repeat (first | exact Below.refl _ _ | assumption | refine below_draws ?_ _ | refine Below.drew ?_ | refine below_alloc ?_ _ (by first | omega | (simp; done) | (simp; omega)) | refine Below.setCell ?_ (by first | omega | (simp; done) | (simp; omega)) _ | refine below_at ?_ (by assumption) (by first | omega | (simp; done) | (simp; omega))))⟩
  | some ad =>
    have hnews := h'.news Splt.cells_len
    have HN := Lib.hid hnews
    clear hnews hc h'
    have hsl : (l.flatMap Splt.cells).length = l.length * 4 := flat_len Splt.cells_len l
    have HSL := Lib.hid hsl
    clear hsl
    go_enter Tryz.func144, Tryz.ntmps144
    go_wp2_with (at_builtin; go_must (refine wpList_append_own _ rfl _ _ 26 rfl w.heap.size 36 _ _ 4 48 Tryz.underlying26 hi hz0 hz1 hz2 rfl (by decide) _ 0 [] rfl (World.ownsRow_lit w #[] 0 (Nat.le_refl _) (by simp [maxLen]) rfl) ad l.length cap (l.flatMap Splt.cells) rfl HSL.out (fun j u hu => Lib.cell?_alloc_some _ (HN.out j u hu)) (splt_one l) (by unfold maxLen; omega) (by omega) (by first | omega | (simp; done) | (simp; omega)) ?_); intro v' w1 hown1 hgrow hnil)
    go_ret
    refine ⟨_, rfl, ⟨?_, .inr ?_⟩, ?_⟩
    · have := hown1; rw [Nat.zero_add, List.nil_append] at this; exact this
    · exact own_form hown1 (fun e => by have := (hnil.1 e).1; cases this)
    · exact below_grown (by (repeat (first | exact Below.refl _ _ | assumption | refine below_draws ?_ _ | refine Below.drew ?_ | refine below_alloc ?_ _ (by first | omega | (simp; done) | (simp; omega)) | refine Below.setCell ?_ (by first | omega | (simp; done) | (simp; omega)) _ | refine below_at ?_ (by assumption) (by first | omega | (simp; done) | (simp; omega))))) (World.ownsRow_lit (e := 36) (size := 4) w #[] 0 (Nat.le_refl _) (by simp [maxLen]) rfl) hgrow (Nat.le_refl _) (by first | omega | (simp; done) | (simp; omega))
set_option maxHeartbeats 1000000 in
set_option maxRecDepth 100000 in
theorem clone_drp (v : Value) (l : List Drp) (w : World) (h : Arr Drp.cells 3 w l v) (hl : l.length ≤ 100000000) : Calls Tryz.prog 145 #[v] w
    (Ret (fun v' w' => Cloned Drp.cells 3 38 w.heap.size l v' w') w) := by
  have h' := h
  obtain ⟨a, cap, rfl, hcap, hmax, hc⟩ := h
  obtain ⟨i0, hi, hz0, hz1, hz2⟩ := info_parts infoDrpH
  have heq := fun (w : World) (a : Option Addr) (n c n' c' : Nat) => Lib.run_eql_slice_nil (P := Tryz.prog) w 27 38 a n c n' c' Tryz.underlying27
  cases a with
  | none =>
    have h0 : l = [] := by
      rcases Nat.eq_zero_or_pos l.length with h | h
      · exact List.length_eq_zero_iff.1 h
      · obtain ⟨_, _, e, _⟩ := hc 0 h; cases e
    subst h0
    go_enter Tryz.func145, Tryz.ntmps145
    go_wp2
    go_ret
    exact ⟨_, rfl, ⟨World.ownsRow_nil _ _ _ _, .inl ⟨rfl, rfl⟩⟩, by (repeat (first | exact Below.refl _ _ | assumption | refine below_draws ?_ _ | refine Below.drew ?_ | refine below_alloc ?_ _ (by first | omega | (simp; done) | (simp; omega)) | refine Below.setCell ?_ (by first | omega | (simp; done) | (simp; omega)) _ | refine below_at ?_ (by assumption) (by first | omega | (simp; done) | (simp; omega))))⟩
  | some ad =>
    have hnews := h'.news Drp.cells_len
    have HN := Lib.hid hnews
    clear hnews hc h'
    have hsl : (l.flatMap Drp.cells).length = l.length * 3 := flat_len Drp.cells_len l
    have HSL := Lib.hid hsl
    clear hsl
    go_enter Tryz.func145, Tryz.ntmps145
    go_wp2_with (at_builtin; go_must (refine wpList_append_own _ rfl _ _ 27 rfl w.heap.size 38 _ _ 3 40 Tryz.underlying27 hi hz0 hz1 hz2 rfl (by decide) _ 0 [] rfl (World.ownsRow_lit w #[] 0 (Nat.le_refl _) (by simp [maxLen]) rfl) ad l.length cap (l.flatMap Drp.cells) rfl HSL.out (fun j u hu => Lib.cell?_alloc_some _ (HN.out j u hu)) (drp_one l) (by unfold maxLen; omega) (by omega) (by first | omega | (simp; done) | (simp; omega)) ?_); intro v' w1 hown1 hgrow hnil)
    go_ret
    refine ⟨_, rfl, ⟨?_, .inr ?_⟩, ?_⟩
    · have := hown1; rw [Nat.zero_add, List.nil_append] at this; exact this
    · exact own_form hown1 (fun e => by have := (hnil.1 e).1; cases this)
    · exact below_grown (by (repeat (first | exact Below.refl _ _ | assumption | refine below_draws ?_ _ | refine Below.drew ?_ | refine below_alloc ?_ _ (by first | omega | (simp; done) | (simp; omega)) | refine Below.setCell ?_ (by first | omega | (simp; done) | (simp; omega)) _ | refine below_at ?_ (by assumption) (by first | omega | (simp; done) | (simp; omega))))) (World.ownsRow_lit (e := 38) (size := 3) w #[] 0 (Nat.le_refl _) (by simp [maxLen]) rfl) hgrow (Nat.le_refl _) (by first | omega | (simp; done) | (simp; omega))
set_option maxHeartbeats 1000000 in
set_option maxRecDepth 100000 in
theorem same_splt (v1 v2 : Value) (l : List Splt) (w : World) (h1 : Arr Splt.cells 4 w l v1) (h2 : Arr Splt.cells 4 w l v2) : Calls Tryz.prog 107 #[v1, v2] w
    fun e w' => e = .returned (.bool true) ∧ Below w.heap.size w w' := by
  obtain ⟨a, cap, rfl, hcap, hmax, hc⟩ := h1
  obtain ⟨a2, cap2, rfl, hcap2, hmax2, hc2⟩ := h2
  have hlen : l.length ≤ maxLen := by omega
  unfold maxLen at hlen hmax hmax2
  go_enter Tryz.func107, Tryz.ntmps107
  go_wp2
  go_loopw [13] (fun i wr => ∃ k : Nat, k ≤ l.length ∧ i = .int .i64 k ∧ Below w.heap.size w wr) (fun i _ => l.length - (intOf i).toNat)
  case atStart => exact ⟨0, by omega, rfl, Below.refl _ _⟩
  case round =>
    obtain ⟨k, hk, rfl, hB⟩ := hrel
    have hsz := hB.size
    by_cases hlt : k < l.length
    · obtain ⟨b, off, rfl, hb, hcc⟩ := hc k hlt
      obtain ⟨c0, c1, c2, c3⟩ := splt_at hcc
      replace c0 := (hB.cell (p := ⟨b, _, none⟩) hb).trans c0; replace c1 := (hB.cell (p := ⟨b, _, none⟩) hb).trans c1; replace c2 := (hB.cell (p := ⟨b, _, none⟩) hb).trans c2; replace c3 := (hB.cell (p := ⟨b, _, none⟩) hb).trans c3
      obtain ⟨b2, off2, rfl, hb2, hcc2⟩ := hc2 k hlt
      obtain ⟨d0, d1, d2, d3⟩ := splt_at hcc2
      replace d0 := (hB.cell (p := ⟨b2, _, none⟩) hb2).trans d0; replace d1 := (hB.cell (p := ⟨b2, _, none⟩) hb2).trans d1; replace d2 := (hB.cell (p := ⟨b2, _, none⟩) hb2).trans d2; replace d3 := (hB.cell (p := ⟨b2, _, none⟩) hb2).trans d3
      clear hc hcc hc2 hcc2
      go_wp2_with fail
      go_region
      go_wp2
      go_roundw
      case rel => exact ⟨k + 1, by omega, by go_num, by (repeat (first | exact Below.refl _ _ | assumption | refine below_draws ?_ _ | refine Below.drew ?_ | refine below_alloc ?_ _ (by first | omega | (simp; done) | (simp; omega)) | refine Below.setCell ?_ (by first | omega | (simp; done) | (simp; omega)) _ | refine below_at ?_ (by assumption) (by first | omega | (simp; done) | (simp; omega))))⟩
      case measure => simp [intOf]; omega
    · go_wp2
      go_ret
      exact ⟨rfl, by (repeat (first | exact Below.refl _ _ | assumption | refine below_draws ?_ _ | refine Below.drew ?_ | refine below_alloc ?_ _ (by first | omega | (simp; done) | (simp; omega)) | refine Below.setCell ?_ (by first | omega | (simp; done) | (simp; omega)) _ | refine below_at ?_ (by assumption) (by first | omega | (simp; done) | (simp; omega))))⟩
set_option maxHeartbeats 1000000 in
set_option maxRecDepth 100000 in
theorem same_drp (v1 v2 : Value) (l : List Drp) (w : World) (h1 : Arr Drp.cells 3 w l v1) (h2 : Arr Drp.cells 3 w l v2) : Calls Tryz.prog 108 #[v1, v2] w
    fun e w' => e = .returned (.bool true) ∧ Below w.heap.size w w' := by
  obtain ⟨a, cap, rfl, hcap, hmax, hc⟩ := h1
  obtain ⟨a2, cap2, rfl, hcap2, hmax2, hc2⟩ := h2
  have hlen : l.length ≤ maxLen := by omega
  unfold maxLen at hlen hmax hmax2
  go_enter Tryz.func108, Tryz.ntmps108
  go_wp2
  go_loopw [13] (fun i wr => ∃ k : Nat, k ≤ l.length ∧ i = .int .i64 k ∧ Below w.heap.size w wr) (fun i _ => l.length - (intOf i).toNat)
  case atStart => exact ⟨0, by omega, rfl, Below.refl _ _⟩
  case round =>
    obtain ⟨k, hk, rfl, hB⟩ := hrel
    have hsz := hB.size
    by_cases hlt : k < l.length
    · obtain ⟨b, off, rfl, hb, hcc⟩ := hc k hlt
      obtain ⟨c0, c1, c2⟩ := drp_at hcc
      replace c0 := (hB.cell (p := ⟨b, _, none⟩) hb).trans c0; replace c1 := (hB.cell (p := ⟨b, _, none⟩) hb).trans c1; replace c2 := (hB.cell (p := ⟨b, _, none⟩) hb).trans c2
      obtain ⟨b2, off2, rfl, hb2, hcc2⟩ := hc2 k hlt
      obtain ⟨d0, d1, d2⟩ := drp_at hcc2
      replace d0 := (hB.cell (p := ⟨b2, _, none⟩) hb2).trans d0; replace d1 := (hB.cell (p := ⟨b2, _, none⟩) hb2).trans d1; replace d2 := (hB.cell (p := ⟨b2, _, none⟩) hb2).trans d2
      clear hc hcc hc2 hcc2
      go_wp2_with fail
      go_region
      go_wp2
      go_roundw
      case rel => exact ⟨k + 1, by omega, by go_num, by (repeat (first | exact Below.refl _ _ | assumption | refine below_draws ?_ _ | refine Below.drew ?_ | refine below_alloc ?_ _ (by first | omega | (simp; done) | (simp; omega)) | refine Below.setCell ?_ (by first | omega | (simp; done) | (simp; omega)) _ | refine below_at ?_ (by assumption) (by first | omega | (simp; done) | (simp; omega))))⟩
      case measure => simp [intOf]; omega
    · go_wp2
      go_ret
      exact ⟨rfl, by (repeat (first | exact Below.refl _ _ | assumption | refine below_draws ?_ _ | refine Below.drew ?_ | refine below_alloc ?_ _ (by first | omega | (simp; done) | (simp; omega)) | refine Below.setCell ?_ (by first | omega | (simp; done) | (simp; omega)) _ | refine below_at ?_ (by assumption) (by first | omega | (simp; done) | (simp; omega))))⟩

set_option maxHeartbeats 1000000 in
theorem sameTree_any (v1 v2 u1 u2 : Value) (l : List Splt) (d : List Drp) (w : World) (h1 : Arr Splt.cells 4 w l v1) (h2 : Arr Drp.cells 3 w d v2) (g1 : Arr Splt.cells 4 w l u1) (g2 : Arr Drp.cells 3 w d u2) : Calls Tryz.prog 45 #[.agg #[v1, v2], .agg #[u1, u2]] w
    fun e w' => e = .returned (.bool true) ∧ Below w.heap.size w w' := by
  have HA := Lib.hid (And.intro h1 (And.intro h2 (And.intro g1 g2)))
  clear h1 h2 g1 g2
  go_enter Tryz.func45, Tryz.ntmps45
  go_wp2_with fail
  refine (same_splt _ _ l _ (by exact HA.out.1.below (by (repeat (first | exact Below.refl _ _ | assumption | refine below_draws ?_ _ | refine Below.drew ?_ | refine below_alloc ?_ _ (by first | omega | (simp; done) | (simp; omega)) | refine Below.setCell ?_ (by first | omega | (simp; done) | (simp; omega)) _ | refine below_at ?_ (by assumption) (by first | omega | (simp; done) | (simp; omega)))))) (by exact HA.out.2.2.1.below (by (repeat (first | exact Below.refl _ _ | assumption | refine below_draws ?_ _ | refine Below.drew ?_ | refine below_alloc ?_ _ (by first | omega | (simp; done) | (simp; omega)) | refine Below.setCell ?_ (by first | omega | (simp; done) | (simp; omega)) _ | refine below_at ?_ (by assumption) (by first | omega | (simp; done) | (simp; omega))))))).mono ?_
  rintro e w1 ⟨rfl, hb1⟩
  have hz1 := hb1.size
  simp only [World.size_alloc] at hz1
  have hB1 : Below w.heap.size w w1 := by (repeat (first | exact Below.refl _ _ | assumption | refine below_draws ?_ _ | refine Below.drew ?_ | refine below_alloc ?_ _ (by first | omega | (simp; done) | (simp; omega)) | refine Below.setCell ?_ (by first | omega | (simp; done) | (simp; omega)) _ | refine below_at ?_ (by assumption) (by first | omega | (simp; done) | (simp; omega))))
  have k1 := ((Blk.new w #[v1, v2] 29).alloc (.cells #[u1, u2] 29)).below hb1 (by simp; omega)
  have k2 := (Blk.newAt (w := w.alloc (.cells #[v1, v2] 29)) (b := w.heap.size + 1) (cs := #[u1, u2]) (t := 29) (by simp)).below hb1 (by simp)
  have a0 := k1.cell 1 _ rfl
  have a1 := k2.cell 1 _ rfl
  have l1 := k1.lt
  have l2 := k2.lt
  clear hb1 k1 k2
  go_wp2_with fail
  refine (same_drp _ _ d _ (by exact HA.out.2.1.below hB1) (by exact HA.out.2.2.2.below hB1)).mono ?_
  rintro e w2 ⟨rfl, hb2⟩
  go_wp2
  go_ret
  exact ⟨rfl, by (repeat (first | exact Below.refl _ _ | assumption | refine below_draws ?_ _ | refine Below.drew ?_ | refine below_alloc ?_ _ (by first | omega | (simp; done) | (simp; omega)) | refine Below.setCell ?_ (by first | omega | (simp; done) | (simp; omega)) _ | refine below_at ?_ (by assumption) (by first | omega | (simp; done) | (simp; omega))))⟩
theorem own_setOtherH {W : World} {B sz n : Nat} {e : TypeId} {v : Value} {xs : List Value} (h : W.ownsRow B e sz v n xs) {c : Nat} (hc : c < B) (o : Nat) (u : Value) : (W.setCell ⟨c, o, none⟩ u).ownsRow B e sz v n xs := by
  refine h.kept (row := some c) (grown_setCells c [u] o W) ?_
  cases hv : v.ownBlock with
  | none => exact .inl rfl
  | some k => right; have := (h.lt k hv).1; simp; omega
theorem own_baseH {B B' : Nat} {W : World} {v : Value} {e : TypeId} {n sz : Nat} {xs : List Value} (h : W.ownsRow B e sz v n xs) (hB : B' ≤ B) : W.ownsRow B' e sz v n xs := by
  rcases h with ⟨h0, h1 | ⟨g, cap, cur, hv, hg, hr⟩⟩
  · exact ⟨h0, .inl h1⟩
  · exact ⟨h0, .inr ⟨g, cap, cur, hv, Nat.le_trans hB hg, hr⟩⟩
theorem own_sliceH {W : World} {B sz n : Nat} {e : TypeId} {v : Value} {xs : List Value} (h : W.ownsRow B e sz v n xs) : ∃ a cap, v = .slice a n cap := by
  rcases h.2 with ⟨hv, h0⟩ | ⟨g, cap, cur, rfl, _⟩
  · exact ⟨none, 0, by rw [hv, h0]⟩
  · exact ⟨_, cap, rfl⟩
/-- a tree in memory of its own -/
def CopyPost (l : List Splt) (d : List Drp) (w : World) (e : Ending) (w' : World) : Prop := ∃ v1 v2, e = .returned (.agg #[v1, v2]) ∧
  w'.ownsRow w.heap.size 36 4 v1 l.length (l.flatMap Splt.cells) ∧ w'.ownsRow w.heap.size 38 3 v2 d.length (d.flatMap Drp.cells) ∧ (∀ k, v1.ownBlock = some k → v2.ownBlock ≠ some k) ∧ Below w.heap.size w w'
set_option maxHeartbeats 4000000 in
set_option maxRecDepth 100000 in
theorem copied_any (v1 v2 : Value) (l : List Splt) (d : List Drp) (w : World) (h1 : Arr Splt.cells 4 w l v1) (h2 : Arr Drp.cells 3 w d v2) (hl : l.length ≤ 1000000) (hd : d.length ≤ 1000000) : Calls Tryz.prog 112 #[.agg #[v1, v2]] w (CopyPost l d w) := by
  have HA := Lib.hid (And.intro h1 h2)
  obtain ⟨a1, cap1, rfl, -, -, -⟩ := h1
  obtain ⟨a2, cap2, rfl, -, -, -⟩ := h2
  go_enter Tryz.func112, Tryz.ntmps112
  go_wp2_with fail
  go_region_held3 (fun w' => w'.cell? ⟨w.heap.size, 0, none⟩ = some (.slice a1 l.length cap1) ∧ w'.cell? ⟨w.heap.size, 1, none⟩ = some (.slice a2 d.length cap2)) (go_keep)
    (first
      | (go_at_call 144; refine (clone_splt _ l _ ?_ (by omega)).mono ?_; (exact HA.out.1.below (by (repeat (first | exact Below.refl _ _ | assumption | refine below_draws ?_ _ | refine Below.drew ?_ | refine below_alloc ?_ _ (by first | omega | (simp; done) | (simp; omega)) | refine Below.setCell ?_ (by first | omega | (simp; done) | (simp; omega)) _ | refine below_at ?_ (by assumption) (by first | omega | (simp; done) | (simp; omega)))))); rintro e w1 ⟨u1, rfl, hcl1, hb1⟩; have hz1 := hb1.size; (try simp at hz1); have hc1 := bcellAt hb1 w.heap.size (by first | omega | (simp; done) | (simp; omega)); have hd1 := bcellAt hb1 (w.heap.size + 1) (by first | omega | (simp; done) | (simp; omega)); have hf1 := bfreeAt hb1 (w.heap.size + 1) (by first | omega | (simp; done) | (simp; omega)); obtain ⟨b1, k1, rfl⟩ := own_sliceH hcl1.1)
      | (go_at_call 145; refine (clone_drp _ d _ ?_ (by omega)).mono ?_; (exact HA.out.2.below (by (repeat (first | exact Below.refl _ _ | assumption | refine below_draws ?_ _ | refine Below.drew ?_ | refine below_alloc ?_ _ (by first | omega | (simp; done) | (simp; omega)) | refine Below.setCell ?_ (by first | omega | (simp; done) | (simp; omega)) _ | refine below_at ?_ (by assumption) (by first | omega | (simp; done) | (simp; omega)))))); rintro e w2 ⟨u2, rfl, hcl2, hb2⟩; have hz2 := hb2.size; have hc2 := bcellAt hb2 w.heap.size (by first | omega | (simp; done) | (simp; omega)); have hd2 := bcellAt hb2 (w.heap.size + 1) (by first | omega | (simp; done) | (simp; omega)); have hf2 := bfreeAt hb2 (w.heap.size + 1) (by first | omega | (simp; done) | (simp; omega)); obtain ⟨b2, k2, rfl⟩ := own_sliceH hcl2.1))
  have o1 := own_below hcl1.1 hb2
  have o2 := hcl2.1
  have lt1 := hcl1.1.lt
  have lt2 := hcl2.1.lt
  have ge1 : w.heap.size + 2 ≤ (((w.alloc (.cells #[.slice a1 l.length cap1, .slice a2 d.length cap2] 29)).alloc (.cells #[.slice none 0 0, .slice none 0 0] 29)).drew).heap.size := by simp
  have r0 : w2.cell? ⟨w.heap.size + 1, 0, none⟩ = some (.slice none 0 0) := by rw [hd2, hd1]; exact (Blk.newAt (w := w.alloc _) (b := w.heap.size + 1) (cs := #[.slice none 0 0, .slice none 0 0]) (t := 29) (by simp)).cell 0 _ rfl
  have r1 : w2.cell? ⟨w.heap.size + 1, 1, none⟩ = some (.slice none 0 0) := by rw [hd2, hd1]; exact (Blk.newAt (w := w.alloc _) (b := w.heap.size + 1) (cs := #[.slice none 0 0, .slice none 0 0]) (t := 29) (by simp)).cell 1 _ rfl
  have hB : Below w.heap.size w w2 := by (repeat (first | exact Below.refl _ _ | assumption | refine below_draws ?_ _ | refine Below.drew ?_ | refine below_alloc ?_ _ (by first | omega | (simp; done) | (simp; omega)) | refine Below.setCell ?_ (by first | omega | (simp; done) | (simp; omega)) _ | refine below_at ?_ (by assumption) (by first | omega | (simp; done) | (simp; omega))))
  have H := Lib.hid (And.intro o1 (And.intro o2 (And.intro lt1 (And.intro lt2 (And.intro hB ge1)))))
  clear o1 o2 lt1 lt2 hB ge1 hcl1 hcl2 hb1 hb2 hc1 hd1 hf1 hc2 hd2 hf2
  go_wp2
  refine bodyPost_ret (v := .agg #[.slice b1 l.length k1, .slice b2 d.length k2]) ?_ rfl ⟨_, _, rfl, ?_, ?_, ?_, ?_⟩
  · simp [results, go_sem, r0, r1]
  · refine own_baseH (own_setOtherH (own_setOtherH H.out.1 ?_ _ _) ?_ _ _) ?_
    · have := H.out.2.2.2.2.2; omega
    · have := H.out.2.2.2.2.2; omega
    · have := H.out.2.2.2.2.2; omega
  · exact own_baseH (own_setOtherH (own_setOtherH H.out.2.1 (by omega) _ _) (by omega) _ _) (by omega)
  · intro k e1 e2
    have h1 := (H.out.2.2.1 k e1).2
    have h2 := (H.out.2.2.2.1 k e2).1
    omega
  · have := H.out.2.2.2.2.1
    (repeat (first | exact Below.refl _ _ | assumption | refine below_draws ?_ _ | refine Below.drew ?_ | refine below_alloc ?_ _ (by first | omega | (simp; done) | (simp; omega)) | refine Below.setCell ?_ (by first | omega | (simp; done) | (simp; omega)) _ | refine below_at ?_ (by assumption) (by first | omega | (simp; done) | (simp; omega))))
end Go.Proofs.YtafjikoeolacgaaGreatDoor
