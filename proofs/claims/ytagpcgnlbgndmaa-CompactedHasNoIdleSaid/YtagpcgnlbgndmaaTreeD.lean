/- Walk of package tree: what is wrong with a tree. -/
import Derived.Test.YtagpcgnlbgndmaaTreeC
set_option linter.unusedVariables false
set_option linter.unusedSimpArgs false
namespace Go.Proofs.Ytagpcgnlbgndmaa
open Go Go.RowKit

/-- the state inside a round over the splitters -/
structure CSt (w : World) (xb : Nat) (c0 c1 : Value) (x : Splt) (W : World) : Prop where
  b2 : Below w.heap.size w W
  bx : Blk W w.heap.size #[c0, c1] 89
  xx : Blk W xb #[.string x.key, .int .i64 x.ways, .string x.par, .int .i64 x.port] 92
set_option maxHeartbeats 8000000 in
set_option maxRecDepth 100000 in
theorem checkTree_any (v1 v2 : Value) (l : List Splt) (d : List Drp) (w : World) (h : Arr Splt.cells 4 w l v1) (hd : Arr Drp.cells 3 w d v2) : Calls Try.prog 69 #[.agg #[v1, v2]] w
    fun e w' => e = .returned (.int .i64 (treeF l d)) ∧ Below w.heap.size w w' := by
  have hA := h
  have hD := hd
  obtain ⟨a, cap, rfl, hcap, hmax, hc⟩ := h
  obtain ⟨a2, cap2, rfl, hcap2, hmax2, hc2⟩ := hd
  unfold maxLen at hmax hmax2
  have HA := Lib.hid (And.intro hA hD)
  have HC := Lib.hid hc
  clear hA hD hc hc2
  have hbx : Blk (w.alloc (.cells #[.slice a l.length cap, .slice a2 d.length cap2] 89)) w.heap.size #[.slice a l.length cap, .slice a2 d.length cap2] 89 := Blk.new _ _ _
  have HBX := Lib.hid hbx
  clear hbx
  by_cases hbig : 500 < l.length
  · have hR : treeF l d = 2 := by unfold treeF spltsFault; rw [if_pos hbig, if_pos (by omega)]
    have HR := Lib.hid hR
    clear hR
    go_enter Try.func69, Try.ntmps69
    go_wp2
    go_ret
    exact ⟨ret_int HR.out.symm, by (repeat (first | exact Below.refl _ _ | assumption | refine below_draws ?_ _ | refine Below.drew ?_ | refine below_alloc ?_ _ (by first | omega | (simp; done) | (simp; omega)) | refine Below.setCell ?_ (by first | omega | (simp; done) | (simp; omega)) _ | refine below_at ?_ (by assumption) (by first | omega | (simp; done) | (simp; omega))))⟩
  have hl5 : l.length ≤ 500 := by omega
  go_enter Try.func69, Try.ntmps69
  go_wp2
  go_loopw [13] (fun i wr => ∃ k : Nat, k ≤ l.length ∧ i = .int .i64 k ∧ faultAt (spltFault l) k = 0 ∧ Below (w.heap.size + 1) (w.alloc (.cells #[.slice a l.length cap, .slice a2 d.length cap2] 89)) wr) (fun i _ => l.length - (intOf i).toNat)
  case atStart => exact ⟨0, by omega, rfl, rfl, Below.refl _ _⟩
  case round =>
    obtain ⟨k, hk, rfl, hz, hB⟩ := hrel
    have hsz := hB.size
    simp only [World.size_alloc] at hsz
    have hBw : Below w.heap.size w wr := below_at (below_alloc (Below.refl _ _) _ (Nat.le_refl _)) hB (by omega)
    have hbw := HBX.out.below hB (by omega)
    have t0 := hbw.cell 0 _ rfl
    have t1 := hbw.cell 1 _ rfl
    have HS := Lib.hid (And.intro hz (And.intro hB (And.intro hBw hbw)))
    have hlt0 : w.heap.size < wr.heap.size := by omega
    clear hz hB hBw hbw
    by_cases hlt : k < l.length
    · obtain ⟨b, off, rfl, hb, hcc⟩ := HC.out k hlt
      obtain ⟨c0, c1, c2, c3⟩ := splt_at hcc
      replace c0 := (HS.out.2.2.1.cell (p := ⟨b, _, none⟩) hb).trans c0
      replace c1 := (HS.out.2.2.1.cell (p := ⟨b, _, none⟩) hb).trans c1
      replace c2 := (HS.out.2.2.1.cell (p := ⟨b, _, none⟩) hb).trans c2
      replace c3 := (HS.out.2.2.1.cell (p := ⟨b, _, none⟩) hb).trans c3
      clear hcc
      have HFF : Hid (∀ n : Int, n ≠ 0 → spltFault l k = n → Hid (treeF l d = n)) := fun n hn hp => by
        have h1 := faultAt_hit hlt HS.out.1 (by rw [hp]; exact hn)
        unfold treeF spltsFault
        rw [if_neg hbig, h1, if_pos (by rw [hp]; exact hn), hp]
        exact rfl
      have HDK := Lib.hid (spltFault_in hlt)
      have hB9 : Below w.heap.size w (wr.alloc (.cells #[.string l[k].key, .int .i64 l[k].ways, .string l[k].par, .int .i64 l[k].port] 92)) := by have h3 := HS.out.2.2.1; (repeat (first | exact Below.refl _ _ | assumption | refine below_draws ?_ _ | refine Below.drew ?_ | refine below_alloc ?_ _ (by first | omega | (simp; done) | (simp; omega)) | refine Below.setCell ?_ (by first | omega | (simp; done) | (simp; omega)) _ | refine below_at ?_ (by assumption) (by first | omega | (simp; done) | (simp; omega))))
      have HB9 := Lib.hid hB9
      clear hB9
      cases hkey : keyB l[k].key
      · have HR9 := HFF.out 5 (by omega) (by rw [HDK.out, if_pos hkey])
        go_wp2_with (first | (go_at_call 133; refine (key_any _ _).mono ?_; rintro e w' ⟨rfl, rfl⟩) | (go_at_call 134; refine (ways_any _ _).mono ?_; rintro e w' ⟨rfl, rfl⟩))
        go_ret
        exact ⟨ret_int HR9.out.symm, HB9.out⟩
      cases hway : waysB l[k].ways
      · have HR9 := HFF.out 1 (by omega) (by rw [HDK.out, if_neg (by simp [hkey]), if_pos hway])
        go_wp2_with (first | (go_at_call 133; refine (key_any _ _).mono ?_; rintro e w' ⟨rfl, rfl⟩) | (go_at_call 134; refine (ways_any _ _).mono ?_; rintro e w' ⟨rfl, rfl⟩))
        go_ret
        exact ⟨ret_int HR9.out.symm, HB9.out⟩
      rcases (show (l[k].par.size = 0 ∧ l[k].port ≠ 0) ∨ (l[k].par.size = 0 ∧ l[k].port = 0) ∨ l[k].par.size ≠ 0 by omega) with ⟨g1, g2⟩ | hgood
      · have HR9 := HFF.out 3 (by omega) (by rw [HDK.out, if_neg (by simp [hkey]), if_neg (by simp [hway]), if_pos ⟨g1, g2⟩])
        have he : l[k].par.toList.isEmpty = true := by rw [isEmpty_size]; simp [g1]
        have hp : (l[k].port != 0) = true := by simp [g2]
        clear g1 g2
        go_wp2_with (first | (go_at_call 133; refine (key_any _ _).mono ?_; rintro e w' ⟨rfl, rfl⟩) | (go_at_call 134; refine (ways_any _ _).mono ?_; rintro e w' ⟨rfl, rfl⟩))
        go_ret
        exact ⟨ret_int HR9.out.symm, HB9.out⟩
      have hdk2 : spltFault l k = if 0 < k ∧ leB l[k].key (l[k - 1]?.getD default).key = true then 7 else 0 := by
        rw [HDK.out, if_neg (by simp [hkey]), if_neg (by simp [hway]), if_neg (by omega)]
      have HDK2 := Lib.hid hdk2
      clear hdk2
      have hgo : (l[k].par.toList.isEmpty = true ∧ (l[k].port != 0) = false) ∨ l[k].par.toList.isEmpty = false := by
        rcases hgood with ⟨g1, g2⟩ | g1
        · exact .inl ⟨by rw [isEmpty_size]; simp [g1], by simp [g2]⟩
        · exact .inr (by rw [isEmpty_size]; simp [g1])
      clear hgood
      by_cases hk0 : k = 0
      · have hd0 : decide ((0 : Int) < (k : Int)) = false := by simp; omega
        have hd1 : decide (0 < k) = false := by simp; omega
        have HN : Hid (faultAt (spltFault l) (k + 1) = 0) := by rw [faultAt_succ HS.out.1, HDK2.out, if_neg (by omega)]; exact rfl
        clear hk0
        rcases hgo with ⟨he, hp⟩ | he
        all_goals
          go_wp2_with (first | (go_at_call 133; refine (key_any _ _).mono ?_; rintro e w' ⟨rfl, rfl⟩) | (go_at_call 134; refine (ways_any _ _).mono ?_; rintro e w' ⟨rfl, rfl⟩))
          go_quiet (fail)
          go_wp2
          exact ⟨⟨k + 1, by omega, by go_num, HN.out, below_draws (below_alloc HS.out.2.1 _ (by omega)) _⟩, by simp [intOf]; omega⟩
      · have hd0 : decide ((0 : Int) < (k : Int)) = true := by simp; omega
        have hd1 : decide (0 < k) = true := by simp; omega
        have hk1 : 1 ≤ k := by omega
        have hpl : k - 1 < l.length := by omega
        have hpg : (l[k - 1]?.getD default) = l[k - 1] := by rw [List.getElem?_eq_getElem hpl]; rfl
        have HPG := Lib.hid hpg
        obtain ⟨b'', off'', hbe, hbb'', hcc⟩ := HC.out (k - 1) hpl
        obtain ⟨rfl, rfl⟩ : b = b'' ∧ off = off'' := by simpa using hbe
        obtain ⟨e0, -, -, -⟩ := splt_at hcc
        replace e0 := (HS.out.2.2.1.cell (p := ⟨b, _, none⟩) hb).trans e0
        clear hcc hbe hpg hk0
        have hi1 : (0 : Int) ≤ (k : Int) - 1 := by omega
        have hi2 : (k : Int) - 1 < (l.length : Int) := by omega
        have hbsz : b < wr.heap.size := Nat.lt_of_lt_of_le hb (by omega)
        cases hle : leB l[k].key l[k - 1].key
        · have HN : Hid (faultAt (spltFault l) (k + 1) = 0) := by
            rw [faultAt_succ HS.out.1, HDK2.out, HPG.out, if_neg (by simp [hle])]; exact rfl
          have hle' : (Op.bytesLess l[k].key.toList l[k - 1].key.toList || l[k].key.toList == l[k - 1].key.toList) = false := hle
          clear hle
          rcases hgo with ⟨he, hp⟩ | he
          all_goals
            go_wp2_with (first | (go_at_call 133; refine (key_any _ _).mono ?_; rintro e w' ⟨rfl, rfl⟩) | (go_at_call 134; refine (ways_any _ _).mono ?_; rintro e w' ⟨rfl, rfl⟩))
            go_quiet (fail)
            go_wp2
            exact ⟨⟨k + 1, by omega, by go_num, HN.out, below_draws (below_alloc HS.out.2.1 _ (by omega)) _⟩, by simp [intOf]; omega⟩
        · have HR9 := HFF.out 7 (by omega) (by rw [HDK2.out, HPG.out, if_pos ⟨by omega, hle⟩])
          have hle' : (Op.bytesLess l[k].key.toList l[k - 1].key.toList || l[k].key.toList == l[k - 1].key.toList) = true := hle
          clear hle
          rcases hgo with ⟨he, hp⟩ | he
          all_goals
            go_wp2_with (first | (go_at_call 133; refine (key_any _ _).mono ?_; rintro e w' ⟨rfl, rfl⟩) | (go_at_call 134; refine (ways_any _ _).mono ?_; rintro e w' ⟨rfl, rfl⟩))
            go_quiet (fail)
            go_wp2
            go_ret
            exact ⟨ret_int HR9.out.symm, below_draws HB9.out _⟩
    · obtain rfl : k = l.length := by omega
      have ok := sok_of hl5 HS.out.1
      have HOK := Lib.hid ok
      have hsp : spltsFault l = 0 := by unfold spltsFault; rw [if_neg hbig]; exact HS.out.1
      have HSP := Lib.hid hsp
      clear ok hsp
      go_wp2_with fail
      refine (parentsFault_any _ _ l _ (by exact HA.out.1.below (by have h3 := HS.out.2.2.1; (repeat (first | exact Below.refl _ _ | assumption | refine below_draws ?_ _ | refine Below.drew ?_ | refine below_alloc ?_ _ (by first | omega | (simp; done) | (simp; omega)) | refine Below.setCell ?_ (by first | omega | (simp; done) | (simp; omega)) _ | refine below_at ?_ (by assumption) (by first | omega | (simp; done) | (simp; omega)))))) hl5 HOK.out.rise HOK.out.keys).mono ?_
      rintro e w2 ⟨rfl, hb2⟩
      have hz2 := hb2.size
      have hBw2 : Below w.heap.size w w2 := by have h3 := HS.out.2.2.1; (repeat (first | exact Below.refl _ _ | assumption | refine below_draws ?_ _ | refine Below.drew ?_ | refine below_alloc ?_ _ (by first | omega | (simp; done) | (simp; omega)) | refine Below.setCell ?_ (by first | omega | (simp; done) | (simp; omega)) _ | refine below_at ?_ (by assumption) (by first | omega | (simp; done) | (simp; omega))))
      have hbx2 := HS.out.2.2.2.below hb2 hlt0
      have p0 := hbx2.cell 0 _ rfl
      have p1 := hbx2.cell 1 _ rfl
      have HB2 := Lib.hid (And.intro hBw2 hbx2)
      clear hBw2 hbx2 t0 t1
      by_cases hp0 : parentsF l = 0
      · have hp1 : (parentsF l != 0) = false := by simp [hp0]
        have HR9 : Hid (treeF l d = dropsF l d) := by unfold treeF; rw [if_neg (by have := HSP.out; omega), if_neg (by omega)]; exact rfl
        have HP := Lib.hid (parentsF_zero hp0)
        clear hp0
        go_wp2_with fail
        refine (dropsFault_any _ _ l d _ (by exact HA.out.1.below HB2.out.1) (by exact HA.out.2.below HB2.out.1) HOK.out HP.out.1).mono ?_
        rintro e w3 ⟨rfl, hb3⟩
        go_wp2
        go_ret
        exact ⟨ret_int HR9.out.symm, by have h3 := HB2.out.1; have h4 := h3.size; (repeat (first | exact Below.refl _ _ | assumption | refine below_draws ?_ _ | refine Below.drew ?_ | refine below_alloc ?_ _ (by first | omega | (simp; done) | (simp; omega)) | refine Below.setCell ?_ (by first | omega | (simp; done) | (simp; omega)) _ | refine below_at ?_ (by assumption) (by first | omega | (simp; done) | (simp; omega))))⟩
      · have hp1 : (parentsF l != 0) = true := by simp [hp0]
        have HR9 : Hid (treeF l d = parentsF l) := by unfold treeF; rw [if_neg (by have := HSP.out; omega), if_pos hp0]; exact rfl
        clear hp0
        go_wp2
        go_ret
        exact ⟨ret_int HR9.out.symm, HB2.out.1⟩
end Go.Proofs.Ytagpcgnlbgndmaa
