/- Walk of package tree: what is wrong with the drops of a tree. -/
import Derived.Test.YtagpcgnlbgndmaaTreeB
import Derived.Test.YtagpcgnlbgndmaaKeys
set_option linter.unusedVariables false
set_option linter.unusedSimpArgs false
namespace Go.Proofs.Ytagpcgnlbgndmaa
open Go Go.RowKit
open Go.Maps (Keyed)

/-- the state inside a round over the drops -/
structure DSt (w W0 : World) (xb k : Nat) (c0 c1 : Value) (x : Drp) (p : PortK → Bool) (W : World) : Prop where
  b1 : Below (w.heap.size + 1) W0 W
  b2 : Below w.heap.size w W
  bx : Blk W w.heap.size #[c0, c1] 89
  xx : Blk W xb #[.string x.cust, .string x.spl, .int .i64 x.port] 110
  m : PMap W (w.heap.size + 1) k p
theorem DSt.drewN {w W0 W : World} {xb k : Nat} {c0 c1 : Value} {x : Drp} {p : PortK → Bool} (h : DSt w W0 xb k c0 c1 x p W) (n : Nat) : DSt w W0 xb k c0 c1 x p (W.drewN n) :=
  ⟨below_draws h.b1 n, below_draws h.b2 n, h.bx.drewN n, h.xx.drewN n, h.m.drewN n⟩
set_option maxHeartbeats 8000000 in
set_option maxRecDepth 100000 in
theorem dropsFault_any (v1 v2 : Value) (l : List Splt) (d : List Drp) (w : World) (h : Arr Splt.cells 4 w l v1) (hd : Arr Drp.cells 3 w d v2) (ok : SOk l) (hz : faultAt (parFault l) l.length = 0) : Calls Try.prog 136 #[.agg #[v1, v2]] w
    fun e w' => e = .returned (.int .i64 (dropsF l d)) ∧ Below w.heap.size w w' := by
  have hA := h
  have hl := ok.len
  obtain ⟨a, cap, rfl, hcap, hmax, hc⟩ := h
  obtain ⟨a2, cap2, rfl, hcap2, hmax2, hc2⟩ := hd
  unfold maxLen at hmax hmax2
  have HK := Lib.hid (And.intro ok (And.intro hz hA))
  have HC := Lib.hid hc
  have HC2 := Lib.hid hc2
  clear ok hz hA hc hc2
  have hmm := @run_makeMap Try.prog
  have hbx : Blk (w.alloc (.cells #[.slice a l.length cap, .slice a2 d.length cap2] 89)) w.heap.size #[.slice a l.length cap, .slice a2 d.length cap2] 89 := Blk.new _ _ _
  have HBX := Lib.hid hbx
  clear hbx
  by_cases hbig : 5000 < d.length
  · have hR : dropsF l d = 2 := by unfold dropsF; rw [if_pos hbig]
    have HR := Lib.hid hR
    clear hR
    go_enter Try.func136, Try.ntmps136
    go_wp2
    go_ret
    exact ⟨ret_int HR.out.symm, by (repeat (first | exact Below.refl _ _ | assumption | refine below_draws ?_ _ | refine Below.drew ?_ | refine below_alloc ?_ _ (by first | omega | (simp; done) | (simp; omega)) | refine Below.setCell ?_ (by first | omega | (simp; done) | (simp; omega)) _ | refine below_at ?_ (by assumption) (by first | omega | (simp; done) | (simp; omega))))⟩
  have hd5 : d.length ≤ 5000 := by omega
  go_enter Try.func136, Try.ntmps136
  go_wp2
  go_loopw [19] (fun i wr => ∃ k : Nat, k ≤ l.length ∧ i = .int .i64 k ∧ PMap wr (w.heap.size + 1) k (seenP l k) ∧ Below (w.heap.size + 1) (w.alloc (.cells #[.slice a l.length cap, .slice a2 d.length cap2] 89)) wr) (fun i _ => l.length - (intOf i).toNat)
  case atStart => exact ⟨0, by omega, rfl, pmap_start _ (by simp) (fun q => by simp [seenP]), below_alloc (Below.refl _ _) _ (by simp)⟩
  case round =>
    obtain ⟨k, hk, rfl, hM, hB⟩ := hrel
    have hsz := hB.size
    simp only [World.size_alloc] at hsz
    have hBw : Below w.heap.size w wr := below_at (below_alloc (Below.refl _ _) _ (Nat.le_refl _)) hB (by omega)
    have hbw := HBX.out.below hB (by omega)
    have t0 := hbw.cell 0 _ rfl
    have t1 := hbw.cell 1 _ rfl
    have HS := Lib.hid (And.intro hM (And.intro hB (And.intro hBw hbw)))
    have hlt0 : w.heap.size < wr.heap.size := by omega
    clear hM hB hBw hbw
    by_cases hlt : k < l.length
    · obtain ⟨b, off, rfl, hb, hcc⟩ := HC.out k hlt
      obtain ⟨c0, c1, c2, c3⟩ := splt_at hcc
      replace c0 := (HS.out.2.2.1.cell (p := ⟨b, _, none⟩) hb).trans c0
      replace c1 := (HS.out.2.2.1.cell (p := ⟨b, _, none⟩) hb).trans c1
      replace c2 := (HS.out.2.2.1.cell (p := ⟨b, _, none⟩) hb).trans c2
      replace c3 := (HS.out.2.2.1.cell (p := ⟨b, _, none⟩) hb).trans c3
      clear hcc
      by_cases hpar : l[k].par.size = 0
      · have he : l[k].par.toList.isEmpty = true := by rw [isEmpty_size]; simp [hpar]
        have HN := Lib.hid (seenP_skip l k hlt hpar)
        clear hpar
        go_wp2
        refine ⟨⟨k + 1, by omega, by go_num, ?_, ?_⟩, by simp [intOf]; omega⟩
        · rw [HN.out]; exact (HS.out.1.alloc _).mono (by omega)
        · exact below_alloc HS.out.2.1 _ (by omega)
      · have he : l[k].par.toList.isEmpty = false := by rw [isEmpty_size]; simp [hpar]
        have hp := HK.out.1.par HK.out.2.1 (List.getElem_mem hlt) hpar
        obtain ⟨kl, hkl⟩ := portKey (l[k].par, l[k].port) (by unfold maxLen; simp only; omega) (WalkArith.wf_i64 (by simp only; omega))
        have HKL := Lib.hid (And.intro hkl hpar)
        have HSe := Lib.hid (seenP_succ l k hlt)
        clear hkl hpar hp
        go_wp2_with ((at_mapUpdate; refine wpList_update (by rfl) _ _ _ _ rfl portKeyed Try.underlying204 portV_inj (HS.out.1.alloc _) (by unfold maxLen; omega) rfl (l[k].par, l[k].port) HKL.out.1 rfl _ rfl ?_; intro w4 hM4 hg4))
        refine ⟨⟨k + 1, by omega, by go_num, ?_, ?_⟩, by simp [intOf]; omega⟩
        · exact hM4.congr (boolM_set fun x => by rw [HSe.out]; simp [HKL.out.2, eq_comm])
        · exact below_at (below_alloc HS.out.2.1 _ (by omega)) (grown_row hg4 (Nat.le_refl _) (by simp; omega)) (Nat.le_refl _)
    · obtain rfl : k = l.length := by omega
      go_wp2
      obtain ⟨wo, rfl⟩ : ∃ wo : World, wo = wr := ⟨_, rfl⟩
      go_loopw [6, 36] (fun tw i wr => ∃ k : Nat, k ≤ d.length ∧ i = .int .i64 k ∧ tw = .bool (twiceD l d k) ∧ faultAt (dropFault l d) k = 0 ∧ PMap wr (w.heap.size + 1) (l.length + k) (seenD l d k) ∧ Below (w.heap.size + 1) (w.alloc (.cells #[.slice a l.length cap, .slice a2 d.length cap2] 89)) wr) (fun _ i _ => d.length - (intOf i).toNat)
      case atStart => exact ⟨0, by omega, rfl, rfl, rfl, HS.out.1.congr (fun q => by simp [boolM, seenD]), HS.out.2.1⟩
      case round =>
        obtain ⟨k, hk, rfl, rfl, hz, hM, hB⟩ := hrel
        have hsz := hB.size
        simp only [World.size_alloc] at hsz
        have hBw : Below w.heap.size w wr := below_at (below_alloc (Below.refl _ _) _ (Nat.le_refl _)) hB (by omega)
        have hbw := HBX.out.below hB (by omega)
        have r0 := hbw.cell 0 _ rfl
        have r1 := hbw.cell 1 _ rfl
        have HR := Lib.hid (And.intro hz (And.intro hM (And.intro hB (And.intro hBw hbw))))
        have hlt1 : w.heap.size < wr.heap.size := by omega
        clear hz hM hB hBw hbw t0 t1
        by_cases hlt : k < d.length
        · obtain ⟨b, off, rfl, hb, hcc⟩ := HC2.out k hlt
          obtain ⟨c0, c1, c2⟩ := drp_at hcc
          replace c0 := (HR.out.2.2.2.1.cell (p := ⟨b, _, none⟩) hb).trans c0
          replace c1 := (HR.out.2.2.2.1.cell (p := ⟨b, _, none⟩) hb).trans c1
          replace c2 := (HR.out.2.2.2.1.cell (p := ⟨b, _, none⟩) hb).trans c2
          clear hcc
          go_wp2_with fail
          refine (find_any _ _ l d[k].spl _ ?_ (by omega) HK.out.1.rise).mono ?_
          · exact HK.out.2.2.below (by have h4 := HR.out.2.2.2.1; (repeat (first | exact Below.refl _ _ | assumption | refine below_draws ?_ _ | refine Below.drew ?_ | refine below_alloc ?_ _ (by first | omega | (simp; done) | (simp; omega)) | refine Below.setCell ?_ (by first | omega | (simp; done) | (simp; omega)) _ | refine below_at ?_ (by assumption) (by first | omega | (simp; done) | (simp; omega)))))
          rintro e w2 ⟨rfl, hb2⟩
          have hz2 := hb2.size
          simp only [World.size_alloc] at hz2
          have hB2 : Below (w.heap.size + 1) (w.alloc (.cells #[.slice a l.length cap, .slice (some ⟨b, off, none⟩) d.length cap2] 89)) w2 := by have h3 := HR.out.2.2.1; (repeat (first | exact Below.refl _ _ | assumption | refine below_draws ?_ _ | refine Below.drew ?_ | refine below_alloc ?_ _ (by first | omega | (simp; done) | (simp; omega)) | refine Below.setCell ?_ (by first | omega | (simp; done) | (simp; omega)) _ | refine below_at ?_ (by assumption) (by first | omega | (simp; done) | (simp; omega))))
          have hBw2 : Below w.heap.size w w2 := below_at (below_alloc (Below.refl _ _) _ (Nat.le_refl _)) hB2 (by omega)
          have hbx2 := HBX.out.below hB2 (by omega)
          have hxx2 : Blk w2 wr.heap.size #[.string d[k].cust, .string d[k].spl, .int .i64 d[k].port] 110 := (Blk.new wr _ _).below hb2 (by simp)
          have hM2 : PMap w2 (w.heap.size + 1) (l.length + k) (seenD l d k) := (HR.out.2.1.alloc _).below hb2 (by simp; omega)
          have HS2 := Lib.hid (DSt.mk hB2 hBw2 hbx2 hxx2 hM2)
          clear hB2 hBw2 hbx2 hxx2 hM2 r0 r1 c0 c1 c2
          have p0 := HS2.out.bx.cell 0 _ rfl; have p1 := HS2.out.bx.cell 1 _ rfl; have x0 := HS2.out.xx.cell 0 _ rfl; have x1 := HS2.out.xx.cell 1 _ rfl; have x2 := HS2.out.xx.cell 2 _ rfl; have l1 := HS2.out.bx.lt; have l2 := HS2.out.xx.lt; have l3 := HS2.out.m.lt
          have hF : ∀ n : Int, n ≠ 0 → dropFault l d k = n → Hid (dropsF l d = n) := fun n hn hp => by
            have h1 := faultAt_hit hlt HR.out.1 (by rw [hp]; exact hn)
            unfold dropsF
            rw [if_neg hbig, h1, if_pos (by rw [hp]; exact hn), hp]
            exact rfl
          have HFF := Lib.hid hF
          have hdk : dropFault l d k = if keyB d[k].cust = false then 5 else match getS l d[k].spl with
              | none => 8
              | some s => if outB d[k].port 1 s.ways then 1 else if 0 < k ∧ leB d[k].cust (d[k - 1]?.getD default).cust = true then 7 else 0 := by
            unfold dropFault; rw [List.getElem?_eq_getElem hlt]; rfl
          have HDK := Lib.hid hdk
          clear hF hdk
          cases hkey : keyB d[k].cust
          · have HR9 := HFF.out 5 (by omega) (by rw [HDK.out, if_pos hkey])
            go_wp2_with (go_at_call 133; refine (key_any _ _).mono ?_; rintro e w' ⟨rfl, rfl⟩)
            go_ret
            exact ⟨ret_int HR9.out.symm, HS2.out.b2⟩
          · rcases findS_get l d[k].spl with ⟨hneg, hnone⟩ | ⟨j, hj, hfj, hget, -⟩
            · have HR9 := HFF.out 8 (by omega) (by rw [HDK.out, if_neg (by simp [hkey]), hnone])
              clear hnone
              go_wp2_with (go_at_call 133; refine (key_any _ _).mono ?_; rintro e w' ⟨rfl, rfl⟩)
              go_ret
              exact ⟨ret_int HR9.out.symm, HS2.out.b2⟩
            · rw [hfj]
              have HJ := Lib.hid (And.intro hfj hget)
              clear hfj hget
              have hj1 : (0 : Int) ≤ (j : Int) := by omega
              have hj2 : ¬ ((j : Int) < 0) := by omega
              have hj3 : (j : Int) < (l.length : Int) := by omega
              obtain ⟨b', off', rfl, hbb, hcc⟩ := HC.out j hj
              obtain ⟨-, d1, -, -⟩ := splt_at hcc
              replace d1 := (HS2.out.b2.cell (p := ⟨b', _, none⟩) hbb).trans d1
              clear hcc
              go_wp2_with (go_at_call 133; refine (key_any _ _).mono ?_; rintro e w' ⟨rfl, rfl⟩)
              go_quiet ((go_at_call 83; exact quiet_left (out_any _ _ _ _)))
              have hs3 := HS2.out.drewN nq
              generalize w2.drewN nq = w3 at *
              have HS3 := Lib.hid hs3
              clear hs3 HS2 p0 p1 x0 x1 x2 d1 l1 l2 l3
              have p0 := HS3.out.bx.cell 0 _ rfl; have p1 := HS3.out.bx.cell 1 _ rfl; have x0 := HS3.out.xx.cell 0 _ rfl; have x1 := HS3.out.xx.cell 1 _ rfl; have x2 := HS3.out.xx.cell 2 _ rfl; have l1 := HS3.out.bx.lt; have l2 := HS3.out.xx.lt; have l3 := HS3.out.m.lt
              cases ho : outB d[k].port 1 l[j].ways
              · have hdk2 : dropFault l d k = if 0 < k ∧ leB d[k].cust (d[k - 1]?.getD default).cust = true then 7 else 0 := by
                  rw [HDK.out, if_neg (by simp [hkey]), HJ.out.2]
                  simp only [ho, Bool.false_eq_true, if_false]
                have HDK2 := Lib.hid hdk2
                clear hdk2
                obtain ⟨o1, o2⟩ := outB_false.1 ho
                have hway := (waysB_le (HK.out.1.keys _ (List.getElem_mem hj)).2).2
                have hget := HK.out.1.get HJ.out.2
                obtain ⟨kl, hkl⟩ := portKey (d[k].spl, d[k].port) (by unfold maxLen; simp only; omega) (WalkArith.wf_i64 (by simp only; omega))
                have HKL := Lib.hid hkl
                have HD := Lib.hid (dupD_in l d k hlt)
                have HT := Lib.hid (twiceD_succ l d k)
                have HSe := Lib.hid (seenD_succ l d k hlt)
                clear hkl hget
                by_cases hk0 : k = 0
                · have hd0 : decide ((0 : Int) < (k : Int)) = false := by simp; omega
                  have hd1 : decide (0 < k) = false := by simp; omega
                  have HN : Hid (faultAt (dropFault l d) (k + 1) = 0) := by rw [faultAt_succ HR.out.1, HDK2.out, if_neg (by omega)]; exact rfl
                  clear hk0
                  go_wp2
                  go_quiet (fail)
                  have hs4 := HS3.out.drewN nq; generalize w3.drewN nq = w4 at *; have HS4 := Lib.hid hs4; clear hs4 HS3 p0 p1 x0 x1 x2 l1 l2 l3; have p0 := HS4.out.bx.cell 0 _ rfl; have p1 := HS4.out.bx.cell 1 _ rfl; have x0 := HS4.out.xx.cell 0 _ rfl; have x1 := HS4.out.xx.cell 1 _ rfl; have x2 := HS4.out.xx.cell 2 _ rfl; have l1 := HS4.out.bx.lt; have l2 := HS4.out.xx.lt; have l3 := HS4.out.m.lt
                  cases htw : twiceD l d k
                  · have HTW := Lib.hid htw
                    clear htw
                    go_wp2_with (first
                      | (at_lookup; refine wpList_look (by rfl) _ _ _ rfl portKeyed Try.underlying204 (zeroBool _) (HS4.out.m.alloc _) rfl (d[k].spl, d[k].port) HKL.out rfl (boolM_get _ _) ?_)
                      | (at_mapUpdate; refine wpList_update (by rfl) _ _ _ _ rfl portKeyed Try.underlying204 portV_inj (HS4.out.m.alloc _) (by unfold maxLen; omega) rfl (d[k].spl, d[k].port) HKL.out rfl _ rfl ?_; intro w5 hM5 hg5))
                    refine ⟨⟨k + 1, by omega, by go_num, ?_, HN.out, ?_, ?_⟩, by simp [intOf]; omega⟩
                    · rw [HT.out, HTW.out, HD.out]; rfl
                    · exact hM5.congr (boolM_set fun x => by rw [HSe.out]; simp [eq_comm])
                    · exact below_at (below_alloc HS4.out.b1 _ (by omega)) (grown_row hg5 (Nat.le_refl _) (by simp; omega)) (Nat.le_refl _)
                  · have HTW := Lib.hid htw
                    clear htw
                    go_wp2_with ((at_mapUpdate; refine wpList_update (by rfl) _ _ _ _ rfl portKeyed Try.underlying204 portV_inj (HS4.out.m.alloc _) (by unfold maxLen; omega) rfl (d[k].spl, d[k].port) HKL.out rfl _ rfl ?_; intro w5 hM5 hg5))
                    refine ⟨⟨k + 1, by omega, by go_num, ?_, HN.out, ?_, ?_⟩, by simp [intOf]; omega⟩
                    · rw [HT.out, HTW.out]; rfl
                    · exact hM5.congr (boolM_set fun x => by rw [HSe.out]; simp [eq_comm])
                    · exact below_at (below_alloc HS4.out.b1 _ (by omega)) (grown_row hg5 (Nat.le_refl _) (by simp; omega)) (Nat.le_refl _)
                · have hd0 : decide ((0 : Int) < (k : Int)) = true := by simp; omega
                  have hd1 : decide (0 < k) = true := by simp; omega
                  have hk1 : 1 ≤ k := by omega
                  have hpl : k - 1 < d.length := by omega
                  have hpg : (d[k - 1]?.getD default) = d[k - 1] := by rw [List.getElem?_eq_getElem hpl]; rfl
                  have HPG := Lib.hid hpg
                  obtain ⟨b'', off'', hbe, hbb'', hcc⟩ := HC2.out (k - 1) hpl
                  obtain ⟨rfl, rfl⟩ : b = b'' ∧ off = off'' := by simpa using hbe
                  obtain ⟨e0, -, -⟩ := drp_at hcc
                  replace e0 := (HS3.out.b2.cell (p := ⟨b, _, none⟩) hb).trans e0
                  clear hcc hbe hpg hk0
                  have hi1 : (0 : Int) ≤ (k : Int) - 1 := by omega
                  have hi2 : (k : Int) - 1 < (d.length : Int) := by omega
                  cases hle : leB d[k].cust d[k - 1].cust
                  · have HN : Hid (faultAt (dropFault l d) (k + 1) = 0) := by
                      rw [faultAt_succ HR.out.1, HDK2.out, HPG.out, if_neg (by simp [hle])]; exact rfl
                    have hle' : (Op.bytesLess d[k].cust.toList d[k - 1].cust.toList || d[k].cust.toList == d[k - 1].cust.toList) = false := hle
                    clear hle
                    go_wp2
                    go_quiet (fail)
                    clear e0 hle'
                    have hs4 := HS3.out.drewN nq; generalize w3.drewN nq = w4 at *; have HS4 := Lib.hid hs4; clear hs4 HS3 p0 p1 x0 x1 x2 l1 l2 l3; have p0 := HS4.out.bx.cell 0 _ rfl; have p1 := HS4.out.bx.cell 1 _ rfl; have x0 := HS4.out.xx.cell 0 _ rfl; have x1 := HS4.out.xx.cell 1 _ rfl; have x2 := HS4.out.xx.cell 2 _ rfl; have l1 := HS4.out.bx.lt; have l2 := HS4.out.xx.lt; have l3 := HS4.out.m.lt
                    cases htw : twiceD l d k
                    · have HTW := Lib.hid htw
                      clear htw
                      go_wp2_with (first
                        | (at_lookup; refine wpList_look (by rfl) _ _ _ rfl portKeyed Try.underlying204 (zeroBool _) (HS4.out.m.alloc _) rfl (d[k].spl, d[k].port) HKL.out rfl (boolM_get _ _) ?_)
                        | (at_mapUpdate; refine wpList_update (by rfl) _ _ _ _ rfl portKeyed Try.underlying204 portV_inj (HS4.out.m.alloc _) (by unfold maxLen; omega) rfl (d[k].spl, d[k].port) HKL.out rfl _ rfl ?_; intro w5 hM5 hg5))
                      refine ⟨⟨k + 1, by omega, by go_num, ?_, HN.out, ?_, ?_⟩, by simp [intOf]; omega⟩
                      · rw [HT.out, HTW.out, HD.out]; rfl
                      · exact hM5.congr (boolM_set fun x => by rw [HSe.out]; simp [eq_comm])
                      · exact below_at (below_alloc HS4.out.b1 _ (by omega)) (grown_row hg5 (Nat.le_refl _) (by simp; omega)) (Nat.le_refl _)
                    · have HTW := Lib.hid htw
                      clear htw
                      go_wp2_with ((at_mapUpdate; refine wpList_update (by rfl) _ _ _ _ rfl portKeyed Try.underlying204 portV_inj (HS4.out.m.alloc _) (by unfold maxLen; omega) rfl (d[k].spl, d[k].port) HKL.out rfl _ rfl ?_; intro w5 hM5 hg5))
                      refine ⟨⟨k + 1, by omega, by go_num, ?_, HN.out, ?_, ?_⟩, by simp [intOf]; omega⟩
                      · rw [HT.out, HTW.out]; rfl
                      · exact hM5.congr (boolM_set fun x => by rw [HSe.out]; simp [eq_comm])
                      · exact below_at (below_alloc HS4.out.b1 _ (by omega)) (grown_row hg5 (Nat.le_refl _) (by simp; omega)) (Nat.le_refl _)
                  · have HR9 := HFF.out 7 (by omega) (by rw [HDK2.out, HPG.out, if_pos ⟨by omega, hle⟩])
                    have hle' : (Op.bytesLess d[k].cust.toList d[k - 1].cust.toList || d[k].cust.toList == d[k - 1].cust.toList) = true := hle
                    clear hle
                    go_wp2
                    go_quiet (fail)
                    go_wp2
                    go_ret
                    exact ⟨ret_int HR9.out.symm, below_draws HS3.out.b2 _⟩
              · have HR9 := HFF.out 1 (by omega) (by
                  rw [HDK.out, if_neg (by simp [hkey]), HJ.out.2]
                  simp only [ho, if_true])
                go_wp2
                go_ret
                exact ⟨ret_int HR9.out.symm, HS3.out.b2⟩
        · obtain rfl : k = d.length := by omega
          cases htw : twiceD l d d.length
          · have hfin : dropsF l d = 0 := by unfold dropsF; rw [if_neg hbig, if_neg (by have := HR.out.1; omega), htw, if_neg (by simp)]
            have HFi := Lib.hid hfin
            clear hfin htw
            go_wp2
            go_ret
            exact ⟨ret_int HFi.out.symm, HR.out.2.2.2.1⟩
          · have hfin : dropsF l d = 6 := by unfold dropsF; rw [if_neg hbig, if_neg (by have := HR.out.1; omega), htw, if_pos rfl]
            have HFi := Lib.hid hfin
            clear hfin htw
            go_wp2
            go_ret
            exact ⟨ret_int HFi.out.symm, HR.out.2.2.2.1⟩
end Go.Proofs.Ytagpcgnlbgndmaa
