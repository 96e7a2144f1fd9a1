/- Walks of package tree: what is at the ports of a splitter. -/
import Derived.Test.YtagpcgnlbgndmaaTreeD
set_option linter.unusedVariables false
set_option linter.unusedSimpArgs false
namespace Go.Proofs.Ytagpcgnlbgndmaa
open Go Go.RowKit

set_option maxHeartbeats 1000000 in
set_option maxRecDepth 100000 in
theorem splitterFault_any (v1 v2 : Value) (l : List Splt) (d : List Drp) (key : ByteArray) (w : World) (h : Arr Splt.cells 4 w l v1) (hd : Arr Drp.cells 3 w d v2) : Calls Try.prog 124 #[.agg #[v1, v2], .string key] w
    fun e w' => e = .returned (.int .i64 (splitterF l d key)) ∧ Below w.heap.size w w' := by
  have HA := Lib.hid (And.intro h hd)
  clear h hd
  have hbx : Blk (w.alloc (.cells #[v1, v2] 89)) w.heap.size #[v1, v2] 89 := Blk.new _ _ _
  have HBX := Lib.hid hbx
  clear hbx
  go_enter Try.func124, Try.ntmps124
  go_wp2_with fail
  refine (checkTree_any _ _ l d _ (by exact HA.out.1.below (by (repeat (first | exact Below.refl _ _ | assumption | refine below_draws ?_ _ | refine Below.drew ?_ | refine below_alloc ?_ _ (by first | omega | (simp; done) | (simp; omega)) | refine Below.setCell ?_ (by first | omega | (simp; done) | (simp; omega)) _ | refine below_at ?_ (by assumption) (by first | omega | (simp; done) | (simp; omega)))))) (by exact HA.out.2.below (by (repeat (first | exact Below.refl _ _ | assumption | refine below_draws ?_ _ | refine Below.drew ?_ | refine below_alloc ?_ _ (by first | omega | (simp; done) | (simp; omega)) | refine Below.setCell ?_ (by first | omega | (simp; done) | (simp; omega)) _ | refine below_at ?_ (by assumption) (by first | omega | (simp; done) | (simp; omega))))))).mono ?_
  rintro e w2 ⟨rfl, hb2⟩
  have hz2 := hb2.size
  simp only [World.size_alloc] at hz2
  have hBw2 : Below w.heap.size w w2 := by (repeat (first | exact Below.refl _ _ | assumption | refine below_draws ?_ _ | refine Below.drew ?_ | refine below_alloc ?_ _ (by first | omega | (simp; done) | (simp; omega)) | refine Below.setCell ?_ (by first | omega | (simp; done) | (simp; omega)) _ | refine below_at ?_ (by assumption) (by first | omega | (simp; done) | (simp; omega))))
  have hbx2 := HBX.out.below hb2 (by simp)
  have p0 := hbx2.cell 0 _ rfl
  have p1 := hbx2.cell 1 _ rfl
  have HB2 := Lib.hid (And.intro hBw2 hbx2)
  clear hBw2 hbx2
  by_cases hf : treeF l d = 0
  · have hf1 : (treeF l d == 0) = true := by simp [hf]
    have ok := tok_of hf
    have HF := Lib.hid (And.intro hf ok)
    clear hf ok
    go_wp2_with fail
    refine (find_any _ _ l key _ (by exact HA.out.1.below HB2.out.1) (by have := HF.out.2.s.len; omega) HF.out.2.s.rise).mono ?_
    rintro e w3 ⟨rfl, hb3⟩
    have hz3 := hb3.size
    have hBw3 : Below w.heap.size w w3 := by have h3 := HB2.out.1; (repeat (first | exact Below.refl _ _ | assumption | refine below_draws ?_ _ | refine Below.drew ?_ | refine below_alloc ?_ _ (by first | omega | (simp; done) | (simp; omega)) | refine Below.setCell ?_ (by first | omega | (simp; done) | (simp; omega)) _ | refine below_at ?_ (by assumption) (by first | omega | (simp; done) | (simp; omega))))
    have HB3 := Lib.hid hBw3
    clear hBw3
    rcases findS_get l key with ⟨hneg, hnone⟩ | ⟨j, hj, hfj, hget, -⟩
    · have HR : Hid (splitterF l d key = 8) := by unfold splitterF; rw [if_neg (by have := HF.out.1; omega), hnone]; exact rfl
      have hdn : decide (findS l key < 0) = true := by simpa using hneg
      clear hnone
      go_wp2
      go_ret
      exact ⟨ret_int HR.out.symm, HB3.out⟩
    · have HR : Hid (splitterF l d key = 0) := by unfold splitterF; rw [if_neg (by have := HF.out.1; omega), hget]; exact rfl
      have HF0 := Lib.hid HF.out.1
      rw [hfj]
      have hjn : ¬ (j : Int) < 0 := by omega
      clear hget hfj
      go_wp2
      go_ret
      exact ⟨ret_int (by rw [HR.out, HF0.out]), HB3.out⟩
  · have hf1 : (treeF l d == 0) = false := by simp [hf]
    have HR : Hid (splitterF l d key = treeF l d) := by unfold splitterF; rw [if_pos hf]; exact rfl
    clear hf
    go_wp2
    go_ret
    exact ⟨ret_int HR.out.symm, HB2.out.1⟩

abbrev SMap (w : World) (b n : Nat) (m : PortK → Option ByteArray) : Prop := MapIs Try.prog 170 portV w b n (fun q => (m q).map Value.string)
theorem zeroStr (w : World) : (zeroValue 9).run Try.prog w = .ok (.string ⟨#[]⟩) w := by kernel_rfl
theorem smap_get (m : PortK → Option ByteArray) (q : PortK) : ((m q).map Value.string).getD (.string ⟨#[]⟩) = .string ((m q).getD ⟨#[]⟩) := by cases m q <;> rfl
theorem smap_set {m m' : PortK → Option ByteArray} {q : PortK} {s : ByteArray} (h : ∀ x, m' x = if q = x then some s else m x) (x : PortK) : setM (fun q => (m q).map Value.string) q (.string s) x = (m' x).map Value.string := by
  unfold setM
  rw [h x]
  by_cases hx : x = q
  · subst hx; simp
  · rw [if_neg hx, if_neg (Ne.symm hx)]
theorem smap_start (w : World) {b : Nat} (hb : b = w.heap.size) {m : PortK → Option ByteArray} (hm : ∀ q, m q = none) : SMap (w.alloc (.map #[] 0)) b 0 m := by
  subst hb
  exact (MapIs.made _ _ _ _).congr fun q => by simp [hm]
/-- a map of what is at each port is returned -/
def TakenPost (l : List Splt) (d : List Drp) (w : World) (e : Ending) (w' : World) : Prop := ∃ b n, e = .returned (.map (some b)) ∧ w.heap.size ≤ b ∧ SMap w' b n (takenV l d d.length) ∧ Below w.heap.size w w'
theorem takenS_skip (l : List Splt) (k : Nat) (h : k < l.length) (h0 : l[k].par.size = 0) : takenS l (k + 1) = takenS l k := by
  funext q; rw [takenS_succ l k h]; simp [h0]

set_option maxHeartbeats 4000000 in
set_option maxRecDepth 100000 in
theorem taken_any (v1 v2 : Value) (l : List Splt) (d : List Drp) (w : World) (h : Arr Splt.cells 4 w l v1) (hd : Arr Drp.cells 3 w d v2) (ok : TOk l d) : Calls Try.prog 125 #[.agg #[v1, v2]] w (TakenPost l d w) := by
  have hl := ok.s.len
  have hd5 : d.length ≤ 5000 := by
    have := ok.dr
    unfold dropsF at this
    split at this
    · omega
    · omega
  obtain ⟨a, cap, rfl, hcap, hmax, hc⟩ := h
  obtain ⟨a2, cap2, rfl, hcap2, hmax2, hc2⟩ := hd
  unfold maxLen at hmax hmax2
  have HK := Lib.hid ok
  have HC := Lib.hid hc
  have HC2 := Lib.hid hc2
  clear ok hc hc2
  have hmm := @run_makeMap Try.prog
  have hbx : Blk (w.alloc (.cells #[.slice a l.length cap, .slice a2 d.length cap2] 89)) w.heap.size #[.slice a l.length cap, .slice a2 d.length cap2] 89 := Blk.new _ _ _
  have HBX := Lib.hid hbx
  clear hbx
  go_enter Try.func125, Try.ntmps125
  go_wp2
  go_loopw [12] (fun i wr => ∃ k : Nat, k ≤ l.length ∧ i = .int .i64 k ∧ SMap wr (w.heap.size + 1) k (takenS l k) ∧ Below (w.heap.size + 1) (w.alloc (.cells #[.slice a l.length cap, .slice a2 d.length cap2] 89)) wr) (fun i _ => l.length - (intOf i).toNat)
  case atStart => exact ⟨0, by omega, rfl, smap_start _ (by simp) (fun q => by simp [takenS]), below_alloc (Below.refl _ _) _ (by simp)⟩
  case round =>
    obtain ⟨k, hk, rfl, hM, hB⟩ := hrel
    have hsz := hB.size
    simp only [World.size_alloc] at hsz
    have hBw : Below w.heap.size w wr := below_at (below_alloc (Below.refl _ _) _ (Nat.le_refl _)) hB (by omega)
    have hbw := HBX.out.below hB (by omega)
    have t0 := hbw.cell 0 _ rfl
    have t1 := hbw.cell 1 _ rfl
    have HS := Lib.hid (And.intro hM (And.intro hB (And.intro hBw hbw)))
    have hlt0 : w.heap.size < wr.heap.size := by omega
    clear hM hB hBw hbw
    by_cases hlt : k < l.length
    · obtain ⟨b, off, rfl, hb, hcc⟩ := HC.out k hlt
      obtain ⟨c0, c1, c2, c3⟩ := splt_at hcc
      replace c0 := (HS.out.2.2.1.cell (p := ⟨b, _, none⟩) hb).trans c0
      replace c1 := (HS.out.2.2.1.cell (p := ⟨b, _, none⟩) hb).trans c1
      replace c2 := (HS.out.2.2.1.cell (p := ⟨b, _, none⟩) hb).trans c2
      replace c3 := (HS.out.2.2.1.cell (p := ⟨b, _, none⟩) hb).trans c3
      clear hcc
      by_cases hpar : l[k].par.size = 0
      · have he : l[k].par.toList.isEmpty = true := by rw [isEmpty_size]; simp [hpar]
        have HN := Lib.hid (takenS_skip l k hlt hpar)
        clear hpar
        go_wp2
        refine ⟨⟨k + 1, by omega, by go_num, ?_, ?_⟩, by simp [intOf]; omega⟩
        · rw [HN.out]; exact (HS.out.1.alloc _).mono (by omega)
        · exact below_alloc HS.out.2.1 _ (by omega)
      · have he : l[k].par.toList.isEmpty = false := by rw [isEmpty_size]; simp [hpar]
        have hp := HK.out.s.par HK.out.par (List.getElem_mem hlt) hpar
        have hks := keyB_size (HK.out.s.keys _ (List.getElem_mem hlt)).1
        obtain ⟨kl, hkl⟩ := portKey (l[k].par, l[k].port) (by unfold maxLen; simp only; omega) (WalkArith.wf_i64 (by simp only; omega))
        have HKL := Lib.hid (And.intro hkl hpar)
        have HSe := Lib.hid (takenS_succ l k hlt)
        clear hkl hpar hp
        go_wp2_with ((at_mapUpdate; refine wpList_update (by rfl) _ _ _ _ rfl portKeyed Try.underlying166 portV_inj (HS.out.1.alloc _) (by unfold maxLen; omega) rfl (l[k].par, l[k].port) HKL.out.1 rfl _ rfl ?_; intro w4 hM4 hg4))
        refine ⟨⟨k + 1, by omega, by go_num, ?_, ?_⟩, by simp [intOf]; omega⟩
        · exact hM4.congr (smap_set fun x => by rw [HSe.out]; simp [HKL.out.2])
        · exact below_at (below_alloc HS.out.2.1 _ (by omega)) (grown_row hg4 (Nat.le_refl _) (by simp; omega)) (Nat.le_refl _)
    · obtain rfl : k = l.length := by omega
      go_wp2
      obtain ⟨wo, rfl⟩ : ∃ wo : World, wo = wr := ⟨_, rfl⟩
      go_loopw [32] (fun i wr => ∃ k : Nat, k ≤ d.length ∧ i = .int .i64 k ∧ SMap wr (w.heap.size + 1) (l.length + k) (takenV l d k) ∧ Below (w.heap.size + 1) (w.alloc (.cells #[.slice a l.length cap, .slice a2 d.length cap2] 89)) wr) (fun i _ => d.length - (intOf i).toNat)
      case atStart => exact ⟨0, by omega, rfl, HS.out.1.congr (fun q => by simp [takenV]), HS.out.2.1⟩
      case round =>
        obtain ⟨k, hk, rfl, hM, hB⟩ := hrel
        have hsz := hB.size
        simp only [World.size_alloc] at hsz
        have hBw : Below w.heap.size w wr := below_at (below_alloc (Below.refl _ _) _ (Nat.le_refl _)) hB (by omega)
        have hbw := HBX.out.below hB (by omega)
        have r0 := hbw.cell 0 _ rfl
        have r1 := hbw.cell 1 _ rfl
        have HR := Lib.hid (And.intro hM (And.intro hB (And.intro hBw hbw)))
        have hlt1 : w.heap.size < wr.heap.size := by omega
        clear hM hB hBw hbw t0 t1
        by_cases hlt : k < d.length
        · obtain ⟨b, off, rfl, hb, hcc⟩ := HC2.out k hlt
          obtain ⟨c0, c1, c2⟩ := drp_at hcc
          replace c0 := (HR.out.2.2.1.cell (p := ⟨b, _, none⟩) hb).trans c0
          replace c1 := (HR.out.2.2.1.cell (p := ⟨b, _, none⟩) hb).trans c1
          replace c2 := (HR.out.2.2.1.cell (p := ⟨b, _, none⟩) hb).trans c2
          clear hcc
          have hp := HK.out.drop hlt
          obtain ⟨kl, hkl⟩ := portKey (d[k].spl, d[k].port) (by unfold maxLen; simp only; omega) (WalkArith.wf_i64 (by simp only; omega))
          have HKL := Lib.hid hkl
          have HSe := Lib.hid (takenV_succ l d k hlt)
          clear hkl hp
          go_wp2_with ((at_mapUpdate; refine wpList_update (by rfl) _ _ _ _ rfl portKeyed Try.underlying166 portV_inj (HR.out.1.alloc _) (by unfold maxLen; omega) rfl (d[k].spl, d[k].port) HKL.out rfl _ rfl ?_; intro w4 hM4 hg4))
          refine ⟨⟨k + 1, by omega, by go_num, ?_, ?_⟩, by simp [intOf]; omega⟩
          · exact hM4.congr (smap_set fun x => HSe.out x)
          · exact below_at (below_alloc HR.out.2.1 _ (by omega)) (grown_row hg4 (Nat.le_refl _) (by simp; omega)) (Nat.le_refl _)
        · obtain rfl : k = d.length := by omega
          go_wp2
          go_ret
          exact ⟨w.heap.size + 1, _, rfl, by omega, HR.out.1, HR.out.2.2.1⟩
end Go.Proofs.Ytagpcgnlbgndmaa
