/- Walk of package tree: what is wrong with the parents of splitters. -/
import Derived.Test.YtagpcgnlbgndmaaTreeA
import Derived.Test.YtagpcgnlbgndmaaMapB
import Derived.Test.YtagpcgnlbgndmaaWalkB1
import Derived.Test.YtagpcgnlbgndmaaOrders
set_option linter.unusedVariables false
set_option linter.unusedSimpArgs false
namespace Go.Proofs.Ytagpcgnlbgndmaa
open Go Go.RowKit
open Go.Maps (Keyed)

theorem quiet_left {P : Program} {f : FuncId} {args : Array Value} {w : World} {n : Nat} {v : Value}
    (h : Calls P f args (w.drewN n) fun e w' => e = .returned v ∧ w.drewN n = w') : Calls P f args (w.drewN n) fun e w'' => e = .returned v ∧ ∃ m, w'' = w.drewN m :=
  h.mono fun _ _ ⟨he, hm⟩ => ⟨he, n, hm.symm⟩
theorem quiet_add_left {P : Program} {f : FuncId} {args : Array Value} {w : World} {a n : Nat} {v : Value}
    (h : Calls P f args (w.drewN (a + n)) fun e w' => e = .returned v ∧ w.drewN (a + n) = w') :
    Calls P f args (w.drewN (a + n)) fun e w'' => e = .returned v ∧ ∃ m, w'' = w.drewN (a + m) :=
  h.mono fun _ _ ⟨he, hm⟩ => ⟨he, n, hm.symm⟩
theorem laidOutT : laidOutB Try.prog = true := by kernel_rfl
theorem portKeyed : Keyed Try.prog 170 := Keyed.of_law (deep_law_laid laidOutT (m := 3) (by omega) (of_decide_eq_true (by kernel_rfl)) (by kernel_rfl) (by kernel_rfl))
def portV (q : PortK) : Value := .agg #[.string q.1, .int .i64 q.2]
theorem portV_inj (a a' : PortK) (h : portV a = portV a') : a = a' := by
  obtain ⟨a1, a2⟩ := a
  obtain ⟨b1, b2⟩ := a'
  simp [portV] at h
  simp [h]
theorem portKey (q : PortK) (h1 : q.1.size ≤ maxLen) (h2 : (Lit.int .i64 q.2).wf = true) : ∃ kl, keyOf Try.prog 170 (portV q) = some kl :=
  keyOf_pair (ts := 9) (ti := 3) Try.underlying170 Try.underlying9 Try.underlying3 (by kernel_rfl) (by kernel_rfl) (by kernel_rfl) (by kernel_rfl) (of_decide_eq_true (by kernel_rfl)) (by rfl) (by decide +kernel) q.1 q.2 h1 h2
theorem zeroBool (w : World) : (zeroValue 4).run Try.prog w = .ok (.bool false) w := by kernel_rfl

def boolM (p : PortK → Bool) (q : PortK) : Option Value := if p q then some (.bool true) else none
theorem boolM_get (p : PortK → Bool) (q : PortK) : (boolM p q).getD (.bool false) = .bool (p q) := by unfold boolM; cases p q <;> rfl
theorem boolM_set {p p' : PortK → Bool} {q : PortK} (h : ∀ x, p' x = (p x || decide (x = q))) (x : PortK) : setM (boolM p) q (.bool true) x = boolM p' x := by
  unfold setM boolM
  rw [h x]
  by_cases hx : x = q <;> simp [hx]
abbrev PMap (w : World) (b n : Nat) (p : PortK → Bool) : Prop := MapIs Try.prog 170 portV w b n (boolM p)

theorem seenP_succ (l : List Splt) (k : Nat) (h : k < l.length) (x : PortK) : seenP l (k + 1) x = (seenP l k x || (decide (l[k].par.size ≠ 0) && decide ((l[k].par, l[k].port) = x))) := by
  unfold seenP
  rw [List.take_succ_eq_append_getElem h, List.any_append]; simp
theorem seenP_skip (l : List Splt) (k : Nat) (h : k < l.length) (h0 : l[k].par.size = 0) : seenP l (k + 1) = seenP l k := by
  funext x; rw [seenP_succ l k h]; simp [h0]
theorem dupAt_skip (l : List Splt) (k : Nat) (h : k < l.length) (h0 : l[k].par.size = 0) : dupAt l k = false := by
  unfold dupAt; rw [List.getElem?_eq_getElem h]; simp [h0]
theorem dupAt_in (l : List Splt) (k : Nat) (h : k < l.length) (h0 : l[k].par.size ≠ 0) : dupAt l k = seenP l k (l[k].par, l[k].port) := by
  unfold dupAt; rw [List.getElem?_eq_getElem h]; simp [h0]

theorem pmap_start (w : World) {b : Nat} (hb : b = w.heap.size) {p : PortK → Bool} (hp : ∀ q, p q = false) : PMap (w.alloc (.map #[] 0)) b 0 p := by
  subst hb
  exact (MapIs.made _ _ _ _).congr fun q => by simp [boolM, hp]
theorem getElem_mapis {w : World} {b n : Nat} {p : PortK → Bool} (h : PMap w b n p) : b < w.heap.size := h.lt

set_option maxHeartbeats 8000000 in
set_option maxRecDepth 100000 in
theorem parentsFault_any (v1 v2 : Value) (l : List Splt) (w : World) (h : Arr Splt.cells 4 w l v1) (hl : l.length ≤ 500) (hr : Rising (l.map (·.key))) (hk : ∀ s ∈ l, keyB s.key = true ∧ waysB s.ways = true) : Calls Try.prog 135 #[.agg #[v1, v2]] w
    fun e w' => e = .returned (.int .i64 (parentsF l)) ∧ Below w.heap.size w w' := by
  have hA := h
  obtain ⟨a, cap, rfl, hcap, hmax, hc⟩ := h
  unfold maxLen at hmax
  have HK := Lib.hid (And.intro hr (And.intro hk hA))
  clear hr hk hA
  have hmm := @run_makeMap Try.prog
  go_enter Try.func135, Try.ntmps135
  go_wp2
  have hbx : Blk (w.alloc (.cells #[.slice a l.length cap, v2] 89)) w.heap.size #[.slice a l.length cap, v2] 89 := Blk.new _ _ _
  have HBX := Lib.hid hbx
  clear hbx
  go_loopw [4, 16] (fun tw i wr => ∃ k : Nat, k ≤ l.length ∧ i = .int .i64 k ∧ tw = .bool (twiceB l k) ∧ faultAt (parFault l) k = 0 ∧ PMap wr (w.heap.size + 1) k (seenP l k) ∧ Below (w.heap.size + 1) (w.alloc (.cells #[.slice a l.length cap, v2] 89)) wr) (fun _ i _ => l.length - (intOf i).toNat)
  case atStart => exact ⟨0, by omega, rfl, rfl, rfl, pmap_start _ (by simp) (fun q => by simp [seenP]), below_alloc (Below.refl _ _) _ (by simp)⟩
  case round =>
    obtain ⟨k, hk, rfl, rfl, hz, hM, hB⟩ := hrel
    have hsz := hB.size
    simp only [World.size_alloc] at hsz
    have hBw : Below w.heap.size w wr := below_at (below_alloc (Below.refl _ _) _ (Nat.le_refl _)) hB (by omega)
    have hbw := HBX.out.below hB (by omega)
    have t0 := hbw.cell 0 _ rfl
    have t1 := hbw.cell 1 _ rfl
    have HS := Lib.hid (And.intro hz (And.intro hM (And.intro hB (And.intro hBw hbw))))
    have hlt0 : w.heap.size < wr.heap.size := by omega
    clear hz hM hB hBw hbw
    by_cases hlt : k < l.length
    · obtain ⟨b, off, rfl, hb, hcc⟩ := hc k hlt
      obtain ⟨c0, c1, c2, c3⟩ := splt_at hcc
      replace c0 := (HS.out.2.2.2.1.cell (p := ⟨b, _, none⟩) hb).trans c0
      replace c1 := (HS.out.2.2.2.1.cell (p := ⟨b, _, none⟩) hb).trans c1
      replace c2 := (HS.out.2.2.2.1.cell (p := ⟨b, _, none⟩) hb).trans c2
      replace c3 := (HS.out.2.2.2.1.cell (p := ⟨b, _, none⟩) hb).trans c3
      have HC := Lib.hid hc
      clear hc hcc
      by_cases hpar : l[k].par.size = 0
      · have he : l[k].par.toList.isEmpty = true := by rw [isEmpty_size]; simp [hpar]
        have HN : Hid (faultAt (parFault l) (k + 1) = 0 ∧ seenP l (k + 1) = seenP l k ∧ twiceB l (k + 1) = twiceB l k) := by
          refine ⟨?_, seenP_skip l k hlt hpar, ?_⟩
          · rw [faultAt_succ HS.out.1]; unfold parFault; rw [List.getElem?_eq_getElem hlt]; simp [hpar]
          · rw [twiceB_succ, dupAt_skip l k hlt hpar]; simp
        clear hpar
        go_wp2
        refine ⟨⟨k + 1, by omega, by go_num, by rw [HN.out.2.2], HN.out.1, ?_, ?_⟩, by simp [intOf]; omega⟩
        · rw [HN.out.2.1]; exact (HS.out.2.1.alloc _).mono (by omega)
        · exact below_alloc HS.out.2.2.1 _ (by omega)
      · have he : l[k].par.toList.isEmpty = false := by rw [isEmpty_size]; simp [hpar]
        have HP := Lib.hid hpar
        clear hpar
        go_wp2_with fail
        refine (find_any _ _ l l[k].par _ ?_ (by omega) HK.out.1).mono ?_
        · exact HK.out.2.2.below (by have h4 := HS.out.2.2.2.1; (repeat (first | exact Below.refl _ _ | assumption | refine below_draws ?_ _ | refine Below.drew ?_ | refine below_alloc ?_ _ (by first | omega | (simp; done) | (simp; omega)) | refine Below.setCell ?_ (by first | omega | (simp; done) | (simp; omega)) _ | refine below_at ?_ (by assumption) (by first | omega | (simp; done) | (simp; omega)))))
        rintro e w2 ⟨rfl, hb2⟩
        have hz2 := hb2.size
        simp only [World.size_alloc] at hz2
        have hB2 : Below (w.heap.size + 1) (w.alloc (.cells #[.slice (some ⟨b, off, none⟩) l.length cap, v2] 89)) w2 := by have h3 := HS.out.2.2.1; (repeat (first | exact Below.refl _ _ | assumption | refine below_draws ?_ _ | refine Below.drew ?_ | refine below_alloc ?_ _ (by first | omega | (simp; done) | (simp; omega)) | refine Below.setCell ?_ (by first | omega | (simp; done) | (simp; omega)) _ | refine below_at ?_ (by assumption) (by first | omega | (simp; done) | (simp; omega))))
        have hBw2 : Below w.heap.size w w2 := below_at (below_alloc (Below.refl _ _) _ (Nat.le_refl _)) hB2 (by omega)
        have hbx2 := HBX.out.below hB2 (by omega)
        have hxx2 : Blk w2 wr.heap.size #[.string l[k].key, .int .i64 l[k].ways, .string l[k].par, .int .i64 l[k].port] 92 := (Blk.new wr _ _).below hb2 (by simp)
        have hM2 : PMap w2 (w.heap.size + 1) k (seenP l k) := (HS.out.2.1.alloc _).below hb2 (by simp; omega)
        have p0 := hbx2.cell 0 _ rfl
        have p1 := hbx2.cell 1 _ rfl
        have x0 := hxx2.cell 0 _ rfl
        have x1 := hxx2.cell 1 _ rfl
        have x2 := hxx2.cell 2 _ rfl
        have x3 := hxx2.cell 3 _ rfl
        have HS2 := Lib.hid (And.intro hB2 (And.intro hBw2 (And.intro hbx2 (And.intro hxx2 hM2))))
        have l1 : w.heap.size < w2.heap.size := by omega
        have l2 : wr.heap.size < w2.heap.size := by omega
        clear hB2 hBw2 hbx2 hxx2 hM2 t0 t1 c0 c1 c2 c3
        have hF : ∀ n : Int, n ≠ 0 → parFault l k = n → Hid (parentsF l = n) := fun n hn hp => by
          have h1 := faultAt_hit hlt HS.out.1 (by rw [hp]; exact hn)
          unfold parentsF
          rw [h1, if_pos (by rw [hp]; exact hn), hp]
          exact rfl
        have HFF := Lib.hid hF
        clear hF
        rcases findS_get l l[k].par with ⟨hneg, hnone⟩ | ⟨j, hj, hfj, hget, -⟩
        · have hbad : parFault l k = 8 := by
            unfold parFault
            rw [List.getElem?_eq_getElem hlt]
            simp only [if_neg HP.out, hnone]
          have HR := HFF.out 8 (by omega) hbad
          clear hbad hnone
          go_wp2
          go_ret
          exact ⟨ret_int HR.out.symm, HS2.out.2.1⟩
        · rw [hfj]
          have HJ := Lib.hid (And.intro hfj hget)
          clear hfj hget
          have hj1 : (0 : Int) ≤ (j : Int) := by omega
          have hj2 : ¬ ((j : Int) < 0) := by omega
          have hj3 : (j : Int) < (l.length : Int) := by omega
          obtain ⟨b', off', hbe, hbb, hcc⟩ := HC.out j hj
          obtain ⟨rfl, rfl⟩ : b = b' ∧ off = off' := by simpa using hbe
          obtain ⟨-, d1, -, -⟩ := splt_at hcc
          replace d1 := (HS2.out.2.1.cell (p := ⟨b, _, none⟩) hb).trans d1
          clear hcc hbe hbb
          go_wp2
          go_quiet ((go_at_call 83; exact quiet_left (out_any _ _ _ _)))
          generalize hw3 : w2.drewN nq = w3 at *
          have hB3 : Below (w.heap.size + 1) (w.alloc (.cells #[.slice (some ⟨b, off, none⟩) l.length cap, v2] 89)) w3 := by rw [← hw3]; exact below_draws HS2.out.1 _
          have hBw3 : Below w.heap.size w w3 := by rw [← hw3]; exact below_draws HS2.out.2.1 _
          have hxx3 : Blk w3 wr.heap.size #[.string l[k].key, .int .i64 l[k].ways, .string l[k].par, .int .i64 l[k].port] 92 := by rw [← hw3]; exact HS2.out.2.2.2.1.drewN _
          have hM3 : PMap w3 (w.heap.size + 1) k (seenP l k) := by rw [← hw3]; exact HS2.out.2.2.2.2.drewN _
          clear hw3 HS2 p0 p1 x0 x1 x2 x3 d1
          have x0 := hxx3.cell 0 _ rfl
          have x1 := hxx3.cell 1 _ rfl
          have x2 := hxx3.cell 2 _ rfl
          have x3 := hxx3.cell 3 _ rfl
          have l3 : wr.heap.size < w3.heap.size := hxx3.lt
          have l4 : w.heap.size + 1 < w3.heap.size := by omega
          have HS3 := Lib.hid (And.intro hB3 (And.intro hBw3 hM3))
          clear hB3 hBw3 hxx3 hM3
          cases ho : outB l[k].port 1 l[j].ways
          · have hgood : parFault l k = 0 := by
              unfold parFault
              rw [List.getElem?_eq_getElem hlt]
              simp only [if_neg HP.out, HJ.out.2, ho, if_true, Bool.false_eq_true, if_false]
            have HN : Hid (faultAt (parFault l) (k + 1) = 0) := by rw [faultAt_succ HS.out.1]; exact hgood
            have HD := Lib.hid (dupAt_in l k hlt HP.out)
            have HT := Lib.hid (twiceB_succ l k)
            have HSe := Lib.hid (seenP_succ l k hlt)
            obtain ⟨o1, o2⟩ := outB_false.1 ho
            have hwf : (Lit.int .i64 l[k].port).wf = true := by
              have h1 := waysB_le (HK.out.2.1 l[j] (List.getElem_mem _)).2
              exact WalkArith.wf_i64 (by omega)
            have hsize : l[k].par.size ≤ maxLen := by
              rcases findS_get l l[k].par with ⟨_, h2⟩ | ⟨j', hj', _, _, h4⟩
              · rw [HJ.out.2] at h2; cases h2
              · have h5 := keyB_size (HK.out.2.1 l[j'] (List.getElem_mem _)).1
                rw [h4] at h5
                unfold maxLen; omega
            obtain ⟨kl, hkl⟩ := portKey (l[k].par, l[k].port) hsize hwf
            have HKL := Lib.hid hkl
            clear hgood hkl hsize
            cases htw : twiceB l k
            · have HTW := Lib.hid htw
              clear htw
              go_wp2_with (first
                | (at_lookup; refine wpList_look (by rfl) _ _ _ rfl portKeyed Try.underlying204 (zeroBool _) (HS3.out.2.2.alloc _) rfl (l[k].par, l[k].port) HKL.out rfl (boolM_get _ _) ?_)
                | (at_mapUpdate; refine wpList_update (by rfl) _ _ _ _ rfl portKeyed Try.underlying204 portV_inj (HS3.out.2.2.alloc _) (by unfold maxLen; omega) rfl (l[k].par, l[k].port) HKL.out rfl _ rfl ?_; intro w4 hM4 hg4))
              refine ⟨⟨k + 1, by omega, by go_num, ?_, HN.out, ?_, ?_⟩, by simp [intOf]; omega⟩
              · rw [HT.out, HTW.out, HD.out]; rfl
              · exact hM4.congr (boolM_set fun x => by rw [HSe.out]; simp [HP.out, eq_comm])
              · exact below_at (below_alloc HS3.out.1 _ (by omega)) (grown_row hg4 (Nat.le_refl _) (by simp; omega)) (Nat.le_refl _)
            · have HTW := Lib.hid htw
              clear htw
              go_wp2_with (first
                | (at_mapUpdate; refine wpList_update (by rfl) _ _ _ _ rfl portKeyed Try.underlying204 portV_inj (HS3.out.2.2.alloc _) (by unfold maxLen; omega) rfl (l[k].par, l[k].port) HKL.out rfl _ rfl ?_; intro w4 hM4 hg4))
              refine ⟨⟨k + 1, by omega, by go_num, ?_, HN.out, ?_, ?_⟩, by simp [intOf]; omega⟩
              · rw [HT.out, HTW.out]; rfl
              · exact hM4.congr (boolM_set fun x => by rw [HSe.out]; simp [HP.out, eq_comm])
              · exact below_at (below_alloc HS3.out.1 _ (by omega)) (grown_row hg4 (Nat.le_refl _) (by simp; omega)) (Nat.le_refl _)
          · have hbad : parFault l k = 1 := by
              unfold parFault
              rw [List.getElem?_eq_getElem hlt]
              simp only [if_neg HP.out, HJ.out.2, ho, if_true, Bool.false_eq_true, if_false]
            have HR := HFF.out 1 (by omega) hbad
            clear hbad
            go_wp2
            go_ret
            exact ⟨ret_int HR.out.symm, HS3.out.2.1⟩
    · obtain rfl : k = l.length := by omega
      have hP := parOk_of HS.out.1
      have hz0 := HS.out.1
      cases htw : twiceB l l.length
      · have hRl : parentsF l = if l.any (loopAt l) then 14 else 0 := by
          unfold parentsF; rw [if_neg (by omega), htw, if_neg (by simp)]
        have HTW := Lib.hid (And.intro hRl hP)
        clear htw hRl hP hz0
        go_wp2
        obtain ⟨wo, rfl⟩ : ∃ wo : World, wo = wr := ⟨_, rfl⟩
        go_loopw [58] (fun i wr => ∃ k : Nat, k ≤ l.length ∧ i = .int .i64 k ∧ (l.take k).any (loopAt l) = false ∧ Below (w.heap.size + 1) (w.alloc (.cells #[.slice a l.length cap, v2] 89)) wr) (fun i _ => l.length - (intOf i).toNat)
        case atStart => exact ⟨0, by omega, rfl, rfl, HS.out.2.2.1⟩
        case round =>
          obtain ⟨k, hk, rfl, hz, hB⟩ := hrel
          have hsz := hB.size
          simp only [World.size_alloc] at hsz
          have hBw : Below w.heap.size w wr := below_at (below_alloc (Below.refl _ _) _ (Nat.le_refl _)) hB (by omega)
          have hbw := HBX.out.below hB (by omega)
          have r0 := hbw.cell 0 _ rfl
          have r1 := hbw.cell 1 _ rfl
          have HR := Lib.hid (And.intro hz (And.intro hB (And.intro hBw hbw)))
          have hlt0 : w.heap.size < wr.heap.size := by omega
          clear hz hB hBw hbw t0 t1
          by_cases hlt : k < l.length
          · obtain ⟨b, off, rfl, hb, hcc⟩ := hc k hlt
            obtain ⟨c0, c1, c2, c3⟩ := splt_at hcc
            replace c0 := (HR.out.2.2.1.cell (p := ⟨b, _, none⟩) hb).trans c0
            replace c1 := (HR.out.2.2.1.cell (p := ⟨b, _, none⟩) hb).trans c1
            replace c2 := (HR.out.2.2.1.cell (p := ⟨b, _, none⟩) hb).trans c2
            replace c3 := (HR.out.2.2.1.cell (p := ⟨b, _, none⟩) hb).trans c3
            have HC := Lib.hid hc
            have HMm : Hid (l[k] ∈ l) := List.getElem_mem _
            clear hc hcc
            go_wp2
            obtain ⟨wp, rfl⟩ : ∃ wp : World, wp = wr := ⟨_, rfl⟩
            go_loopw [66] (fun i wr => ∃ j : Nat, j ≤ l.length ∧ i = .int .i64 j ∧ Blk wr (wp.heap.size + 1) #[.string (upN l j l[k]).key, .int .i64 (upN l j l[k]).ways, .string (upN l j l[k]).par, .int .i64 (upN l j l[k]).port] 92 ∧ Below (w.heap.size + 1) (w.alloc (.cells #[.slice (some ⟨b, off, none⟩) l.length cap, v2] 89)) wr) (fun i _ => l.length - (intOf i).toNat)
            case atStart => exact ⟨0, by omega, rfl, Blk.newAt (by simp), below_alloc (below_alloc HR.out.2.1 _ (by omega)) _ (by simp; omega)⟩
            case round =>
              obtain ⟨j, hj, rfl, hX, hB⟩ := hrel
              have hXs := hX.lt
              have hBw : Below w.heap.size w wr := below_at (below_alloc (Below.refl _ _) _ (Nat.le_refl _)) hB (by omega)
              have hbw := HBX.out.below hB (by omega)
              have q0 := hbw.cell 0 _ rfl
              have q1 := hbw.cell 1 _ rfl
              have x0 := hX.cell 0 _ rfl
              have x1 := hX.cell 1 _ rfl
              have x2 := hX.cell 2 _ rfl
              have x3 := hX.cell 3 _ rfl
              have HI := Lib.hid (And.intro hX (And.intro hB (And.intro hBw hbw)))
              have hlt1 : w.heap.size < wr.heap.size := by omega
              clear hX hB hBw hbw r0 r1 c0 c1 c2 c3
              by_cases hstop : (upN l j l[k]).par.size = 0
              · have he : (upN l j l[k]).par.toList.isEmpty = true := by rw [isEmpty_size]; simp [hstop]
                have hend : loopAt l l[k] = false := by
                  unfold loopAt
                  rw [show l.length = j + (l.length - j) by omega, upN_stay hstop, decide_eq_false_iff_not]
                  exact fun h => h hstop
                have HE : Hid ((l.take (k + 1)).any (loopAt l) = false) := by rw [any_take_succ _ l k hlt HR.out.1]; exact hend
                clear hend hstop
                by_cases hjn : j < l.length
                all_goals
                  go_wp2
                  exact ⟨⟨k + 1, by omega, by go_num, HE.out, HI.out.2.1⟩, by simp [intOf]; omega⟩
              · have he : (upN l j l[k]).par.toList.isEmpty = false := by rw [isEmpty_size]; simp [hstop]
                by_cases hjn : j < l.length
                · have HS9 := Lib.hid hstop
                  clear hstop
                  go_wp2_with fail
                  have hmemj := upN_mem HTW.out.2 HMm.out j
                  refine WalkT.start (fun w' => w'.cell? ⟨w.heap.size, 0, none⟩ = some (.slice (some ⟨b, off, none⟩) l.length cap) ∧ w'.cell? ⟨w.heap.size, 1, none⟩ = some v2 ∧ w'.cell? ⟨wp.heap.size + 1, 2, none⟩ = some (.string (upN l j l[k]).par)) [8] (by kernel_rfl) ?_
                  have hS0 : wr.drew.cell? ⟨w.heap.size, 0, none⟩ = some (.slice (some ⟨b, off, none⟩) l.length cap) ∧ wr.drew.cell? ⟨w.heap.size, 1, none⟩ = some v2 ∧ wr.drew.cell? ⟨wp.heap.size + 1, 2, none⟩ = some (.string (upN l j l[k]).par) := ⟨q0, q1, x2⟩
                  have HS0 := Lib.hid hS0
                  have HMj := Lib.hid hmemj
                  clear hS0 hmemj
                  refine WalkT.quiet (i := 0) (v := ?_) rfl (by kernel_rfl) (by kernel_rfl) (by kernel_rfl) (fun _ _ _ h => h) (Or.inl ⟨by rfl, ?_⟩) ?_; rotate_left; (· (intro wS hSw; (try dsimp only at hSw); go_simp; try with_reducible rfl)); try simp only [Act.put, List.setIfInBounds_toArray, List.set_cons_zero, List.set_cons_succ]
                  refine WalkT.take (i := 1) (v := ?_) rfl (by kernel_rfl) (by kernel_rfl) (by kernel_rfl) (by kernel_rfl) (fun _ _ _ h => h) (HS0.out) (Or.inl ⟨by rfl, ?_⟩) ?_; rotate_left; (· (intro wS hSw; (try dsimp only at hSw); go_simp; try with_reducible rfl)); try simp only [Act.put, List.setIfInBounds_toArray, List.set_cons_zero, List.set_cons_succ]
                  refine WalkT.take (i := 2) (v := ?_) rfl (by kernel_rfl) (by kernel_rfl) (by kernel_rfl) (by kernel_rfl) (fun _ _ _ h => h) (HS0.out) (Or.inl ⟨by rfl, ?_⟩) ?_; rotate_left; (· (intro wS hSw; (try dsimp only at hSw); go_simp; try with_reducible rfl)); try simp only [Act.put, List.setIfInBounds_toArray, List.set_cons_zero, List.set_cons_succ]
                  refine WalkT.quiet (i := 3) (v := ?_) rfl (by kernel_rfl) (by kernel_rfl) (by kernel_rfl) (fun _ _ _ h => h) (Or.inl ⟨by rfl, ?_⟩) ?_; rotate_left; (· (intro wS hSw; (try dsimp only at hSw); go_simp; try with_reducible rfl)); try simp only [Act.put, List.setIfInBounds_toArray, List.set_cons_zero, List.set_cons_succ]
                  refine WalkT.take (i := 4) (v := ?_) rfl (by kernel_rfl) (by kernel_rfl) (by kernel_rfl) (by kernel_rfl) (fun _ _ _ h => h) (HS0.out) (Or.inl ⟨by rfl, ?_⟩) ?_; rotate_left; (· (intro wS hSw; (try dsimp only at hSw); go_simp; try with_reducible rfl)); try simp only [Act.put, List.setIfInBounds_toArray, List.set_cons_zero, List.set_cons_succ]
                  refine WalkT.ready (rs := [5]) (by kernel_rfl) (by simp) (AllT.cons rfl (fun K hK => ?_) AllT.nil); go_simp
                  refine (find_any _ _ l (upN l j l[k]).par _ ?_ (by omega) HK.out.1).mono ?_
                  · exact HK.out.2.2.below (by have h4 := HI.out.2.2.1; (repeat (first | exact Below.refl _ _ | assumption | refine below_draws ?_ _ | refine Below.drew ?_ | refine below_alloc ?_ _ (by first | omega | (simp; done) | (simp; omega)) | refine Below.setCell ?_ (by first | omega | (simp; done) | (simp; omega)) _ | refine below_at ?_ (by assumption) (by first | omega | (simp; done) | (simp; omega)))))
                  rintro e w5 ⟨rfl, hb5⟩
                  have hz5 : wr.heap.size ≤ w5.heap.size := hb5.size
                  have hX5 := HI.out.1.drew.below hb5 (by simp; omega)
                  have hB5 : Below (w.heap.size + 1) (w.alloc (.cells #[.slice (some ⟨b, off, none⟩) l.length cap, v2] 89)) w5 := by
                    have h3 := HI.out.2.1
                    exact below_at (Below.drew h3) hb5 (by simp; omega)
                  have hBw5 : Below w.heap.size w w5 := below_at (below_alloc (Below.refl _ _) _ (Nat.le_refl _)) hB5 (by omega)
                  rcases findS_get l (upN l j l[k]).par with ⟨hneg, hnone⟩ | ⟨j', hj', hfj, hget, -⟩
                  · obtain ⟨y, -, hy⟩ := HTW.out.2 _ HMj.out HS9.out
                    rw [hnone] at hy; cases hy
                  rw [hfj]
                  have hup : upN l (j + 1) l[k] = l[j'] := by
                    show upS l (upN l j l[k]) = _
                    unfold upS; rw [if_neg HS9.out, hget]; rfl
                  have HU := Lib.hid hup
                  clear hup hfj hget
                  refine hK.out _ _ (fun _ _ => ?_) ?_
                  · exact ⟨(hb5.cell (p := ⟨_, _, none⟩) (by simp; omega)).trans q0, (hb5.cell (p := ⟨_, _, none⟩) (by simp; omega)).trans q1, (hb5.cell (p := ⟨_, _, none⟩) (by simp; omega)).trans x2⟩
                  clear hK K
                  try simp only [Act.put, List.setIfInBounds_toArray, List.set_cons_zero, List.set_cons_succ]
                  have hj1 : (0 : Int) ≤ (j' : Int) := by omega
                  have hj3 : (j' : Int) < (l.length : Int) := by omega
                  obtain ⟨b', off', hbe, hbb, hcc⟩ := HC.out j' hj'
                  obtain ⟨rfl, rfl⟩ : b = b' ∧ off = off' := by simpa using hbe
                  obtain ⟨d0, d1, d2, d3⟩ := splt_at hcc
                  replace d0 := (hBw5.cell (p := ⟨b, _, none⟩) hb).trans d0
                  replace d1 := (hBw5.cell (p := ⟨b, _, none⟩) hb).trans d1
                  replace d2 := (hBw5.cell (p := ⟨b, _, none⟩) hb).trans d2
                  replace d3 := (hBw5.cell (p := ⟨b, _, none⟩) hb).trans d3
                  clear hcc hbe hbb x0 x1 x2 x3 q0 q1
                  have x0 := hX5.cell 0 _ rfl
                  have x1 := hX5.cell 1 _ rfl
                  have x2 := hX5.cell 2 _ rfl
                  have x3 := hX5.cell 3 _ rfl
                  have xf := fun o => hX5.free o
                  have H5 := Lib.hid (And.intro hX5 (And.intro hB5 hBw5))
                  clear hX5 hB5 hBw5
                  refine WalkT.quiet (i := 6) (v := ?_) rfl (by kernel_rfl) (by kernel_rfl) (by kernel_rfl) (fun _ _ _ h => h) (Or.inl ⟨by rfl, ?_⟩) ?_; rotate_left; (· (intro wS hSw; (try dsimp only at hSw); go_simp; try with_reducible rfl)); try simp only [Act.put, List.setIfInBounds_toArray, List.set_cons_zero, List.set_cons_succ]
                  refine WalkT.ready (rs := [7]) (by kernel_rfl) (by simp) (AllT.cons rfl (fun K hK => ?_) AllT.nil); go_simp
                  refine hK.out _ _ (fun _ h => h) ?_
                  clear hK K
                  try simp only [Act.put, List.setIfInBounds_toArray, List.set_cons_zero, List.set_cons_succ]
                  refine WalkT.ready (rs := [8]) (by kernel_rfl) (by simp) (AllT.cons rfl (fun K hK => ?_) AllT.nil); go_simp
                  refine hK.out _ _ (fun h => absurd h (by decide)) ?_
                  clear hK K
                  try simp only [Act.put, List.setIfInBounds_toArray, List.set_cons_zero, List.set_cons_succ]
                  refine WalkT.done (by kernel_rfl) ?_
                  go_wp2
                  refine ⟨⟨j + 1, by omega, by go_num, ?_, ?_⟩, by simp [intOf]; omega⟩
                  · rw [HU.out]
                    exact (((H5.out.1.set 0 _).set 1 _).set 2 _).set 3 _
                  · exact Below.setCell (Below.setCell (Below.setCell (Below.setCell H5.out.2.1 (by simp; omega) _) (by simp; omega) _) (by simp; omega) _) (by simp; omega) _
                · obtain rfl : j = l.length := by omega
                  have hbad : parentsF l = 14 := by
                    rw [HTW.out.1, if_pos]
                    rw [List.any_eq_true]
                    exact ⟨l[k], HMm.out, by unfold loopAt; simpa using hstop⟩
                  have HFi := Lib.hid hbad
                  clear hbad hstop
                  go_wp2
                  go_ret
                  exact ⟨ret_int HFi.out.symm, HI.out.2.2.1⟩
          · obtain rfl : k = l.length := by omega
            have hfin : parentsF l = 0 := by
              have h1 := HR.out.1
              rw [List.take_of_length_le (Nat.le_refl _)] at h1
              rw [HTW.out.1, h1, if_neg (by simp)]
            have HFi := Lib.hid hfin
            clear hfin
            go_wp2
            go_ret
            exact ⟨ret_int HFi.out.symm, HR.out.2.2.1⟩
      · have hfin : parentsF l = 6 := by
          unfold parentsF; rw [if_neg (by omega), htw, if_pos rfl]
        have HFi := Lib.hid hfin
        clear hfin htw hP hz0
        go_wp2
        go_ret
        exact ⟨ret_int HFi.out.symm, HS.out.2.2.2.1⟩
end Go.Proofs.Ytagpcgnlbgndmaa
