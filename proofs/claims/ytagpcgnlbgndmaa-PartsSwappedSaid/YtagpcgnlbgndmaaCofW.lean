/- The walk of the reference's CheapestOf. -/
import Derived.Test.YtagpcgnlbgndmaaCof
set_option linter.unusedVariables false
set_option linter.unusedSimpArgs false
namespace Go.Proofs.Ytagpcgnlbgndmaa
open Go Go.RowKit
open Go.Maps (Keyed)

def CofPost (p : List Part) (x : Losses) (o : Optics) (s : List Swap) (w : World) (e : Ending) (w' : World) : Prop :=
  ∃ a cap L S B, e = .returned (.tuple #[.slice a L.length cap, .int .i64 S, .bool B]) ∧ Arr intCells 1 w' L (.slice a L.length cap) ∧ Below w.heap.size w w' ∧ S = chSum (cheapV p x o s) ∧ B = chIs (cheapV p x o s) ∧ L = cheapL p x o s
set_option maxHeartbeats 16000000 in
set_option maxRecDepth 100000 in
theorem cheapestOf_any (vp vs : Value) (p : List Part) (x : Losses) (o : Optics) (s : List Swap) (w : World) (hp : Arr Part.cells 2 w p vp) (hs : Arr Swap.cells 4 w s vs) (hf : faultF p x o = 0) (hso : SwapsOk p.length s) : Calls Try.prog 51 #[vp, .agg #[.int .i64 x.perKm, .int .i64 x.conn, .int .i64 x.dblg, .int .i64 x.exc], .agg #[.int .i64 o.launch, .int .i64 o.least, .int .i64 o.most], vs] w (CofPost p x o s w) := by
  have HA := Lib.hid (And.intro hp hs)
  have HF := Lib.hid (And.intro hf hso)
  obtain ⟨ap, capp, rfl, hcapp, hmaxp, -⟩ := hp
  obtain ⟨sa, cap, rfl, hcap, hmax, -⟩ := hs
  unfold maxLen at hmax hmaxp
  have hsl := hso.1
  have hpl := (faultF_zero.1 hf).1.1
  have hmm := @run_makeMap Try.prog
  clear hf hso
  obtain ⟨E, hE⟩ : ∃ E, 2 ^ s.length = E := ⟨_, rfl⟩
  have hpw : E ≤ 4096 := by
    have := Nat.pow_le_pow_right (n := 2) (by omega) hsl
    rw [hE] at this
    simpa using this
  have hpi : IntKind.i64.wrap ((2 : Int) ^ s.length) = (E : Int) := by
    have h1 : ((2 : Int) ^ s.length) = ((2 ^ s.length : Nat) : Int) := by push_cast; rfl
    rw [h1, hE]; exact IntWalk.i64_in _ (by omega)
  have HE := Lib.hid hE
  clear hE
  go_enter Try.func51, Try.ntmps51
  go_wp2
  clear hpi
  have HM0 : Hid (MSt w x o ((w.alloc (.cells #[.int .i64 x.perKm, .int .i64 x.conn, .int .i64 x.dblg, .int .i64 x.exc] 29)).alloc (.cells #[.int .i64 o.launch, .int .i64 o.least, .int .i64 o.most] 32))) := ⟨by (repeat (first | exact Below.refl _ _ | assumption | refine below_draws ?_ _ | refine Below.drew ?_ | refine below_alloc ?_ _ (by first | omega | (simp; done) | (simp; omega)) | refine Below.setCell ?_ (by first | omega | (simp; done) | (simp; omega)) _ | refine below_at ?_ (by assumption) (by first | omega | (simp; done) | (simp; omega)))), (Blk.new w _ _).alloc _, Blk.newAt (by simp)⟩
  go_loopw [11, 12, 24] (fun bv lv i wr => ∃ (k : Nat) (st : Chp) (L0 : List Int) (T : Int), k ≤ E ∧ i = .int .i64 k ∧ lv = .int .i64 T ∧ Arr intCells 1 wr L0 bv ∧ (L0 = bestS2 st s.length ∧ T = leastS st ∧ st = cheapSt p x o s k) ∧ MSt w x o wr) (fun _ _ i _ => E - (intOf i).toNat)
  case atStart => exact ⟨0, none, [], -1, Nat.zero_le _, rfl, rfl, Arr.nil _ _ _, ⟨(bestS2_none _).symm, rfl, rfl⟩, HM0.out⟩
  case round =>
    obtain ⟨k, st, L0, T, hk, rfl, rfl, hA0, hst, hM⟩ := hrel
    have hz := hM.bel.size
    obtain ⟨ab, capb, rfl, hcb, hmb, -⟩ := id hA0
    have HST := Lib.hid (And.intro hst (And.intro hA0 hM))
    clear hst hA0 hM
    unfold maxLen at hmb
    obtain ⟨wb, rfl⟩ : ∃ wb, wb = wr := ⟨_, rfl⟩
    by_cases hlt : k < E
    · have hset : k < 4096 := by omega
      go_wp2_with fail
      refine (clone_part _ p _ (HA.out.1.below (by have := HST.out.2.2.bel; (repeat (first | exact Below.refl _ _ | assumption | refine below_draws ?_ _ | refine Below.drew ?_ | refine below_alloc ?_ _ (by first | omega | (simp; done) | (simp; omega)) | refine Below.setCell ?_ (by first | omega | (simp; done) | (simp; omega)) _ | refine below_at ?_ (by assumption) (by first | omega | (simp; done) | (simp; omega)))))) (by omega)).mono ?_
      rintro e w1 ⟨vq, rfl, hcl, hb1⟩
      obtain ⟨aq, capq, rfl, hcq, hmq, hfr⟩ := fit_of_clone hcl hb1
      have hz1 := hb1.size
      have HFR := Lib.hid hfr
      clear hcl hb1 hfr
      go_wp2_with fail
      refine (membersO_any k s.length _ hset hsl).mono ?_
      rintro e w3 ⟨v3, rfl, hown, hb3⟩
      have hLn := membTo_len k s.length
      have hz3 := hb3.size
      simp only [World.size_alloc] at hz3
      obtain ⟨la, lcap, rfl, hLA⟩ := lat_of_own (mb := w1.heap.size) hown (by simp)
      have hLf : ∀ n, n = (membTo k s.length).length → n ≤ s.length := fun n h => by omega
      have HOWN := Lib.hid hown
      have HSTP := Lib.hid (fun j hj => cof_step (b := k) HF.out.2 j hj)
      have HTB := Lib.hid (fun j => take_bound HF.out.2 k j)
      have hM3 : IMap w3 w1.heap.size 0 (fun q => decide (q ∈ atsS ((selSw s k).take 0))) := (imap_start w1 rfl (fun q => by simp [atsS])).below hb3 (by simp)
      have hR3 : FitR wb wb.heap.size aq (setAll p ((selSw s k).take 0)) w3 := by
        have hb13 : Below w1.heap.size w1 w3 := below_at (below_alloc (Below.refl _ _) _ (Nat.le_refl _)) hb3 (by simp)
        refine ⟨below_at HFR.out.be hb13 hz1, fun hq => ?_⟩
        obtain ⟨g, h1, h2, h3⟩ := HFR.out.row hq
        exact ⟨g, h1, h2, h3.below hb13 h3.2.2⟩
      have hGM : p ≠ [] → ∀ g, aq = some ⟨g, 0, none⟩ → g < w1.heap.size := by
        intro hp g hg
        obtain ⟨g', h1, h2, h3⟩ := HFR.out.row hp
        rw [hg] at h1
        simp only [Option.some.injEq, Addr.mk.injEq, and_true] at h1
        subst h1
        exact h3.2.2
      have HZL : Hid ((membTo k s.length).length = (selSw s k).length) := Lib.hid (by rw [selSw_members]; simp)
      have hZs : (membTo k s.length).length ≤ s.length := hLn
      have H3 := Lib.hid (And.intro hM3 (And.intro hR3 (And.intro hLA hGM)))
      clear hown hb3 hM3 hR3 hLA hGM hLf
      generalize hZ : selSw s k = Z at *
      generalize hLL : membTo k s.length = L at *
      have HZ := Lib.hid (And.intro hZ hLL)
      clear hZ hLL
      have hwp : w.heap.size ≤ wb.heap.size := hz
      go_wp2
      go_loopw [15, 16, 35] (fun pv rv i ws => ∃ (j : Nat) (A : List Swap) (PA : Int) (nd : Bool) (q : List Part), j ≤ L.length ∧ i = .int .i64 j ∧ pv = .int .i64 PA ∧ rv = .bool nd ∧ (A = Z.take j ∧ PA = priceS A ∧ nd = decide (atsS A).Nodup ∧ q = setAll p A) ∧ IMap ws w1.heap.size j (fun z => decide (z ∈ atsS A)) ∧ FitR wb wb.heap.size aq q ws ∧ LAt w1.heap.size la L ws) (fun _ _ i _ => L.length - (intOf i).toNat)
      case atStart => exact ⟨0, [], 0, true, p, by omega, rfl, rfl, rfl, ⟨rfl, rfl, by simp [atsS], rfl⟩, H3.out.1, H3.out.2.1, H3.out.2.2.1⟩
      case round =>
        obtain ⟨j, A, PA, nd, q, hj, rfl, rfl, rfl, hA, hM, hR, hL⟩ := hrel
        by_cases hjl : j < L.length
        · obtain ⟨i, hi, hLi, ha0, ha1, htk, hp0, hp1⟩ := HSTP.out j hjl
          have hjl' : (j : Int) < L.length := by omega
          have hPB := HTB.out j
          rw [← hA.1, ← hA.2.1] at hPB
          obtain ⟨lb, rfl, hlb1, hlb2, e0⟩ := hL j hjl
          rw [hLi] at e0
          obtain ⟨aS, cS, heS, hcS1, hcS2, hcS⟩ := HA.out.2
          simp only [Value.slice.injEq] at heS
          obtain ⟨rfl, _, rfl⟩ := heS
          obtain ⟨sb, so, rfl, hsb, hscc⟩ := hcS i hi
          obtain ⟨c0, c1, c2, c3⟩ := swap_at hscc
          have hBs := below_at HST.out.2.2.bel hR.be hz
          obtain ⟨ai, hai⟩ := Int.eq_ofNat_of_zero_le ha0
          have t0 := (hBs.cell (p := ⟨sb, _, none⟩) hsb).trans c0
          rw [hai] at t0
          obtain ⟨kl, hkl⟩ := intKey (ai : Int) (WalkArith.wf_i64 (by omega))
          have hkl : keyOf Try.prog 3 (intV (ai : Int)) = some kl := hkl
          have HKL := Lib.hid hkl
          obtain ⟨sn, hsn⟩ : ∃ sn, decide ((ai : Int) ∈ atsS A) = sn := ⟨_, rfl⟩
          have HSN := Lib.hid hsn
          have HR := Lib.hid (And.intro hA (And.intro hM (And.intro hR (And.intro hL (And.intro htk (And.intro hai hBs))))))
          have HCC := Lib.hid (And.intro c0 (And.intro c1 (And.intro c2 c3)))
          have hi' : (i : Int) < s.length := by omega
          have hlt2 : (ai : Int) < p.length := by omega
          clear hkl hsn hA hM hR hL htk hBs hscc hcS hLi ha0 ha1 c0 c1 c2 c3
          go_upto_region 11 with fail
          go_cut [16] from 39 to 49 (fun r wc => r = .bool (nd && !sn) ∧ wr = wc)
          case first =>
            cases nd
            · go_wp2
              go_meet
              exact ⟨rfl, rfl⟩
            · go_wp2_with (at_lookup; refine wpList_look (by rfl) _ _ _ rfl intKeyed Try.underlying150 (zeroBoolI _) HR.out.2.1 rfl (ai : Int) HKL.out rfl ((boolI_get _ _).trans (congrArg Value.bool HSN.out)) ?_)
              go_meet
              exact ⟨rfl, rfl⟩
          case rest =>
          obtain ⟨rfl, rfl⟩ := hcut
          have hj12 : j < 12 := by omega
          go_wp2_with (at_mapUpdate; refine wpList_update (by rfl) _ _ _ _ rfl intKeyed Try.underlying150 intV_inj HR.out.2.1 (by unfold maxLen; omega) rfl (ai : Int) HKL.out rfl (.bool true) rfl ?_; intro w5 hM5 hg5)
          have hz5 := hg5.size
          have hqp : q ≠ [] → p ≠ [] := fun h e => h (by have := HR.out.1.2.2.2; rw [this, e]; exact List.length_eq_zero_iff.1 (by rw [setAll_len]; rfl))
          have hql : q.length = p.length := by rw [HR.out.1.2.2.2, setAll_len]
          have hp0' : p ≠ [] := fun e => by rw [e] at hlt2; simp at hlt2; omega
          have hq0 : q ≠ [] := fun e => by rw [e] at hql; simp at hql; omega
          have hR5 := HR.out.2.2.1.grown hg5 hz1 (fun _ g hg => H3.out.2.2.2 hp0' g hg)
          have hR5d : FitR wb wb.heap.size aq q w5.drew := ⟨Below.drew hR5.be, hR5.row⟩
          have hL5 := HR.out.2.2.2.1.grown hg5 (Nat.le_refl _)
          have hBs5 := below_at HST.out.2.2.bel hR5d.be hz
          have t0 := (hBs5.cell (p := ⟨sb, _, none⟩) hsb).trans HCC.out.1
          have t1 := (hBs5.cell (p := ⟨sb, _, none⟩) hsb).trans HCC.out.2.1
          have t2 := (hBs5.cell (p := ⟨sb, _, none⟩) hsb).trans HCC.out.2.2.1
          rw [HR.out.2.2.2.2.2.1] at t0
          obtain ⟨g, rfl, hg, hrow⟩ := hR5d.row hq0
          have hgm := H3.out.2.2.2 hp0' g rfl
          have hail : ai < q.length := by omega
          have hrn := hR5d.put ai hail s[i].by_ g rfl
          have hgs := grown_setCells g (Part.cells s[i].by_) (ai * 2) w5.drew
          have hMn := (MapIs.drew hM5).kept hgs (by simp; omega)
          have hLn5 := (show LAt w1.heap.size (some ⟨lb, 0, none⟩) L w5.drew from hL5).grown hgs (by omega)
          have HRN := Lib.hid (And.intro hrn (And.intro hMn hLn5))
          have u0 : w5.drew.cell? ⟨g, ai * 2, none⟩ = some (.int .i64 q[ai].kind) := by have := hrow.1 ai hail 0 _ rfl; simpa using this
          have u1 : (w5.drew.setCell ⟨g, ai * 2, none⟩ (.int .i64 s[i].by_.kind)).cell? ⟨g, ai * 2 + 1, none⟩ = some (.int .i64 q[ai].amt) := by
            rw [World.cell?_setCell_other _ _ _ _ (by simp)]
            have := hrow.1 ai hail 1 _ rfl; simpa using this
          have v0 : w5.drew.frozen? ⟨g, ai * 2, none⟩ = false := hrow.2.1 _
          have v1 : (w5.drew.setCell ⟨g, ai * 2, none⟩ (.int .i64 s[i].by_.kind)).frozen? ⟨g, ai * 2 + 1, none⟩ = false := by rw [World.frozen?_setCell]; exact hrow.2.1 _
          have hwn : IntKind.i64.wrap (PA + s[i].price) = PA + s[i].price := IntWalk.i64_in _ (by omega)
          clear hM5 hg5 hR5 hR5d hL5 hBs5 hrow hrn hgs hMn hLn5 hqp
          refine WalkT.start (fun w' => w'.cell? ⟨sb, so + i * 4, none⟩ = some (.int .i64 ai) ∧ w'.cell? ⟨sb, so + i * 4 + 1, none⟩ = some (.int .i64 s[i].by_.kind) ∧ w'.cell? ⟨sb, so + i * 4 + 2, none⟩ = some (.int .i64 s[i].by_.amt)) [12] (by kernel_rfl) ?_
          generalize w5.drew = W0 at *
          have hS1 : W0.cell? ⟨sb, so + i * 4, none⟩ = some (.int .i64 ai) ∧ W0.cell? ⟨sb, so + i * 4 + 1, none⟩ = some (.int .i64 s[i].by_.kind) ∧ W0.cell? ⟨sb, so + i * 4 + 2, none⟩ = some (.int .i64 s[i].by_.amt) := ⟨t0, t1, t2⟩
          clear t0 t1 t2
          (refine WalkT.quiet (i := 0) (v := ?_) rfl (by kernel_rfl) (by kernel_rfl) (by kernel_rfl) (fun _ _ _ h => h) (Or.inl ⟨by rfl, ?_⟩) ?_; rotate_left; (· (intro wS hSw; (try dsimp only at hSw); go_simp; try with_reducible rfl)); try simp only [Act.put, List.setIfInBounds_toArray, List.set_cons_zero, List.set_cons_succ, List.getElem_toArray, List.getElem_cons_succ, List.getElem_cons_zero])
          (refine WalkT.quiet (i := 1) (v := ?_) rfl (by kernel_rfl) (by kernel_rfl) (by kernel_rfl) (fun _ _ _ h => h) (Or.inl ⟨by rfl, ?_⟩) ?_; rotate_left; (· (intro wS hSw; (try dsimp only at hSw); go_simp; try with_reducible rfl)); try simp only [Act.put, List.setIfInBounds_toArray, List.set_cons_zero, List.set_cons_succ, List.getElem_toArray, List.getElem_cons_succ, List.getElem_cons_zero])
          (refine WalkT.quiet (i := 2) (v := ?_) rfl (by kernel_rfl) (by kernel_rfl) (by kernel_rfl) (fun _ _ _ h => h) (Or.inl ⟨by rfl, ?_⟩) ?_; rotate_left; (· (intro wS hSw; (try dsimp only at hSw); go_simp; try with_reducible rfl)); try simp only [Act.put, List.setIfInBounds_toArray, List.set_cons_zero, List.set_cons_succ, List.getElem_toArray, List.getElem_cons_succ, List.getElem_cons_zero])
          (refine WalkT.quiet (i := 3) (v := ?_) rfl (by kernel_rfl) (by kernel_rfl) (by kernel_rfl) (fun _ _ _ h => h) (Or.inl ⟨by rfl, ?_⟩) ?_; rotate_left; (· (intro wS hSw; (try dsimp only at hSw); go_simp; try with_reducible rfl)); try simp only [Act.put, List.setIfInBounds_toArray, List.set_cons_zero, List.set_cons_succ, List.getElem_toArray, List.getElem_cons_succ, List.getElem_cons_zero])
          (refine WalkT.quiet (i := 4) (v := ?_) rfl (by kernel_rfl) (by kernel_rfl) (by kernel_rfl) (fun _ _ _ h => h) (Or.inl ⟨by rfl, ?_⟩) ?_; rotate_left; (· (intro wS hSw; (try dsimp only at hSw); go_simp; try with_reducible rfl)); try simp only [Act.put, List.setIfInBounds_toArray, List.set_cons_zero, List.set_cons_succ, List.getElem_toArray, List.getElem_cons_succ, List.getElem_cons_zero])
          (refine WalkT.take (i := 5) (v := ?_) rfl (by kernel_rfl) (by kernel_rfl) (by kernel_rfl) (by kernel_rfl) (fun _ _ _ h => h) hS1 (Or.inl ⟨by rfl, ?_⟩) ?_; rotate_left; (· (intro wS hSw; (try dsimp only at hSw); obtain ⟨t0, t1, t2⟩ := hSw; go_simp; try with_reducible rfl)); try simp only [Act.put, List.setIfInBounds_toArray, List.set_cons_zero, List.set_cons_succ, List.getElem_toArray, List.getElem_cons_succ, List.getElem_cons_zero])
          (refine WalkT.quiet (i := 6) (v := ?_) rfl (by kernel_rfl) (by kernel_rfl) (by kernel_rfl) (fun _ _ _ h => h) (Or.inl ⟨by rfl, ?_⟩) ?_; rotate_left; (· (intro wS hSw; (try dsimp only at hSw); go_simp; try with_reducible rfl)); try simp only [Act.put, List.setIfInBounds_toArray, List.set_cons_zero, List.set_cons_succ, List.getElem_toArray, List.getElem_cons_succ, List.getElem_cons_zero])
          (refine WalkT.quiet (i := 7) (v := ?_) rfl (by kernel_rfl) (by kernel_rfl) (by kernel_rfl) (fun _ _ _ h => h) (Or.inl ⟨by rfl, ?_⟩) ?_; rotate_left; (· (intro wS hSw; (try dsimp only at hSw); go_simp; try with_reducible rfl)); try simp only [Act.put, List.setIfInBounds_toArray, List.set_cons_zero, List.set_cons_succ, List.getElem_toArray, List.getElem_cons_succ, List.getElem_cons_zero])
          (refine WalkT.quiet (i := 8) (v := ?_) rfl (by kernel_rfl) (by kernel_rfl) (by kernel_rfl) (fun _ _ _ h => h) (Or.inl ⟨by rfl, ?_⟩) ?_; rotate_left; (· (intro wS hSw; (try dsimp only at hSw); go_simp; try with_reducible rfl)); try simp only [Act.put, List.setIfInBounds_toArray, List.set_cons_zero, List.set_cons_succ, List.getElem_toArray, List.getElem_cons_succ, List.getElem_cons_zero])
          (refine WalkT.quiet (i := 9) (v := ?_) rfl (by kernel_rfl) (by kernel_rfl) (by kernel_rfl) (fun _ _ _ h => h) (Or.inl ⟨by rfl, ?_⟩) ?_; rotate_left; (· (intro wS hSw; (try dsimp only at hSw); go_simp; try with_reducible rfl)); try simp only [Act.put, List.setIfInBounds_toArray, List.set_cons_zero, List.set_cons_succ, List.getElem_toArray, List.getElem_cons_succ, List.getElem_cons_zero])
          (refine WalkT.take (i := 10) (v := ?_) rfl (by kernel_rfl) (by kernel_rfl) (by kernel_rfl) (by kernel_rfl) (fun _ _ _ h => h) hS1 (Or.inl ⟨by rfl, ?_⟩) ?_; rotate_left; (· (intro wS hSw; (try dsimp only at hSw); obtain ⟨t0, t1, t2⟩ := hSw; go_simp; try with_reducible rfl)); try simp only [Act.put, List.setIfInBounds_toArray, List.set_cons_zero, List.set_cons_succ, List.getElem_toArray, List.getElem_cons_succ, List.getElem_cons_zero])
          (refine WalkT.quiet (i := 11) (v := ?_) rfl (by kernel_rfl) (by kernel_rfl) (by kernel_rfl) (fun _ _ _ h => h) (Or.inl ⟨by rfl, ?_⟩) ?_; rotate_left; (· (intro wS hSw; (try dsimp only at hSw); go_simp; try with_reducible rfl)); try simp only [Act.put, List.setIfInBounds_toArray, List.set_cons_zero, List.set_cons_succ, List.getElem_toArray, List.getElem_cons_succ, List.getElem_cons_zero])
          (refine WalkT.ready (rs := [12]) (by kernel_rfl) (by simp) (AllT.cons rfl (fun K hK => ?_) AllT.nil); go_simp)
          (refine hK.out _ _ (fun h => absurd h (by decide)) ?_; clear hK K; try simp only [Act.put, List.setIfInBounds_toArray, List.set_cons_zero, List.set_cons_succ, List.getElem_toArray, List.getElem_cons_succ, List.getElem_cons_zero])
          refine WalkT.done (by kernel_rfl) ?_
          have hBn := below_at HST.out.2.2.bel HRN.out.1.be hz
          have t3 := (hBn.cell (p := ⟨sb, _, none⟩) hsb).trans HCC.out.2.2.2
          have hW : (W0.setCell ⟨g, ai * 2, none⟩ (.int .i64 s[i].by_.kind)).setCell ⟨g, ai * 2 + 1, none⟩ (.int .i64 s[i].by_.amt) = W0.setCells g (ai * 2) (Part.cells s[i].by_) := rfl
          rw [hW]
          clear hW hBn hS1 u0 u1 v0 v1
          generalize W0.setCells g (ai * 2) (Part.cells s[i].by_) = W1 at *
          go_wp2
          refine ⟨⟨j + 1, A ++ [s[i]], PA + s[i].price, nd && !sn, q.set ai s[i].by_, by omega, by go_num, rfl, rfl, ⟨?_, ?_, ?_, ?_⟩, ?_, HRN.out.1, HRN.out.2.2⟩, by simp [intOf]; omega⟩
          · rw [HR.out.2.2.2.2.1, HR.out.1.1]
          · rw [priceS_snoc, HR.out.1.2.1]
          · rw [nodup_snoc, HR.out.2.2.2.2.2.1]
            rw [← HSN.out, HR.out.1.2.2.1]
          · rw [setAll_snoc, HR.out.2.2.2.2.2.1, HR.out.1.2.2.2]; rfl
          · refine HRN.out.2.1.congr (fun z => boolI_set (fun y => ?_) z)
            rw [atsS_snoc, HR.out.2.2.2.2.2.1]
            by_cases hy1 : y ∈ atsS A <;> by_cases hy2 : y = Int.ofNat ai <;> simp [hy1, hy2] <;> simp_all
        · obtain rfl : j = L.length := by omega
          have hAq := hR.arr (cap := capq) p.length (by rw [hA.2.2.2, setAll_len]) hcq hmq
          have hZt : Z.take L.length = Z := by rw [HZL.out]; exact List.take_length
          rw [hZt] at hA
          obtain ⟨rfl, e2, e3, e4⟩ := hA
          have hMr := HST.out.2.2.below hR.be
          have hAb := HST.out.2.1.below hR.be
          have hok := set_ok (p := p) (x := x) (o := o) HF.out.1 HF.out.2 k
          rw [HZ.out.1, ← e4] at hok
          have hcd : candS p x o s k = if nd = true ∧ outB (o.launch - total q x) o.least o.most = false then some PA else none := by
            unfold candS
            rw [HZ.out.1, e2, e3]
            by_cases hn : (atsS A).Nodup
            · rw [hok.2 hn]; simp [hn]
            · simp [hn]
          have HCD := Lib.hid hcd
          have HR := Lib.hid (And.intro hAq (And.intro hMr (And.intro hAb hok.1)))
          have hPB := HTB.out L.length
          rw [hZt, ← e2] at hPB
          have HPB := Lib.hid hPB
          have hzr := hMr.bel.size
          have hzx : w.heap.size + 1 < wr.heap.size := hMr.o.lt
          clear hM hR hL hZt e2 e3 e4 hcd hAq hMr hAb hok
          go_upto_region 16 with fail
          go_cut [89] from 76 to 89 (fun t wc => t = .bool (candS p x o s k).isNone ∧ MSt w x o wc ∧ Arr intCells 1 wc L0 (.slice ab L0.length capb))
          case first =>
            cases nd
            · have HCN := Lib.hid (show candS p x o s k = none by rw [HCD.out, if_neg (fun h => by cases h.1)])
              refine WalkT.start (MCells x o w.heap.size) [] (by kernel_rfl) ?_
              (refine WalkT.quiet (i := 0) (v := ?_) rfl (by kernel_rfl) (by kernel_rfl) (by kernel_rfl) (fun _ _ _ h => h) (Or.inl ⟨by rfl, ?_⟩) ?_; rotate_left; (· (intro wS hSw; (try dsimp only at hSw); go_simp; try with_reducible rfl)); try simp only [Act.put, List.setIfInBounds_toArray, List.set_cons_zero, List.set_cons_succ, List.getElem_toArray, List.getElem_cons_succ, List.getElem_cons_zero])
              (refine WalkT.quiet (i := 1) (v := ?_) rfl (by kernel_rfl) (by kernel_rfl) (by kernel_rfl) (fun _ _ _ h => h) (Or.inl ⟨by rfl, ?_⟩) ?_; rotate_left; (· (intro wS hSw; (try dsimp only at hSw); go_simp; try with_reducible rfl)); try simp only [Act.put, List.setIfInBounds_toArray, List.set_cons_zero, List.set_cons_succ, List.getElem_toArray, List.getElem_cons_succ, List.getElem_cons_zero])
              (refine WalkT.quiet (i := 2) (v := ?_) rfl (by kernel_rfl) (by kernel_rfl) (by kernel_rfl) (fun _ _ _ h => h) (Or.inl ⟨by rfl, ?_⟩) ?_; rotate_left; (· (intro wS hSw; (try dsimp only at hSw); go_simp; try with_reducible rfl)); try simp only [Act.put, List.setIfInBounds_toArray, List.set_cons_zero, List.set_cons_succ, List.getElem_toArray, List.getElem_cons_succ, List.getElem_cons_zero])
              (refine WalkT.quiet (i := 3) (v := undef) rfl (by kernel_rfl) (by kernel_rfl) (by kernel_rfl) (fun _ _ _ h => h) (Or.inr ⟨by go_simp, rfl⟩) ?_; try simp only [Act.put, List.setIfInBounds_toArray, List.set_cons_zero, List.set_cons_succ, List.getElem_toArray, List.getElem_cons_succ, List.getElem_cons_zero])
              (refine WalkT.quiet (i := 4) (v := undef) rfl (by kernel_rfl) (by kernel_rfl) (by kernel_rfl) (fun _ _ _ h => h) (Or.inr ⟨by go_simp, rfl⟩) ?_; try simp only [Act.put, List.setIfInBounds_toArray, List.set_cons_zero, List.set_cons_succ, List.getElem_toArray, List.getElem_cons_succ, List.getElem_cons_zero])
              (refine WalkT.quiet (i := 5) (v := undef) rfl (by kernel_rfl) (by kernel_rfl) (by kernel_rfl) (fun _ _ _ h => h) (Or.inr ⟨by go_simp, rfl⟩) ?_; try simp only [Act.put, List.setIfInBounds_toArray, List.set_cons_zero, List.set_cons_succ, List.getElem_toArray, List.getElem_cons_succ, List.getElem_cons_zero])
              (refine WalkT.quiet (i := 6) (v := undef) rfl (by kernel_rfl) (by kernel_rfl) (by kernel_rfl) (fun _ _ _ h => h) (Or.inr ⟨by go_simp, rfl⟩) ?_; try simp only [Act.put, List.setIfInBounds_toArray, List.set_cons_zero, List.set_cons_succ, List.getElem_toArray, List.getElem_cons_succ, List.getElem_cons_zero])
              (refine WalkT.quiet (i := 7) (v := undef) rfl (by kernel_rfl) (by kernel_rfl) (by kernel_rfl) (fun _ _ _ h => h) (Or.inr ⟨by go_simp, rfl⟩) ?_; try simp only [Act.put, List.setIfInBounds_toArray, List.set_cons_zero, List.set_cons_succ, List.getElem_toArray, List.getElem_cons_succ, List.getElem_cons_zero])
              (refine WalkT.quiet (i := 8) (v := undef) rfl (by kernel_rfl) (by kernel_rfl) (by kernel_rfl) (fun _ _ _ h => h) (Or.inr ⟨by go_simp, rfl⟩) ?_; try simp only [Act.put, List.setIfInBounds_toArray, List.set_cons_zero, List.set_cons_succ, List.getElem_toArray, List.getElem_cons_succ, List.getElem_cons_zero])
              (refine WalkT.quiet (i := 9) (v := undef) rfl (by kernel_rfl) (by kernel_rfl) (by kernel_rfl) (fun _ _ _ h => h) (Or.inr ⟨by go_simp, rfl⟩) ?_; try simp only [Act.put, List.setIfInBounds_toArray, List.set_cons_zero, List.set_cons_succ, List.getElem_toArray, List.getElem_cons_succ, List.getElem_cons_zero])
              (refine WalkT.quiet (i := 10) (v := undef) rfl (by kernel_rfl) (by kernel_rfl) (by kernel_rfl) (fun _ _ _ h => h) (Or.inr ⟨by go_simp, rfl⟩) ?_; try simp only [Act.put, List.setIfInBounds_toArray, List.set_cons_zero, List.set_cons_succ, List.getElem_toArray, List.getElem_cons_succ, List.getElem_cons_zero])
              (refine WalkT.quiet (i := 11) (v := undef) rfl (by kernel_rfl) (by kernel_rfl) (by kernel_rfl) (fun _ _ _ h => h) (Or.inr ⟨by go_simp, rfl⟩) ?_; try simp only [Act.put, List.setIfInBounds_toArray, List.set_cons_zero, List.set_cons_succ, List.getElem_toArray, List.getElem_cons_succ, List.getElem_cons_zero])
              (refine WalkT.quiet (i := 12) (v := undef) rfl (by kernel_rfl) (by kernel_rfl) (by kernel_rfl) (fun _ _ _ h => h) (Or.inr ⟨by go_simp, rfl⟩) ?_; try simp only [Act.put, List.setIfInBounds_toArray, List.set_cons_zero, List.set_cons_succ, List.getElem_toArray, List.getElem_cons_succ, List.getElem_cons_zero])
              (refine WalkT.quiet (i := 13) (v := ?_) rfl (by kernel_rfl) (by kernel_rfl) (by kernel_rfl) (fun _ _ _ h => h) (Or.inl ⟨by rfl, ?_⟩) ?_; rotate_left; (· (intro wS hSw; (try dsimp only at hSw); go_simp; try with_reducible rfl)); try simp only [Act.put, List.setIfInBounds_toArray, List.set_cons_zero, List.set_cons_succ, List.getElem_toArray, List.getElem_cons_succ, List.getElem_cons_zero])
              refine WalkT.done (by kernel_rfl) ?_
              go_wp2
              go_meet
              exact ⟨by rw [HCN.out]; rfl, ⟨Below.drew HR.out.2.1.bel, HR.out.2.1.x, HR.out.2.1.o⟩, HR.out.2.2.1⟩
            · cases hout : outB (o.launch - total q x) o.least o.most
              all_goals
                have HOUT := Lib.hid hout
                have hMd : MSt w x o wr.drew := ⟨Below.drew HR.out.2.1.bel, HR.out.2.1.x, HR.out.2.1.o⟩
                have HMd := Lib.hid (And.intro hMd (And.intro (show Arr intCells 1 wr.drew L0 (.slice ab L0.length capb) from HR.out.2.2.1) (show Arr Part.cells 2 wr.drew q (.slice aq p.length capq) from HR.out.1)))
                clear hMd
                refine WalkT.start (MCells x o w.heap.size) [] (by kernel_rfl) ?_
                generalize wr.drew = W0 at *
                have HSC := Lib.hid HMd.out.1.s
                have hzx0 : w.heap.size + 1 < W0.heap.size := HMd.out.1.o.lt
                (refine WalkT.quiet (i := 0) (v := ?_) rfl (by kernel_rfl) (by kernel_rfl) (by kernel_rfl) (fun _ _ _ h => h) (Or.inl ⟨by rfl, ?_⟩) ?_; rotate_left; (· (intro wS hSw; (try dsimp only at hSw); go_simp; try with_reducible rfl)); try simp only [Act.put, List.setIfInBounds_toArray, List.set_cons_zero, List.set_cons_succ, List.getElem_toArray, List.getElem_cons_succ, List.getElem_cons_zero])
                (refine WalkT.quiet (i := 1) (v := ?_) rfl (by kernel_rfl) (by kernel_rfl) (by kernel_rfl) (fun _ _ _ h => h) (Or.inl ⟨by rfl, ?_⟩) ?_; rotate_left; (· (intro wS hSw; (try dsimp only at hSw); go_simp; try with_reducible rfl)); try simp only [Act.put, List.setIfInBounds_toArray, List.set_cons_zero, List.set_cons_succ, List.getElem_toArray, List.getElem_cons_succ, List.getElem_cons_zero])
                (refine WalkT.quiet (i := 2) (v := ?_) rfl (by kernel_rfl) (by kernel_rfl) (by kernel_rfl) (fun _ _ _ h => h) (Or.inl ⟨by rfl, ?_⟩) ?_; rotate_left; (· (intro wS hSw; (try dsimp only at hSw); go_simp; try with_reducible rfl)); try simp only [Act.put, List.setIfInBounds_toArray, List.set_cons_zero, List.set_cons_succ, List.getElem_toArray, List.getElem_cons_succ, List.getElem_cons_zero])
                (refine WalkT.quiet (i := 3) (v := ?_) rfl (by kernel_rfl) (by kernel_rfl) (by kernel_rfl) (fun _ _ _ h => h) (Or.inl ⟨by go_simp, ?_⟩) ?_; rotate_left; (· (intro wS hSw; (try dsimp only at hSw); go_simp; try with_reducible rfl)); try simp only [Act.put, List.setIfInBounds_toArray, List.set_cons_zero, List.set_cons_succ, List.getElem_toArray, List.getElem_cons_succ, List.getElem_cons_zero])
                (refine WalkT.take (i := 4) (v := ?_) rfl (by kernel_rfl) (by kernel_rfl) (by kernel_rfl) (by kernel_rfl) (fun _ _ _ h => h) HSC.out (Or.inl ⟨by go_simp, ?_⟩) ?_; rotate_left; (· (intro wS hSw; (try unfold MCells at hSw); obtain ⟨⟨s1, s2, s3, s4⟩, s5, s6, s7⟩ := hSw; go_simp; try with_reducible rfl)); try simp only [Act.put, List.setIfInBounds_toArray, List.set_cons_zero, List.set_cons_succ, List.getElem_toArray, List.getElem_cons_succ, List.getElem_cons_zero])
                (refine WalkT.take (i := 5) (v := ?_) rfl (by kernel_rfl) (by kernel_rfl) (by kernel_rfl) (by kernel_rfl) (fun _ _ _ h => h) HSC.out (Or.inl ⟨by go_simp, ?_⟩) ?_; rotate_left; (· (intro wS hSw; (try unfold MCells at hSw); obtain ⟨⟨s1, s2, s3, s4⟩, s5, s6, s7⟩ := hSw; go_simp; try with_reducible rfl)); try simp only [Act.put, List.setIfInBounds_toArray, List.set_cons_zero, List.set_cons_succ, List.getElem_toArray, List.getElem_cons_succ, List.getElem_cons_zero])
                (refine WalkT.quiet (i := 7) (v := ?_) rfl (by kernel_rfl) (by kernel_rfl) (by kernel_rfl) (fun _ _ _ h => h) (Or.inl ⟨by go_simp, ?_⟩) ?_; rotate_left; (· (intro wS hSw; (try dsimp only at hSw); go_simp; try with_reducible rfl)); try simp only [Act.put, List.setIfInBounds_toArray, List.set_cons_zero, List.set_cons_succ, List.getElem_toArray, List.getElem_cons_succ, List.getElem_cons_zero])
                (refine WalkT.take (i := 8) (v := ?_) rfl (by kernel_rfl) (by kernel_rfl) (by kernel_rfl) (by kernel_rfl) (fun _ _ _ h => h) HSC.out (Or.inl ⟨by go_simp, ?_⟩) ?_; rotate_left; (· (intro wS hSw; (try unfold MCells at hSw); obtain ⟨⟨s1, s2, s3, s4⟩, s5, s6, s7⟩ := hSw; go_simp; try with_reducible rfl)); try simp only [Act.put, List.setIfInBounds_toArray, List.set_cons_zero, List.set_cons_succ, List.getElem_toArray, List.getElem_cons_succ, List.getElem_cons_zero])
                (refine WalkT.quiet (i := 9) (v := ?_) rfl (by kernel_rfl) (by kernel_rfl) (by kernel_rfl) (fun _ _ _ h => h) (Or.inl ⟨by go_simp, ?_⟩) ?_; rotate_left; (· (intro wS hSw; (try dsimp only at hSw); go_simp; try with_reducible rfl)); try simp only [Act.put, List.setIfInBounds_toArray, List.set_cons_zero, List.set_cons_succ, List.getElem_toArray, List.getElem_cons_succ, List.getElem_cons_zero])
                (refine WalkT.take (i := 10) (v := ?_) rfl (by kernel_rfl) (by kernel_rfl) (by kernel_rfl) (by kernel_rfl) (fun _ _ _ h => h) HSC.out (Or.inl ⟨by go_simp, ?_⟩) ?_; rotate_left; (· (intro wS hSw; (try unfold MCells at hSw); obtain ⟨⟨s1, s2, s3, s4⟩, s5, s6, s7⟩ := hSw; go_simp; try with_reducible rfl)); try simp only [Act.put, List.setIfInBounds_toArray, List.set_cons_zero, List.set_cons_succ, List.getElem_toArray, List.getElem_cons_succ, List.getElem_cons_zero])
                (refine WalkT.ready (rs := [6]) (by kernel_rfl) (by simp) (AllT.cons rfl (fun K hK => ?_) AllT.nil); go_simp)
                refine (receivedOf_any _ q x o _ (by exact HMd.out.2.2) HR.out.2.2.2 (faultF_zero.1 HF.out.1).2.2).mono ?_
                rintro e w6 ⟨rfl, hb6⟩
                have HM6 := Lib.hid (And.intro (HMd.out.1.below hb6) (HMd.out.2.1.below hb6))
                clear hb6
                (refine hK.out _ _ (fun _ _ => HM6.out.1.s) ?_; clear hK K; try simp only [Act.put, List.setIfInBounds_toArray, List.set_cons_zero, List.set_cons_succ, List.getElem_toArray, List.getElem_cons_succ, List.getElem_cons_zero])
                (refine WalkT.ready (rs := [11]) (by kernel_rfl) (by simp) (AllT.cons rfl (fun K hK => ?_) AllT.nil); go_simp)
                refine (rin_any _ _ _ _).mono ?_
                rintro e w7 ⟨rfl, rfl⟩
                (refine hK.out _ _ (fun _ _ => HM6.out.1.s) ?_; clear hK K; try simp only [Act.put, List.setIfInBounds_toArray, List.set_cons_zero, List.set_cons_succ, List.getElem_toArray, List.getElem_cons_succ, List.getElem_cons_zero])
                (refine WalkT.quiet (i := 12) (v := ?_) rfl (by kernel_rfl) (by kernel_rfl) (by kernel_rfl) (fun _ _ _ h => h) (Or.inl ⟨by go_simp, ?_⟩) ?_; rotate_left; (· (intro wS hSw; (try dsimp only at hSw); go_simp; try with_reducible rfl)); try simp only [Act.put, List.setIfInBounds_toArray, List.set_cons_zero, List.set_cons_succ, List.getElem_toArray, List.getElem_cons_succ, List.getElem_cons_zero])
                (refine WalkT.quiet (i := 13) (v := ?_) rfl (by kernel_rfl) (by kernel_rfl) (by kernel_rfl) (fun _ _ _ h => h) (Or.inl ⟨by rfl, ?_⟩) ?_; rotate_left; (· (intro wS hSw; (try dsimp only at hSw); go_simp; try with_reducible rfl)); try simp only [Act.put, List.setIfInBounds_toArray, List.set_cons_zero, List.set_cons_succ, List.getElem_toArray, List.getElem_cons_succ, List.getElem_cons_zero])
                refine WalkT.done (by kernel_rfl) ?_
                go_wp2
                go_meet
                exact ⟨by rw [HCD.out, HOUT.out]; rfl, HM6.out.1, HM6.out.2⟩
          case rest =>
          obtain ⟨rfl, hMc, hAc⟩ := hcut
          have hzc := hMc.bel.size
          have HC := Lib.hid (And.intro hMc hAc)
          clear hMc hAc HR
          have HSK := Lib.hid (show cheapSt p x o s (k + 1) = stepS (candS p x o s k) k st by rw [cheapSt, ← HST.out.1.2.2])
          obtain ⟨cb, hcb⟩ : ∃ cb, (candS p x o s k).isNone = cb := ⟨_, rfl⟩
          rw [hcb]
          cases cb
          · obtain ⟨pr, hpr⟩ : ∃ pr, candS p x o s k = some pr := by
              cases h : candS p x o s k with
              | none => rw [h] at hcb; cases hcb
              | some pr => exact ⟨pr, rfl⟩
            have hpa : pr = PA := by
              have := HCD.out
              rw [hpr] at this
              split at this
              · simpa using this
              · cases this
            rw [hpa] at hpr
            have HPR := Lib.hid hpr
            clear hcb hpr hpa
            have hp1 := HPB.out.1
            go_wp2_with fail
            refine (membersO_any k s.length _ hset hsl).mono ?_
            rintro e w8 ⟨v8, rfl, hown8, hb8⟩
            rw [HZ.out.2] at hown8
            have hA8 := Arr.of_ints hown8
            obtain ⟨la8, lcap8, rfl, -, -, -⟩ := id hA8
            have H8 := Lib.hid (And.intro hA8 (And.intro (HC.out.1.below hb8) (HC.out.2.below hb8)))
            clear hown8 hA8 hb8
            rcases ch_cases st with ⟨h1, h2⟩ | ⟨b, sv, h1, h2, h3, h4⟩
            · have hT : T = -1 := by rw [HST.out.1.2.1, h1]; rfl
              subst hT
              have H1 := Lib.hid h1
              clear h1 h2
              go_wp2
              refine ⟨⟨k + 1, some (k, PA), L, PA, by omega, by go_num, rfl, H8.out.1, ⟨?_, rfl, ?_⟩, H8.out.2.1⟩, by simp [intOf]; omega⟩
              · rw [← HZ.out.2]; rfl
              · rw [HSK.out, HPR.out, H1.out]; rfl
            · have hT : T = sv := by rw [HST.out.1.2.1, h1]; rfl
              have hb : b < 2 ^ s.length := by
                have := cheapSt_lt p x o s k b sv (by rw [← HST.out.1.2.2, h1])
                rw [HE.out]; omega
              have hsv := candS_price (fun y hy => (HF.out.2.2 y hy).2.2) (cheapSt_cand p x o s k b sv (by rw [← HST.out.1.2.2, h1]))
              obtain ⟨hs0, -⟩ := hsv
              have hL0 : L0 = membTo b s.length := by rw [HST.out.1.1, h1]; rfl
              have hor := or_before (n := s.length) (k := k) (b := b) (a := PA) (c := sv) hsl (by rw [HE.out]; omega) hb
              rw [HZ.out.2, ← hL0] at hor
              have hfr : Hid (∃ z, firstF [cmpI PA sv, cmpI (L.length : Int) (L0.length : Int), cmpL L L0] = z) := ⟨_, rfl⟩
              obtain ⟨z, hz⟩ := hfr.out
              rw [hz] at hor
              have HOR := Lib.hid hz
              have H1 := Lib.hid (And.intro h1 hL0)
              subst hT
              clear hz hfr h1 h2 h3 h4 hL0 hb
              by_cases hbf : PA < T ∨ (PA = T ∧ befB k b = true)
              · rw [decide_eq_true hbf] at hor
                have HBF := Lib.hid hbf
                clear hbf
                go_wp2_with (first
                  | (go_at_call 96; refine (cmpInt_any _ _ _).mono ?_; rintro e w' ⟨rfl, rfl⟩)
                  | (go_at_call 117; refine (cmpList_any _ _ L L0 _ (by exact H8.out.1) (by exact H8.out.2.2)).mono ?_; rintro e w' ⟨rfl, rfl⟩)
                  | (go_at_call 116; refine (ori_any _ [cmpI PA T, cmpI (L.length : Int) (L0.length : Int), cmpL L L0] _ (by exact Arr.lit (cells := intCells) (sz := 1) (fun _ => rfl) _ _ _ _ 3 (by rfl) rfl (by simp [maxLen]))).mono ?_; rintro e w' ⟨rfl, rfl⟩; rw [HOR.out]))
                refine ⟨⟨k + 1, some (k, PA), L, PA, by omega, by go_num, rfl, H8.out.1.below (by (repeat (first | exact Below.refl _ _ | assumption | refine below_draws ?_ _ | refine Below.drew ?_ | refine below_alloc ?_ _ (by first | omega | (simp; done) | (simp; omega)) | refine Below.setCell ?_ (by first | omega | (simp; done) | (simp; omega)) _ | refine below_at ?_ (by assumption) (by first | omega | (simp; done) | (simp; omega))))), ⟨?_, rfl, ?_⟩, H8.out.2.1.below (by (repeat (first | exact Below.refl _ _ | assumption | refine below_draws ?_ _ | refine Below.drew ?_ | refine below_alloc ?_ _ (by first | omega | (simp; done) | (simp; omega)) | refine Below.setCell ?_ (by first | omega | (simp; done) | (simp; omega)) _ | refine below_at ?_ (by assumption) (by first | omega | (simp; done) | (simp; omega)))))⟩, by simp [intOf]; omega⟩
                · rw [← HZ.out.2]; rfl
                · rw [HSK.out, HPR.out, H1.out.1]; unfold stepS; simp only; rw [if_pos HBF.out]
              · rw [decide_eq_false hbf] at hor
                have HBF := Lib.hid hbf
                clear hbf
                go_wp2_with (first
                  | (go_at_call 96; refine (cmpInt_any _ _ _).mono ?_; rintro e w' ⟨rfl, rfl⟩)
                  | (go_at_call 117; refine (cmpList_any _ _ L L0 _ (by exact H8.out.1) (by exact H8.out.2.2)).mono ?_; rintro e w' ⟨rfl, rfl⟩)
                  | (go_at_call 116; refine (ori_any _ [cmpI PA T, cmpI (L.length : Int) (L0.length : Int), cmpL L L0] _ (by exact Arr.lit (cells := intCells) (sz := 1) (fun _ => rfl) _ _ _ _ 3 (by rfl) rfl (by simp [maxLen]))).mono ?_; rintro e w' ⟨rfl, rfl⟩; rw [HOR.out]))
                refine ⟨⟨k + 1, some (b, T), L0, T, by omega, by go_num, rfl, H8.out.2.2.below (by (repeat (first | exact Below.refl _ _ | assumption | refine below_draws ?_ _ | refine Below.drew ?_ | refine below_alloc ?_ _ (by first | omega | (simp; done) | (simp; omega)) | refine Below.setCell ?_ (by first | omega | (simp; done) | (simp; omega)) _ | refine below_at ?_ (by assumption) (by first | omega | (simp; done) | (simp; omega))))), ⟨?_, rfl, ?_⟩, H8.out.2.1.below (by (repeat (first | exact Below.refl _ _ | assumption | refine below_draws ?_ _ | refine Below.drew ?_ | refine below_alloc ?_ _ (by first | omega | (simp; done) | (simp; omega)) | refine Below.setCell ?_ (by first | omega | (simp; done) | (simp; omega)) _ | refine below_at ?_ (by assumption) (by first | omega | (simp; done) | (simp; omega)))))⟩, by simp [intOf]; omega⟩
                · rw [H1.out.2]; rfl
                · rw [HSK.out, HPR.out, H1.out.1]; unfold stepS; simp only; rw [if_neg HBF.out]
          · have hpr : candS p x o s k = none := by
              cases h : candS p x o s k with
              | none => rfl
              | some pr => rw [h] at hcb; cases hcb
            have HPR := Lib.hid hpr
            clear hcb hpr
            go_wp2
            refine ⟨⟨k + 1, st, L0, T, by omega, by go_num, rfl, HC.out.2, ⟨HST.out.1.1, HST.out.1.2.1, ?_⟩, HC.out.1⟩, by simp [intOf]; omega⟩
            rw [HSK.out, HPR.out]; rfl
    · obtain rfl : k = E := by omega
      have hV : st = cheapV p x o s := by rw [HST.out.1.2.2]; unfold cheapV; rw [HE.out]
      have hL0 : L0 = cheapL p x o s := by rw [HST.out.1.1, hV]; rfl
      have hT : max T 0 = chSum st ∧ decide (0 ≤ T) = chIs st ∧ -1 ≤ T := by
        rw [HST.out.1.2.1]
        rcases ch_cases st with ⟨h1, h2⟩ | ⟨b, sv, h1, h2, h3, h4⟩
        · rw [h1]; decide
        · have hsv := candS_price (fun y hy => (HF.out.2.2 y hy).2.2) (cheapSt_cand p x o s k b sv (by rw [← HST.out.1.2.2, h1]))
          rw [h3, h4, h1]
          have : leastS (some (b, sv)) = sv := rfl
          rw [this]
          refine ⟨by omega, by simp; omega, by omega⟩
      obtain ⟨hT1, hT2, hT3⟩ := hT
      have HT := Lib.hid (And.intro hT1 hT2)
      have HV := Lib.hid (And.intro hV hL0)
      clear hT2 hV hL0
      go_wp2
      go_ret3
      exact ⟨ab, capb, L0, _, _, rfl, HST.out.2.1, HST.out.2.2.bel, by first | rw [HT.out.1, ← HV.out.1] | rw [← HV.out.1], by first | rw [HT.out.2, ← HV.out.1] | rw [← HV.out.1], HV.out.2⟩
end Go.Proofs.Ytagpcgnlbgndmaa
