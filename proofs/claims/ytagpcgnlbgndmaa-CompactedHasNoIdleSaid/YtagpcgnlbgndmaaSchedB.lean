/- Walk of package change: the schedule of jobs. -/
import Derived.Test.YtagpcgnlbgndmaaSchedA
import Derived.Sort.OwnSortedInts
import Derived.OwnWalk
import Derived.Test.YtagpcgnlbgndmaaShelfB
set_option linter.unusedVariables false
set_option linter.unusedSimpArgs false
namespace Go.Proofs.Ytagpcgnlbgndmaa
open Go Go.RowKit

def sortI (F : List Int) : List Int := F.mergeSort fun a b => decide (a ≤ b)
theorem sortI_len (F : List Int) : (sortI F).length = F.length := List.length_mergeSort _
theorem sortI_mem {F : List Int} {x : Int} : x ∈ sortI F ↔ x ∈ F := List.mem_mergeSort

theorem sort_own (base g c cap : Nat) (F : List Int) (w : World) (hc : F.length = c) (hl : 1 ≤ c) (hl2 : c ≤ 1000000) (ho : w.ownsRow base 3 1 (.slice (some ⟨g, 0, none⟩) c cap) c (F.map (Value.int .i64))) :
    Calls Try.prog 148 #[.slice (some ⟨g, 0, none⟩) c cap] w fun e w' => e = .returned (.tuple #[]) ∧ w'.ownsRow base 3 1 (.slice (some ⟨g, 0, none⟩) c cap) c ((sortI F).map (Value.int .i64)) ∧ w.grownBy w' (some g) := by
  subst hc
  rcases ho.2 with ⟨h0, _⟩ | ⟨g', cap', cur, hv, hbase, hg, hn, hcap, hsz, htake⟩
  · cases h0
  simp only [Value.slice.injEq, Option.some.injEq, Addr.mk.injEq, and_true, true_and] at hv
  obtain ⟨rfl, rfl⟩ := hv
  have hH := holds_of_blockI (ss := F) hg (by rw [Nat.mul_one] at htake; exact htake)
  refine (Try.slices_Sort_int g 0 cap F w hH (ho.lt g rfl).2 (by omega)).mono ?_
  rintro e w' ⟨rfl, n, os, rfl⟩
  refine ⟨rfl, ?_, grownBy_sortedI _⟩
  have h := ownsRow_sortedI (n := n) (os := os) (ss := F) (ts := sortI F) (e := 3) (base := base) (sortI_len F) hbase hg hn hcap hsz
  exact h

theorem fitsW_iff (fr mins : Int) (y : Win) : fitsW fr mins y = decide (max fr y.fr + mins ≤ y.to) := rfl
set_option maxHeartbeats 1000000 in
theorem schedClos_any (y : Win) (fr : Int) (x : Job) (fb jb : Nat) (w : World) (hx : 1 ≤ x.mins ∧ x.mins ≤ 1000) (hf : 0 ≤ fr ∧ fr ≤ 1000000) (hy : 0 ≤ y.fr ∧ y.fr ≤ 1000000)
    (k1 : Blk w fb #[.int .i64 fr] 3) (k2 : Blk w jb #[.int .i64 x.kind, .string x.site, .string x.x.cable, .int .i64 x.x.no, .string x.y.cable, .int .i64 x.y.no, .int .i64 x.loss, .int .i64 x.mins] 158) :
    Calls Try.prog 150 (#[.agg ⟨Win.cells y⟩] ++ #[.pointer (some ⟨fb, 0, none⟩), .pointer (some ⟨jb, 0, none⟩)]) w fun e w' => e = .returned (.bool (fitsW fr x.mins y)) ∧ Below w.heap.size w w' := by
  have l1 := k1.lt
  have l2 := k2.lt
  have c0 := k1.cell 0 _ rfl
  have d7 := k2.cell 7 _ rfl
  clear k1 k2
  obtain ⟨a1, a2⟩ := hx
  obtain ⟨b1, b2⟩ := hf
  obtain ⟨c1, c2⟩ := hy
  show Calls Try.prog 150 #[.agg #[.int .i64 y.fr, .int .i64 y.to], .pointer (some ⟨fb, 0, none⟩), .pointer (some ⟨jb, 0, none⟩)] w _
  go_enter Try.func150, Try.ntmps150
  go_wp2
  go_ret
  exact ⟨ret_bool rfl, by (repeat (first | exact Below.refl _ _ | assumption | refine below_draws ?_ _ | refine Below.drew ?_ | refine below_alloc ?_ _ (by first | omega | (simp; done) | (simp; omega)) | refine Below.setCell ?_ (by first | omega | (simp; done) | (simp; omega)) _ | refine below_at ?_ (by assumption) (by first | omega | (simp; done) | (simp; omega))))⟩

def SchedPost (j : List Job) (ws : List Win) (crews : Int) (w : World) (e : Ending) (w' : World) : Prop :=
  ∃ v, e = .returned (.tuple #[v, .bool (decide (schedF j ws crews = 0 ∧ (schedV j ws crews).isSome = true)), .int .i64 (schedF j ws crews)]) ∧
    Arr intCells 1 w' (if schedF j ws crews = 0 then (schedV j ws crews).getD [] else []) v ∧ Below w.heap.size w w'
theorem infoInt2 : (Try.prog.info? 3).map (fun i => (i.zero, i.size, i.bytes)) = some (some (.int .i64 0), 1, 8) := by kernel_rfl
theorem find_idx {ws : List Win} {p : Win → Bool} : (idxF p ws < 0 ∧ ws.find? p = none) ∨ ∃ k : Nat, ∃ h : k < ws.length, idxF p ws = k ∧ ws.find? p = some ws[k] ∧ p ws[k] = true := idxF_find p ws

/-- the state of a round -/
structure SchSt (w : World) (g base2 c : Nat) (F O : List Int) (v : Value) (W : World) : Prop where
  bel : Below w.heap.size w W
  fl : F.length = c
  fr : W.ownsRow w.heap.size 3 1 (.slice (some ⟨g, 0, none⟩) c c) c (F.map (Value.int .i64))
  ob : W.ownsRow base2 3 1 v O.length (O.map (Value.int .i64))
  fm : ∀ x ∈ F, 0 ≤ x ∧ x ≤ 1000000
  gl : g < base2
  bs : base2 ≤ W.heap.size

theorem grown_below2 {a b : World} (h : a.grownBy b none) : Below a.heap.size a b := ⟨h.os, h.tape, h.output, h.size, fun k hk => h.block k hk (by simp)⟩
theorem grown_set1 (w : World) (g o : Nat) (v : Value) : w.grownBy (w.setCell ⟨g, o, none⟩ v) (some g) := grown_setCells g [v] o w
theorem made_zero (c : Nat) : (madeCells (Value.int .i64 0).cells (c * 1)).toList = (List.replicate c (0 : Int)).map (Value.int .i64) := by
  rw [Nat.mul_one]
  apply List.ext_getElem
  · simp [madeCells]
  · intro i h1 h2
    simp [madeCells, Value.cells, Nat.mod_one]
theorem own_cell0 {w : World} {base g c cap : Nat} {F : List Int} (ho : w.ownsRow base 3 1 (.slice (some ⟨g, 0, none⟩) c cap) c (F.map (Value.int .i64))) (hl : F.length = c) (hc : 1 ≤ c) : w.cell? ⟨g, 0, none⟩ = some (.int .i64 (F.getD 0 0)) := by
  rw [ho.cellAt 0 (by omega)]
  rw [List.getElem?_map, List.getElem?_eq_getElem (by omega), List.getD_eq_getElem?_getD, List.getElem?_eq_getElem (by omega)]
  rfl
theorem getD_mem0 {F : List Int} (h : 1 ≤ F.length) : F.getD 0 0 ∈ F := by
  rw [List.getD_eq_getElem?_getD, List.getElem?_eq_getElem (by omega)]; exact List.getElem_mem _
theorem schedGo_cons (ws : List Win) (x : Job) (j : List Job) (F : List Int) (L : Int) (O : List Int) : schedGo ws (x :: j) F L O = match ws.find? (fitsW (max L ((sortI F).getD 0 0)) x.mins) with
    | none => none
    | some y => schedGo ws j ((sortI F).set 0 (max (max L ((sortI F).getD 0 0)) y.fr + x.mins)) (max (max L ((sortI F).getD 0 0)) y.fr) (O ++ [max (max L ((sortI F).getD 0 0)) y.fr]) := rfl
set_option maxHeartbeats 8000000 in
set_option maxRecDepth 100000 in
theorem schedule_any (v1 v2 : Value) (j : List Job) (ws : List Win) (crews : Int) (w : World) (h : Arr Job.cells 8 w j v1) (hd : Arr Win.cells 2 w ws v2) : Calls Try.prog 118 #[v1, v2, .int .i64 crews] w (SchedPost j ws crews w) := by
  have HA := Lib.hid (And.intro h hd)
  obtain ⟨a, cap, rfl, hcap, hmax, hc⟩ := h
  obtain ⟨a2, cap2, rfl, hcap2, hmax2, hc2⟩ := hd
  unfold maxLen at hmax hmax2
  have HC := Lib.hid hc
  have HC2 := Lib.hid hc2
  clear hc hc2
  obtain ⟨i0, hi, hz0, hz1, hz2⟩ := info_parts infoInt2
  have HF : Hid (∀ (args : Array Value) (w : World), (callFunc 150 args).run Try.prog w = .ok (.enter 150 args) w) := run_fn Try.func150 (by kernel_rfl) rfl
  by_cases hf : schedF j ws crews = 0
  · have hf1 : (schedF j ws crews != 0) = false := by simp [hf]
    have ok := schOk_of hf
    obtain ⟨ok1, ok2, ok3, ok4, ok5, ok6⟩ := ok
    have HO := Lib.hid (And.intro hf (And.intro ok2 ok4))
    clear hf ok2 ok4
    obtain ⟨c, rfl⟩ := Int.eq_ofNat_of_zero_le (show 0 ≤ crews by omega)
    go_enter Try.func118, Try.ntmps118
    go_wp2_with fail
    refine (scheduleFault_any _ _ j ws _ _ (by exact HA.out.1) (by exact HA.out.2)).mono ?_
    rintro e w2 ⟨rfl, hb2⟩
    have hz2' := hb2.size
    go_wp2_with ((at_make; refine wpList_make_full _ rfl _ _ _ rfl w.heap.size _ _ _ _ Try.underlying22 hi hz0 hz1 _ _ _ _ c rfl rfl rfl rfl ?b1 ?b2 ?b3 ?_; (case b1 => rw [hz2]; omega); (case b2 => unfold maxLen; omega); (case b3 => omega); intro w3 hown hg3))
    have hz3 := hg3.size
    have hgl := (hown.lt w2.heap.size rfl).2
    have hown2 : w3.ownsRow w.heap.size 3 1 (.slice (some ⟨w2.heap.size, 0, none⟩) c c) c ((List.replicate c (0 : Int)).map (Value.int .i64)) := by rw [← made_zero]; exact hown
    have hS0 : SchSt w w2.heap.size w3.heap.size c (List.replicate c 0) [] (.slice none 0 0) w3 :=
      ⟨below_at hb2 (grown_below2 hg3) (by omega), by simp, hown2, World.ownsRow_nil _ _ _ _, fun x hx => by rw [List.eq_of_mem_replicate hx]; omega, hgl, Nat.le_refl _⟩
    have HS0 := Lib.hid hS0
    clear hown hown2 hS0 hg3
    have hgb : w.heap.size ≤ w2.heap.size := hz2'
    go_loopw [11, 12, 28] (fun lv ov i wr => ∃ (k : Nat) (F O : List Int) (L : Int), k ≤ j.length ∧ i = .int .i64 k ∧ lv = .int .i64 L ∧ 0 ≤ L ∧ L ≤ 1000000 ∧ O.length = k ∧ SchSt w w2.heap.size w3.heap.size c F O ov wr ∧ schedV j ws c = schedGo ws (j.drop k) F L O) (fun _ _ i _ => j.length - (intOf i).toNat)
    case atStart => exact ⟨0, _, [], 0, by omega, rfl, rfl, by omega, by omega, rfl, HS0.out, by unfold schedV; simp⟩
    case round =>
      obtain ⟨k, F, O, L, hk, rfl, rfl, hL1, hL2, hO, hS, hV⟩ := hrel
      have hfl := hS.fl
      have hsz := hS.bel.size
      have hbs := hS.bs
      have HS := Lib.hid (And.intro hS (And.intro hV hO))
      clear hS hV hO
      by_cases hlt : k < j.length
      · obtain ⟨b, off, rfl, hb, hcc⟩ := HC.out k hlt
        obtain ⟨c0, c1, c2, c3, c4, c5, c6, c7⟩ := job_at hcc
        replace c0 := (HS.out.1.bel.cell (p := ⟨b, _, none⟩) hb).trans c0
        replace c1 := (HS.out.1.bel.cell (p := ⟨b, _, none⟩) hb).trans c1
        replace c2 := (HS.out.1.bel.cell (p := ⟨b, _, none⟩) hb).trans c2
        replace c3 := (HS.out.1.bel.cell (p := ⟨b, _, none⟩) hb).trans c3
        replace c4 := (HS.out.1.bel.cell (p := ⟨b, _, none⟩) hb).trans c4
        replace c5 := (HS.out.1.bel.cell (p := ⟨b, _, none⟩) hb).trans c5
        replace c6 := (HS.out.1.bel.cell (p := ⟨b, _, none⟩) hb).trans c6
        replace c7 := (HS.out.1.bel.cell (p := ⟨b, _, none⟩) hb).trans c7
        have hxm := HO.out.2.1 j[k] (List.getElem_mem _)
        obtain ⟨hx1, hx2⟩ := hxm
        clear hcc
        go_wp2_with fail
        refine (sort_own w.heap.size w2.heap.size c c F _ hfl (by omega) (by omega) (HS.out.1.fr.alloc _)).mono ?_
        rintro e w4 ⟨rfl, ho4, hg4⟩
        have hz4 : wr.heap.size + 1 ≤ w4.heap.size := by have := hg4.size; simpa using this
        have hJ4 : Blk w4 wr.heap.size #[.int .i64 j[k].kind, .string j[k].site, .string j[k].x.cable, .int .i64 j[k].x.no, .string j[k].y.cable, .int .i64 j[k].y.no, .int .i64 j[k].loss, .int .i64 j[k].mins] 158 := (Blk.new wr _ _).grown hg4 (by simp; omega)
        have hob4 : w4.ownsRow w3.heap.size 3 1 _ O.length (O.map (Value.int .i64)) := (HS.out.1.ob.alloc _).kept hg4 (by
          cases hv : Value.ownBlock _ with
          | none => exact .inl rfl
          | some q => right; have := (HS.out.1.ob.lt q hv).1; simp; omega)
        have hB4 : Below w.heap.size w w4 := below_at (below_alloc HS.out.1.bel _ hsz) (grown_row hg4 (B := w.heap.size) hgb (by simp; omega)) (Nat.le_refl _)
        have hf0 := own_cell0 ho4 (by rw [sortI_len]; exact hfl) (by omega)
        have hfm : 0 ≤ (sortI F).getD 0 0 ∧ (sortI F).getD 0 0 ≤ 1000000 := HS.out.1.fm _ (sortI_mem.1 (getD_mem0 (by rw [sortI_len]; omega)))
        have hgo : schedGo ws (j.drop k) F L O = match ws.find? (fitsW (max L ((sortI F).getD 0 0)) j[k].mins) with
            | none => none
            | some y => schedGo ws (j.drop (k + 1)) ((sortI F).set 0 (max (max L ((sortI F).getD 0 0)) y.fr + j[k].mins)) (max (max L ((sortI F).getD 0 0)) y.fr) (O ++ [max (max L ((sortI F).getD 0 0)) y.fr]) := by
          rw [List.drop_eq_getElem_cons hlt]; exact schedGo_cons _ _ _ _ _ _
        generalize (sortI F).getD 0 0 = f0 at *
        obtain ⟨hf1', hf2'⟩ := hfm
        have HGo := Lib.hid hgo
        clear hgo
        have hcn : (0 : Int) < (c : Int) := by omega
        have H4 := Lib.hid (And.intro ho4 (And.intro hJ4 (And.intro hob4 hB4)))
        have hfr : 0 ≤ max L f0 ∧ max L f0 ≤ 1000000 := by omega
        have HFr := Lib.hid hfr
        clear ho4 hJ4 hob4 hB4 hg4 c0 c1 c2 c3 c4 c5 c6 c7 hfr
        have hgl4 : w2.heap.size < w4.heap.size := by omega
        go_wp2_with fail
        refine (indexFunc_win _ ws (fitsW (max L f0) j[k].mins) _ #[.pointer (some ⟨w4.heap.size, 0, none⟩), .pointer (some ⟨wr.heap.size, 0, none⟩)] _ (by exact HA.out.2.below (by have h4 := H4.out.2.2.2; have h5 := h4.size; (repeat (first | exact Below.refl _ _ | assumption | refine below_draws ?_ _ | refine Below.drew ?_ | refine below_alloc ?_ _ (by first | omega | (simp; done) | (simp; omega)) | refine Below.setCell ?_ (by first | omega | (simp; done) | (simp; omega)) _ | refine below_at ?_ (by assumption) (by first | omega | (simp; done) | (simp; omega)))))) HF.out ?_).mono ?_
        · intro y w' hy hb'
          have hym := HO.out.2.2 y hy
          exact schedClos_any y (max L f0) j[k] _ _ w' ⟨hx1, hx2⟩ HFr.out ⟨hym.1, by omega⟩ ((Blk.new w4 _ _).below hb' (by simp)) ((H4.out.2.1.alloc _).below hb' (by simp; omega))
        rintro e w5 ⟨rfl, hb5⟩
        have hz5 : w4.heap.size + 1 ≤ w5.heap.size := by have := hb5.size; simpa using this
        have hJ5 : Blk w5 wr.heap.size #[.int .i64 j[k].kind, .string j[k].site, .string j[k].x.cable, .int .i64 j[k].x.no, .string j[k].y.cable, .int .i64 j[k].y.no, .int .i64 j[k].loss, .int .i64 j[k].mins] 158 := (H4.out.2.1.alloc _).below hb5 (by simp; omega)
        have hF5 : Blk w5 w4.heap.size #[.int .i64 (max L f0)] 3 := (Blk.new w4 _ _).below hb5 (by simp)
        have ho5 := own_below (H4.out.1.alloc (.cells #[.int .i64 (max L f0)] 3)) hb5
        have hob5 := own_below (H4.out.2.2.1.alloc (.cells #[.int .i64 (max L f0)] 3)) hb5
        have hB5 : Below w.heap.size w w5 := by have h4 := H4.out.2.2.2; have h5 := h4.size; (repeat (first | exact Below.refl _ _ | assumption | refine below_draws ?_ _ | refine Below.drew ?_ | refine below_alloc ?_ _ (by first | omega | (simp; done) | (simp; omega)) | refine Below.setCell ?_ (by first | omega | (simp; done) | (simp; omega)) _ | refine below_at ?_ (by assumption) (by first | omega | (simp; done) | (simp; omega))))
        have H5 := Lib.hid (And.intro ho5 (And.intro hJ5 (And.intro hob5 (And.intro hB5 hF5))))
        clear ho5 hJ5 hob5 hB5 hF5 hf0
        rcases find_idx (ws := ws) (p := fitsW (max L f0) j[k].mins) with ⟨hneg, hnone⟩ | ⟨q, hq, hidx, hfind, hfit⟩
        · have hfin : schedV j ws c = none := by rw [HS.out.2.1, HGo.out, hnone]
          have HX : Hid (decide (schedF j ws c = 0 ∧ (schedV j ws c).isSome = true) = false ∧ (if schedF j ws c = 0 then (schedV j ws c).getD [] else []) = []) := ⟨by simp [hfin], by rw [if_pos HO.out.1, hfin]; rfl⟩
          clear hfin hnone
          go_wp2
          go_ret3
          exact ⟨_, by rw [HX.out.1, HO.out.1]; exact rfl, by rw [HX.out.2]; exact Arr.nil _ _ _, H5.out.2.2.2.1⟩
        · rw [hidx]
          have hgo2 := HGo.out
          rw [hfind] at hgo2
          have hwm := HO.out.2.2 ws[q] (List.getElem_mem _)
          obtain ⟨hw1, hw2, hw3⟩ := hwm
          have hfit2 : max (max L f0) ws[q].fr + j[k].mins ≤ ws[q].to := by simpa [fitsW] using hfit
          have HG2 := Lib.hid (And.intro hgo2 hidx)
          clear hgo2 hidx hfind hfit
          have hq1 : (0 : Int) ≤ (q : Int) := by omega
          have hq2 : ¬ ((q : Int) < 0) := by omega
          have hq3 : (q : Int) < (ws.length : Int) := by omega
          obtain ⟨b', off', rfl, hbb, hcc⟩ := HC2.out q hq
          obtain ⟨d0, d1⟩ := win_at hcc
          replace d0 := (H5.out.2.2.2.1.cell (p := ⟨b', _, none⟩) hbb).trans d0
          have f5 := H5.out.2.2.2.2.cell 0 _ rfl
          clear hcc d1
          go_wp2
          go_quiet (fail)
          have ho6 : (w5.drewN nq).ownsRow w.heap.size 3 1 _ c _ := H5.out.1
          have hJ6 := H5.out.2.1.drewN nq
          have hob6 : (w5.drewN nq).ownsRow w3.heap.size 3 1 _ O.length _ := H5.out.2.2.1
          have hB6 := below_draws H5.out.2.2.2.1 nq
          have hz6 : w5.heap.size ≤ (w5.drewN nq).heap.size := Nat.le_refl _
          generalize w5.drewN nq = w6 at *
          have g0 := own_cell0 ho6 (by rw [sortI_len]; exact hfl) (by omega)
          have gf := ho6.frozenAt 0
          have j7 := hJ6.cell 7 _ rfl
          have hgl6 : w2.heap.size < w6.heap.size := by omega
          have hob7 := fun u => hob6.kept (grown_set1 w6 w2.heap.size 0 u) (by
            cases hv : Value.ownBlock _ with
            | none => exact .inl rfl
            | some qq => right; have := (hob6.lt qq hv).1; simp; omega)
          have H6 := Lib.hid (And.intro ho6 (And.intro hob7 hB6))
          clear ho6 hJ6 hob6 hob7 hB6 d0 f5
          have HOl := Lib.hid HS.out.2.2
          have hOb : O.length ≤ 200 := by have := HOl.out; omega
          go_wp2_with ((at_builtin; go_must (refine wpList_append_own _ rfl _ _ 22 rfl _ 3 _ (.int .i64 0) 1 8 Try.underlying22 hi hz0 hz1 hz2 rfl (by decide) _ _ _ rfl ((H6.out.2.1 _).alloc _) ⟨w6.heap.size, 0, none⟩ 1 1 [.int .i64 (max L (max f0 ws[q].fr))] rfl rfl (by exact news_at (by first | rfl | simp) (by rfl)) (by simp [Value.oneCell']) (by unfold maxLen; omega) (by omega) (by first | omega | (simp; done) | (simp; omega)) ?_)); intro v' w8 hown8 hg8 _)
          have HMx : Hid (max (max L f0) ws[q].fr = max L (max f0 ws[q].fr)) := Int.max_assoc _ _ _
          have hz8 := hg8.size
          simp at hz8
          have hst := H6.out.1.stored 0 (.int .i64 (max L (max f0 ws[q].fr) + j[k].mins))
          refine ⟨⟨k + 1, (sortI F).set 0 (max L (max f0 ws[q].fr) + j[k].mins), O ++ [max L (max f0 ws[q].fr)], max L (max f0 ws[q].fr), by omega, by go_num, rfl, by omega, by omega, by simp [HOl.out], ?_, ?_⟩, by simp [intOf]; omega⟩
          · refine ⟨?_, by rw [List.length_set, sortI_len]; exact hfl, ?_, ?_, ?_, HS.out.1.gl, by omega⟩
            · have hb7 : Below w.heap.size w (w6.setCell ⟨w2.heap.size, 0, none⟩ (.int .i64 (max L (max f0 ws[q].fr) + j[k].mins))) := Below.setCell H6.out.2.2 (by simp; omega) _
              exact below_grown (below_alloc hb7 _ hb7.size) ((H6.out.2.1 _).alloc _) hg8 (by omega) (by simp; omega)
            · refine ((by rw [List.map_set]; exact hst.1 : (w6.setCell ⟨w2.heap.size, 0, none⟩ _).ownsRow _ _ _ _ _ _).alloc _).kept hg8 ?_
              right
              intro e
              have := ((H6.out.2.1 (.int .i64 (max L (max f0 ws[q].fr) + j[k].mins))).lt _ e.symm).1
              simp at this; omega
            · simpa using hown8
            · intro x hx
              rcases List.mem_or_eq_of_mem_set hx with h1 | h1
              · exact HS.out.1.fm x (sortI_mem.1 h1)
              · have := HMx.out; omega
          · rw [HS.out.2.1, HG2.out.1, HMx.out]
      · obtain rfl : k = j.length := by omega
        have hfin : schedV j ws c = some O := by rw [HS.out.2.1, List.drop_length]; rfl
        have HX : Hid (decide (schedF j ws c = 0 ∧ (schedV j ws c).isSome = true) = true ∧ (if schedF j ws c = 0 then (schedV j ws c).getD [] else []) = O) := ⟨by simp [HO.out.1, hfin], by rw [if_pos HO.out.1, hfin]; rfl⟩
        clear hfin
        go_wp2
        go_ret3
        exact ⟨_, by rw [HX.out.1, HO.out.1]; exact rfl, by rw [HX.out.2]; exact Arr.of_ints HS.out.1.ob, HS.out.1.bel⟩
  · have hf1 : (schedF j ws crews != 0) = true := by simp [hf]
    have HX : Hid (decide (schedF j ws crews = 0 ∧ (schedV j ws crews).isSome = true) = false ∧ (if schedF j ws crews = 0 then (schedV j ws crews).getD [] else []) = []) := ⟨by simp [hf], by rw [if_neg hf]⟩
    clear hf
    go_enter Try.func118, Try.ntmps118
    go_wp2_with fail
    refine (scheduleFault_any _ _ j ws _ _ (by exact HA.out.1) (by exact HA.out.2)).mono ?_
    rintro e w2 ⟨rfl, hb2⟩
    go_wp2
    go_ret3
    exact ⟨_, by rw [HX.out.1]; exact rfl, by rw [HX.out.2]; exact Arr.nil _ _ _, hb2⟩
end Go.Proofs.Ytagpcgnlbgndmaa
