/- Texts of one subject in one: StreamY, StreamZ; what each shows stands at its head. No condition. -/
import Derived.Test.YtcecpodbmjghhaaGreatStreamV
import Derived.Test.YtcecpodbmjghhaaGreatTreeRef
/- Walk of the stream: trees. -/
set_option linter.unusedVariables false
set_option linter.unusedSimpArgs false
namespace Go.Proofs.YtcecpodbmjghhaaGreat
open Go Go.RowKit
/-- v is a tree in memory above block B -/
def TreeIsB (B : Nat) (v : Value) (w : World) : Prop := ∃ v1 v2 l d, v = .agg #[v1, v2] ∧ l.length ≤ 4 ∧ d.length ≤ 6 ∧ Arr Splt.cells 4 w l v1 ∧ Arr Drp.cells 3 w d v2 ∧
  (∀ b off n cap, v1 = .slice (some ⟨b, off, none⟩) n cap → B < b) ∧ ∀ b off n cap, v2 = .slice (some ⟨b, off, none⟩) n cap → B < b
/-- and no customer is k9 -/
def TreeIsK (B : Nat) (v : Value) (w : World) : Prop := ∃ v1 v2 l d, v = .agg #[v1, v2] ∧ l.length ≤ 4 ∧ d.length ≤ 6 ∧ Arr Splt.cells 4 w l v1 ∧ Arr Drp.cells 3 w d v2 ∧
  (∀ b off n cap, v1 = .slice (some ⟨b, off, none⟩) n cap → B < b) ∧ (∀ b off n cap, v2 = .slice (some ⟨b, off, none⟩) n cap → B < b) ∧ ∀ x ∈ d, CuOk x.cust
set_option maxHeartbeats 8000000 in
set_option maxRecDepth 100000 in
theorem atreeK_any (s m : Nat) (w : World) (h : Strm w s m) (hm : m ≤ 1000000) : Calls Tryz.prog 5 #[.pointer (some ⟨s, 0, none⟩)] w
    (Draw (TreeIsK w.heap.size) s m 60 w) := by
  have hl := h.lt
  obtain ⟨i0, hi, hz0, hz1, hz2⟩ := info_parts infoSplt
  go_enter Tryz.func5, Tryz.ntmps5
  go_wp2_with fail
  refine (range_any s m _ _ _ (((h.alloc _).alloc _).alloc _) (by omega) (by omega) (by omega) (by omega)).mono ?_
  rintro e w1 ⟨v, rfl, ⟨r, rfl, r0, r1⟩, hs1, hg1⟩
  obtain ⟨n, rfl⟩ := Int.eq_ofNat_of_zero_le r0
  have hn : n ≤ 4 := by omega
  have T1 : TreeSt s (m + 1) w w1 (.slice none 0 0) (.slice none 0 0) [] := by
    refine ⟨hs1, grown_trans (World.grownBy_alloc w _ _) (grown_trans (World.grownBy_alloc _ _ _) (grown_trans (World.grownBy_alloc _ _ _) hg1)), ?_, ?_, World.ownsRow_nil _ _ _ _, by simp, hl⟩
    · exact ((Blk.newAt (by simp)).alloc _).grown hg1 (by simp; omega)
    · exact (((Blk.new w _ _).alloc _).alloc _).grown hg1 (by simp; omega)
  have hK1 : Blk w1 (w.heap.size + 2) #[.string ⟨#[115, 49]⟩, .string ⟨#[115, 50]⟩, .string ⟨#[115, 51]⟩, .string ⟨#[115, 52]⟩] 9 := (Blk.newAt (by simp)).grown hg1 (by simp; omega)
  have HT1 := Lib.hid (And.intro T1 hK1)
  clear hs1 hg1 T1 hK1
  go_wp2
  go_loopw [16] (fun i wr => ∃ (l : List Splt) (v1 : Value), l.length ≤ n ∧ i = .int .i64 l.length ∧ TreeSt s (m + 1 + 4 * l.length) w wr v1 (.slice none 0 0) l ∧ Blk wr (w.heap.size + 2) #[.string ⟨#[115, 49]⟩, .string ⟨#[115, 50]⟩, .string ⟨#[115, 51]⟩, .string ⟨#[115, 52]⟩] 9) (fun i _ => n - (intOf i).toNat)
  case atStart => exact ⟨[], .slice none 0 0, by simp, rfl, HT1.out.1, HT1.out.2⟩
  case round =>
    obtain ⟨l, v1, hk, rfl, hT, hK⟩ := hrel
    have hsz := hT.gr.size
    by_cases hlt : l.length < n
    · obtain ⟨ks, c0⟩ := four_keys hK l.length (by omega)
      have HT := Lib.hid (And.intro hT hK)
      clear hT hK
      have hkn : (l.length : Int) < n := by omega
      go_wp2_with fail
      refine (pick_lit s (m + 1 + 4 * l.length) [2, 2, 4, 4, 8] _ (HT.out.1.st) (by omega) (by simp) (by simp) (by first | rfl | simp) (by rfl) (by rfl)).mono ?_
      rintro e w2 ⟨v, rfl, ⟨r2, rfl, hr2⟩, hs2, hg2⟩
      have hw2 : 1 ≤ r2 ∧ r2 ≤ 8 := by simp only [List.mem_cons, List.not_mem_nil, or_false] at hr2; omega
      have l2 := hg2.size
      have T2 := (HT.out.1.step hs2 hg2).alloc (.cells #[.string ks, .int .i64 r2, .string ⟨#[]⟩, .int .i64 0] 58)
      have hK2 := (HT.out.2.grown hg2 (by simp; have := HT.out.1.lt; omega)).alloc (.cells #[.string ks, .int .i64 r2, .string ⟨#[]⟩, .int .i64 0] 58)
      have hX2 := Blk.new w2 #[.string ks, .int .i64 r2, .string ⟨#[]⟩, .int .i64 0] 58
      have HT2 := Lib.hid (And.intro T2 (And.intro hK2 hX2))
      have HOB : Hid (∀ k, v1.ownBlock = some k → k < w2.heap.size) := fun k e => by have := (HT.out.1.o1.lt k e).2; (try simp only [World.size_alloc] at l2); omega
      have h22 : w.heap.size + 3 ≤ w2.heap.size := by have := HT.out.2.lt; (try simp only [World.size_alloc] at l2); omega
      clear T2 hK2 hX2 hs2 hg2 hr2 c0
      go_upto_region 6 with fail
      go_cut [32] from 26 to 32 (fun t wc => ∃ b : Bool, t = .bool b ∧ (b = true → 0 < l.length) ∧ TreeSt s (m + 1 + 4 * l.length + 2) w wc v1 (.slice none 0 0) l ∧ Blk wc (w.heap.size + 2) #[.string ⟨#[115, 49]⟩, .string ⟨#[115, 50]⟩, .string ⟨#[115, 51]⟩, .string ⟨#[115, 52]⟩] 9 ∧ Blk wc w2.heap.size #[.string ks, .int .i64 r2, .string ⟨#[]⟩, .int .i64 0] 58)
      case first =>
        by_cases hk0 : l.length = 0
        · have hd0 : decide ((0 : Int) < (l.length : Int)) = false := decide_eq_false (by omega)
          have hd1 : decide (0 < l.length) = false := decide_eq_false (by omega)
          clear hk0
          go_wp2
          go_meet
          exact ⟨false, rfl, (fun h => by cases h), HT2.out.1.mono (by omega), HT2.out.2.1, HT2.out.2.2⟩
        · have hd0 : decide ((0 : Int) < (l.length : Int)) = true := decide_eq_true (by omega)
          have hd1 : decide (0 < l.length) = true := decide_eq_true (by omega)
          have hlp : 0 < l.length := by omega
          clear hk0
          go_wp2_with fail
          refine (flip_any s (m + 1 + 4 * l.length + 1) _ _ HT2.out.1.st (by omega) (by omega) (by omega)).mono ?_
          rintro e w3 ⟨v, rfl, ⟨fb, rfl⟩, hs3, hg3⟩
          have T3 := HT2.out.1.step hs3 hg3
          have hK3 := HT2.out.2.1.grown hg3 (by simp; have := HT2.out.1.lt; omega)
          have hX3 := HT2.out.2.2.grown hg3 (by simp; have := HT2.out.1.lt; have := HT2.out.1.gr.size; omega)
          have HT3 := Lib.hid (And.intro T3 (And.intro hK3 hX3))
          clear T3 hK3 hX3 hs3 hg3
          go_wp2
          go_meet
          exact ⟨!fb, rfl, fun _ => hlp, HT3.out.1, HT3.out.2.1, HT3.out.2.2⟩
      case rest =>
      obtain ⟨b, rfl, hb, T3, hK3, hX3⟩ := hcut
      have HT3 := Lib.hid (And.intro T3 (And.intro hK3 hX3))
      clear T3 hK3 hX3 HT2 HT
      go_upto_if 32 with (fail)
      go_cut [7] from 33 to 47 (fun t wc => ∃ x : Splt, (1 ≤ x.ways ∧ x.ways ≤ 8) ∧ TreeSt s (m + 1 + 4 * l.length + 4) w wc v1 (.slice none 0 0) l ∧ Blk wc (w.heap.size + 2) #[.string ⟨#[115, 49]⟩, .string ⟨#[115, 50]⟩, .string ⟨#[115, 51]⟩, .string ⟨#[115, 52]⟩] 9 ∧ Blk wc w2.heap.size #[.string x.key, .int .i64 x.ways, .string x.par, .int .i64 x.port] 58)
      case first =>
        cases b
        · go_wp2
          go_meet
          exact ⟨⟨ks, r2, ⟨#[]⟩, 0⟩, hw2, HT3.out.1.mono (by omega), HT3.out.2.1, HT3.out.2.2⟩
        · have hlp := hb rfl
          clear hb
          obtain ⟨g, cap, rfl, hgB, hgs, hcn, hcm⟩ := own_form2 HT3.out.1.o1 hlp
          have T4 := HT3.out.1.drew
          have hK4 : Blk wc.drew (w.heap.size + 2) #[.string ⟨#[115, 49]⟩, .string ⟨#[115, 50]⟩, .string ⟨#[115, 51]⟩, .string ⟨#[115, 52]⟩] 9 := HT3.out.2.1
          have hX4 : Blk wc.drew w2.heap.size #[.string ks, .int .i64 r2, .string ⟨#[]⟩, .int .i64 0] 58 := HT3.out.2.2
          have HT4 := Lib.hid (And.intro T4 (And.intro hK4 hX4))
          clear T4 hK4 hX4 HT3
          go_wp2_with fail
          refine WalkT.start (UpCells l g (w.heap.size + 1) (.slice (some ⟨g, 0, none⟩) l.length cap)) [8] (by kernel_rfl) ?_
          generalize wc.drew = W0 at *
          have HU := Lib.hid HT4.out.1.up
          (refine WalkT.quiet (i := 0) (v := ?_) rfl (by kernel_rfl) (by kernel_rfl) (by kernel_rfl) (fun _ _ _ h => h) (Or.inl ⟨by rfl, ?_⟩) ?_; rotate_left; (· (intro wS hSw; (try dsimp only at hSw); go_simp; try with_reducible rfl)); try simp only [Act.put, pu1, pu2, pu3, pu4, pu5, pu6])
          (refine WalkT.take (i := 1) (v := ?_) rfl (by kernel_rfl) (by kernel_rfl) (by kernel_rfl) (by kernel_rfl) (fun _ _ _ h => h) HU.out (Or.inl ⟨by rfl, ?_⟩) ?_; rotate_left; (· (intro wS hSw; have t0 := hSw.1; go_simp; try with_reducible rfl)); try simp only [Act.put, pu1, pu2, pu3, pu4, pu5, pu6])
          (refine WalkT.quiet (i := 2) (v := ?_) rfl (by kernel_rfl) (by kernel_rfl) (by kernel_rfl) (fun _ _ _ h => h) (Or.inl ⟨by rfl, ?_⟩) ?_; rotate_left; (· (intro wS hSw; (try dsimp only at hSw); go_simp; try with_reducible rfl)); try simp only [Act.put, pu1, pu2, pu3, pu4, pu5, pu6])
          (refine WalkT.quiet (i := 3) (v := ?_) rfl (by kernel_rfl) (by kernel_rfl) (by kernel_rfl) (fun _ _ _ h => h) (Or.inl ⟨by rfl, ?_⟩) ?_; rotate_left; (· (intro wS hSw; (try dsimp only at hSw); go_simp; try with_reducible rfl)); try simp only [Act.put, pu1, pu2, pu3, pu4, pu5, pu6])
          clear HU
          refine WalkT.ready (rs := [4, 7]) (by kernel_rfl) (by simp) ?_
          refine AllT.cons rfl (fun K hK => ?_) ?_
          · go_simp
            refine (next_any s _ _ _ HT4.out.1.st (by omega) (by omega) (by omega)).mono ?_
            rintro e W1 ⟨v, rfl, ⟨r, rfl, z0, z1⟩, tW1, gW1⟩
            obtain ⟨kk, rfl⟩ := Int.eq_ofNat_of_zero_le z0
            have hkk : kk < l.length := by omega
            have hkl : (kk : Int) < (l.length : Int) := by omega
            have HU := Lib.hid (HT4.out.1.step tW1 gW1).up
            (refine hK.out _ _ (fun _ _ => HU.out) ?_; clear hK K; try simp only [Act.put, pu1, pu2, pu3, pu4, pu5, pu6])
            (refine WalkT.quiet (i := 5) (v := ?_) rfl (by kernel_rfl) (by kernel_rfl) (by kernel_rfl) (fun _ _ _ h => h) (Or.inl ⟨by rfl, ?_⟩) ?_; rotate_left; (· (intro wS hSw; (try dsimp only at hSw); go_simp; try with_reducible rfl)); try simp only [Act.put, pu1, pu2, pu3, pu4, pu5, pu6])
            (refine WalkT.take (i := 6) (v := ?_) rfl (by kernel_rfl) (by kernel_rfl) (by kernel_rfl) (by kernel_rfl) (fun _ _ _ h => h) HU.out (Or.inl ⟨by rfl, ?_⟩) ?_; rotate_left; (· (intro wS hSw; obtain ⟨t0, t1, t2, t3⟩ := hSw.2 kk hkk; go_simp; try with_reducible rfl)); try simp only [Act.put, pu1, pu2, pu3, pu4, pu5, pu6])
            (refine WalkT.ready (rs := [7]) (by kernel_rfl) (by simp) (AllT.cons rfl (fun K hK => ?_) AllT.nil); go_simp)
            (refine hK.out _ _ (fun _ _ => (HT4.out.1.step tW1 gW1).up_alloc _) ?_; clear hK K; try simp only [Act.put, pu1, pu2, pu3, pu4, pu5, pu6])
            (refine WalkT.ready (rs := [8]) (by kernel_rfl) (by simp) (AllT.cons rfl (fun K hK => ?_) AllT.nil); go_simp)
            (refine hK.out _ _ (fun h => absurd h (by decide)) ?_; clear hK K; try simp only [Act.put, pu1, pu2, pu3, pu4, pu5, pu6])
            refine WalkT.done (by kernel_rfl) ?_
            have lW1 := gW1.size
            have T5 := (HT4.out.1.step tW1 gW1).alloc (.cells #[.string l[kk].key, .int .i64 l[kk].ways, .string l[kk].par, .int .i64 l[kk].port] 58)
            have hK5 := (HT4.out.2.1.grown gW1 (by simp; omega)).alloc (.cells #[.string l[kk].key, .int .i64 l[kk].ways, .string l[kk].par, .int .i64 l[kk].port] 58)
            have hX5 := (HT4.out.2.2.grown gW1 (by simp; omega)).alloc (.cells #[.string l[kk].key, .int .i64 l[kk].ways, .string l[kk].par, .int .i64 l[kk].port] 58)
            have hU5 := Blk.new W1 #[.string l[kk].key, .int .i64 l[kk].ways, .string l[kk].par, .int .i64 l[kk].port] 58
            have hne5 : w2.heap.size < W1.heap.size := Nat.lt_of_lt_of_le HT4.out.2.2.lt lW1
            generalize W1.alloc (.cells #[.string l[kk].key, .int .i64 l[kk].ways, .string l[kk].par, .int .i64 l[kk].port] 58) = W5 at *
            generalize W1.heap.size = u at *
            (have H5 := Lib.hid (And.intro T5.drew (And.intro (Blk.drew hK5) (And.intro (Blk.drew hX5) (Blk.drew hU5)))); clear T5 hK5 hX5 hU5; go_wp2_with fail; refine WalkT.start (fun w' => w'.cell? ⟨u, 0, none⟩ = some (.string l[kk].key) ∧ w'.cell? ⟨u, 1, none⟩ = some (.int .i64 l[kk].ways)) [7, 9] (by kernel_rfl) ?_; generalize W5.drew = W6 at *; have hS1 : W6.cell? ⟨u, 0, none⟩ = some (.string l[kk].key) ∧ W6.cell? ⟨u, 1, none⟩ = some (.int .i64 l[kk].ways) := ⟨H5.out.2.2.2.cell 0 _ rfl, H5.out.2.2.2.cell 1 _ rfl⟩; (refine WalkT.quiet (i := 0) (v := ?_) rfl (by kernel_rfl) (by kernel_rfl) (by kernel_rfl) (fun _ _ _ h => h) (Or.inl ⟨by rfl, ?_⟩) ?_; rotate_left; (· (intro wS hSw; (try dsimp only at hSw); go_simp; try with_reducible rfl)); try simp only [Act.put, pu1, pu2, pu3, pu4, pu5, pu6]); (refine WalkT.take (i := 1) (v := ?_) rfl (by kernel_rfl) (by kernel_rfl) (by kernel_rfl) (by kernel_rfl) (fun _ _ _ h => h) hS1 (Or.inl ⟨by rfl, ?_⟩) ?_; rotate_left; (· (intro wS hSw; (try dsimp only at hSw); obtain ⟨t0, t1⟩ := hSw; go_simp; try with_reducible rfl)); try simp only [Act.put, pu1, pu2, pu3, pu4, pu5, pu6]); (refine WalkT.quiet (i := 2) (v := ?_) rfl (by kernel_rfl) (by kernel_rfl) (by kernel_rfl) (fun _ _ _ h => h) (Or.inl ⟨by rfl, ?_⟩) ?_; rotate_left; (· (intro wS hSw; (try dsimp only at hSw); go_simp; try with_reducible rfl)); try simp only [Act.put, pu1, pu2, pu3, pu4, pu5, pu6]); (refine WalkT.quiet (i := 3) (v := ?_) rfl (by kernel_rfl) (by kernel_rfl) (by kernel_rfl) (fun _ _ _ h => h) (Or.inl ⟨by rfl, ?_⟩) ?_; rotate_left; (· (intro wS hSw; (try dsimp only at hSw); go_simp; try with_reducible rfl)); try simp only [Act.put, pu1, pu2, pu3, pu4, pu5, pu6]); (refine WalkT.take (i := 4) (v := ?_) rfl (by kernel_rfl) (by kernel_rfl) (by kernel_rfl) (by kernel_rfl) (fun _ _ _ h => h) hS1 (Or.inl ⟨by rfl, ?_⟩) ?_; rotate_left; (· (intro wS hSw; (try dsimp only at hSw); obtain ⟨t0, t1⟩ := hSw; go_simp; try with_reducible rfl)); try simp only [Act.put, pu1, pu2, pu3, pu4, pu5, pu6]); (refine WalkT.quiet (i := 6) (v := ?_) rfl (by kernel_rfl) (by kernel_rfl) (by kernel_rfl) (fun _ _ _ h => h) (Or.inl ⟨by rfl, ?_⟩) ?_; rotate_left; (· (intro wS hSw; (try dsimp only at hSw); go_simp; try with_reducible rfl)); try simp only [Act.put, pu1, pu2, pu3, pu4, pu5, pu6]); have hwk := H5.out.1.ok l[kk] (List.getElem_mem _); (refine WalkT.ready (rs := [5]) (by kernel_rfl) (by simp) (AllT.cons rfl (fun K hK => ?_) AllT.nil); go_simp); refine (range_any s _ _ _ _ H5.out.1.st (by omega) (by omega) (by omega) (by omega)).mono ?_; rintro e W7 ⟨v, rfl, ⟨rr, rfl, -, -⟩, tW7, gW7⟩; have T7 := H5.out.1.step tW7 gW7; have hK7 := H5.out.2.1.grown gW7 (by simp; omega); have hX7 := H5.out.2.2.1.grown gW7 (by simp; omega); have hU7 := H5.out.2.2.2.grown gW7 (by simp; omega); have H7 := Lib.hid (And.intro T7 (And.intro hK7 hX7)); clear hS1; (refine hK.out _ _ (fun _ _ => ⟨hU7.cell 0 _ rfl, hU7.cell 1 _ rfl⟩) ?_; clear hK K; try simp only [Act.put, pu1, pu2, pu3, pu4, pu5, pu6]); have x2 := hX7.cell 2 (.string ⟨#[]⟩) rfl; have x3 := hX7.cell 3 (.int .i64 0) rfl; have xf := fun o => hX7.free o; clear T7 hK7 hX7 hU7 tW7 gW7; (refine WalkT.ready (rs := [7]) (by kernel_rfl) (by simp) (AllT.cons rfl (fun K hK => ?_) AllT.nil); go_simp); (refine hK.out _ _ (fun h => absurd h (by decide)) ?_; clear hK K; try simp only [Act.put, pu1, pu2, pu3, pu4, pu5, pu6]); (refine WalkT.quiet (i := 8) (v := ?_) rfl (by kernel_rfl) (by kernel_rfl) (by kernel_rfl) (fun _ _ _ h => h) (Or.inl ⟨by rfl, ?_⟩) ?_; rotate_left; (· (intro wS hSw; (try dsimp only at hSw); go_simp; try with_reducible rfl)); try simp only [Act.put, pu1, pu2, pu3, pu4, pu5, pu6]); (refine WalkT.ready (rs := [9]) (by kernel_rfl) (by simp) (AllT.cons rfl (fun K hK => ?_) AllT.nil); go_simp); (refine hK.out _ _ (fun h => absurd h (by decide)) ?_; clear hK K; try simp only [Act.put, pu1, pu2, pu3, pu4, pu5, pu6]); refine WalkT.done (by kernel_rfl) ?_; go_wp2; go_meet; exact ⟨⟨ks, r2, l[kk].key, rr⟩, hw2, ((H7.out.1.setOther (by omega) HOB.out _ _).setOther (by omega) HOB.out _ _).mono (by omega), (H7.out.2.1.setOther (by omega) _ _).setOther (by omega) _ _, (H7.out.2.2.set 2 _).set 3 _⟩)
          refine AllT.cons rfl (fun K hK => ?_) AllT.nil
          · go_simp
            (refine hK.out _ _ (fun _ _ => HT4.out.1.up_alloc _) ?_; clear hK K; try simp only [Act.put, pu1, pu2, pu3, pu4, pu5, pu6])
            (refine WalkT.ready (rs := [4]) (by kernel_rfl) (by simp) (AllT.cons rfl (fun K hK => ?_) AllT.nil); go_simp)
            refine (next_any s _ _ _ (HT4.out.1.alloc _).st (by omega) (by omega) (by omega)).mono ?_
            rintro e W1 ⟨v, rfl, ⟨r, rfl, z0, z1⟩, tW1, gW1⟩
            obtain ⟨kk, rfl⟩ := Int.eq_ofNat_of_zero_le z0
            have hkk : kk < l.length := by omega
            have hkl : (kk : Int) < (l.length : Int) := by omega
            have lW1 := gW1.size
            simp only [World.size_alloc] at lW1
            have HU := Lib.hid ((HT4.out.1.alloc _).step tW1 gW1).up
            have hU5 := (Blk.new W0 #[.string ⟨#[]⟩, .int .i64 0, .string ⟨#[]⟩, .int .i64 0] 58).grown gW1 (by simp; have := HT4.out.1.lt; have := HT4.out.1.gr.size; omega)
            have y0 := hU5.cell 0 (.string ⟨#[]⟩) rfl
            have y1 := hU5.cell 1 (.int .i64 0) rfl
            have y2 := hU5.cell 2 (.string ⟨#[]⟩) rfl
            have y3 := hU5.cell 3 (.int .i64 0) rfl
            have yf := fun o => hU5.free o
            (refine hK.out _ _ (fun _ _ => HU.out) ?_; clear hK K; try simp only [Act.put, pu1, pu2, pu3, pu4, pu5, pu6])
            (refine WalkT.quiet (i := 5) (v := ?_) rfl (by kernel_rfl) (by kernel_rfl) (by kernel_rfl) (fun _ _ _ h => h) (Or.inl ⟨by rfl, ?_⟩) ?_; rotate_left; (· (intro wS hSw; (try dsimp only at hSw); go_simp; try with_reducible rfl)); try simp only [Act.put, pu1, pu2, pu3, pu4, pu5, pu6])
            (refine WalkT.take (i := 6) (v := ?_) rfl (by kernel_rfl) (by kernel_rfl) (by kernel_rfl) (by kernel_rfl) (fun _ _ _ h => h) HU.out (Or.inl ⟨by rfl, ?_⟩) ?_; rotate_left; (· (intro wS hSw; obtain ⟨t0, t1, t2, t3⟩ := hSw.2 kk hkk; go_simp; try with_reducible rfl)); try simp only [Act.put, pu1, pu2, pu3, pu4, pu5, pu6])
            (refine WalkT.ready (rs := [8]) (by kernel_rfl) (by simp) (AllT.cons rfl (fun K hK => ?_) AllT.nil); go_simp)
            (refine hK.out _ _ (fun h => absurd h (by decide)) ?_; clear hK K; try simp only [Act.put, pu1, pu2, pu3, pu4, pu5, pu6])
            refine WalkT.done (by kernel_rfl) ?_
            have hW0 : w2.heap.size < W0.heap.size := HT4.out.2.2.lt
            have T5 : TreeSt s (m + 1 + 4 * l.length + 3) w ((((W1.setCell ⟨W0.heap.size, 0, none⟩ (.string l[kk].key)).setCell ⟨W0.heap.size, 1, none⟩ (.int .i64 l[kk].ways)).setCell ⟨W0.heap.size, 2, none⟩ (.string l[kk].par)).setCell ⟨W0.heap.size, 3, none⟩ (.int .i64 l[kk].port)) (.slice (some ⟨g, 0, none⟩) l.length cap) (.slice none 0 0) l := by
              have hob : ∀ k, (Value.slice (some ⟨g, 0, none⟩) l.length cap).ownBlock = some k → k < W0.heap.size := fun k e => by have := HOB.out k e; omega
              exact (((((HT4.out.1.alloc _).step tW1 gW1).setOther (by omega) hob _ _).setOther (by omega) hob _ _).setOther (by omega) hob _ _).setOther (by omega) hob _ _
            have hK5 := (((((HT4.out.2.1.alloc _).grown gW1 (by simp; omega)).setOther (c := W0.heap.size) (by omega) 0 (.string l[kk].key)).setOther (c := W0.heap.size) (by omega) 1 (.int .i64 l[kk].ways)).setOther (c := W0.heap.size) (by omega) 2 (.string l[kk].par)).setOther (c := W0.heap.size) (by omega) 3 (.int .i64 l[kk].port)
            have hX5 := (((((HT4.out.2.2.alloc _).grown gW1 (by simp; omega)).setOther (c := W0.heap.size) (by omega) 0 (.string l[kk].key)).setOther (c := W0.heap.size) (by omega) 1 (.int .i64 l[kk].ways)).setOther (c := W0.heap.size) (by omega) 2 (.string l[kk].par)).setOther (c := W0.heap.size) (by omega) 3 (.int .i64 l[kk].port)
            replace hU5 : Blk _ W0.heap.size #[.string l[kk].key, .int .i64 l[kk].ways, .string l[kk].par, .int .i64 l[kk].port] 58 := (((hU5.set 0 (.string l[kk].key)).set 1 (.int .i64 l[kk].ways)).set 2 (.string l[kk].par)).set 3 (.int .i64 l[kk].port)
            clear y0 y1 y2 y3 yf HU
            generalize (((W1.setCell ⟨W0.heap.size, 0, none⟩ (.string l[kk].key)).setCell ⟨W0.heap.size, 1, none⟩ (.int .i64 l[kk].ways)).setCell ⟨W0.heap.size, 2, none⟩ (.string l[kk].par)).setCell ⟨W0.heap.size, 3, none⟩ (.int .i64 l[kk].port) = W5 at *
            generalize W0.heap.size = u at *
            (have H5 := Lib.hid (And.intro T5.drew (And.intro (Blk.drew hK5) (And.intro (Blk.drew hX5) (Blk.drew hU5)))); clear T5 hK5 hX5 hU5; go_wp2_with fail; refine WalkT.start (fun w' => w'.cell? ⟨u, 0, none⟩ = some (.string l[kk].key) ∧ w'.cell? ⟨u, 1, none⟩ = some (.int .i64 l[kk].ways)) [7, 9] (by kernel_rfl) ?_; generalize W5.drew = W6 at *; have hS1 : W6.cell? ⟨u, 0, none⟩ = some (.string l[kk].key) ∧ W6.cell? ⟨u, 1, none⟩ = some (.int .i64 l[kk].ways) := ⟨H5.out.2.2.2.cell 0 _ rfl, H5.out.2.2.2.cell 1 _ rfl⟩; (refine WalkT.quiet (i := 0) (v := ?_) rfl (by kernel_rfl) (by kernel_rfl) (by kernel_rfl) (fun _ _ _ h => h) (Or.inl ⟨by rfl, ?_⟩) ?_; rotate_left; (· (intro wS hSw; (try dsimp only at hSw); go_simp; try with_reducible rfl)); try simp only [Act.put, pu1, pu2, pu3, pu4, pu5, pu6]); (refine WalkT.take (i := 1) (v := ?_) rfl (by kernel_rfl) (by kernel_rfl) (by kernel_rfl) (by kernel_rfl) (fun _ _ _ h => h) hS1 (Or.inl ⟨by rfl, ?_⟩) ?_; rotate_left; (· (intro wS hSw; (try dsimp only at hSw); obtain ⟨t0, t1⟩ := hSw; go_simp; try with_reducible rfl)); try simp only [Act.put, pu1, pu2, pu3, pu4, pu5, pu6]); (refine WalkT.quiet (i := 2) (v := ?_) rfl (by kernel_rfl) (by kernel_rfl) (by kernel_rfl) (fun _ _ _ h => h) (Or.inl ⟨by rfl, ?_⟩) ?_; rotate_left; (· (intro wS hSw; (try dsimp only at hSw); go_simp; try with_reducible rfl)); try simp only [Act.put, pu1, pu2, pu3, pu4, pu5, pu6]); (refine WalkT.quiet (i := 3) (v := ?_) rfl (by kernel_rfl) (by kernel_rfl) (by kernel_rfl) (fun _ _ _ h => h) (Or.inl ⟨by rfl, ?_⟩) ?_; rotate_left; (· (intro wS hSw; (try dsimp only at hSw); go_simp; try with_reducible rfl)); try simp only [Act.put, pu1, pu2, pu3, pu4, pu5, pu6]); (refine WalkT.take (i := 4) (v := ?_) rfl (by kernel_rfl) (by kernel_rfl) (by kernel_rfl) (by kernel_rfl) (fun _ _ _ h => h) hS1 (Or.inl ⟨by rfl, ?_⟩) ?_; rotate_left; (· (intro wS hSw; (try dsimp only at hSw); obtain ⟨t0, t1⟩ := hSw; go_simp; try with_reducible rfl)); try simp only [Act.put, pu1, pu2, pu3, pu4, pu5, pu6]); (refine WalkT.quiet (i := 6) (v := ?_) rfl (by kernel_rfl) (by kernel_rfl) (by kernel_rfl) (fun _ _ _ h => h) (Or.inl ⟨by rfl, ?_⟩) ?_; rotate_left; (· (intro wS hSw; (try dsimp only at hSw); go_simp; try with_reducible rfl)); try simp only [Act.put, pu1, pu2, pu3, pu4, pu5, pu6]); have hwk := H5.out.1.ok l[kk] (List.getElem_mem _); (refine WalkT.ready (rs := [5]) (by kernel_rfl) (by simp) (AllT.cons rfl (fun K hK => ?_) AllT.nil); go_simp); refine (range_any s _ _ _ _ H5.out.1.st (by omega) (by omega) (by omega) (by omega)).mono ?_; rintro e W7 ⟨v, rfl, ⟨rr, rfl, -, -⟩, tW7, gW7⟩; have T7 := H5.out.1.step tW7 gW7; have hK7 := H5.out.2.1.grown gW7 (by simp; omega); have hX7 := H5.out.2.2.1.grown gW7 (by simp; omega); have hU7 := H5.out.2.2.2.grown gW7 (by simp; omega); have H7 := Lib.hid (And.intro T7 (And.intro hK7 hX7)); clear hS1; (refine hK.out _ _ (fun _ _ => ⟨hU7.cell 0 _ rfl, hU7.cell 1 _ rfl⟩) ?_; clear hK K; try simp only [Act.put, pu1, pu2, pu3, pu4, pu5, pu6]); have x2 := hX7.cell 2 (.string ⟨#[]⟩) rfl; have x3 := hX7.cell 3 (.int .i64 0) rfl; have xf := fun o => hX7.free o; clear T7 hK7 hX7 hU7 tW7 gW7; (refine WalkT.ready (rs := [7]) (by kernel_rfl) (by simp) (AllT.cons rfl (fun K hK => ?_) AllT.nil); go_simp); (refine hK.out _ _ (fun h => absurd h (by decide)) ?_; clear hK K; try simp only [Act.put, pu1, pu2, pu3, pu4, pu5, pu6]); (refine WalkT.quiet (i := 8) (v := ?_) rfl (by kernel_rfl) (by kernel_rfl) (by kernel_rfl) (fun _ _ _ h => h) (Or.inl ⟨by rfl, ?_⟩) ?_; rotate_left; (· (intro wS hSw; (try dsimp only at hSw); go_simp; try with_reducible rfl)); try simp only [Act.put, pu1, pu2, pu3, pu4, pu5, pu6]); (refine WalkT.ready (rs := [9]) (by kernel_rfl) (by simp) (AllT.cons rfl (fun K hK => ?_) AllT.nil); go_simp); (refine hK.out _ _ (fun h => absurd h (by decide)) ?_; clear hK K; try simp only [Act.put, pu1, pu2, pu3, pu4, pu5, pu6]); refine WalkT.done (by kernel_rfl) ?_; go_wp2; go_meet; exact ⟨⟨ks, r2, l[kk].key, rr⟩, hw2, ((H7.out.1.setOther (by omega) HOB.out _ _).setOther (by omega) HOB.out _ _).mono (by omega), (H7.out.2.1.setOther (by omega) _ _).setOther (by omega) _ _, (H7.out.2.2.set 2 _).set 3 _⟩)
      case rest =>
      obtain ⟨x, hxw, T8, hK8, hX8⟩ := hcut
      have x0 := hX8.cell 0 _ rfl
      have x1 := hX8.cell 1 _ rfl
      have x2 := hX8.cell 2 _ rfl
      have x3 := hX8.cell 3 _ rfl
      have b0 := T8.bx.cell 0 _ rfl
      have bf := T8.bx.free 0
      have hlt8 := T8.bx.lt
      have hz8 := T8.gr.size
      have HT8 := Lib.hid (And.intro T8 (And.intro hK8 hX8))
      clear T8 hK8 hX8 HT3 hb
      have hn1 : some (w.heap.size + 1) ≠ v1.ownBlock := fun e => by have := (HT8.out.1.o1.lt _ e.symm).1; omega
      have HN1 := Lib.hid hn1
      clear hn1
      have h3 : w.heap.size + 3 ≤ wc.heap.size := by have := HT8.out.2.2.lt; omega
      go_wp2_with ((at_builtin; go_must (refine wpList_append_own _ rfl _ _ 26 rfl _ 58 _ (.agg #[.string ⟨#[]⟩, .int .i64 0, .string ⟨#[]⟩, .int .i64 0]) 4 48 Tryz.underlying26 hi hz0 hz1 hz2 rfl (by decide) _ _ _ rfl (HT8.out.1.o1.alloc _) ⟨wc.heap.size, 0, none⟩ 1 1 [.string x.key, .int .i64 x.ways, .string x.par, .int .i64 x.port] rfl rfl (by exact news_at (by first | rfl | simp) (by rfl)) (by simp [Value.oneCell']) (by unfold maxLen; omega) (by omega) (by first | omega | (simp; done) | (simp; omega)) ?_)); intro v' w9 hown9 hgrow _; obtain ⟨g9, cap9, rfl, -, -, -, -⟩ := own_form2 hown9 (by omega); have bb := (HT8.out.1.bx.alloc (.cells #[.string x.key, .int .i64 x.ways, .string x.par, .int .i64 x.port] 58)).grown hgrow HN1.out; have bb0 := bb.cell 0 v1 rfl; have bbf := bb.free 0)
      have T9 := (HT8.out.1.alloc (.cells #[.string x.key, .int .i64 x.ways, .string x.par, .int .i64 x.port] 58)).app hxw hgrow hown9
      have hn2 : some (w.heap.size + 2) ≠ v1.ownBlock := fun e => by have := (HT8.out.1.o1.lt _ e.symm).1; omega
      have hK9 := ((HT8.out.2.1.alloc (.cells #[.string x.key, .int .i64 x.ways, .string x.par, .int .i64 x.port] 58)).grown hgrow hn2).setOther (c := w.heap.size + 1) (by omega) 0 (.slice (some ⟨g9, 0, none⟩) (l.length + 1) cap9)
      exact ⟨⟨l ++ [x], _, by simp only [List.length_append, List.length_singleton]; omega, by simp, T9.mono (by simp only [List.length_append, List.length_singleton]; omega), hK9⟩, by simp [intOf]; omega⟩
    · obtain hln : l.length = n := by omega
      have HT := Lib.hid hT
      have HLO := Lib.hid (fun k e => (hT.o1.lt k e).2)
      have hwb : w.heap.size + 3 ≤ wr.heap.size := by have := hK.lt; omega
      obtain ⟨M0, hM0⟩ : ∃ M0, m + 1 + 4 * l.length = M0 := ⟨_, rfl⟩
      have hM : M0 ≤ m + 17 := by omega
      rw [hM0] at HT
      clear hT hK hM0 hln
      go_wp2
      obtain ⟨B, hB⟩ : ∃ B, wr.heap.size = B := ⟨_, rfl⟩
      have S0 : TreeS2 s M0 B w (wr.alloc (.cells #[.string ⟨#[107, 49]⟩, .string ⟨#[107, 50]⟩, .string ⟨#[107, 51]⟩, .string ⟨#[107, 52]⟩, .string ⟨#[107, 53]⟩] 9)) v1 (.slice none 0 0) l [] := ⟨HT.out.alloc _, Blk.newAt hB.symm, World.ownsRow_nil _ _ _ _, fun k e => by have := HLO.out k e; omega, by omega, by simp⟩
      have HS0 := Lib.hid S0
      rw [hB] at *
      clear S0
      generalize wr.alloc (.cells #[.string ⟨#[107, 49]⟩, .string ⟨#[107, 50]⟩, .string ⟨#[107, 51]⟩, .string ⟨#[107, 52]⟩, .string ⟨#[107, 53]⟩] 9) = wo at *
      obtain ⟨i1, hj, hj0, hj1, hj2⟩ := info_parts infoDrp
      go_loopw [57] (fun i wx => ∃ (k : Nat) (d : List Drp) (v2 : Value), k ≤ 5 ∧ d.length ≤ k ∧ i = .int .i64 k ∧ TreeS2 s (M0 + 4 * k) B w wx v1 v2 l d) (fun i _ => 5 - (intOf i).toNat)
      case atStart => exact ⟨0, [], _, by omega, by simp, rfl, HS0.out⟩
      case round =>
        obtain ⟨k, d, v2, hk, hdk, rfl, hS⟩ := hrel
        by_cases hk5 : k < 5
        · obtain ⟨cu, hcu, c0⟩ := five_keys hS.k k hk5
          have HCU := Lib.hid hcu
          clear hcu
          have HS := Lib.hid hS
          have b0 := hS.t.bx.cell 0 _ rfl
          have hbl := hS.t.bx.lt
          clear hS
          have hk5i : decide ((k : Int) < 5) = true := decide_eq_true (by omega)
          go_upto_region 14 with fail
          go_cut [69] from 61 to 69 (fun t wc => ∃ b : Bool, t = .bool b ∧ (b = true → 0 < l.length) ∧ TreeS2 s (M0 + 4 * k + 1) B w wc v1 v2 l d)
          case first =>
            obtain ⟨a1, cap1, hv1⟩ := own_slice HS.out.t.o1
            by_cases hk0 : l.length = 0
            · have hd0 : decide ((0 : Int) < (l.length : Int)) = false := decide_eq_false (by omega)
              have hd1 : decide (0 < l.length) = false := decide_eq_false (by omega)
              subst hv1
              clear hk0
              go_wp2
              go_meet
              exact ⟨false, rfl, (fun h => by cases h), HS.out.mono (by omega)⟩
            · have hd0 : decide ((0 : Int) < (l.length : Int)) = true := decide_eq_true (by omega)
              have hd1 : decide (0 < l.length) = true := decide_eq_true (by omega)
              have hlp : 0 < l.length := by omega
              subst hv1
              clear hk0
              go_wp2_with fail
              refine (flip_any s (M0 + 4 * k) _ _ HS.out.t.st (by omega) (by omega) (by omega)).mono ?_
              rintro e w3 ⟨v, rfl, ⟨fb, rfl⟩, hs3, hg3⟩
              have HS3 := Lib.hid (HS.out.step hs3 hg3)
              clear hs3 hg3
              go_wp2
              go_meet
              exact ⟨!fb, rfl, fun _ => hlp, HS3.out⟩
          case rest =>
          obtain ⟨b, rfl, hb, S1⟩ := hcut
          have HS1 := Lib.hid S1
          clear S1 HS b0
          go_upto_if 69 with (fail)
          cases b
          · go_wp2
            exact ⟨⟨k + 1, d, v2, by omega, by omega, by go_num, HS1.out.mono (by omega)⟩, by simp [intOf]; omega⟩
          · have hlp := hb rfl
            clear hb
            obtain ⟨g, cap, rfl, hgB, hgs, hcn, hcm⟩ := own_form2 HS1.out.t.o1 hlp
            have S2 := HS1.out.drew
            have HS2 := Lib.hid S2
            clear S2 HS1
            go_wp2_with fail
            refine WalkT.start (UpCells l g (w.heap.size + 1) (.slice (some ⟨g, 0, none⟩) l.length cap)) [10] (by kernel_rfl) ?_
            generalize wc.drew = W0 at *
            have HU := Lib.hid HS2.out.t.up
            (refine WalkT.quiet (i := 0) (v := ?_) rfl (by kernel_rfl) (by kernel_rfl) (by kernel_rfl) (fun _ _ _ h => h) (Or.inl ⟨by rfl, ?_⟩) ?_; rotate_left; (· (intro wS hSw; (try dsimp only at hSw); go_simp; try with_reducible rfl)); try simp only [Act.put, pu1, pu2, pu3, pu4, pu5, pu6])
            (refine WalkT.take (i := 1) (v := ?_) rfl (by kernel_rfl) (by kernel_rfl) (by kernel_rfl) (by kernel_rfl) (fun _ _ _ h => h) HU.out (Or.inl ⟨by rfl, ?_⟩) ?_; rotate_left; (· (intro wS hSw; have t0 := hSw.1; go_simp; try with_reducible rfl)); try simp only [Act.put, pu1, pu2, pu3, pu4, pu5, pu6])
            (refine WalkT.quiet (i := 2) (v := ?_) rfl (by kernel_rfl) (by kernel_rfl) (by kernel_rfl) (fun _ _ _ h => h) (Or.inl ⟨by rfl, ?_⟩) ?_; rotate_left; (· (intro wS hSw; (try dsimp only at hSw); go_simp; try with_reducible rfl)); try simp only [Act.put, pu1, pu2, pu3, pu4, pu5, pu6])
            (refine WalkT.quiet (i := 3) (v := ?_) rfl (by kernel_rfl) (by kernel_rfl) (by kernel_rfl) (fun _ _ _ h => h) (Or.inl ⟨by rfl, ?_⟩) ?_; rotate_left; (· (intro wS hSw; (try dsimp only at hSw); go_simp; try with_reducible rfl)); try simp only [Act.put, pu1, pu2, pu3, pu4, pu5, pu6])
            (refine WalkT.take (i := 4) (v := ?_) rfl (by kernel_rfl) (by kernel_rfl) (by kernel_rfl) (by kernel_rfl) (fun _ _ _ h => h) HU.out (Or.inl ⟨by rfl, ?_⟩) ?_; rotate_left; (· (intro wS hSw; have t0 := hSw.1; go_simp; try with_reducible rfl)); try simp only [Act.put, pu1, pu2, pu3, pu4, pu5, pu6])
            (refine WalkT.quiet (i := 5) (v := ?_) rfl (by kernel_rfl) (by kernel_rfl) (by kernel_rfl) (fun _ _ _ h => h) (Or.inl ⟨by rfl, ?_⟩) ?_; rotate_left; (· (intro wS hSw; (try dsimp only at hSw); go_simp; try with_reducible rfl)); try simp only [Act.put, pu1, pu2, pu3, pu4, pu5, pu6])
            clear HU
            refine WalkT.ready (rs := [6, 9]) (by kernel_rfl) (by simp) ?_
            refine AllT.cons rfl (fun K hK => ?_) ?_
            · go_simp
              refine (next_any s _ _ _ HS2.out.t.st (by omega) (by omega) (by omega)).mono ?_
              rintro e W1 ⟨v, rfl, ⟨r, rfl, z0, z1⟩, tW1, gW1⟩
              obtain ⟨kk, rfl⟩ := Int.eq_ofNat_of_zero_le z0
              have hkk : kk < l.length := by omega
              have hkl : (kk : Int) < (l.length : Int) := by omega
              have HU := Lib.hid (HS2.out.t.step tW1 gW1).up
              (refine hK.out _ _ (fun _ _ => HU.out) ?_; clear hK K; try simp only [Act.put, pu1, pu2, pu3, pu4, pu5, pu6])
              (refine WalkT.quiet (i := 7) (v := ?_) rfl (by kernel_rfl) (by kernel_rfl) (by kernel_rfl) (fun _ _ _ h => h) (Or.inl ⟨by rfl, ?_⟩) ?_; rotate_left; (· (intro wS hSw; (try dsimp only at hSw); go_simp; try with_reducible rfl)); try simp only [Act.put, pu1, pu2, pu3, pu4, pu5, pu6])
              (refine WalkT.take (i := 8) (v := ?_) rfl (by kernel_rfl) (by kernel_rfl) (by kernel_rfl) (by kernel_rfl) (fun _ _ _ h => h) HU.out (Or.inl ⟨by rfl, ?_⟩) ?_; rotate_left; (· (intro wS hSw; obtain ⟨t0, t1, t2, t3⟩ := hSw.2 kk hkk; go_simp; try with_reducible rfl)); try simp only [Act.put, pu1, pu2, pu3, pu4, pu5, pu6])
              (refine WalkT.ready (rs := [9]) (by kernel_rfl) (by simp) (AllT.cons rfl (fun K hK => ?_) AllT.nil); go_simp)
              (refine hK.out _ _ (fun _ _ => (HS2.out.t.step tW1 gW1).up_alloc _) ?_; clear hK K; try simp only [Act.put, pu1, pu2, pu3, pu4, pu5, pu6])
              (refine WalkT.ready (rs := [10]) (by kernel_rfl) (by simp) (AllT.cons rfl (fun K hK => ?_) AllT.nil); go_simp)
              (refine hK.out _ _ (fun h => absurd h (by decide)) ?_; clear hK K; try simp only [Act.put, pu1, pu2, pu3, pu4, pu5, pu6])
              refine WalkT.done (by kernel_rfl) ?_
              have S5 := (HS2.out.step tW1 gW1).alloc (.cells #[.string l[kk].key, .int .i64 l[kk].ways, .string l[kk].par, .int .i64 l[kk].port] 58)
              have hU5 := Blk.new W1 #[.string l[kk].key, .int .i64 l[kk].ways, .string l[kk].par, .int .i64 l[kk].port] 58
              have hBu : B < W1.heap.size := Nat.lt_of_lt_of_le HS2.out.k.lt gW1.size
              generalize W1.alloc (.cells #[.string l[kk].key, .int .i64 l[kk].ways, .string l[kk].par, .int .i64 l[kk].port] 58) = W5 at *
              generalize W1.heap.size = u at *
              (obtain ⟨a2, cap2, hv2⟩ := own_slice S5.o2; subst hv2; have H5 := Lib.hid (And.intro S5.drew (Blk.drew hU5)); clear S5 hU5; go_wp2_with fail; refine WalkT.start (fun w' => w'.cell? ⟨w.heap.size + 1, 1, none⟩ = some (.slice a2 d.length cap2) ∧ w'.cell? ⟨u, 0, none⟩ = some (.string l[kk].key) ∧ w'.cell? ⟨u, 1, none⟩ = some (.int .i64 l[kk].ways)) [11, 13] (by kernel_rfl) ?_; generalize W5.drew = W6 at *; have hS1 : W6.cell? ⟨w.heap.size + 1, 1, none⟩ = some (.slice a2 d.length cap2) ∧ W6.cell? ⟨u, 0, none⟩ = some (.string l[kk].key) ∧ W6.cell? ⟨u, 1, none⟩ = some (.int .i64 l[kk].ways) := ⟨H5.out.1.t.bx.cell 1 _ rfl, H5.out.2.cell 0 _ rfl, H5.out.2.cell 1 _ rfl⟩; (refine WalkT.quiet (i := 0) (v := ?_) rfl (by kernel_rfl) (by kernel_rfl) (by kernel_rfl) (fun _ _ _ h => h) (Or.inl ⟨by rfl, ?_⟩) ?_; rotate_left; (· (intro wS hSw; (try dsimp only at hSw); go_simp; try with_reducible rfl)); try simp only [Act.put, pu1, pu2, pu3, pu4, pu5, pu6]); (refine WalkT.take (i := 1) (v := ?_) rfl (by kernel_rfl) (by kernel_rfl) (by kernel_rfl) (by kernel_rfl) (fun _ _ _ h => h) hS1 (Or.inl ⟨by rfl, ?_⟩) ?_; rotate_left; (· (intro wS hSw; (try dsimp only at hSw); obtain ⟨t0, t1, t2⟩ := hSw; go_simp; try with_reducible rfl)); try simp only [Act.put, pu1, pu2, pu3, pu4, pu5, pu6]); (refine WalkT.quiet (i := 2) (v := ?_) rfl (by kernel_rfl) (by kernel_rfl) (by kernel_rfl) (fun _ _ _ h => h) (Or.inl ⟨by rfl, ?_⟩) ?_; rotate_left; (· (intro wS hSw; (try dsimp only at hSw); go_simp; try with_reducible rfl)); try simp only [Act.put, pu1, pu2, pu3, pu4, pu5, pu6]); (refine WalkT.quiet (i := 3) (v := ?_) rfl (by kernel_rfl) (by kernel_rfl) (by kernel_rfl) (fun _ _ _ h => h) (Or.inl ⟨by rfl, ?_⟩) ?_; rotate_left; (· (intro wS hSw; (try dsimp only at hSw); go_simp; try with_reducible rfl)); try simp only [Act.put, pu1, pu2, pu3, pu4, pu5, pu6]); (refine WalkT.take (i := 4) (v := ?_) rfl (by kernel_rfl) (by kernel_rfl) (by kernel_rfl) (by kernel_rfl) (fun _ _ _ h => h) hS1 (Or.inl ⟨by rfl, ?_⟩) ?_; rotate_left; (· (intro wS hSw; (try dsimp only at hSw); obtain ⟨t0, t1, t2⟩ := hSw; go_simp; try with_reducible rfl)); try simp only [Act.put, pu1, pu2, pu3, pu4, pu5, pu6]); (refine WalkT.quiet (i := 5) (v := ?_) rfl (by kernel_rfl) (by kernel_rfl) (by kernel_rfl) (fun _ _ _ h => h) (Or.inl ⟨by rfl, ?_⟩) ?_; rotate_left; (· (intro wS hSw; (try dsimp only at hSw); go_simp; try with_reducible rfl)); try simp only [Act.put, pu1, pu2, pu3, pu4, pu5, pu6]); (refine WalkT.quiet (i := 6) (v := ?_) rfl (by kernel_rfl) (by kernel_rfl) (by kernel_rfl) (fun _ _ _ h => h) (Or.inl ⟨by rfl, ?_⟩) ?_; rotate_left; (· (intro wS hSw; (try dsimp only at hSw); go_simp; try with_reducible rfl)); try simp only [Act.put, pu1, pu2, pu3, pu4, pu5, pu6]); (refine WalkT.take (i := 7) (v := ?_) rfl (by kernel_rfl) (by kernel_rfl) (by kernel_rfl) (by kernel_rfl) (fun _ _ _ h => h) hS1 (Or.inl ⟨by rfl, ?_⟩) ?_; rotate_left; (· (intro wS hSw; (try dsimp only at hSw); obtain ⟨t0, t1, t2⟩ := hSw; go_simp; try with_reducible rfl)); try simp only [Act.put, pu1, pu2, pu3, pu4, pu5, pu6]); have hwk := H5.out.1.t.ok l[kk] (List.getElem_mem _); have h5l := H5.out.1.t.lt; have h5b := H5.out.1.hb; (refine WalkT.ready (rs := [8]) (by kernel_rfl) (by simp) (AllT.cons rfl (fun K hK => ?_) AllT.nil); go_simp); refine (range_any s _ _ _ _ H5.out.1.t.st (by omega) (by omega) (by omega) (by omega)).mono ?_; rintro e W7 ⟨v, rfl, ⟨rr, rfl, -, -⟩, tW7, gW7⟩; have S7 := H5.out.1.step tW7 gW7; have hus : some u ≠ some s := (by have := H5.out.1.k.lt; simp; omega); have hU7 := H5.out.2.grown gW7 hus; have H7 := Lib.hid (And.intro S7 hU7); clear hS1; (refine hK.out _ _ (fun _ _ => ⟨S7.t.bx.cell 1 _ rfl, hU7.cell 0 _ rfl, hU7.cell 1 _ rfl⟩) ?_; clear hK K; try simp only [Act.put, pu1, pu2, pu3, pu4, pu5, pu6]); clear S7 hU7 tW7 gW7; (refine WalkT.quiet (i := 9) (v := ?_) rfl (by kernel_rfl) (by kernel_rfl) (by kernel_rfl) (fun _ _ _ h => h) (Or.inl ⟨by rfl, ?_⟩) ?_; rotate_left; (· (intro wS hSw; (try dsimp only at hSw); go_simp; try with_reducible rfl)); try simp only [Act.put, pu1, pu2, pu3, pu4, pu5, pu6]); (refine WalkT.ready (rs := [10]) (by kernel_rfl) (by simp) (AllT.cons rfl (fun K hK => ?_) AllT.nil); go_simp); have H8 := Lib.hid (And.intro (H7.out.1.alloc (.cells #[.string cu, .string l[kk].key, .int .i64 rr] 36)) (H7.out.2.alloc (.cells #[.string cu, .string l[kk].key, .int .i64 rr] 36))); (refine hK.out _ _ (fun _ _ => ⟨H8.out.1.t.bx.cell 1 _ rfl, H8.out.2.cell 0 _ rfl, H8.out.2.cell 1 _ rfl⟩) ?_; clear hK K; try simp only [Act.put, pu1, pu2, pu3, pu4, pu5, pu6]); (refine WalkT.ready (rs := [11]) (by kernel_rfl) (by simp) (AllT.cons rfl (fun K hK => ?_) AllT.nil)); refine step_append_lies _ (by rfl) _ _ _ (by rfl) (B + 1) 36 _ _ 3 40 Tryz.underlying27 hj hj0 hj1 hj2 rfl (by decide) _ d.length _ (by rfl) H8.out.1.o2 ⟨_, 0, none⟩ 1 1 [.string cu, .string l[kk].key, .int .i64 rr] (by rfl) rfl (by exact news_at rfl rfl) (by simp [Value.oneCell']) (by omega) (by unfold maxLen; omega) (by omega) (by have := H8.out.1.k.lt; omega) _ rfl ?_; intro g9 cap9 w9 hown9 hg9 hat9 hlt9; (refine hK.out _ _ (fun h => absurd h (by decide)) ?_; clear hK K; try simp only [Act.put, pu1, pu2, pu3, pu4, pu5, pu6]); have bb := H8.out.1.t.bx.grown hg9 (fun e => by have := (H8.out.1.o2.lt _ e.symm).1; omega); have bb1 := bb.cell 1 (.slice a2 d.length cap2) rfl; have bbf := bb.free 1; have S9 := Lib.hid (H8.out.1.app (x := ⟨cu, l[kk].key, rr⟩) HCU.out hg9 hown9); have hl9 := bb.lt; clear bb hown9 hg9 hat9; (refine WalkT.quiet (i := 12) (v := ?_) rfl (by kernel_rfl) (by kernel_rfl) (by kernel_rfl) (fun _ _ _ h => h) (Or.inl ⟨by rfl, ?_⟩) ?_; rotate_left; (· (intro wS hSw; (try dsimp only at hSw); go_simp; try with_reducible rfl)); try simp only [Act.put, pu1, pu2, pu3, pu4, pu5, pu6]); (refine WalkT.ready (rs := [13]) (by kernel_rfl) (by simp) (AllT.cons rfl (fun K hK => ?_) AllT.nil); go_simp); (refine hK.out _ _ (fun h => absurd h (by decide)) ?_; clear hK K; try simp only [Act.put, pu1, pu2, pu3, pu4, pu5, pu6]); refine WalkT.done (by kernel_rfl) ?_; go_wp2; exact ⟨⟨k + 1, _, _, by omega, by simp only [List.length_append, List.length_singleton]; omega, by go_num, S9.out.mono (by omega)⟩, by simp [intOf]; omega⟩)
            refine AllT.cons rfl (fun K hK => ?_) AllT.nil
            · go_simp
              (refine hK.out _ _ (fun _ _ => HS2.out.t.up_alloc _) ?_; clear hK K; try simp only [Act.put, pu1, pu2, pu3, pu4, pu5, pu6])
              (refine WalkT.ready (rs := [6]) (by kernel_rfl) (by simp) (AllT.cons rfl (fun K hK => ?_) AllT.nil); go_simp)
              refine (next_any s _ _ _ (HS2.out.t.alloc _).st (by omega) (by omega) (by omega)).mono ?_
              rintro e W1 ⟨v, rfl, ⟨r, rfl, z0, z1⟩, tW1, gW1⟩
              obtain ⟨kk, rfl⟩ := Int.eq_ofNat_of_zero_le z0
              have hkk : kk < l.length := by omega
              have hkl : (kk : Int) < (l.length : Int) := by omega
              have lW1 := gW1.size
              simp only [World.size_alloc] at lW1
              have HU := Lib.hid ((HS2.out.t.alloc _).step tW1 gW1).up
              have hU5 := (Blk.new W0 #[.string ⟨#[]⟩, .int .i64 0, .string ⟨#[]⟩, .int .i64 0] 58).grown gW1 (by simp; have := HS2.out.t.lt; have := HS2.out.t.gr.size; omega)
              have y0 := hU5.cell 0 (.string ⟨#[]⟩) rfl
              have y1 := hU5.cell 1 (.int .i64 0) rfl
              have y2 := hU5.cell 2 (.string ⟨#[]⟩) rfl
              have y3 := hU5.cell 3 (.int .i64 0) rfl
              have yf := fun o => hU5.free o
              (refine hK.out _ _ (fun _ _ => HU.out) ?_; clear hK K; try simp only [Act.put, pu1, pu2, pu3, pu4, pu5, pu6])
              (refine WalkT.quiet (i := 7) (v := ?_) rfl (by kernel_rfl) (by kernel_rfl) (by kernel_rfl) (fun _ _ _ h => h) (Or.inl ⟨by rfl, ?_⟩) ?_; rotate_left; (· (intro wS hSw; (try dsimp only at hSw); go_simp; try with_reducible rfl)); try simp only [Act.put, pu1, pu2, pu3, pu4, pu5, pu6])
              (refine WalkT.take (i := 8) (v := ?_) rfl (by kernel_rfl) (by kernel_rfl) (by kernel_rfl) (by kernel_rfl) (fun _ _ _ h => h) HU.out (Or.inl ⟨by rfl, ?_⟩) ?_; rotate_left; (· (intro wS hSw; obtain ⟨t0, t1, t2, t3⟩ := hSw.2 kk hkk; go_simp; try with_reducible rfl)); try simp only [Act.put, pu1, pu2, pu3, pu4, pu5, pu6])
              (refine WalkT.ready (rs := [10]) (by kernel_rfl) (by simp) (AllT.cons rfl (fun K hK => ?_) AllT.nil); go_simp)
              (refine hK.out _ _ (fun h => absurd h (by decide)) ?_; clear hK K; try simp only [Act.put, pu1, pu2, pu3, pu4, pu5, pu6])
              refine WalkT.done (by kernel_rfl) ?_
              have hW0 : B < W0.heap.size := HS2.out.k.lt
              have S5 : TreeS2 s (M0 + 4 * k + 2) B w ((((W1.setCell ⟨W0.heap.size, 0, none⟩ (.string l[kk].key)).setCell ⟨W0.heap.size, 1, none⟩ (.int .i64 l[kk].ways)).setCell ⟨W0.heap.size, 2, none⟩ (.string l[kk].par)).setCell ⟨W0.heap.size, 3, none⟩ (.int .i64 l[kk].port)) (.slice (some ⟨g, 0, none⟩) l.length cap) v2 l d := by
                have hob2 := fun k e => (HS2.out.o2.lt k e).2
                exact (((((HS2.out.alloc _).step tW1 gW1).setOther hW0 hob2 _ _).setOther hW0 hob2 _ _).setOther hW0 hob2 _ _).setOther hW0 hob2 _ _
              replace hU5 : Blk _ W0.heap.size #[.string l[kk].key, .int .i64 l[kk].ways, .string l[kk].par, .int .i64 l[kk].port] 58 := (((hU5.set 0 (.string l[kk].key)).set 1 (.int .i64 l[kk].ways)).set 2 (.string l[kk].par)).set 3 (.int .i64 l[kk].port)
              clear y0 y1 y2 y3 yf HU
              generalize (((W1.setCell ⟨W0.heap.size, 0, none⟩ (.string l[kk].key)).setCell ⟨W0.heap.size, 1, none⟩ (.int .i64 l[kk].ways)).setCell ⟨W0.heap.size, 2, none⟩ (.string l[kk].par)).setCell ⟨W0.heap.size, 3, none⟩ (.int .i64 l[kk].port) = W5 at *
              generalize W0.heap.size = u at *
              (obtain ⟨a2, cap2, hv2⟩ := own_slice S5.o2; subst hv2; have H5 := Lib.hid (And.intro S5.drew (Blk.drew hU5)); clear S5 hU5; go_wp2_with fail; refine WalkT.start (fun w' => w'.cell? ⟨w.heap.size + 1, 1, none⟩ = some (.slice a2 d.length cap2) ∧ w'.cell? ⟨u, 0, none⟩ = some (.string l[kk].key) ∧ w'.cell? ⟨u, 1, none⟩ = some (.int .i64 l[kk].ways)) [11, 13] (by kernel_rfl) ?_; generalize W5.drew = W6 at *; have hS1 : W6.cell? ⟨w.heap.size + 1, 1, none⟩ = some (.slice a2 d.length cap2) ∧ W6.cell? ⟨u, 0, none⟩ = some (.string l[kk].key) ∧ W6.cell? ⟨u, 1, none⟩ = some (.int .i64 l[kk].ways) := ⟨H5.out.1.t.bx.cell 1 _ rfl, H5.out.2.cell 0 _ rfl, H5.out.2.cell 1 _ rfl⟩; (refine WalkT.quiet (i := 0) (v := ?_) rfl (by kernel_rfl) (by kernel_rfl) (by kernel_rfl) (fun _ _ _ h => h) (Or.inl ⟨by rfl, ?_⟩) ?_; rotate_left; (· (intro wS hSw; (try dsimp only at hSw); go_simp; try with_reducible rfl)); try simp only [Act.put, pu1, pu2, pu3, pu4, pu5, pu6]); (refine WalkT.take (i := 1) (v := ?_) rfl (by kernel_rfl) (by kernel_rfl) (by kernel_rfl) (by kernel_rfl) (fun _ _ _ h => h) hS1 (Or.inl ⟨by rfl, ?_⟩) ?_; rotate_left; (· (intro wS hSw; (try dsimp only at hSw); obtain ⟨t0, t1, t2⟩ := hSw; go_simp; try with_reducible rfl)); try simp only [Act.put, pu1, pu2, pu3, pu4, pu5, pu6]); (refine WalkT.quiet (i := 2) (v := ?_) rfl (by kernel_rfl) (by kernel_rfl) (by kernel_rfl) (fun _ _ _ h => h) (Or.inl ⟨by rfl, ?_⟩) ?_; rotate_left; (· (intro wS hSw; (try dsimp only at hSw); go_simp; try with_reducible rfl)); try simp only [Act.put, pu1, pu2, pu3, pu4, pu5, pu6]); (refine WalkT.quiet (i := 3) (v := ?_) rfl (by kernel_rfl) (by kernel_rfl) (by kernel_rfl) (fun _ _ _ h => h) (Or.inl ⟨by rfl, ?_⟩) ?_; rotate_left; (· (intro wS hSw; (try dsimp only at hSw); go_simp; try with_reducible rfl)); try simp only [Act.put, pu1, pu2, pu3, pu4, pu5, pu6]); (refine WalkT.take (i := 4) (v := ?_) rfl (by kernel_rfl) (by kernel_rfl) (by kernel_rfl) (by kernel_rfl) (fun _ _ _ h => h) hS1 (Or.inl ⟨by rfl, ?_⟩) ?_; rotate_left; (· (intro wS hSw; (try dsimp only at hSw); obtain ⟨t0, t1, t2⟩ := hSw; go_simp; try with_reducible rfl)); try simp only [Act.put, pu1, pu2, pu3, pu4, pu5, pu6]); (refine WalkT.quiet (i := 5) (v := ?_) rfl (by kernel_rfl) (by kernel_rfl) (by kernel_rfl) (fun _ _ _ h => h) (Or.inl ⟨by rfl, ?_⟩) ?_; rotate_left; (· (intro wS hSw; (try dsimp only at hSw); go_simp; try with_reducible rfl)); try simp only [Act.put, pu1, pu2, pu3, pu4, pu5, pu6]); (refine WalkT.quiet (i := 6) (v := ?_) rfl (by kernel_rfl) (by kernel_rfl) (by kernel_rfl) (fun _ _ _ h => h) (Or.inl ⟨by rfl, ?_⟩) ?_; rotate_left; (· (intro wS hSw; (try dsimp only at hSw); go_simp; try with_reducible rfl)); try simp only [Act.put, pu1, pu2, pu3, pu4, pu5, pu6]); (refine WalkT.take (i := 7) (v := ?_) rfl (by kernel_rfl) (by kernel_rfl) (by kernel_rfl) (by kernel_rfl) (fun _ _ _ h => h) hS1 (Or.inl ⟨by rfl, ?_⟩) ?_; rotate_left; (· (intro wS hSw; (try dsimp only at hSw); obtain ⟨t0, t1, t2⟩ := hSw; go_simp; try with_reducible rfl)); try simp only [Act.put, pu1, pu2, pu3, pu4, pu5, pu6]); have hwk := H5.out.1.t.ok l[kk] (List.getElem_mem _); have h5l := H5.out.1.t.lt; have h5b := H5.out.1.hb; (refine WalkT.ready (rs := [8]) (by kernel_rfl) (by simp) (AllT.cons rfl (fun K hK => ?_) AllT.nil); go_simp); refine (range_any s _ _ _ _ H5.out.1.t.st (by omega) (by omega) (by omega) (by omega)).mono ?_; rintro e W7 ⟨v, rfl, ⟨rr, rfl, -, -⟩, tW7, gW7⟩; have S7 := H5.out.1.step tW7 gW7; have hus : some u ≠ some s := (by have := H5.out.1.k.lt; simp; omega); have hU7 := H5.out.2.grown gW7 hus; have H7 := Lib.hid (And.intro S7 hU7); clear hS1; (refine hK.out _ _ (fun _ _ => ⟨S7.t.bx.cell 1 _ rfl, hU7.cell 0 _ rfl, hU7.cell 1 _ rfl⟩) ?_; clear hK K; try simp only [Act.put, pu1, pu2, pu3, pu4, pu5, pu6]); clear S7 hU7 tW7 gW7; (refine WalkT.quiet (i := 9) (v := ?_) rfl (by kernel_rfl) (by kernel_rfl) (by kernel_rfl) (fun _ _ _ h => h) (Or.inl ⟨by rfl, ?_⟩) ?_; rotate_left; (· (intro wS hSw; (try dsimp only at hSw); go_simp; try with_reducible rfl)); try simp only [Act.put, pu1, pu2, pu3, pu4, pu5, pu6]); (refine WalkT.ready (rs := [10]) (by kernel_rfl) (by simp) (AllT.cons rfl (fun K hK => ?_) AllT.nil); go_simp); have H8 := Lib.hid (And.intro (H7.out.1.alloc (.cells #[.string cu, .string l[kk].key, .int .i64 rr] 36)) (H7.out.2.alloc (.cells #[.string cu, .string l[kk].key, .int .i64 rr] 36))); (refine hK.out _ _ (fun _ _ => ⟨H8.out.1.t.bx.cell 1 _ rfl, H8.out.2.cell 0 _ rfl, H8.out.2.cell 1 _ rfl⟩) ?_; clear hK K; try simp only [Act.put, pu1, pu2, pu3, pu4, pu5, pu6]); (refine WalkT.ready (rs := [11]) (by kernel_rfl) (by simp) (AllT.cons rfl (fun K hK => ?_) AllT.nil)); refine step_append_lies _ (by rfl) _ _ _ (by rfl) (B + 1) 36 _ _ 3 40 Tryz.underlying27 hj hj0 hj1 hj2 rfl (by decide) _ d.length _ (by rfl) H8.out.1.o2 ⟨_, 0, none⟩ 1 1 [.string cu, .string l[kk].key, .int .i64 rr] (by rfl) rfl (by exact news_at rfl rfl) (by simp [Value.oneCell']) (by omega) (by unfold maxLen; omega) (by omega) (by have := H8.out.1.k.lt; omega) _ rfl ?_; intro g9 cap9 w9 hown9 hg9 hat9 hlt9; (refine hK.out _ _ (fun h => absurd h (by decide)) ?_; clear hK K; try simp only [Act.put, pu1, pu2, pu3, pu4, pu5, pu6]); have bb := H8.out.1.t.bx.grown hg9 (fun e => by have := (H8.out.1.o2.lt _ e.symm).1; omega); have bb1 := bb.cell 1 (.slice a2 d.length cap2) rfl; have bbf := bb.free 1; have S9 := Lib.hid (H8.out.1.app (x := ⟨cu, l[kk].key, rr⟩) HCU.out hg9 hown9); have hl9 := bb.lt; clear bb hown9 hg9 hat9; (refine WalkT.quiet (i := 12) (v := ?_) rfl (by kernel_rfl) (by kernel_rfl) (by kernel_rfl) (fun _ _ _ h => h) (Or.inl ⟨by rfl, ?_⟩) ?_; rotate_left; (· (intro wS hSw; (try dsimp only at hSw); go_simp; try with_reducible rfl)); try simp only [Act.put, pu1, pu2, pu3, pu4, pu5, pu6]); (refine WalkT.ready (rs := [13]) (by kernel_rfl) (by simp) (AllT.cons rfl (fun K hK => ?_) AllT.nil); go_simp); (refine hK.out _ _ (fun h => absurd h (by decide)) ?_; clear hK K; try simp only [Act.put, pu1, pu2, pu3, pu4, pu5, pu6]); refine WalkT.done (by kernel_rfl) ?_; go_wp2; exact ⟨⟨k + 1, _, _, by omega, by simp only [List.length_append, List.length_singleton]; omega, by go_num, S9.out.mono (by omega)⟩, by simp [intOf]; omega⟩)
        · obtain rfl : k = 5 := by omega
          have hln4 : l.length ≤ 4 := by omega
          have HW := Lib.hid hS.weak
          clear hS
          go_wp2_with fail
          refine (flip_any s _ _ _ HW.out.st (by omega) (by omega) (by omega)).mono ?_
          rintro e wf ⟨v, rfl, ⟨fb, rfl⟩, hsf, hgf⟩
          have HW2 := Lib.hid (HW.out.step hsf hgf)
          clear HW hsf hgf
          cases fb
          · (obtain ⟨x1, n1, hv1⟩ := own_slice HW2.out.o1; obtain ⟨x2, n2, hv2⟩ := own_slice HW2.out.o2; subst hv1 hv2; have p0 := HW2.out.bx.cell 0 _ rfl; have p1 := HW2.out.bx.cell 1 _ rfl; have r0 := HW2.out.rs.cell 0 (.slice none 0 0) rfl; have r1 := HW2.out.rs.cell 1 (.slice none 0 0) rfl; have rf := fun o => HW2.out.rs.free o; have hq1 := HW2.out.hb; go_wp2; refine bodyPost_ret (v := .agg #[.slice x1 (l).length n1, .slice x2 (d).length n2]) ?_ rfl ⟨_, rfl, ⟨_, _, l, d, rfl, by omega, by omega, ?_, ?_, ?_, ?_, HW2.out.cu⟩, ?_, ?_⟩; (· simp [results, go_sem, r0, r1]); (· exact Arr.of_own Splt.cells_len (own_setOther (own_setOther HW2.out.o1 (by omega) _ _) (by omega) _ _)); (· exact Arr.of_own Drp.cells_len (own_setOther (own_setOther HW2.out.o2 (by omega) _ _) (by omega) _ _)); (· intro b off n cap e; have := (HW2.out.o1.lt b (congrArg Value.ownBlock e)).1; omega); (· intro b off n cap e; have := (HW2.out.o2.lt b (congrArg Value.ownBlock e)).1; omega); (· exact ((HW2.out.st.setOther HW2.out.lt _ _).setOther HW2.out.lt _ _).mono (by omega)); (· exact grown_setOwn (grown_setOwn HW2.out.gr (Nat.le_refl _) _ _) (Nat.le_refl _) _ _))
          · go_wp2_with fail
            refine (spoil_any s _ B w _ v1 v2 l d HW2.out (by omega) (by omega) (by omega)).mono ?_
            rintro e wg ⟨rfl, v3, v4, l4, d4, hl4, hd4, hw4⟩
            have HW3 := Lib.hid hw4
            have hl44 : l4.length ≤ 4 := by omega
            clear hw4 HW2 hl4
            (obtain ⟨x1, n1, hv1⟩ := own_slice HW3.out.o1; obtain ⟨x2, n2, hv2⟩ := own_slice HW3.out.o2; subst hv1 hv2; have p0 := HW3.out.bx.cell 0 _ rfl; have p1 := HW3.out.bx.cell 1 _ rfl; have r0 := HW3.out.rs.cell 0 (.slice none 0 0) rfl; have r1 := HW3.out.rs.cell 1 (.slice none 0 0) rfl; have rf := fun o => HW3.out.rs.free o; have hq1 := HW3.out.hb; go_wp2; refine bodyPost_ret (v := .agg #[.slice x1 (l4).length n1, .slice x2 (d4).length n2]) ?_ rfl ⟨_, rfl, ⟨_, _, l4, d4, rfl, by omega, by omega, ?_, ?_, ?_, ?_, HW3.out.cu⟩, ?_, ?_⟩; (· simp [results, go_sem, r0, r1]); (· exact Arr.of_own Splt.cells_len (own_setOther (own_setOther HW3.out.o1 (by omega) _ _) (by omega) _ _)); (· exact Arr.of_own Drp.cells_len (own_setOther (own_setOther HW3.out.o2 (by omega) _ _) (by omega) _ _)); (· intro b off n cap e; have := (HW3.out.o1.lt b (congrArg Value.ownBlock e)).1; omega); (· intro b off n cap e; have := (HW3.out.o2.lt b (congrArg Value.ownBlock e)).1; omega); (· exact ((HW3.out.st.setOther HW3.out.lt _ _).setOther HW3.out.lt _ _).mono (by omega)); (· exact grown_setOwn (grown_setOwn HW3.out.gr (Nat.le_refl _) _ _) (Nat.le_refl _) _ _))
theorem atree_any (s m : Nat) (w : World) (h : Strm w s m) (hm : m ≤ 1000000) : Calls Tryz.prog 5 #[.pointer (some ⟨s, 0, none⟩)] w
    (Draw (TreeIsB w.heap.size) s m 60 w) := by
  refine (atreeK_any s m w h hm).mono ?_
  rintro e w1 ⟨v, rfl, ⟨v1, v2, l, d, h1, h2, h3, h4, h5, h6, h7, -⟩, h8, h9⟩
  exact ⟨v, rfl, ⟨v1, v2, l, d, h1, h2, h3, h4, h5, h6, h7⟩, h8, h9⟩
end Go.Proofs.YtcecpodbmjghhaaGreat
/- Walk of the stream: trees that are right. -/
namespace Go.Proofs.YtcecpodbmjghhaaGreat
open Go Go.RowKit
theorem arr_setOtherZ {α : Type} {cells : α → List Value} {sz : Nat} {w : World} {l : List α} {v : Value} (h : Arr cells sz w l v) {c : Nat} (hne : ∀ b off n cap, v = .slice (some ⟨b, off, none⟩) n cap → c < b) (o : Nat) (u : Value) : Arr cells sz (w.setCell ⟨c, o, none⟩ u) l v := by
  obtain ⟨a, cap, rfl, h2, h3, h4⟩ := h
  refine ⟨a, cap, rfl, h2, h3, fun k hk => ?_⟩
  obtain ⟨b, off, ha, hb, hc⟩ := h4 k hk
  refine ⟨b, off, ha, by simp [World.setCell]; exact hb, fun j x hx => ?_⟩
  have := hne b off l.length cap (by rw [ha])
  rw [World.cell?_setCell_other _ _ _ _ (fun e => by simp only [Addr.mk.injEq] at e; omega)]
  exact hc j x hx
end Go.Proofs.YtcecpodbmjghhaaGreat
