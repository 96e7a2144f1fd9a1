/- Walk of the reference: a customer is connected. -/
import Derived.Test.YtcecpodbmjghhaaGreatChAll
import Derived.Test.YtcecpodbmjghhaaGreatAskRef
set_option linter.unusedVariables false
set_option linter.unusedSimpArgs false
namespace Go.Proofs.YtcecpodbmjghhaaGreat
open Go Go.RowKit
/-- what Connected answers -/
def ConRPost (l : List Splt) (d : List Drp) (c : ByteArray) (w : World) (e : Ending) (w' : World) : Prop := ∃ u1 u2, e = .returned (.tuple #[.agg #[u1, u2], .agg #[.string (conB l d c).cust, .string (conB l d c).spl, .int .i64 (conB l d c).port], .int .i64 (conF l d c)]) ∧
  Arr Splt.cells 4 w' (conS l d c) u1 ∧ Arr Drp.cells 3 w' (conD l d c) u2 ∧ Below w.heap.size w w'
/-- the boxes: the tree, the two results -/
structure ConBx (w W : World) (v1 v2 : Value) : Prop where
  be : Below w.heap.size w W
  bt : Blk W w.heap.size #[v1, v2] 29
  br : Blk W (w.heap.size + 1) #[.slice none 0 0, .slice none 0 0] 29
  bd : Blk W (w.heap.size + 2) #[.string ⟨#[]⟩, .string ⟨#[]⟩, .int .i64 0] 36
theorem ConBx.below {w W W' : World} {v1 v2 : Value} (h : ConBx w W v1 v2) (hb : Below W.heap.size W W') : ConBx w W' v1 v2 :=
  ⟨below_at h.be hb h.be.size, h.bt.below hb h.bt.lt, h.br.below hb h.br.lt, h.bd.below hb h.bd.lt⟩
theorem ConBx.grown {w W W' : World} {v1 v2 : Value} {b : Nat} (h : ConBx w W v1 v2) (hg : W.grownBy W' (some b)) (hb : w.heap.size + 3 ≤ b) : ConBx w W' v1 v2 :=
  ⟨⟨hg.os.trans h.be.os, hg.tape.trans h.be.tape, hg.output.trans h.be.output, Nat.le_trans h.be.size hg.size, fun k hk => (hg.block k (by have := h.be.size; omega) (by simp; omega)).trans (h.be.block k hk)⟩,
    h.bt.grown hg (by simp; omega), h.br.grown hg (by simp; omega), h.bd.grown hg (by simp; omega)⟩
theorem findD_drop {d : List Drp} {c : ByteArray} : (dropW d c).isSome = decide (0 ≤ findD d c) := by
  rcases findD_get d c with ⟨h1, h2⟩ | ⟨j, hj, h5, h2, h6⟩
  · rw [h2]; simp; omega
  · rw [h2, h5]; simp
theorem portsV_at {l : List Splt} {d : List Drp} {key : ByteArray} {i : Nat} (h : i < (portsV l d key).length) : (portsV l d key)[i] = atPort l d (key, (i : Int) + 1) := by
  have h2 : (portsV l d key)[i]? = some (atPort l d (key, (i : Int) + 1)) := by
    unfold portsV at h ⊢
    rw [List.length_map, List.length_range] at h
    rw [List.getElem?_map, List.getElem?_range h]; rfl
  exact (List.getElem?_eq_some_iff.1 h2).2
theorem infoDrpC : (Tryz.prog.info? 36).map (fun i => (i.zero, i.size, i.bytes)) = some (some (.agg #[.string ⟨#[]⟩, .string ⟨#[]⟩, .int .i64 0]), 3, 40) := by kernel_rfl
/-- the best port is put down -/
theorem put_best {W : World} {bb : Nat} {x y : Drp} (h : Blk W bb #[.string x.cust, .string x.spl, .int .i64 x.port] 36) : Blk (((W.setCell ⟨bb, 0, none⟩ (.string y.cust)).setCell ⟨bb, 1, none⟩ (.string y.spl)).setCell ⟨bb, 2, none⟩ (.int .i64 y.port)) bb #[.string y.cust, .string y.spl, .int .i64 y.port] 36 ∧
    W.grownBy (((W.setCell ⟨bb, 0, none⟩ (.string y.cust)).setCell ⟨bb, 1, none⟩ (.string y.spl)).setCell ⟨bb, 2, none⟩ (.int .i64 y.port)) (some bb) :=
  ⟨((h.set 0 _).set 1 _).set 2 _, grown_trans (grown_trans (grown_setCell _ _ _ _) (grown_setCell _ _ _ _)) (grown_setCell _ _ _ _)⟩
set_option maxHeartbeats 16000000 in
set_option maxRecDepth 100000 in
theorem connected_any (v1 v2 : Value) (l : List Splt) (d : List Drp) (c : ByteArray) (w : World) (h1 : Arr Splt.cells 4 w l v1) (h2 : Arr Drp.cells 3 w d v2) (hf : treeF l d = 0) (hd : d.length ≤ 11) :
    Calls Tryz.prog 16 #[.agg #[v1, v2], .string c] w (ConRPost l d c w) := by
  have HA := Lib.hid (And.intro h1 (And.intro h2 (And.intro hf (tok_of hf))))
  obtain ⟨a1, cap1, rfl, hcap1, hmax1, hc1⟩ := id h1
  obtain ⟨a2, cap2, rfl, hcap2, hmax2, hc2⟩ := id h2
  unfold maxLen at hmax1 hmax2
  have hl5 := HA.out.2.2.2.s.len
  have HC := Lib.hid hc1
  have HX0 : Hid (ConBx w (((w.alloc (.cells #[.slice a1 l.length cap1, .slice a2 d.length cap2] 29)).alloc (.cells #[.slice none 0 0, .slice none 0 0] 29)).alloc (.cells #[.string ⟨#[]⟩, .string ⟨#[]⟩, .int .i64 0] 36)) (.slice a1 l.length cap1) (.slice a2 d.length cap2)) :=
    ⟨by (repeat (first | exact Below.refl _ _ | assumption | refine below_draws ?_ _ | refine Below.drew ?_ | refine below_alloc ?_ _ (by first | omega | (simp; done) | (simp; omega)) | refine Below.setCell ?_ (by first | omega | (simp; done) | (simp; omega)) _ | refine below_at ?_ (by assumption) (by first | omega | (simp; done) | (simp; omega)))), ((Blk.new w _ _).alloc _).alloc _, (Blk.newAt (by simp)).alloc _, Blk.newAt (by simp)⟩
  clear h1 h2 hf hc1 hc2
  go_enter Tryz.func16, Tryz.ntmps16
  go_wp2_with fail
  refine (rkey_any c _).mono ?_
  rintro e w1 ⟨rfl, rfl⟩
  have hz1 : w.heap.size + 3 ≤ (((w.alloc (.cells #[.slice a1 l.length cap1, .slice a2 d.length cap2] 29)).alloc (.cells #[.slice none 0 0, .slice none 0 0] 29)).alloc (.cells #[.string ⟨#[]⟩, .string ⟨#[]⟩, .int .i64 0] 36)).heap.size := by simp
  generalize ((w.alloc (.cells #[.slice a1 l.length cap1, .slice a2 d.length cap2] 29)).alloc (.cells #[.slice none 0 0, .slice none 0 0] 29)).alloc (.cells #[.string ⟨#[]⟩, .string ⟨#[]⟩, .int .i64 0] 36) = w1 at *
  have HX1 := HX0
  cases hk : keyB c
  · have HK := Lib.hid hk
    clear hk
    have z0 := (HX1.out).br.cell 0 _ rfl; have z1 := (HX1.out).br.cell 1 _ rfl; have zf := fun o => (HX1.out).br.free o; have d0 := (HX1.out).bd.cell 0 _ rfl; have d1 := (HX1.out).bd.cell 1 _ rfl; have d2 := (HX1.out).bd.cell 2 _ rfl; have df := fun o => (HX1.out).bd.free o
    (have HE := Lib.hid ((by unfold conF; rw [if_neg (by rw [HA.out.2.2.1]; simp), if_pos HK.out] : conF l d c = 5)); have HE2 := Lib.hid (con_err HE.out (by decide)); go_wp2; refine bodyPost_ret (v := .tuple #[.agg #[.slice none 0 0, .slice none 0 0], .agg #[.string ⟨#[]⟩, .string ⟨#[]⟩, .int .i64 0], .int .i64 (5)]) ?_ rfl ⟨.slice none 0 0, .slice none 0 0, ?_, ?_, ?_, ?_⟩; (· simp [results, go_sem, z0, z1, d0, d1, d2]); (· rw [HE2.out.1, HE.out]; rfl); (· rw [HE2.out.2.1]; exact Arr.nil _ _ _); (· rw [HE2.out.2.2]; exact Arr.nil _ _ _); (· have hh := (HX1.out).be; (repeat (first | exact Below.refl _ _ | assumption | refine below_draws ?_ _ | refine Below.drew ?_ | refine below_alloc ?_ _ (by first | omega | (simp; done) | (simp; omega)) | refine Below.setCell ?_ (by first | omega | (simp; done) | (simp; omega)) _ | refine below_at ?_ (by assumption) (by first | omega | (simp; done) | (simp; omega))))))
  have HK := Lib.hid hk
  clear hk
  have t0 := HX1.out.bt.cell 0 _ rfl
  have t1 := HX1.out.bt.cell 1 _ rfl
  go_wp2_with fail
  refine (hasDrop_any _ _ d c _ (by exact HA.out.2.1.below HX1.out.be)).mono ?_
  rw [findD_drop]
  rintro e w2 ⟨rfl, hb2⟩
  have hz2 := hb2.size
  have HX2 := Lib.hid (HX1.out.below hb2)
  clear hb2 t0 t1
  by_cases hdr : 0 ≤ findD d c
  · have hq : decide (0 ≤ findD d c) = true := decide_eq_true hdr
    have HD := Lib.hid hdr
    clear hdr
    have z0 := (HX2.out).br.cell 0 _ rfl; have z1 := (HX2.out).br.cell 1 _ rfl; have zf := fun o => (HX2.out).br.free o; have d0 := (HX2.out).bd.cell 0 _ rfl; have d1 := (HX2.out).bd.cell 1 _ rfl; have d2 := (HX2.out).bd.cell 2 _ rfl; have df := fun o => (HX2.out).bd.free o
    (have HE := Lib.hid ((by unfold conF; rw [if_neg (by rw [HA.out.2.2.1]; simp), if_neg (by rw [HK.out]; simp), if_pos HD.out] : conF l d c = 6)); have HE2 := Lib.hid (con_err HE.out (by decide)); go_wp2; refine bodyPost_ret (v := .tuple #[.agg #[.slice none 0 0, .slice none 0 0], .agg #[.string ⟨#[]⟩, .string ⟨#[]⟩, .int .i64 0], .int .i64 (6)]) ?_ rfl ⟨.slice none 0 0, .slice none 0 0, ?_, ?_, ?_, ?_⟩; (· simp [results, go_sem, z0, z1, d0, d1, d2]); (· rw [HE2.out.1, HE.out]; rfl); (· rw [HE2.out.2.1]; exact Arr.nil _ _ _); (· rw [HE2.out.2.2]; exact Arr.nil _ _ _); (· have hh := (HX2.out).be; (repeat (first | exact Below.refl _ _ | assumption | refine below_draws ?_ _ | refine Below.drew ?_ | refine below_alloc ?_ _ (by first | omega | (simp; done) | (simp; omega)) | refine Below.setCell ?_ (by first | omega | (simp; done) | (simp; omega)) _ | refine below_at ?_ (by assumption) (by first | omega | (simp; done) | (simp; omega))))))
  have hq : decide (0 ≤ findD d c) = false := decide_eq_false hdr
  have HD := Lib.hid hdr
  clear hdr
  have t0 := HX2.out.bt.cell 0 _ rfl
  have t1 := HX2.out.bt.cell 1 _ rfl
  have hbb : Blk (w2.alloc (.cells #[.string ⟨#[]⟩, .string ⟨#[]⟩, .int .i64 0] 36)) w2.heap.size #[.string (bestD (bestK l d c 0)).cust, .string (bestD (bestK l d c 0)).spl, .int .i64 (bestD (bestK l d c 0)).port] 36 := Blk.new w2 _ _
  have HX3 := Lib.hid (And.intro (HX2.out.below (below_alloc (Below.refl _ _) (.cells #[.string ⟨#[]⟩, .string ⟨#[]⟩, .int .i64 0] 36) (Nat.le_refl _))) hbb)
  have hzb : w.heap.size + 3 ≤ w2.heap.size := by omega
  have hw2 : w.heap.size < w2.heap.size := by omega
  clear hbb
  go_wp2
  clear t0 t1 hq
  have hbl := HX3.out.2.lt
  generalize w2.alloc (.cells #[.string ⟨#[]⟩, .string ⟨#[]⟩, .int .i64 0] 36) = W1 at *
  generalize w2.heap.size = bb at *
  go_loopw [27] (fun i wr => ∃ k : Nat, k ≤ l.length ∧ i = .int .i64 k ∧ W1.grownBy wr (some bb) ∧ Blk wr bb #[.string (bestD (bestK l d c k)).cust, .string (bestD (bestK l d c k)).spl, .int .i64 (bestD (bestK l d c k)).port] 36) (fun i _ => l.length - (intOf i).toNat)
  case atStart => exact ⟨0, by omega, rfl, grown_self _ _, HX3.out.2⟩
  case round =>
    obtain ⟨k, hk, rfl, hg, hb⟩ := hrel
    have HR := Lib.hid (And.intro hg (And.intro hb (HX3.out.1.grown hg hzb)))
    have hsz := hg.size
    clear hg hb
    by_cases hlt : k < l.length
    · obtain ⟨bq, offq, rfl, hbk, hcc⟩ := HC.out k hlt
      obtain ⟨c0, c1, c2, c3⟩ := splt_at hcc
      replace c0 := (HR.out.2.2.be.cell (p := ⟨bq, _, none⟩) hbk).trans c0
      replace c1 := (HR.out.2.2.be.cell (p := ⟨bq, _, none⟩) hbk).trans c1
      replace c2 := (HR.out.2.2.be.cell (p := ⟨bq, _, none⟩) hbk).trans c2
      replace c3 := (HR.out.2.2.be.cell (p := ⟨bq, _, none⟩) hbk).trans c3
      clear hcc
      have hX := Blk.new wr #[.string l[k].key, .int .i64 l[k].ways, .string l[k].par, .int .i64 l[k].port] 58
      have x0 := hX.cell 0 _ rfl
      have t0 := (HR.out.2.2.bt.alloc (.cells #[.string l[k].key, .int .i64 l[k].ways, .string l[k].par, .int .i64 l[k].port] 58)).cell 0 _ rfl
      have t1 := (HR.out.2.2.bt.alloc (.cells #[.string l[k].key, .int .i64 l[k].ways, .string l[k].par, .int .i64 l[k].port] 58)).cell 1 _ rfl
      have HX := Lib.hid (And.intro hX (And.intro (HR.out.2.2.below (below_alloc (Below.refl _ _) (.cells #[.string l[k].key, .int .i64 l[k].ways, .string l[k].par, .int .i64 l[k].port] 58) (Nat.le_refl _))) (And.intro (HR.out.2.1.alloc (.cells #[.string l[k].key, .int .i64 l[k].ways, .string l[k].par, .int .i64 l[k].port] 58)) (grown_alloc HR.out.1 (.cells #[.string l[k].key, .int .i64 l[k].ways, .string l[k].par, .int .i64 l[k].port] 58)))))
      have hgs := getS_own HA.out.2.2.2.s (List.getElem_mem hlt)
      have HGS := Lib.hid hgs
      have hwr : w.heap.size < wr.heap.size := HR.out.2.2.bt.lt
      clear hX hgs
      go_wp2_with fail
      refine (portsOfB_any _ _ l d l[k].key l[k] _ (by exact HA.out.1.below HX.out.2.1.be) (by exact HA.out.2.1.below HX.out.2.1.be) HA.out.2.2.2 HGS.out).mono ?_
      rintro e W2 ⟨vp, rfl, ⟨hP, hlo⟩, hbW⟩
      have hpl : (portsV l d l[k].key).length = l[k].ways.toNat := by unfold portsV; rw [HGS.out]; simp
      obtain ⟨ap, cpp, rfl, hcpp, hmpp, hcp⟩ := id hP
      unfold maxLen at hmpp
      have hzW : wr.heap.size + 1 ≤ W2.heap.size := by have := hbW.size; simpa using this
      have HP := Lib.hid (And.intro hP (And.intro hlo (And.intro hpl hcp)))
      have HW2 := Lib.hid (And.intro (HX.out.1.below hbW HX.out.1.lt) (And.intro (HX.out.2.1.below hbW) (And.intro (HX.out.2.2.1.below hbW HX.out.2.2.1.lt) (grown_trans HX.out.2.2.2 (grown_below _ hbW)))))
      generalize hbs : wr.heap.size = bs at *
      clear hP hlo hcp hbW x0 t0 t1 c0 c1 c2 c3 HX hpl
      go_wp2
      obtain ⟨wo, rfl⟩ : ∃ wo : World, wo = wr := ⟨_, rfl⟩
      go_loopw [36] (fun iv wr => ∃ i : Nat, i ≤ (portsV l d l[k].key).length ∧ iv = .int .i64 i ∧ W2.grownBy wr (some bb) ∧ Blk wr bb #[.string (bestD (bestI l d c k l[k] i)).cust, .string (bestD (bestI l d c k l[k] i)).spl, .int .i64 (bestD (bestI l d c k l[k] i)).port] 36) (fun iv _ => (portsV l d l[k].key).length - (intOf iv).toNat)
      case atStart => exact ⟨0, by omega, rfl, grown_self _ _, by rw [bestI_zero]; exact HW2.out.2.2.1⟩
      case round =>
        obtain ⟨i, hi, rfl, hg2, hb2⟩ := hrel
        have hsz2 := hg2.size
        have HS := Lib.hid (And.intro hg2 (And.intro hb2 (And.intro (HW2.out.2.1.grown hg2 hzb) (HW2.out.1.grown hg2 (by simp; omega)))))
        clear hg2 hb2
        by_cases hil : i < (portsV l d l[k].key).length
        · obtain ⟨b5, o5, rfl, hb5, hcc⟩ := HP.out.2.2.2 i hil
          have e0 := hcc 0 (.string (portsV l d l[k].key)[i]) (by simp [strCells])
          simp only [Nat.mul_one, Nat.add_zero] at e0
          have hb5b : some b5 ≠ some bb := by
            have := HP.out.2.1 b5 o5 _ _ rfl
            (try simp only [World.size_alloc] at this)
            simp; omega
          replace e0 := (World.cell?_of_block (w := W2) (w' := wr) (a := ⟨b5, o5 + i, none⟩) (HS.out.1.block b5 hb5 hb5b)).trans e0
          have hat : (portsV l d l[k].key)[i] = atPort l d (l[k].key, (i : Int) + 1) := portsV_at hil
          have HAT := Lib.hid hat
          have hends := HA.out.2.2.2.ends HGS.out
          have HEN := Lib.hid hends
          have p1 := HS.out.2.1.cell 1 _ rfl
          have t0 := HS.out.2.2.1.bt.cell 0 _ rfl
          have t1 := HS.out.2.2.1.bt.cell 1 _ rfl
          have x0 := HS.out.2.2.2.cell 0 _ rfl
          have HQ := Lib.hid (And.intro p1 (And.intro t0 (And.intro t1 x0)))
          clear hcc hb5b hat hends p1 t0 t1 x0
          by_cases hz : (atPort l d (l[k].key, (i : Int) + 1)).size = 0
          · have he : (portsV l d l[k].key)[i].toList.isEmpty = true := by rw [isEmpty_size, HAT.out]; simp [hz]
            have HZ := Lib.hid hz
            clear hz
            rcases hst : bestI l d c k l[k] i with _ | ⟨b, m⟩
            · have HB := Lib.hid (bestI_free HZ.out (.inl hst))
              have HS4 : Hid ((fun w' => w'.cell? ⟨bb, 1, none⟩ = some (.string (⟨#[]⟩ : ByteArray)) ∧ w'.cell? ⟨w.heap.size, 0, none⟩ = some (.slice (some ⟨bq, offq, none⟩) l.length cap1) ∧ w'.cell? ⟨w.heap.size, 1, none⟩ = some (.slice a2 d.length cap2) ∧ w'.cell? ⟨bs, 0, none⟩ = some (.string l[k].key)) wr) := by have := HQ.out; rw [hst] at this; exact this
              have HBK : Hid (Blk wr bb #[.string eDrp.cust, .string eDrp.spl, .int .i64 eDrp.port] 36) := by have := HS.out.2.1; rw [hst] at this; exact this
              clear hst HQ
              go_wp2_with fail
              refine WalkT.start (fun w' => w'.cell? ⟨bb, 1, none⟩ = some (.string (⟨#[]⟩ : ByteArray)) ∧ w'.cell? ⟨w.heap.size, 0, none⟩ = some (.slice (some ⟨bq, offq, none⟩) l.length cap1) ∧ w'.cell? ⟨w.heap.size, 1, none⟩ = some (.slice a2 d.length cap2) ∧ w'.cell? ⟨bs, 0, none⟩ = some (.string l[k].key)) [] (by kernel_rfl) ?_
              replace HS4 : Hid ((fun w' => w'.cell? ⟨bb, 1, none⟩ = some (.string (⟨#[]⟩ : ByteArray)) ∧ w'.cell? ⟨w.heap.size, 0, none⟩ = some (.slice (some ⟨bq, offq, none⟩) l.length cap1) ∧ w'.cell? ⟨w.heap.size, 1, none⟩ = some (.slice a2 d.length cap2) ∧ w'.cell? ⟨bs, 0, none⟩ = some (.string l[k].key)) wr.drew) := HS4
              have HGB : Hid (W2.grownBy wr.drew (some bb) ∧ Blk wr.drew bb #[.string eDrp.cust, .string eDrp.spl, .int .i64 eDrp.port] 36) := ⟨grown_drew HS.out.1, HBK.out.drew⟩
              generalize wr.drew = W0 at *
              (refine WalkT.quiet (i := 0) (v := ?_) rfl (by kernel_rfl) (by kernel_rfl) (by kernel_rfl) (fun _ _ _ h => h) (Or.inl ⟨by rfl, ?_⟩) ?_; rotate_left; (· (intro wS hSw; (try dsimp only at hSw); go_simp; try with_reducible rfl)); try simp only [Act.put, pu1, pu2, pu3, pu4, pu5, pu6])
              (refine WalkT.quiet (i := 1) (v := ?_) rfl (by kernel_rfl) (by kernel_rfl) (by kernel_rfl) (fun _ _ _ h => h) (Or.inl ⟨by rfl, ?_⟩) ?_; rotate_left; (· (intro wS hSw; (try dsimp only at hSw); go_simp; try with_reducible rfl)); try simp only [Act.put, pu1, pu2, pu3, pu4, pu5, pu6])
              (refine WalkT.quiet (i := 2) (v := ?_) rfl (by kernel_rfl) (by kernel_rfl) (by kernel_rfl) (fun _ _ _ h => h) (Or.inl ⟨by rfl, ?_⟩) ?_; rotate_left; (· (intro wS hSw; (try dsimp only at hSw); go_simp; try with_reducible rfl)); try simp only [Act.put, pu1, pu2, pu3, pu4, pu5, pu6])
              (refine WalkT.quiet (i := 3) (v := ?_) rfl (by kernel_rfl) (by kernel_rfl) (by kernel_rfl) (fun _ _ _ h => h) (Or.inl ⟨by go_simp, ?_⟩) ?_; rotate_left; (· (intro wS hSw; (try dsimp only at hSw); go_simp; try with_reducible rfl)); try simp only [Act.put, pu1, pu2, pu3, pu4, pu5, pu6])
              (refine WalkT.take (i := 4) (v := ?_) rfl (by kernel_rfl) (by kernel_rfl) (by kernel_rfl) (by kernel_rfl) (fun _ _ _ h => h) HS4.out (Or.inl ⟨by go_simp, ?_⟩) ?_; rotate_left; (· (intro wS hSw; (try dsimp only at hSw); obtain ⟨q0, q1, q2, q3⟩ := hSw; go_simp; try with_reducible rfl)); try simp only [Act.put, pu1, pu2, pu3, pu4, pu5, pu6])
              (refine WalkT.quiet (i := 5) (v := ?_) rfl (by kernel_rfl) (by kernel_rfl) (by kernel_rfl) (fun _ _ _ h => h) (Or.inl ⟨by go_simp, ?_⟩) ?_; rotate_left; (· (intro wS hSw; (try dsimp only at hSw); go_simp; try with_reducible rfl)); try simp only [Act.put, pu1, pu2, pu3, pu4, pu5, pu6])
              (refine WalkT.quiet (i := 6) (v := ?_) rfl (by kernel_rfl) (by kernel_rfl) (by kernel_rfl) (fun _ _ _ h => h) (Or.inl ⟨by go_simp, ?_⟩) ?_; rotate_left; (· (intro wS hSw; (try dsimp only at hSw); go_simp; try with_reducible rfl)); try simp only [Act.put, pu1, pu2, pu3, pu4, pu5, pu6])
              (refine WalkT.quiet (i := 7) (v := undef) rfl (by kernel_rfl) (by kernel_rfl) (by kernel_rfl) (fun _ _ _ h => h) (Or.inr ⟨by go_simp, rfl⟩) ?_; try simp only [Act.put, pu1, pu2, pu3, pu4, pu5, pu6])
              (refine WalkT.quiet (i := 8) (v := undef) rfl (by kernel_rfl) (by kernel_rfl) (by kernel_rfl) (fun _ _ _ h => h) (Or.inr ⟨by go_simp, rfl⟩) ?_; try simp only [Act.put, pu1, pu2, pu3, pu4, pu5, pu6])
              (refine WalkT.quiet (i := 9) (v := undef) rfl (by kernel_rfl) (by kernel_rfl) (by kernel_rfl) (fun _ _ _ h => h) (Or.inr ⟨by go_simp, rfl⟩) ?_; try simp only [Act.put, pu1, pu2, pu3, pu4, pu5, pu6])
              (refine WalkT.quiet (i := 10) (v := undef) rfl (by kernel_rfl) (by kernel_rfl) (by kernel_rfl) (fun _ _ _ h => h) (Or.inr ⟨by go_simp, rfl⟩) ?_; try simp only [Act.put, pu1, pu2, pu3, pu4, pu5, pu6])
              (refine WalkT.quiet (i := 11) (v := undef) rfl (by kernel_rfl) (by kernel_rfl) (by kernel_rfl) (fun _ _ _ h => h) (Or.inr ⟨by go_simp, rfl⟩) ?_; try simp only [Act.put, pu1, pu2, pu3, pu4, pu5, pu6])
              (refine WalkT.quiet (i := 12) (v := undef) rfl (by kernel_rfl) (by kernel_rfl) (by kernel_rfl) (fun _ _ _ h => h) (Or.inr ⟨by go_simp, rfl⟩) ?_; try simp only [Act.put, pu1, pu2, pu3, pu4, pu5, pu6])
              (refine WalkT.quiet (i := 13) (v := undef) rfl (by kernel_rfl) (by kernel_rfl) (by kernel_rfl) (fun _ _ _ h => h) (Or.inr ⟨by go_simp, rfl⟩) ?_; try simp only [Act.put, pu1, pu2, pu3, pu4, pu5, pu6])
              (refine WalkT.quiet (i := 14) (v := undef) rfl (by kernel_rfl) (by kernel_rfl) (by kernel_rfl) (fun _ _ _ h => h) (Or.inr ⟨by go_simp, rfl⟩) ?_; try simp only [Act.put, pu1, pu2, pu3, pu4, pu5, pu6])
              (refine WalkT.quiet (i := 15) (v := undef) rfl (by kernel_rfl) (by kernel_rfl) (by kernel_rfl) (fun _ _ _ h => h) (Or.inr ⟨by go_simp, rfl⟩) ?_; try simp only [Act.put, pu1, pu2, pu3, pu4, pu5, pu6])
              (refine WalkT.quiet (i := 16) (v := ?_) rfl (by kernel_rfl) (by kernel_rfl) (by kernel_rfl) (fun _ _ _ h => h) (Or.inl ⟨by go_simp, ?_⟩) ?_; rotate_left; (· (intro wS hSw; (try dsimp only at hSw); go_simp; try with_reducible rfl)); try simp only [Act.put, pu1, pu2, pu3, pu4, pu5, pu6])
              (refine WalkT.quiet (i := 17) (v := ?_) rfl (by kernel_rfl) (by kernel_rfl) (by kernel_rfl) (fun _ _ _ h => h) (Or.inl ⟨by rfl, ?_⟩) ?_; rotate_left; (· (intro wS hSw; (try dsimp only at hSw); go_simp; try with_reducible rfl)); try simp only [Act.put, pu1, pu2, pu3, pu4, pu5, pu6])
              refine WalkT.done (by kernel_rfl) ?_
              have hk2 := HGB.out.2
              have g0 := hk2.cell 0 _ rfl
              have g1 := hk2.cell 1 _ rfl
              have g2 := hk2.cell 2 _ rfl
              have gf := fun o => hk2.free o
              have x0 := HS4.out.2.2.2
              have hpb := put_best (y := ⟨c, l[k].key, (i : Int) + 1⟩) hk2
              have HPB := Lib.hid (And.intro hpb.1 (grown_trans HGB.out.1 hpb.2))
              clear hk2 hpb e0
              go_wp2
              exact ⟨⟨i + 1, by omega, by go_num, HPB.out.2, by rw [HB.out]; exact HPB.out.1⟩, by simp [intOf]; omega⟩
            · have hok := bestI_ok (l := l) (d := d) (c := c) hlt i
              rw [hst] at hok
              obtain ⟨-, ⟨sb, hsb, hbk⟩, hm⟩ := hok
              have hgb := getS_own HA.out.2.2.2.s hsb
              have hendb : endsB l l.length b.spl = true := by rw [hbk]; exact HA.out.2.2.2.ends hgb
              have hsz3 := (keyB_size (HA.out.2.2.2.s.keys sb hsb).1).1
              have hbe : b.spl.toList.isEmpty = false := by rw [isEmpty_size, hbk]; exact decide_eq_false (by omega)
              have HEB := Lib.hid (And.intro hendb hm)
              have HS4 : Hid ((fun w' => w'.cell? ⟨bb, 1, none⟩ = some (.string b.spl) ∧ w'.cell? ⟨w.heap.size, 0, none⟩ = some (.slice (some ⟨bq, offq, none⟩) l.length cap1) ∧ w'.cell? ⟨w.heap.size, 1, none⟩ = some (.slice a2 d.length cap2) ∧ w'.cell? ⟨bs, 0, none⟩ = some (.string l[k].key)) wr) := by have := HQ.out; rw [hst] at this; exact this
              have HBK : Hid (Blk wr bb #[.string b.cust, .string b.spl, .int .i64 b.port] 36) := by have := HS.out.2.1; rw [hst] at this; exact this
              have HST := Lib.hid hst
              clear hgb hendb hsz3 hbk hsb hm hst HQ
              go_wp2_with fail
              refine WalkT.start (fun w' => w'.cell? ⟨bb, 1, none⟩ = some (.string b.spl) ∧ w'.cell? ⟨w.heap.size, 0, none⟩ = some (.slice (some ⟨bq, offq, none⟩) l.length cap1) ∧ w'.cell? ⟨w.heap.size, 1, none⟩ = some (.slice a2 d.length cap2) ∧ w'.cell? ⟨bs, 0, none⟩ = some (.string l[k].key)) [] (by kernel_rfl) ?_
              replace HS4 : Hid ((fun w' => w'.cell? ⟨bb, 1, none⟩ = some (.string b.spl) ∧ w'.cell? ⟨w.heap.size, 0, none⟩ = some (.slice (some ⟨bq, offq, none⟩) l.length cap1) ∧ w'.cell? ⟨w.heap.size, 1, none⟩ = some (.slice a2 d.length cap2) ∧ w'.cell? ⟨bs, 0, none⟩ = some (.string l[k].key)) wr.drew) := HS4
              have HV0 : Hid (ConBx w wr.drew (.slice (some ⟨bq, offq, none⟩) l.length cap1) (.slice a2 d.length cap2) ∧ Blk wr.drew bb #[.string b.cust, .string b.spl, .int .i64 b.port] 36 ∧ Blk wr.drew bs #[.string l[k].key, .int .i64 l[k].ways, .string l[k].par, .int .i64 l[k].port] 58) := ⟨⟨HS.out.2.2.1.be.drew, HS.out.2.2.1.bt.drew, HS.out.2.2.1.br.drew, HS.out.2.2.1.bd.drew⟩, HBK.out.drew, HS.out.2.2.2.drew⟩
              (refine WalkT.quiet (i := 0) (v := ?_) rfl (by kernel_rfl) (by kernel_rfl) (by kernel_rfl) (fun _ _ _ h => h) (Or.inl ⟨by rfl, ?_⟩) ?_; rotate_left; (· (intro wS hSw; (try dsimp only at hSw); go_simp; try with_reducible rfl)); try simp only [Act.put, pu1, pu2, pu3, pu4, pu5, pu6])
              (refine WalkT.quiet (i := 1) (v := ?_) rfl (by kernel_rfl) (by kernel_rfl) (by kernel_rfl) (fun _ _ _ h => h) (Or.inl ⟨by rfl, ?_⟩) ?_; rotate_left; (· (intro wS hSw; (try dsimp only at hSw); go_simp; try with_reducible rfl)); try simp only [Act.put, pu1, pu2, pu3, pu4, pu5, pu6])
              (refine WalkT.quiet (i := 2) (v := ?_) rfl (by kernel_rfl) (by kernel_rfl) (by kernel_rfl) (fun _ _ _ h => h) (Or.inl ⟨by rfl, ?_⟩) ?_; rotate_left; (· (intro wS hSw; (try dsimp only at hSw); go_simp; try with_reducible rfl)); try simp only [Act.put, pu1, pu2, pu3, pu4, pu5, pu6])
              (refine WalkT.quiet (i := 3) (v := ?_) rfl (by kernel_rfl) (by kernel_rfl) (by kernel_rfl) (fun _ _ _ h => h) (Or.inl ⟨by go_simp, ?_⟩) ?_; rotate_left; (· (intro wS hSw; (try dsimp only at hSw); go_simp; try with_reducible rfl)); try simp only [Act.put, pu1, pu2, pu3, pu4, pu5, pu6])
              (refine WalkT.take (i := 4) (v := ?_) rfl (by kernel_rfl) (by kernel_rfl) (by kernel_rfl) (by kernel_rfl) (fun _ _ _ h => h) HS4.out (Or.inl ⟨by go_simp, ?_⟩) ?_; rotate_left; (· (intro wS hSw; (try dsimp only at hSw); obtain ⟨q0, q1, q2, q3⟩ := hSw; go_simp; try with_reducible rfl)); try simp only [Act.put, pu1, pu2, pu3, pu4, pu5, pu6])
              (refine WalkT.quiet (i := 5) (v := ?_) rfl (by kernel_rfl) (by kernel_rfl) (by kernel_rfl) (fun _ _ _ h => h) (Or.inl ⟨by go_simp, ?_⟩) ?_; rotate_left; (· (intro wS hSw; (try dsimp only at hSw); go_simp; try with_reducible rfl)); try simp only [Act.put, pu1, pu2, pu3, pu4, pu5, pu6])
              (refine WalkT.quiet (i := 6) (v := ?_) rfl (by kernel_rfl) (by kernel_rfl) (by kernel_rfl) (fun _ _ _ h => h) (Or.inl ⟨by go_simp, ?_⟩) ?_; rotate_left; (· (intro wS hSw; (try dsimp only at hSw); go_simp; try with_reducible rfl)); try simp only [Act.put, pu1, pu2, pu3, pu4, pu5, pu6])
              (refine WalkT.take (i := 7) (v := ?_) rfl (by kernel_rfl) (by kernel_rfl) (by kernel_rfl) (by kernel_rfl) (fun _ _ _ h => h) HS4.out (Or.inl ⟨by go_simp, ?_⟩) ?_; rotate_left; (· (intro wS hSw; (try dsimp only at hSw); obtain ⟨q0, q1, q2, q3⟩ := hSw; go_simp; try with_reducible rfl)); try simp only [Act.put, pu1, pu2, pu3, pu4, pu5, pu6])
              (refine WalkT.quiet (i := 8) (v := ?_) rfl (by kernel_rfl) (by kernel_rfl) (by kernel_rfl) (fun _ _ _ h => h) (Or.inl ⟨by go_simp, ?_⟩) ?_; rotate_left; (· (intro wS hSw; (try dsimp only at hSw); go_simp; try with_reducible rfl)); try simp only [Act.put, pu1, pu2, pu3, pu4, pu5, pu6])
              (refine WalkT.take (i := 9) (v := ?_) rfl (by kernel_rfl) (by kernel_rfl) (by kernel_rfl) (by kernel_rfl) (fun _ _ _ h => h) HS4.out (Or.inl ⟨by go_simp, ?_⟩) ?_; rotate_left; (· (intro wS hSw; (try dsimp only at hSw); obtain ⟨q0, q1, q2, q3⟩ := hSw; go_simp; try with_reducible rfl)); try simp only [Act.put, pu1, pu2, pu3, pu4, pu5, pu6])
              (refine WalkT.take (i := 11) (v := ?_) rfl (by kernel_rfl) (by kernel_rfl) (by kernel_rfl) (by kernel_rfl) (fun _ _ _ h => h) HS4.out (Or.inl ⟨by go_simp, ?_⟩) ?_; rotate_left; (· (intro wS hSw; (try dsimp only at hSw); obtain ⟨q0, q1, q2, q3⟩ := hSw; go_simp; try with_reducible rfl)); try simp only [Act.put, pu1, pu2, pu3, pu4, pu5, pu6])
              (refine WalkT.quiet (i := 12) (v := ?_) rfl (by kernel_rfl) (by kernel_rfl) (by kernel_rfl) (fun _ _ _ h => h) (Or.inl ⟨by go_simp, ?_⟩) ?_; rotate_left; (· (intro wS hSw; (try dsimp only at hSw); go_simp; try with_reducible rfl)); try simp only [Act.put, pu1, pu2, pu3, pu4, pu5, pu6])
              (refine WalkT.take (i := 13) (v := ?_) rfl (by kernel_rfl) (by kernel_rfl) (by kernel_rfl) (by kernel_rfl) (fun _ _ _ h => h) HS4.out (Or.inl ⟨by go_simp, ?_⟩) ?_; rotate_left; (· (intro wS hSw; (try dsimp only at hSw); obtain ⟨q0, q1, q2, q3⟩ := hSw; go_simp; try with_reducible rfl)); try simp only [Act.put, pu1, pu2, pu3, pu4, pu5, pu6])
              (refine WalkT.ready (rs := [10]) (by kernel_rfl) (by simp) (AllT.cons rfl (fun K hK => ?_) AllT.nil); go_simp)
              refine (power_any _ _ l l[k].key _ (by exact HA.out.1.below HV0.out.1.be) HA.out.2.2.2.s HEN.out).mono ?_
              rintro e wp ⟨rfl, hbp⟩
              have hzp : wr.heap.size ≤ wp.heap.size := hbp.size
              have HV1 := Lib.hid (And.intro (HV0.out.1.below hbp) (And.intro (HV0.out.2.1.below hbp HV0.out.2.1.lt) (And.intro (HV0.out.2.2.below hbp HV0.out.2.2.lt) (grown_trans (grown_drew HS.out.1) (grown_below (some bb) hbp)))))
              clear hbp
              (refine hK.out _ _ (fun _ _ => ⟨HV1.out.2.1.cell 1 _ rfl, HV1.out.1.bt.cell 0 _ rfl, HV1.out.1.bt.cell 1 _ rfl, HV1.out.2.2.1.cell 0 _ rfl⟩) ?_; clear hK K; try simp only [Act.put, pu1, pu2, pu3, pu4, pu5, pu6])
              (refine WalkT.ready (rs := [14]) (by kernel_rfl) (by simp) (AllT.cons rfl (fun K hK => ?_) AllT.nil); go_simp)
              refine (power_any _ _ l b.spl _ (by exact HA.out.1.below HV1.out.1.be) HA.out.2.2.2.s HEB.out.1).mono ?_
              rintro e wq ⟨rfl, hbq⟩
              have hzq := hbq.size
              have HV2 := Lib.hid (And.intro (HV1.out.1.below hbq) (And.intro (HV1.out.2.1.below hbq HV1.out.2.1.lt) (And.intro (HV1.out.2.2.1.below hbq HV1.out.2.2.1.lt) (grown_trans HV1.out.2.2.2 (grown_below (some bb) hbq)))))
              clear hbq
              (refine hK.out _ _ (fun _ _ => ⟨HV2.out.2.1.cell 1 _ rfl, HV2.out.1.bt.cell 0 _ rfl, HV2.out.1.bt.cell 1 _ rfl, HV2.out.2.2.1.cell 0 _ rfl⟩) ?_; clear hK K; try simp only [Act.put, pu1, pu2, pu3, pu4, pu5, pu6])
              rw [← HEB.out.2]
              by_cases hpw : powS (chainV l l[k].key) < m
              · have hq1 : decide (powS (chainV l l[k].key) < m) = true := decide_eq_true hpw
                have HB : Hid (bestI l d c k l[k] (i + 1) = some (⟨c, l[k].key, (i : Int) + 1⟩, powS (chainV l l[k].key))) := bestI_free HZ.out (.inr (by rw [HST.out]; exact hpw))
                clear hpw
                (refine WalkT.quiet (i := 15) (v := ?_) rfl (by kernel_rfl) (by kernel_rfl) (by kernel_rfl) (fun _ _ _ h => h) (Or.inl ⟨by go_simp, ?_⟩) ?_; rotate_left; (· (intro wS hSw; (try dsimp only at hSw); go_simp; try with_reducible rfl)); try simp only [Act.put, pu1, pu2, pu3, pu4, pu5, pu6])
                (refine WalkT.quiet (i := 16) (v := ?_) rfl (by kernel_rfl) (by kernel_rfl) (by kernel_rfl) (fun _ _ _ h => h) (Or.inl ⟨by go_simp, ?_⟩) ?_; rotate_left; (· (intro wS hSw; (try dsimp only at hSw); go_simp; try with_reducible rfl)); try simp only [Act.put, pu1, pu2, pu3, pu4, pu5, pu6])
                (refine WalkT.quiet (i := 17) (v := ?_) rfl (by kernel_rfl) (by kernel_rfl) (by kernel_rfl) (fun _ _ _ h => h) (Or.inl ⟨by rfl, ?_⟩) ?_; rotate_left; (· (intro wS hSw; (try dsimp only at hSw); go_simp; try with_reducible rfl)); try simp only [Act.put, pu1, pu2, pu3, pu4, pu5, pu6])
                refine WalkT.done (by kernel_rfl) ?_
                have g0 := HV2.out.2.1.cell 0 _ rfl
                have g1 := HV2.out.2.1.cell 1 _ rfl
                have g2 := HV2.out.2.1.cell 2 _ rfl
                have gf := fun o => HV2.out.2.1.free o
                have x0 := HV2.out.2.2.1.cell 0 _ rfl
                have hpb := put_best (y := ⟨c, l[k].key, (i : Int) + 1⟩) HV2.out.2.1
                have HPB := Lib.hid (And.intro hpb.1 (grown_trans HV2.out.2.2.2 hpb.2))
                clear hpb e0
                go_wp2
                exact ⟨⟨i + 1, by omega, by go_num, HPB.out.2, by rw [HB.out]; exact HPB.out.1⟩, by simp [intOf]; omega⟩
              · have hq1 : decide (powS (chainV l l[k].key) < m) = false := decide_eq_false hpw
                have HB : Hid (bestI l d c k l[k] (i + 1) = some (b, m)) := by rw [bestI_worse (by rw [HST.out]; simp) (by rw [HST.out]; exact hpw)]; exact HST.out
                clear hpw
                (refine WalkT.quiet (i := 15) (v := ?_) rfl (by kernel_rfl) (by kernel_rfl) (by kernel_rfl) (fun _ _ _ h => h) (Or.inl ⟨by go_simp, ?_⟩) ?_; rotate_left; (· (intro wS hSw; (try dsimp only at hSw); go_simp; try with_reducible rfl)); try simp only [Act.put, pu1, pu2, pu3, pu4, pu5, pu6])
                (refine WalkT.quiet (i := 16) (v := ?_) rfl (by kernel_rfl) (by kernel_rfl) (by kernel_rfl) (fun _ _ _ h => h) (Or.inl ⟨by go_simp, ?_⟩) ?_; rotate_left; (· (intro wS hSw; (try dsimp only at hSw); go_simp; try with_reducible rfl)); try simp only [Act.put, pu1, pu2, pu3, pu4, pu5, pu6])
                (refine WalkT.quiet (i := 17) (v := ?_) rfl (by kernel_rfl) (by kernel_rfl) (by kernel_rfl) (fun _ _ _ h => h) (Or.inl ⟨by rfl, ?_⟩) ?_; rotate_left; (· (intro wS hSw; (try dsimp only at hSw); go_simp; try with_reducible rfl)); try simp only [Act.put, pu1, pu2, pu3, pu4, pu5, pu6])
                refine WalkT.done (by kernel_rfl) ?_
                clear e0
                go_wp2
                exact ⟨⟨i + 1, by omega, by go_num, HV2.out.2.2.2, by rw [HB.out]; exact HV2.out.2.1⟩, by simp [intOf]; omega⟩
          · have he : (portsV l d l[k].key)[i].toList.isEmpty = false := by rw [isEmpty_size, HAT.out]; simp [hz]
            have HB := Lib.hid (bestI_taken (c := c) (k := k) hz)
            clear hz HQ
            go_wp2_with fail
            refine WalkT.start (fun _ => True) [] (by kernel_rfl) ?_
            (refine WalkT.quiet (i := 0) (v := ?_) rfl (by kernel_rfl) (by kernel_rfl) (by kernel_rfl) (fun _ _ _ h => h) (Or.inl ⟨by rfl, ?_⟩) ?_; rotate_left; (· (intro wS hSw; (try dsimp only at hSw); go_simp; try with_reducible rfl)); try simp only [Act.put, pu1, pu2, pu3, pu4, pu5, pu6])
            (refine WalkT.quiet (i := 1) (v := ?_) rfl (by kernel_rfl) (by kernel_rfl) (by kernel_rfl) (fun _ _ _ h => h) (Or.inl ⟨by rfl, ?_⟩) ?_; rotate_left; (· (intro wS hSw; (try dsimp only at hSw); go_simp; try with_reducible rfl)); try simp only [Act.put, pu1, pu2, pu3, pu4, pu5, pu6])
            (refine WalkT.quiet (i := 2) (v := ?_) rfl (by kernel_rfl) (by kernel_rfl) (by kernel_rfl) (fun _ _ _ h => h) (Or.inl ⟨by rfl, ?_⟩) ?_; rotate_left; (· (intro wS hSw; (try dsimp only at hSw); go_simp; try with_reducible rfl)); try simp only [Act.put, pu1, pu2, pu3, pu4, pu5, pu6])
            (refine WalkT.quiet (i := 3) (v := undef) rfl (by kernel_rfl) (by kernel_rfl) (by kernel_rfl) (fun _ _ _ h => h) (Or.inr ⟨by go_simp, rfl⟩) ?_; try simp only [Act.put, pu1, pu2, pu3, pu4, pu5, pu6])
            (refine WalkT.quiet (i := 4) (v := undef) rfl (by kernel_rfl) (by kernel_rfl) (by kernel_rfl) (fun _ _ _ h => h) (Or.inr ⟨by go_simp, rfl⟩) ?_; try simp only [Act.put, pu1, pu2, pu3, pu4, pu5, pu6])
            (refine WalkT.quiet (i := 5) (v := undef) rfl (by kernel_rfl) (by kernel_rfl) (by kernel_rfl) (fun _ _ _ h => h) (Or.inr ⟨by go_simp, rfl⟩) ?_; try simp only [Act.put, pu1, pu2, pu3, pu4, pu5, pu6])
            (refine WalkT.quiet (i := 6) (v := undef) rfl (by kernel_rfl) (by kernel_rfl) (by kernel_rfl) (fun _ _ _ h => h) (Or.inr ⟨by go_simp, rfl⟩) ?_; try simp only [Act.put, pu1, pu2, pu3, pu4, pu5, pu6])
            (refine WalkT.quiet (i := 7) (v := undef) rfl (by kernel_rfl) (by kernel_rfl) (by kernel_rfl) (fun _ _ _ h => h) (Or.inr ⟨by (go_simp; try (simp [undef])), rfl⟩) ?_; try simp only [Act.put, pu1, pu2, pu3, pu4, pu5, pu6])
            (refine WalkT.quiet (i := 8) (v := undef) rfl (by kernel_rfl) (by kernel_rfl) (by kernel_rfl) (fun _ _ _ h => h) (Or.inr ⟨by (go_simp; try (simp [undef])), rfl⟩) ?_; try simp only [Act.put, pu1, pu2, pu3, pu4, pu5, pu6])
            (refine WalkT.quiet (i := 9) (v := undef) rfl (by kernel_rfl) (by kernel_rfl) (by kernel_rfl) (fun _ _ _ h => h) (Or.inr ⟨by (go_simp; try (simp [undef])), rfl⟩) ?_; try simp only [Act.put, pu1, pu2, pu3, pu4, pu5, pu6])
            (refine WalkT.quiet (i := 10) (v := undef) rfl (by kernel_rfl) (by kernel_rfl) (by kernel_rfl) (fun _ _ _ h => h) (Or.inr ⟨by (go_simp; try (simp [undef])), rfl⟩) ?_; try simp only [Act.put, pu1, pu2, pu3, pu4, pu5, pu6])
            (refine WalkT.quiet (i := 11) (v := undef) rfl (by kernel_rfl) (by kernel_rfl) (by kernel_rfl) (fun _ _ _ h => h) (Or.inr ⟨by (go_simp; try (simp [undef])), rfl⟩) ?_; try simp only [Act.put, pu1, pu2, pu3, pu4, pu5, pu6])
            (refine WalkT.quiet (i := 12) (v := undef) rfl (by kernel_rfl) (by kernel_rfl) (by kernel_rfl) (fun _ _ _ h => h) (Or.inr ⟨by (go_simp; try (simp [undef])), rfl⟩) ?_; try simp only [Act.put, pu1, pu2, pu3, pu4, pu5, pu6])
            (refine WalkT.quiet (i := 13) (v := undef) rfl (by kernel_rfl) (by kernel_rfl) (by kernel_rfl) (fun _ _ _ h => h) (Or.inr ⟨by (go_simp; try (simp [undef])), rfl⟩) ?_; try simp only [Act.put, pu1, pu2, pu3, pu4, pu5, pu6])
            (refine WalkT.quiet (i := 14) (v := undef) rfl (by kernel_rfl) (by kernel_rfl) (by kernel_rfl) (fun _ _ _ h => h) (Or.inr ⟨by (go_simp; try (simp [undef])), rfl⟩) ?_; try simp only [Act.put, pu1, pu2, pu3, pu4, pu5, pu6])
            (refine WalkT.quiet (i := 15) (v := undef) rfl (by kernel_rfl) (by kernel_rfl) (by kernel_rfl) (fun _ _ _ h => h) (Or.inr ⟨by (go_simp; try (simp [undef])), rfl⟩) ?_; try simp only [Act.put, pu1, pu2, pu3, pu4, pu5, pu6])
            (refine WalkT.quiet (i := 16) (v := undef) rfl (by kernel_rfl) (by kernel_rfl) (by kernel_rfl) (fun _ _ _ h => h) (Or.inr ⟨by go_simp, rfl⟩) ?_; try simp only [Act.put, pu1, pu2, pu3, pu4, pu5, pu6])
            (refine WalkT.quiet (i := 17) (v := ?_) rfl (by kernel_rfl) (by kernel_rfl) (by kernel_rfl) (fun _ _ _ h => h) (Or.inl ⟨by rfl, ?_⟩) ?_; rotate_left; (· (intro wS hSw; (try dsimp only at hSw); go_simp; try with_reducible rfl)); try simp only [Act.put, pu1, pu2, pu3, pu4, pu5, pu6])
            refine WalkT.done (by kernel_rfl) ?_
            clear e0
            go_wp2
            exact ⟨⟨i + 1, by omega, by go_num, grown_drew HS.out.1, by rw [HB.out]; exact HS.out.2.1.drew⟩, by simp [intOf]; omega⟩
        · obtain rfl : i = (portsV l d l[k].key).length := by omega
          have hbf : bestI l d c k l[k] (portsV l d l[k].key).length = bestK l d c (k + 1) := by rw [HP.out.2.2.1]; exact bestI_full hlt
          have HBF := Lib.hid hbf
          clear hbf
          go_wp2
          exact ⟨⟨k + 1, by omega, by go_num, grown_trans HW2.out.2.2.2 HS.out.1, by rw [← HBF.out]; exact HS.out.2.1⟩, by simp [intOf]; omega⟩
    · obtain rfl : k = l.length := by omega
      have hb2 := HR.out.2.1
      have hok := bestK_ok l d c l.length (Nat.le_refl _)
      have t0 := HR.out.2.2.bt.cell 0 _ rfl
      have t1 := HR.out.2.2.bt.cell 1 _ rfl
      rcases hst : bestK l d c l.length with _ | ⟨b, m⟩
      · rw [hst] at hb2
        have g1 : wr.cell? ⟨bb, 1, none⟩ = some (.string ⟨#[]⟩) := hb2.cell 1 _ rfl
        have HST := Lib.hid hst
        clear hst hok hb2
        have z0 := (HR.out.2.2).br.cell 0 _ rfl; have z1 := (HR.out.2.2).br.cell 1 _ rfl; have zf := fun o => (HR.out.2.2).br.free o; have d0 := (HR.out.2.2).bd.cell 0 _ rfl; have d1 := (HR.out.2.2).bd.cell 1 _ rfl; have d2 := (HR.out.2.2).bd.cell 2 _ rfl; have df := fun o => (HR.out.2.2).bd.free o
        (have HE := Lib.hid ((by unfold conF; rw [if_neg (by rw [HA.out.2.2.1]; simp), if_neg (by rw [HK.out]; simp), if_neg (show ¬ 0 ≤ findD d c by have := HD.out; omega), if_pos HST.out] : conF l d c = 12)); have HE2 := Lib.hid (con_err HE.out (by decide)); go_wp2; refine bodyPost_ret (v := .tuple #[.agg #[.slice none 0 0, .slice none 0 0], .agg #[.string ⟨#[]⟩, .string ⟨#[]⟩, .int .i64 0], .int .i64 (12)]) ?_ rfl ⟨.slice none 0 0, .slice none 0 0, ?_, ?_, ?_, ?_⟩; (· simp [results, go_sem, z0, z1, d0, d1, d2]); (· rw [HE2.out.1, HE.out]; rfl); (· rw [HE2.out.2.1]; exact Arr.nil _ _ _); (· rw [HE2.out.2.2]; exact Arr.nil _ _ _); (· have hh := (HR.out.2.2).be; (repeat (first | exact Below.refl _ _ | assumption | refine below_draws ?_ _ | refine Below.drew ?_ | refine below_alloc ?_ _ (by first | omega | (simp; done) | (simp; omega)) | refine Below.setCell ?_ (by first | omega | (simp; done) | (simp; omega)) _ | refine below_at ?_ (by assumption) (by first | omega | (simp; done) | (simp; omega))))))
      · rw [hst] at hb2 hok
        obtain ⟨hbc, ⟨sb, hsb, hbk⟩, hm⟩ := hok
        have hsz3 := (keyB_size (HA.out.2.2.2.s.keys sb hsb).1).1
        have hbe : b.spl.toList.isEmpty = false := by rw [isEmpty_size, hbk]; exact decide_eq_false (by omega)
        have hF0 : conF l d c = 0 := by
          unfold conF
          rw [if_neg (by rw [HA.out.2.2.1]; simp), if_neg (by rw [HK.out]; simp), if_neg (show ¬ 0 ≤ findD d c by have := HD.out; omega), if_neg (by rw [hst]; simp), if_neg (by omega)]
        have hcb : conB l d c = b := by unfold conB; rw [if_pos hF0, hst]; rfl
        have HF0 := Lib.hid (And.intro hF0 hcb)
        have hd5 : decide ((5000 : Int) ≤ (d.length : Int)) = false := decide_eq_false (by omega)
        have hb2 : Blk wr bb #[.string b.cust, .string b.spl, .int .i64 b.port] 36 := hb2
        have g1 : wr.cell? ⟨bb, 1, none⟩ = some (.string b.spl) := hb2.cell 1 _ rfl
        have HB2 := Lib.hid hb2
        clear hst hm hsz3 hbk hsb hbc hF0 hcb hb2
        obtain ⟨i1, hj, hj0, hj1, hj2⟩ := info_parts infoDrpC
        go_wp2_with fail
        refine WalkT.start (fun w' => (w'.cell? ⟨w.heap.size, 0, none⟩ = some (.slice a1 l.length cap1) ∧ w'.cell? ⟨w.heap.size, 1, none⟩ = some (.slice a2 d.length cap2)) ∧ w'.cell? ⟨bb, 0, none⟩ = some (.string b.cust) ∧ w'.cell? ⟨bb, 1, none⟩ = some (.string b.spl) ∧ w'.cell? ⟨bb, 2, none⟩ = some (.int .i64 b.port)) [10] (by kernel_rfl) ?_
        have HW5 : Hid (ConBx w wr.drew (.slice a1 l.length cap1) (.slice a2 d.length cap2) ∧ Blk wr.drew bb #[.string b.cust, .string b.spl, .int .i64 b.port] 36) := ⟨⟨HR.out.2.2.be.drew, HR.out.2.2.bt.drew, HR.out.2.2.br.drew, HR.out.2.2.bd.drew⟩, HB2.out.drew⟩
        have hbl5 : bb < wr.drew.heap.size := HB2.out.lt
        clear t0 t1 g1 hbe hd5
        generalize wr.drew = W5 at *
        have HS5 : Hid ((fun w' => (w'.cell? ⟨w.heap.size, 0, none⟩ = some (.slice a1 l.length cap1) ∧ w'.cell? ⟨w.heap.size, 1, none⟩ = some (.slice a2 d.length cap2)) ∧ w'.cell? ⟨bb, 0, none⟩ = some (.string b.cust) ∧ w'.cell? ⟨bb, 1, none⟩ = some (.string b.spl) ∧ w'.cell? ⟨bb, 2, none⟩ = some (.int .i64 b.port)) W5) := (⟨⟨(HW5.out.1).bt.cell 0 _ rfl, (HW5.out.1).bt.cell 1 _ rfl⟩, (HW5.out.2).cell 0 _ rfl, (HW5.out.2).cell 1 _ rfl, (HW5.out.2).cell 2 _ rfl⟩)
        (refine WalkT.quiet (i := 1) (v := ?_) rfl (by kernel_rfl) (by kernel_rfl) (by kernel_rfl) (fun _ _ _ h => h) (Or.inl ⟨by rfl, ?_⟩) ?_; rotate_left; (· (intro wS hSw; (try dsimp only at hSw); go_simp; try with_reducible rfl)); try simp only [Act.put, pu1, pu2, pu3, pu4, pu5, pu6])
        (refine WalkT.take (i := 0) (v := ?_) rfl (by kernel_rfl) (by kernel_rfl) (by kernel_rfl) (by kernel_rfl) (fun _ _ _ h => h) HS5.out (Or.inl ⟨by rfl, ?_⟩) ?_; rotate_left; (· (intro wS hSw; (try dsimp only at hSw); obtain ⟨⟨q0, q1⟩, q2, q3, q4⟩ := hSw; go_simp; try with_reducible rfl)); try simp only [Act.put, pu1, pu2, pu3, pu4, pu5, pu6])
        (refine WalkT.take (i := 2) (v := ?_) rfl (by kernel_rfl) (by kernel_rfl) (by kernel_rfl) (by kernel_rfl) (fun _ _ _ h => h) HS5.out (Or.inl ⟨by rfl, ?_⟩) ?_; rotate_left; (· (intro wS hSw; (try dsimp only at hSw); obtain ⟨⟨q0, q1⟩, q2, q3, q4⟩ := hSw; go_simp; try with_reducible rfl)); try simp only [Act.put, pu1, pu2, pu3, pu4, pu5, pu6])
        (refine WalkT.take (i := 4) (v := ?_) rfl (by kernel_rfl) (by kernel_rfl) (by kernel_rfl) (by kernel_rfl) (fun _ _ _ h => h) HS5.out (Or.inl ⟨by rfl, ?_⟩) ?_; rotate_left; (· (intro wS hSw; (try dsimp only at hSw); obtain ⟨⟨q0, q1⟩, q2, q3, q4⟩ := hSw; go_simp; try with_reducible rfl)); try simp only [Act.put, pu1, pu2, pu3, pu4, pu5, pu6])
        (refine WalkT.take (i := 8) (v := ?_) rfl (by kernel_rfl) (by kernel_rfl) (by kernel_rfl) (by kernel_rfl) (fun _ _ _ h => h) HS5.out (Or.inl ⟨by rfl, ?_⟩) ?_; rotate_left; (· (intro wS hSw; (try dsimp only at hSw); obtain ⟨⟨q0, q1⟩, q2, q3, q4⟩ := hSw; go_simp; try with_reducible rfl)); try simp only [Act.put, pu1, pu2, pu3, pu4, pu5, pu6])
        clear HS5
        refine WalkT.ready (rs := [3, 5]) (by kernel_rfl) (by simp) ?_
        refine AllT.cons rfl (fun K hK => ?_) ?_
        · go_simp
          refine (clone_drp _ d _ (by exact HA.out.2.1.below HW5.out.1.be) (by omega)).mono ?_
          rintro e W6 ⟨vc, rfl, ⟨hoc, -⟩, hb6⟩
          obtain ⟨ad, cd, rfl⟩ := own_sliceB hoc
          have hz6 := hb6.size
          have hcb6 : (Value.slice ad d.length cd).ownBlock ≠ some bb := fun e => by have := (hoc.lt _ e).1; omega
          have hz5 : w.heap.size + 3 ≤ W5.heap.size := by have := HW5.out.1.bd.lt; omega
          have HT6 := Lib.hid (And.intro (HW5.out.1.below hb6) (And.intro (HW5.out.2.below hb6 hbl5) (And.intro (own_baseH (B' := w.heap.size + 3) hoc hz5) hcb6)))
          clear hoc hb6 hcb6
          (refine hK.out _ _ (fun _ _ => (⟨⟨(HT6.out.1).bt.cell 0 _ rfl, (HT6.out.1).bt.cell 1 _ rfl⟩, (HT6.out.2.1).cell 0 _ rfl, (HT6.out.2.1).cell 1 _ rfl, (HT6.out.2.1).cell 2 _ rfl⟩)) ?_; clear hK K; try simp only [Act.put, pu1, pu2, pu3, pu4, pu5, pu6])
          (refine WalkT.ready (rs := [5]) (by kernel_rfl) (by simp) (AllT.cons rfl (fun K hK => ?_) AllT.nil); go_simp)
          have HT : Hid (ConBx w (W6.alloc (.cells #[.string b.cust, .string b.spl, .int .i64 b.port] 36)) (.slice a1 l.length cap1) (.slice a2 d.length cap2) ∧ Blk (W6.alloc (.cells #[.string b.cust, .string b.spl, .int .i64 b.port] 36)) bb #[.string b.cust, .string b.spl, .int .i64 b.port] 36 ∧ (W6.alloc (.cells #[.string b.cust, .string b.spl, .int .i64 b.port] 36)).ownsRow (w.heap.size + 3) 36 3 (.slice ad d.length cd) d.length (d.flatMap Drp.cells) ∧ Blk (W6.alloc (.cells #[.string b.cust, .string b.spl, .int .i64 b.port] 36)) W6.heap.size #[.string b.cust, .string b.spl, .int .i64 b.port] 36 ∧ (Value.slice ad d.length cd).ownBlock ≠ some bb) :=
            ⟨HT6.out.1.below (below_alloc (Below.refl _ _) _ (Nat.le_refl _)), HT6.out.2.1.alloc _, HT6.out.2.2.1.alloc _, Blk.new _ _ _, HT6.out.2.2.2⟩
          (refine hK.out _ _ (fun _ _ => (⟨⟨(HT.out.1).bt.cell 0 _ rfl, (HT.out.1).bt.cell 1 _ rfl⟩, (HT.out.2.1).cell 0 _ rfl, (HT.out.2.1).cell 1 _ rfl, (HT.out.2.1).cell 2 _ rfl⟩)) ?_; clear hK K; try simp only [Act.put, pu1, pu2, pu3, pu4, pu5, pu6])
          refine WalkT.ready (rs := [6]) (by kernel_rfl) (by simp) (AllT.cons rfl (fun K hK => ?_) AllT.nil)
          refine step_append_lies _ (by rfl) _ _ _ (by rfl) (w.heap.size + 3) 36 _ _ 3 40 Tryz.underlying27 hj hj0 hj1 hj2 rfl (by decide) _ d.length _ (by rfl) HT.out.2.2.1 ⟨W6.heap.size, 0, none⟩ 1 1 [.string b.cust, .string b.spl, .int .i64 b.port] (by rfl) rfl (fun j u hu => by have := HT.out.2.2.2.1.cell j u (by simpa using hu); simpa [addr_at] using this) (by simp [Value.oneCell']) (by omega) (by unfold maxLen; omega) (by omega) (by have := HT.out.1.bd.lt; omega) _ rfl ?_
          intro g9 cap9 w9 hown9 hg9 hat9 hlt9
          have hlo9 := HT.out.2.2.1.lt
          have hob : ∀ c, c < w.heap.size + 3 → some c ≠ (Value.slice ad d.length cd).ownBlock := fun c hc e => by have := (hlo9 c e.symm).1; omega
          have hgb : g9 ≠ bb := by
            have hbw := HT.out.2.1.lt
            rcases hat9 with h | h
            · intro e; exact HT.out.2.2.2.2 (by rw [h, e])
            · omega
          have hbx9 : ConBx w w9 (.slice a1 l.length cap1) (.slice a2 d.length cap2) := ⟨below_grown HT.out.1.be HT.out.2.2.1 hg9 (by omega) (by have := HT.out.1.bd.lt; omega), HT.out.1.bt.grown hg9 (hob _ (by omega)), HT.out.1.br.grown hg9 (hob _ (by omega)), HT.out.1.bd.grown hg9 (hob _ (by omega))⟩
          have hbk9 := HT.out.2.1.grown hg9 (fun e => HT.out.2.2.2.2 e.symm)
          have how9 : w9.ownsRow (w.heap.size + 3) 36 3 (.slice (some ⟨g9, 0, none⟩) (d.length + 1) cap9) (d ++ [b]).length ((d ++ [b]).flatMap Drp.cells) := by simpa [Drp.cells] using hown9
          have hrv9 : RowV Drp.cells 3 (w.heap.size + 3) w9 (.slice (some ⟨g9, 0, none⟩) (d.length + 1) cap9) (d ++ [b]) := RowV.of_own Drp.cells_len how9
          have HV9 := Lib.hid (And.intro hbx9 (And.intro hbk9 (And.intro how9 (And.intro hrv9 hgb))))
          clear hlo9 hob hbx9 hbk9 how9 hrv9 hown9 hg9 hat9 hgb
          (refine hK.out _ _ (fun _ _ => (⟨⟨(HV9.out.1).bt.cell 0 _ rfl, (HV9.out.1).bt.cell 1 _ rfl⟩, (HV9.out.2.1).cell 0 _ rfl, (HV9.out.2.1).cell 1 _ rfl, (HV9.out.2.1).cell 2 _ rfl⟩)) ?_; clear hK K; try simp only [Act.put, pu1, pu2, pu3, pu4, pu5, pu6])
          (refine WalkT.ready (rs := [7]) (by kernel_rfl) (by simp) (AllT.cons rfl (fun K hK => ?_) AllT.nil); go_simp)
          refine (withDrops_any _ _ _ l (d ++ [b]) (w.heap.size + 3) _ (by exact HA.out.1.below HV9.out.1.be) (fun w' hg => HA.out.1.below (below_grown HV9.out.1.be HV9.out.2.2.1 hg (by omega) (by have := HV9.out.1.bd.lt; omega))) (by exact HV9.out.2.2.2.1) (by simp; omega) (by omega)).mono ?_
          rintro e w10 ⟨u1, L, rfl, hpL, hsL, hAL, hRL, hgL, hlL⟩
          have hlo9 := HV9.out.2.2.1.lt
          have hob : ∀ c, c < w.heap.size + 3 → some c ≠ (Value.slice (some ⟨g9, 0, none⟩) (d.length + 1) cap9).ownBlock := fun c hc e => by have := (hlo9 c e.symm).1; omega
          have hbx10 : ConBx w w10 (.slice a1 l.length cap1) (.slice a2 d.length cap2) := ⟨below_grown HV9.out.1.be HV9.out.2.2.1 hgL (by omega) (by have := HV9.out.1.bd.lt; omega), HV9.out.1.bt.grown hgL (hob _ (by omega)), HV9.out.1.br.grown hgL (hob _ (by omega)), HV9.out.1.bd.grown hgL (hob _ (by omega))⟩
          have hbk10 := HV9.out.2.1.grown hgL (fun e => HV9.out.2.2.2.2 (Option.some.inj e).symm)
          have hLc : L = conD l d c := con_sorted HF0.out.1 (by rw [HF0.out.2]; exact hpL) hsL
          obtain ⟨aw, cw, rfl, -, -, -⟩ := id hAL
          have hn9 : ∀ k, (Value.slice aw l.length cw).ownBlock = some k → w.heap.size + 3 ≤ k := fun k e => by have := hlL k e; have := HV9.out.1.bd.lt; omega
          have hn8 : ∀ k, (Value.slice (some ⟨g9, 0, none⟩) (d.length + 1) cap9).ownBlock = some k → w.heap.size + 3 ≤ k := fun k e => (hlo9 k e).1
          have HV10 := Lib.hid (And.intro hbx10 (And.intro hLc (And.intro hAL (And.intro hRL (And.intro hn9 (And.intro hn8 hbk10))))))
          have z0 := (HV10.out.1).br.cell 0 _ rfl; have z1 := (HV10.out.1).br.cell 1 _ rfl; have zf := fun o => (HV10.out.1).br.free o; have d0 := (HV10.out.1).bd.cell 0 _ rfl; have d1 := (HV10.out.1).bd.cell 1 _ rfl; have d2 := (HV10.out.1).bd.cell 2 _ rfl; have df := fun o => (HV10.out.1).bd.free o
          clear hlo9 hob hbx10 hbk10 hLc hAL hRL hn9 hn8 hpL hsL hgL hlL
          (refine hK.out _ _ (fun _ _ => (⟨⟨(HV10.out.1).bt.cell 0 _ rfl, (HV10.out.1).bt.cell 1 _ rfl⟩, (HV10.out.2.2.2.2.2.2).cell 0 _ rfl, (HV10.out.2.2.2.2.2.2).cell 1 _ rfl, (HV10.out.2.2.2.2.2.2).cell 2 _ rfl⟩)) ?_; clear hK K; try simp only [Act.put, pu1, pu2, pu3, pu4, pu5, pu6])
          (refine WalkT.ready (rs := [9]) (by kernel_rfl) (by simp) (AllT.cons rfl (fun K hK => ?_) AllT.nil); go_simp)
          (refine hK.out _ _ (fun _ _ => (⟨⟨((HV10.out.1.bt.setOther (by omega) _ _).setOther (by omega) _ _).cell 0 _ rfl, ((HV10.out.1.bt.setOther (by omega) _ _).setOther (by omega) _ _).cell 1 _ rfl⟩, ((HV10.out.2.2.2.2.2.2.setOther (by omega) _ _).setOther (by omega) _ _).cell 0 _ rfl, ((HV10.out.2.2.2.2.2.2.setOther (by omega) _ _).setOther (by omega) _ _).cell 1 _ rfl, ((HV10.out.2.2.2.2.2.2.setOther (by omega) _ _).setOther (by omega) _ _).cell 2 _ rfl⟩)) ?_; clear hK K; try simp only [Act.put, pu1, pu2, pu3, pu4, pu5, pu6])
          (refine WalkT.ready (rs := [10]) (by kernel_rfl) (by simp) (AllT.cons rfl (fun K hK => ?_) AllT.nil); go_simp)
          (refine hK.out _ _ (fun h => absurd h (by decide)) ?_; clear hK K; try simp only [Act.put, pu1, pu2, pu3, pu4, pu5, pu6])
          (refine WalkT.quiet (i := 11) (v := ?_) rfl (by kernel_rfl) (by kernel_rfl) (by kernel_rfl) (fun _ _ _ h => h) (Or.inl ⟨by rfl, ?_⟩) ?_; rotate_left; (· (intro wS hSw; (try dsimp only at hSw); go_simp; try with_reducible rfl)); try simp only [Act.put, pu1, pu2, pu3, pu4, pu5, pu6])
          refine WalkT.done (by kernel_rfl) ?_
          go_wp2
          refine bodyPost_ret (v := .tuple #[.agg #[.slice aw l.length cw, .slice (some ⟨g9, 0, none⟩) (d.length + 1) cap9], .agg #[.string b.cust, .string b.spl, .int .i64 b.port], .int .i64 0]) ?_ rfl ⟨.slice aw l.length cw, .slice (some ⟨g9, 0, none⟩) (d.length + 1) cap9, ?_, ?_, ?_, ?_⟩
          · simp [results, go_sem, z0, z1, d0, d1, d2]
          · rw [HF0.out.1, HF0.out.2]
          · have hn : ∀ c, c < w.heap.size + 3 → (Value.slice aw l.length cw).ownBlock ≠ some c := fun c hc e => by have := HV10.out.2.2.2.2.1 c e; omega
            rw [show conS l d c = l by unfold conS; rw [if_pos HF0.out.1]]
            exact arr_setOther (arr_setOther (arr_setOther (arr_setOther (arr_setOther HV10.out.2.2.1 (hn _ (by omega)) _ _) (hn _ (by omega)) _ _) (hn _ (by omega)) _ _) (hn _ (by omega)) _ _) (hn _ (by omega)) _ _
          · have hn : ∀ c, c < w.heap.size + 3 → (Value.slice (some ⟨g9, 0, none⟩) (d.length + 1) cap9).ownBlock ≠ some c := fun c hc e => by have := HV10.out.2.2.2.2.2.1 c e; omega
            rw [← HV10.out.2.1]
            exact arr_setOther (arr_setOther (arr_setOther (arr_setOther (arr_setOther HV10.out.2.2.2.1.arr (hn _ (by omega)) _ _) (hn _ (by omega)) _ _) (hn _ (by omega)) _ _) (hn _ (by omega)) _ _) (hn _ (by omega)) _ _
          · exact Below.setCell (Below.setCell (Below.setCell (Below.setCell (Below.setCell HV10.out.1.be (by first | (simp; done) | (simp; omega)) _) (by first | (simp; done) | (simp; omega)) _) (by first | (simp; done) | (simp; omega)) _) (by first | (simp; done) | (simp; omega)) _) (by first | (simp; done) | (simp; omega)) _
        refine AllT.cons rfl (fun K hK => ?_) AllT.nil
        · go_simp
          have HT5 : Hid (ConBx w (W5.alloc (.cells #[.string b.cust, .string b.spl, .int .i64 b.port] 36)) (.slice a1 l.length cap1) (.slice a2 d.length cap2) ∧ Blk (W5.alloc (.cells #[.string b.cust, .string b.spl, .int .i64 b.port] 36)) bb #[.string b.cust, .string b.spl, .int .i64 b.port] 36 ∧ Blk (W5.alloc (.cells #[.string b.cust, .string b.spl, .int .i64 b.port] 36)) W5.heap.size #[.string b.cust, .string b.spl, .int .i64 b.port] 36) := ⟨HW5.out.1.below (below_alloc (Below.refl _ _) _ (Nat.le_refl _)), HW5.out.2.alloc _, Blk.new _ _ _⟩
          (refine hK.out _ _ (fun _ _ => (⟨⟨(HT5.out.1).bt.cell 0 _ rfl, (HT5.out.1).bt.cell 1 _ rfl⟩, (HT5.out.2.1).cell 0 _ rfl, (HT5.out.2.1).cell 1 _ rfl, (HT5.out.2.1).cell 2 _ rfl⟩)) ?_; clear hK K; try simp only [Act.put, pu1, pu2, pu3, pu4, pu5, pu6])
          (refine WalkT.ready (rs := [3]) (by kernel_rfl) (by simp) (AllT.cons rfl (fun K hK => ?_) AllT.nil); go_simp)
          refine (clone_drp _ d _ (by exact HA.out.2.1.below HT5.out.1.be) (by omega)).mono ?_
          rintro e W6 ⟨vc, rfl, ⟨hoc, -⟩, hb6⟩
          obtain ⟨ad, cd, rfl⟩ := own_sliceB hoc
          have hz6 := hb6.size
          have hcb6 : (Value.slice ad d.length cd).ownBlock ≠ some bb := fun e => by have := (hoc.lt _ e).1; simp only [World.size_alloc] at this; omega
          have hz5 : w.heap.size + 3 ≤ (W5.alloc (.cells #[.string b.cust, .string b.spl, .int .i64 b.port] 36)).heap.size := by have := HT5.out.1.bd.lt; omega
          have HT : Hid (ConBx w W6 (.slice a1 l.length cap1) (.slice a2 d.length cap2) ∧ Blk W6 bb #[.string b.cust, .string b.spl, .int .i64 b.port] 36 ∧ W6.ownsRow (w.heap.size + 3) 36 3 (.slice ad d.length cd) d.length (d.flatMap Drp.cells) ∧ Blk W6 W5.heap.size #[.string b.cust, .string b.spl, .int .i64 b.port] 36 ∧ (Value.slice ad d.length cd).ownBlock ≠ some bb) :=
            ⟨HT5.out.1.below hb6, HT5.out.2.1.below hb6 HT5.out.2.1.lt, own_baseH hoc hz5, HT5.out.2.2.below hb6 HT5.out.2.2.lt, hcb6⟩
          clear hoc hb6 hcb6
          (refine hK.out _ _ (fun _ _ => (⟨⟨(HT.out.1).bt.cell 0 _ rfl, (HT.out.1).bt.cell 1 _ rfl⟩, (HT.out.2.1).cell 0 _ rfl, (HT.out.2.1).cell 1 _ rfl, (HT.out.2.1).cell 2 _ rfl⟩)) ?_; clear hK K; try simp only [Act.put, pu1, pu2, pu3, pu4, pu5, pu6])
          refine WalkT.ready (rs := [6]) (by kernel_rfl) (by simp) (AllT.cons rfl (fun K hK => ?_) AllT.nil)
          refine step_append_lies _ (by rfl) _ _ _ (by rfl) (w.heap.size + 3) 36 _ _ 3 40 Tryz.underlying27 hj hj0 hj1 hj2 rfl (by decide) _ d.length _ (by rfl) HT.out.2.2.1 ⟨W5.heap.size, 0, none⟩ 1 1 [.string b.cust, .string b.spl, .int .i64 b.port] (by rfl) rfl (fun j u hu => by have := HT.out.2.2.2.1.cell j u (by simpa using hu); simpa [addr_at] using this) (by simp [Value.oneCell']) (by omega) (by unfold maxLen; omega) (by omega) (by have := HT.out.1.bd.lt; omega) _ rfl ?_
          intro g9 cap9 w9 hown9 hg9 hat9 hlt9
          have hlo9 := HT.out.2.2.1.lt
          have hob : ∀ c, c < w.heap.size + 3 → some c ≠ (Value.slice ad d.length cd).ownBlock := fun c hc e => by have := (hlo9 c e.symm).1; omega
          have hgb : g9 ≠ bb := by
            have hbw := HT.out.2.1.lt
            rcases hat9 with h | h
            · intro e; exact HT.out.2.2.2.2 (by rw [h, e])
            · omega
          have hbx9 : ConBx w w9 (.slice a1 l.length cap1) (.slice a2 d.length cap2) := ⟨below_grown HT.out.1.be HT.out.2.2.1 hg9 (by omega) (by have := HT.out.1.bd.lt; omega), HT.out.1.bt.grown hg9 (hob _ (by omega)), HT.out.1.br.grown hg9 (hob _ (by omega)), HT.out.1.bd.grown hg9 (hob _ (by omega))⟩
          have hbk9 := HT.out.2.1.grown hg9 (fun e => HT.out.2.2.2.2 e.symm)
          have how9 : w9.ownsRow (w.heap.size + 3) 36 3 (.slice (some ⟨g9, 0, none⟩) (d.length + 1) cap9) (d ++ [b]).length ((d ++ [b]).flatMap Drp.cells) := by simpa [Drp.cells] using hown9
          have hrv9 : RowV Drp.cells 3 (w.heap.size + 3) w9 (.slice (some ⟨g9, 0, none⟩) (d.length + 1) cap9) (d ++ [b]) := RowV.of_own Drp.cells_len how9
          have HV9 := Lib.hid (And.intro hbx9 (And.intro hbk9 (And.intro how9 (And.intro hrv9 hgb))))
          clear hlo9 hob hbx9 hbk9 how9 hrv9 hown9 hg9 hat9 hgb
          (refine hK.out _ _ (fun _ _ => (⟨⟨(HV9.out.1).bt.cell 0 _ rfl, (HV9.out.1).bt.cell 1 _ rfl⟩, (HV9.out.2.1).cell 0 _ rfl, (HV9.out.2.1).cell 1 _ rfl, (HV9.out.2.1).cell 2 _ rfl⟩)) ?_; clear hK K; try simp only [Act.put, pu1, pu2, pu3, pu4, pu5, pu6])
          (refine WalkT.ready (rs := [7]) (by kernel_rfl) (by simp) (AllT.cons rfl (fun K hK => ?_) AllT.nil); go_simp)
          refine (withDrops_any _ _ _ l (d ++ [b]) (w.heap.size + 3) _ (by exact HA.out.1.below HV9.out.1.be) (fun w' hg => HA.out.1.below (below_grown HV9.out.1.be HV9.out.2.2.1 hg (by omega) (by have := HV9.out.1.bd.lt; omega))) (by exact HV9.out.2.2.2.1) (by simp; omega) (by omega)).mono ?_
          rintro e w10 ⟨u1, L, rfl, hpL, hsL, hAL, hRL, hgL, hlL⟩
          have hlo9 := HV9.out.2.2.1.lt
          have hob : ∀ c, c < w.heap.size + 3 → some c ≠ (Value.slice (some ⟨g9, 0, none⟩) (d.length + 1) cap9).ownBlock := fun c hc e => by have := (hlo9 c e.symm).1; omega
          have hbx10 : ConBx w w10 (.slice a1 l.length cap1) (.slice a2 d.length cap2) := ⟨below_grown HV9.out.1.be HV9.out.2.2.1 hgL (by omega) (by have := HV9.out.1.bd.lt; omega), HV9.out.1.bt.grown hgL (hob _ (by omega)), HV9.out.1.br.grown hgL (hob _ (by omega)), HV9.out.1.bd.grown hgL (hob _ (by omega))⟩
          have hbk10 := HV9.out.2.1.grown hgL (fun e => HV9.out.2.2.2.2 (Option.some.inj e).symm)
          have hLc : L = conD l d c := con_sorted HF0.out.1 (by rw [HF0.out.2]; exact hpL) hsL
          obtain ⟨aw, cw, rfl, -, -, -⟩ := id hAL
          have hn9 : ∀ k, (Value.slice aw l.length cw).ownBlock = some k → w.heap.size + 3 ≤ k := fun k e => by have := hlL k e; have := HV9.out.1.bd.lt; omega
          have hn8 : ∀ k, (Value.slice (some ⟨g9, 0, none⟩) (d.length + 1) cap9).ownBlock = some k → w.heap.size + 3 ≤ k := fun k e => (hlo9 k e).1
          have HV10 := Lib.hid (And.intro hbx10 (And.intro hLc (And.intro hAL (And.intro hRL (And.intro hn9 (And.intro hn8 hbk10))))))
          have z0 := (HV10.out.1).br.cell 0 _ rfl; have z1 := (HV10.out.1).br.cell 1 _ rfl; have zf := fun o => (HV10.out.1).br.free o; have d0 := (HV10.out.1).bd.cell 0 _ rfl; have d1 := (HV10.out.1).bd.cell 1 _ rfl; have d2 := (HV10.out.1).bd.cell 2 _ rfl; have df := fun o => (HV10.out.1).bd.free o
          clear hlo9 hob hbx10 hbk10 hLc hAL hRL hn9 hn8 hpL hsL hgL hlL
          (refine hK.out _ _ (fun _ _ => (⟨⟨(HV10.out.1).bt.cell 0 _ rfl, (HV10.out.1).bt.cell 1 _ rfl⟩, (HV10.out.2.2.2.2.2.2).cell 0 _ rfl, (HV10.out.2.2.2.2.2.2).cell 1 _ rfl, (HV10.out.2.2.2.2.2.2).cell 2 _ rfl⟩)) ?_; clear hK K; try simp only [Act.put, pu1, pu2, pu3, pu4, pu5, pu6])
          (refine WalkT.ready (rs := [9]) (by kernel_rfl) (by simp) (AllT.cons rfl (fun K hK => ?_) AllT.nil); go_simp)
          (refine hK.out _ _ (fun _ _ => (⟨⟨((HV10.out.1.bt.setOther (by omega) _ _).setOther (by omega) _ _).cell 0 _ rfl, ((HV10.out.1.bt.setOther (by omega) _ _).setOther (by omega) _ _).cell 1 _ rfl⟩, ((HV10.out.2.2.2.2.2.2.setOther (by omega) _ _).setOther (by omega) _ _).cell 0 _ rfl, ((HV10.out.2.2.2.2.2.2.setOther (by omega) _ _).setOther (by omega) _ _).cell 1 _ rfl, ((HV10.out.2.2.2.2.2.2.setOther (by omega) _ _).setOther (by omega) _ _).cell 2 _ rfl⟩)) ?_; clear hK K; try simp only [Act.put, pu1, pu2, pu3, pu4, pu5, pu6])
          (refine WalkT.ready (rs := [10]) (by kernel_rfl) (by simp) (AllT.cons rfl (fun K hK => ?_) AllT.nil); go_simp)
          (refine hK.out _ _ (fun h => absurd h (by decide)) ?_; clear hK K; try simp only [Act.put, pu1, pu2, pu3, pu4, pu5, pu6])
          (refine WalkT.quiet (i := 11) (v := ?_) rfl (by kernel_rfl) (by kernel_rfl) (by kernel_rfl) (fun _ _ _ h => h) (Or.inl ⟨by rfl, ?_⟩) ?_; rotate_left; (· (intro wS hSw; (try dsimp only at hSw); go_simp; try with_reducible rfl)); try simp only [Act.put, pu1, pu2, pu3, pu4, pu5, pu6])
          refine WalkT.done (by kernel_rfl) ?_
          go_wp2
          refine bodyPost_ret (v := .tuple #[.agg #[.slice aw l.length cw, .slice (some ⟨g9, 0, none⟩) (d.length + 1) cap9], .agg #[.string b.cust, .string b.spl, .int .i64 b.port], .int .i64 0]) ?_ rfl ⟨.slice aw l.length cw, .slice (some ⟨g9, 0, none⟩) (d.length + 1) cap9, ?_, ?_, ?_, ?_⟩
          · simp [results, go_sem, z0, z1, d0, d1, d2]
          · rw [HF0.out.1, HF0.out.2]
          · have hn : ∀ c, c < w.heap.size + 3 → (Value.slice aw l.length cw).ownBlock ≠ some c := fun c hc e => by have := HV10.out.2.2.2.2.1 c e; omega
            rw [show conS l d c = l by unfold conS; rw [if_pos HF0.out.1]]
            exact arr_setOther (arr_setOther (arr_setOther (arr_setOther (arr_setOther HV10.out.2.2.1 (hn _ (by omega)) _ _) (hn _ (by omega)) _ _) (hn _ (by omega)) _ _) (hn _ (by omega)) _ _) (hn _ (by omega)) _ _
          · have hn : ∀ c, c < w.heap.size + 3 → (Value.slice (some ⟨g9, 0, none⟩) (d.length + 1) cap9).ownBlock ≠ some c := fun c hc e => by have := HV10.out.2.2.2.2.2.1 c e; omega
            rw [← HV10.out.2.1]
            exact arr_setOther (arr_setOther (arr_setOther (arr_setOther (arr_setOther HV10.out.2.2.2.1.arr (hn _ (by omega)) _ _) (hn _ (by omega)) _ _) (hn _ (by omega)) _ _) (hn _ (by omega)) _ _) (hn _ (by omega)) _ _
          · exact Below.setCell (Below.setCell (Below.setCell (Below.setCell (Below.setCell HV10.out.1.be (by first | (simp; done) | (simp; omega)) _) (by first | (simp; done) | (simp; omega)) _) (by first | (simp; done) | (simp; omega)) _) (by first | (simp; done) | (simp; omega)) _) (by first | (simp; done) | (simp; omega)) _
end Go.Proofs.YtcecpodbmjghhaaGreat
