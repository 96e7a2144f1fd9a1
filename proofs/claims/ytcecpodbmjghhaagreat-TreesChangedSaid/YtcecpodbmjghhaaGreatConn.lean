/- Walk of package tree: a customer is connected to the best free port. -/
import Derived.Test.YtcecpodbmjghhaaGreatPlnFK
import Derived.Test.YtcecpodbmjghhaaGreatTreeGH
import Derived.Test.YtcecpodbmjghhaaGreatAskAll
import Derived.Test.YtcecpodbmjghhaaGreatInsAll
import Derived.Test.YtcecpodbmjghhaaGreatKeysAll
set_option linter.unusedVariables false
set_option linter.unusedSimpArgs false
namespace Go.Proofs.YtcecpodbmjghhaaGreat
open Go Go.RowKit
theorem getS_self' {l : List Splt} (h : SOk l) {k : Nat} (hk : k < l.length) : getS l l[k].key = some l[k] := by
  rcases findS_get l l[k].key with ⟨_, hn⟩ | ⟨j, hj, _, hg, he⟩
  · unfold getS at hn
    rw [List.find?_eq_none] at hn
    exact absurd (by simp) (hn l[k] (List.getElem_mem _))
  · rw [hg]
    have hr := h.rise
    unfold Rising at hr
    rw [List.pairwise_map, List.pairwise_iff_getElem] at hr
    rcases Nat.lt_trichotomy j k with hjk | hjk | hjk
    · have h2 := hr j k hj hk hjk
      rw [he, lessB_irrefl] at h2; cases h2
    · subst hjk; rfl
    · have h2 := hr k j hk hj hjk
      rw [he, lessB_irrefl] at h2; cases h2
theorem own_ne {W : World} {B sz n c : Nat} {e t : TypeId} {v : Value} {xs : List Value} {cs : Array Value} (h : W.ownsRow B e sz v n xs) (hb : Blk W c cs t) (ht : e ≠ t) : v.ownBlock ≠ some c := by
  intro hc
  rcases h.2 with ⟨rfl, _⟩ | ⟨g, cap, cur, rfl, _, hh, _⟩
  · cases hc
  · simp only [Value.ownBlock, Option.some.injEq] at hc
    subst hc
    unfold Blk at hb
    rw [hb] at hh
    have hh := hh
    simp at hh; exact ht (by first | exact hh.2 | exact hh.2.symm | (obtain ⟨_, h9⟩ := hh; first | exact h9 | exact h9.symm))
theorem own_keep {W W' : World} {B sz n : Nat} {e : TypeId} {v : Value} {xs : List Value} {row : Option Nat} (h : W.ownsRow B e sz v n xs) (hg : W.grownBy W' row) (hn : ∀ k, v.ownBlock = some k → row ≠ some k) : W'.ownsRow B e sz v n xs := by
  refine h.kept hg ?_
  cases hv : v.ownBlock with
  | none => exact .inl rfl
  | some k => exact .inr (fun e => hn k hv e.symm)
theorem own_setNe {W : World} {B sz n : Nat} {e : TypeId} {v : Value} {xs : List Value} (h : W.ownsRow B e sz v n xs) {c : Nat} (hc : v.ownBlock ≠ some c) (o : Nat) (u : Value) : (W.setCell ⟨c, o, none⟩ u).ownsRow B e sz v n xs :=
  own_keep h (row := some c) (grown_setCells c [u] o W) (fun k hk e => hc (hk.trans e.symm))
theorem own_grownBel {W W' : World} {B sz n : Nat} {e : TypeId} {v : Value} {xs : List Value} (h : W.ownsRow B e sz v n xs) (hg : W.grownBy W' v.ownBlock) (hB : B ≤ W.heap.size) : Below B W W' :=
  ⟨hg.os, hg.tape, hg.output, hg.size, fun k hk => hg.block k (by omega) (fun e => by have := (h.lt k e.symm).1; omega)⟩
/-- what is behind Connect -/
def ConPost (l : List Splt) (d : List Drp) (c : ByteArray) (w : World) (e : Ending) (w' : World) : Prop := ∃ v1 v2, e = .returned (.tuple #[.agg #[v1, v2], .agg #[.string (conB l d c).cust, .string (conB l d c).spl, .int .i64 (conB l d c).port], .int .i64 (conF l d c)]) ∧
  w'.ownsRow w.heap.size 58 4 v1 (conS l d c).length ((conS l d c).flatMap Splt.cells) ∧ w'.ownsRow w.heap.size 36 3 v2 (conD l d c).length ((conD l d c).flatMap Drp.cells) ∧ Below w.heap.size w w'
theorem con_err {l : List Splt} {d : List Drp} {c : ByteArray} {F : Int} (h : conF l d c = F) (hF : F ≠ 0) : conB l d c = eDrp ∧ conS l d c = [] ∧ conD l d c = [] := by
  refine ⟨?_, ?_, ?_⟩
  · unfold conB; rw [if_neg (by rw [h]; exact hF)]
  · unfold conS; rw [if_neg (by rw [h]; exact hF)]
  · unfold conD; rw [if_neg (by rw [h]; exact hF)]
/-- Connect's boxes: the tree, the two results -/
structure ConSt (w W : World) (v1 v2 : Value) (l : List Splt) (d : List Drp) : Prop where
  be : Below w.heap.size w W
  bt : Blk W w.heap.size #[v1, v2] 29
  br : Blk W (w.heap.size + 1) #[.slice none 0 0, .slice none 0 0] 29
  bd : Blk W (w.heap.size + 2) #[.string ⟨#[]⟩, .string ⟨#[]⟩, .int .i64 0] 36
  a1 : Arr Splt.cells 4 W l v1
  a2 : Arr Drp.cells 3 W d v2
theorem ConSt.below {w W W' : World} {v1 v2 : Value} {l : List Splt} {d : List Drp} (h : ConSt w W v1 v2 l d) (hb : Below W.heap.size W W') : ConSt w W' v1 v2 l d :=
  ⟨below_at h.be hb h.be.size, h.bt.below hb h.bt.lt, h.br.below hb h.br.lt, h.bd.below hb h.bd.lt, h.a1.below hb, h.a2.below hb⟩
set_option maxHeartbeats 8000000 in
set_option maxRecDepth 100000 in
theorem connect_any (v1 v2 : Value) (l : List Splt) (d : List Drp) (c : ByteArray) (w : World) (h1 : Arr Splt.cells 4 w l v1) (h2 : Arr Drp.cells 3 w d v2) : Calls Tryz.prog 10 #[.agg #[v1, v2], .string c] w (ConPost l d c w) := by
  obtain ⟨a1, cap1, rfl, hcap1, hmax1, hc1⟩ := id h1
  obtain ⟨a2, cap2, rfl, hcap2, hmax2, hc2⟩ := id h2
  unfold maxLen at hmax1 hmax2
  have HC := Lib.hid hc1
  have hbt := ((Blk.new w #[.slice a1 l.length cap1, .slice a2 d.length cap2] 29).alloc (.cells #[.slice none 0 0, .slice none 0 0] 29)).alloc (.cells #[.string ⟨#[]⟩, .string ⟨#[]⟩, .int .i64 0] 36)
  have hbr : Blk (((w.alloc (.cells #[.slice a1 l.length cap1, .slice a2 d.length cap2] 29)).alloc (.cells #[.slice none 0 0, .slice none 0 0] 29)).alloc (.cells #[.string ⟨#[]⟩, .string ⟨#[]⟩, .int .i64 0] 36)) (w.heap.size + 1) #[.slice none 0 0, .slice none 0 0] 29 := (Blk.newAt (by simp)).alloc _
  have hbd : Blk (((w.alloc (.cells #[.slice a1 l.length cap1, .slice a2 d.length cap2] 29)).alloc (.cells #[.slice none 0 0, .slice none 0 0] 29)).alloc (.cells #[.string ⟨#[]⟩, .string ⟨#[]⟩, .int .i64 0] 36)) (w.heap.size + 2) #[.string ⟨#[]⟩, .string ⟨#[]⟩, .int .i64 0] 36 := Blk.newAt (by simp)
  have hBe : Below w.heap.size w (((w.alloc (.cells #[.slice a1 l.length cap1, .slice a2 d.length cap2] 29)).alloc (.cells #[.slice none 0 0, .slice none 0 0] 29)).alloc (.cells #[.string ⟨#[]⟩, .string ⟨#[]⟩, .int .i64 0] 36)) := by (repeat (first | exact Below.refl _ _ | assumption | refine below_draws ?_ _ | refine Below.drew ?_ | refine below_alloc ?_ _ (by first | omega | (simp; done) | (simp; omega)) | refine Below.setCell ?_ (by first | omega | (simp; done) | (simp; omega)) _ | refine below_at ?_ (by assumption) (by first | omega | (simp; done) | (simp; omega))))
  have HS0 : Hid (ConSt w (((w.alloc (.cells #[.slice a1 l.length cap1, .slice a2 d.length cap2] 29)).alloc (.cells #[.slice none 0 0, .slice none 0 0] 29)).alloc (.cells #[.string ⟨#[]⟩, .string ⟨#[]⟩, .int .i64 0] 36)) (.slice a1 l.length cap1) (.slice a2 d.length cap2) l d) := ⟨hBe, hbt, hbr, hbd, h1.below hBe, h2.below hBe⟩
  have p0 := hbt.cell 0 _ rfl
  have p1 := hbt.cell 1 _ rfl
  clear h1 h2 hc1 hc2 hbt hbr hbd hBe
  go_enter Tryz.func10, Tryz.ntmps10
  go_wp2_with fail
  refine (checkTree_any _ _ l d _ (by exact HS0.out.a1) (by exact HS0.out.a2)).mono ?_
  rintro e w2 ⟨rfl, hb2⟩
  have hz2 := hb2.size
  simp only [World.size_alloc] at hz2
  have HS2 := Lib.hid (HS0.out.below hb2)
  clear hb2 p0 p1
  have z0 := (HS2.out).br.cell 0 _ rfl; have z1 := (HS2.out).br.cell 1 _ rfl; have zf := fun o => (HS2.out).br.free o; have d0 := (HS2.out).bd.cell 0 _ rfl; have d1 := (HS2.out).bd.cell 1 _ rfl; have d2 := (HS2.out).bd.cell 2 _ rfl; have df := fun o => (HS2.out).bd.free o
  have zz : True := trivial
  by_cases hf : treeF l d = 0
  rotate_left
  · have hf1 : (treeF l d != 0) = true := by simp [hf]
    have HNZ : Hid (treeF l d ≠ 0) := hf
    have hE : conF l d c = treeF l d := by unfold conF; rw [if_pos hf]
    clear hf
    (have HE := Lib.hid hE; have HE2 := Lib.hid (con_err HE.out (by first | decide | (have := HNZ.out; exact this))); clear zz; go_wp2; refine bodyPost_ret (v := .tuple #[.agg #[.slice none 0 0, .slice none 0 0], .agg #[.string ⟨#[]⟩, .string ⟨#[]⟩, .int .i64 0], .int .i64 (treeF l d)]) ?_ rfl ⟨.slice none 0 0, .slice none 0 0, ?_, ?_, ?_, ?_⟩; (· simp [results, go_sem, z0, z1, d0, d1, d2]); (· rw [HE2.out.1, HE.out]; rfl); (· rw [HE2.out.2.1]; exact World.ownsRow_nil _ _ _ _); (· rw [HE2.out.2.2]; exact World.ownsRow_nil _ _ _ _); (· have hh := (HS2.out).be; (repeat (first | exact Below.refl _ _ | assumption | refine below_draws ?_ _ | refine Below.drew ?_ | refine below_alloc ?_ _ (by first | omega | (simp; done) | (simp; omega)) | refine Below.setCell ?_ (by first | omega | (simp; done) | (simp; omega)) _ | refine below_at ?_ (by assumption) (by first | omega | (simp; done) | (simp; omega))))))
  have HFF := Lib.hid (And.intro hf (tok_of hf))
  have hl5 := HFF.out.2.s.len
  have hd5 : d.length ≤ 5000 := by
    have := HFF.out.2.dr
    unfold dropsF at this
    split at this <;> omega
  rw [hf]
  clear hf
  go_wp2_with fail
  refine (key_any _ _).mono ?_
  rintro e w3 ⟨rfl, rfl⟩
  have HNZ : Hid True := trivial
  cases hk : keyB c
  · have hE : conF l d c = 5 := by unfold conF; rw [if_neg (by have := HFF.out.1; omega), if_pos hk]
    clear hk
    (have HE := Lib.hid hE; have HE2 := Lib.hid (con_err HE.out (by first | decide | (have := HNZ.out; exact this))); clear zz; go_wp2; refine bodyPost_ret (v := .tuple #[.agg #[.slice none 0 0, .slice none 0 0], .agg #[.string ⟨#[]⟩, .string ⟨#[]⟩, .int .i64 0], .int .i64 (5)]) ?_ rfl ⟨.slice none 0 0, .slice none 0 0, ?_, ?_, ?_, ?_⟩; (· simp [results, go_sem, z0, z1, d0, d1, d2]); (· rw [HE2.out.1, HE.out]; rfl); (· rw [HE2.out.2.1]; exact World.ownsRow_nil _ _ _ _); (· rw [HE2.out.2.2]; exact World.ownsRow_nil _ _ _ _); (· have hh := (HS2.out).be; (repeat (first | exact Below.refl _ _ | assumption | refine below_draws ?_ _ | refine Below.drew ?_ | refine below_alloc ?_ _ (by first | omega | (simp; done) | (simp; omega)) | refine Below.setCell ?_ (by first | omega | (simp; done) | (simp; omega)) _ | refine below_at ?_ (by assumption) (by first | omega | (simp; done) | (simp; omega))))))
  have HK := Lib.hid hk
  clear hk
  have t0 := HS2.out.bt.cell 0 _ rfl
  have t1 := HS2.out.bt.cell 1 _ rfl
  go_wp2_with fail
  refine (drop_any _ _ d c _ (by exact HS2.out.a2) (by omega)).mono ?_
  rintro e w3 ⟨rfl, hb3⟩
  have hz3 := hb3.size
  have HS3 := Lib.hid (HS2.out.below hb3)
  clear hb3 z0 z1 zf d0 d1 d2 df t0 t1
  have z0 := (HS3.out).br.cell 0 _ rfl; have z1 := (HS3.out).br.cell 1 _ rfl; have zf := fun o => (HS3.out).br.free o; have d0 := (HS3.out).bd.cell 0 _ rfl; have d1 := (HS3.out).bd.cell 1 _ rfl; have d2 := (HS3.out).bd.cell 2 _ rfl; have df := fun o => (HS3.out).bd.free o
  by_cases hd : 0 ≤ findD d c
  · have hd1 : decide (0 ≤ findD d c) = true := by simpa using hd
    have hE : conF l d c = 6 := by unfold conF; rw [if_neg (by have := HFF.out.1; omega), if_neg (by rw [HK.out]; simp), if_pos hd]
    clear hd
    (have HE := Lib.hid hE; have HE2 := Lib.hid (con_err HE.out (by first | decide | (have := HNZ.out; exact this))); clear zz; go_wp2; refine bodyPost_ret (v := .tuple #[.agg #[.slice none 0 0, .slice none 0 0], .agg #[.string ⟨#[]⟩, .string ⟨#[]⟩, .int .i64 0], .int .i64 (6)]) ?_ rfl ⟨.slice none 0 0, .slice none 0 0, ?_, ?_, ?_, ?_⟩; (· simp [results, go_sem, z0, z1, d0, d1, d2]); (· rw [HE2.out.1, HE.out]; rfl); (· rw [HE2.out.2.1]; exact World.ownsRow_nil _ _ _ _); (· rw [HE2.out.2.2]; exact World.ownsRow_nil _ _ _ _); (· have hh := (HS3.out).be; (repeat (first | exact Below.refl _ _ | assumption | refine below_draws ?_ _ | refine Below.drew ?_ | refine below_alloc ?_ _ (by first | omega | (simp; done) | (simp; omega)) | refine Below.setCell ?_ (by first | omega | (simp; done) | (simp; omega)) _ | refine below_at ?_ (by assumption) (by first | omega | (simp; done) | (simp; omega))))))
  have HD := Lib.hid hd
  have hd1 : decide (0 ≤ findD d c) = false := by simpa using hd
  clear hd
  have t0 := HS3.out.bt.cell 0 _ rfl
  have t1 := HS3.out.bt.cell 1 _ rfl
  go_wp2_with fail
  refine (taken_any _ _ l d _ (by exact HS3.out.a1) (by exact HS3.out.a2) HFF.out.2).mono ?_
  rintro e w4 ⟨mb, mn, rfl, hmb, hM, hb4⟩
  have hz4 := hb4.size
  have HS4 := Lib.hid (HS3.out.below hb4)
  have HM := Lib.hid hM
  clear hb4 z0 z1 zf d0 d1 d2 df t0 t1 hM
  have t0 := HS4.out.bt.cell 0 _ rfl
  have t1 := HS4.out.bt.cell 1 _ rfl
  have hlt0 : w.heap.size < w4.heap.size := HS4.out.bt.lt
  have hlt1 : w.heap.size + 1 < w4.heap.size := HS4.out.br.lt
  have hlt2 : w.heap.size + 2 < w4.heap.size := HS4.out.bd.lt
  clear hd1 zz HNZ
  go_wp2
  have HEN : Hid (∀ s ∈ l, endsB l l.length s.key = true) := fun s hs => by
    obtain ⟨j, hj, rfl⟩ := List.mem_iff_getElem.1 hs
    exact HFF.out.2.ends (getS_self' HFF.out.2.s hj)
  have HBI := Lib.hid (best_inv (d := d) HFF.out.2.s HEN.out c)
  go_loopw [10, 43] (fun nv i wr => ∃ k : Nat, k ≤ l.length ∧ i = .int .i64 k ∧ nv = .int .i64 (bestN (bestK l d c k)) ∧ Blk wr w4.heap.size #[.string (bestD (bestK l d c k)).cust, .string (bestD (bestK l d c k)).spl, .int .i64 (bestD (bestK l d c k)).port] 36 ∧ Below w4.heap.size w4 wr) (fun _ i _ => l.length - (intOf i).toNat)
  case atStart => exact ⟨0, by omega, rfl, rfl, Blk.new _ _ _, below_alloc (Below.refl _ _) _ (Nat.le_refl _)⟩
  case round =>
    obtain ⟨k, hk, rfl, rfl, hBx, hB⟩ := hrel
    have hsz := hBx.lt
    have HSk := Lib.hid (HS4.out.below hB)
    have HB := Lib.hid (And.intro hBx hB)
    have hml : mb < w4.heap.size := HM.out.lt
    have hbi := HBI.out k hk
    have HBK := Lib.hid hbi
    clear hBx hB t0 t1 hbi
    by_cases hlt : k < l.length
    · obtain ⟨b, off, rfl, hb, hcc⟩ := HC.out k hlt
      obtain ⟨y0, y1, y2, y3⟩ := splt_at hcc
      replace y0 := (HSk.out.be.cell (p := ⟨b, _, none⟩) hb).trans y0
      replace y1 := (HSk.out.be.cell (p := ⟨b, _, none⟩) hb).trans y1
      replace y2 := (HSk.out.be.cell (p := ⟨b, _, none⟩) hb).trans y2
      replace y3 := (HSk.out.be.cell (p := ⟨b, _, none⟩) hb).trans y3
      have hX := Blk.new wr #[.string l[k].key, .int .i64 l[k].ways, .string l[k].par, .int .i64 l[k].port] 58
      have x0 := hX.cell 0 _ rfl
      have x1 := hX.cell 1 _ rfl
      have x2 := hX.cell 2 _ rfl
      have x3 := hX.cell 3 _ rfl
      have hks := HFF.out.2.s.keys l[k] (List.getElem_mem _)
      have HKS := Lib.hid (And.intro (keyB_size hks.1).2 (waysB_le hks.2))
      have HM4 : Hid (SMap (wr.alloc (.cells #[.string l[k].key, .int .i64 l[k].ways, .string l[k].par, .int .i64 l[k].port] 58)) mb mn (takenV l d d.length)) := (HM.out.below HB.out.2 hml).alloc _
      have HST := Lib.hid (bestK_succ (d := d) (c := c) hlt)
      have hBa : Below wr.heap.size wr (wr.alloc (.cells #[.string l[k].key, .int .i64 l[k].ways, .string l[k].par, .int .i64 l[k].port] 58)) := below_alloc (Below.refl _ _) _ (Nat.le_refl _)
      have HX := Lib.hid (And.intro hX hBa)
      clear hcc hks hX hBa
      go_wp2_with fail
      refine (free_any l d l[k] mb mn _ HM4.out HKS.out.1 HKS.out.2).mono ?_
      rintro e w5 ⟨vf, rfl, hvf, hb5⟩
      have hz5 : wr.heap.size + 1 ≤ w5.heap.size := by have := hb5.size; simpa using this
      have hA5 := Arr.of_ints hvf
      obtain ⟨fa, fc, rfl⟩ := own_sliceB hvf
      have hx5 := HX.out.1.below hb5 (by simp)
      have hB5 : Below wr.heap.size wr w5 := below_at HX.out.2 hb5 (by simp)
      have HS5 := Lib.hid (HSk.out.below hB5)
      have H5 := Lib.hid (And.intro hx5 (And.intro (HB.out.1.below hB5 HB.out.1.lt) (And.intro (below_at HB.out.2 hB5 (by omega)) hA5)))
      clear hvf hb5 hA5 hx5 hB5 x0 x1 x2 x3 y0 y1 y2 y3
      cases hfl : freeL l d l[k] with
      | nil =>
        have HF0 := Lib.hid hfl
        have HE : Hid (bestK l d c (k + 1) = bestK l d c k) := by
          have := HST.out
          unfold bestStep at this
          rw [hfl] at this
          exact this
        clear hfl
        go_wp2
        refine ⟨⟨k + 1, by omega, by go_num, by rw [HE.out], ?_, H5.out.2.2.1⟩, by simp [intOf]; omega⟩
        rw [HE.out]; exact H5.out.2.1
      | cons p r =>
        have HFL := Lib.hid hfl
        have hne : ¬ (((p :: r).length : Int) = 0) := by simp; omega
        have t0 := HS5.out.bt.cell 0 _ rfl
        have t1 := HS5.out.bt.cell 1 _ rfl
        have x0 := H5.out.1.cell 0 _ rfl
        have x1 := H5.out.1.cell 1 _ rfl
        have x2 := H5.out.1.cell 2 _ rfl
        have x3 := H5.out.1.cell 3 _ rfl
        clear hfl
        go_wp2_with fail
        refine (pdoublings_any _ _ l l[k] _ (by exact HS5.out.a1) HFF.out.2.s (HEN.out _ (List.getElem_mem _))).mono ?_
        rintro e w6 ⟨rfl, hb6⟩
        have hz6 : w5.heap.size ≤ w6.heap.size := hb6.size
        have HS6 := Lib.hid (HS5.out.below hb6)
        have H6 := Lib.hid (And.intro (H5.out.1.below hb6 H5.out.1.lt) (And.intro (H5.out.2.1.below hb6 H5.out.2.1.lt) (And.intro (below_at H5.out.2.2.1 hb6 (by omega)) (H5.out.2.2.2.below hb6))))
        clear hb6 t0 t1 x0 x1 x2 x3
        generalize hn : powS (chainV l l[k].key) = n at *
        have HN := Lib.hid hn
        clear hn
        generalize hst : bestK l d c k = st at *
        have HSK := Lib.hid hst
        clear hst
        have hres : (bestStep l d c st l[k] = st ∧ ∃ b m, st = some (b, m) ∧ ¬ n < m) ∨ (bestStep l d c st l[k] = some (⟨c, l[k].key, p⟩, n) ∧ (st = none ∨ ∃ b m, st = some (b, m) ∧ n < m)) := by
          unfold bestStep
          rw [HFL.out, HN.out]
          cases st with
          | none => exact .inr ⟨rfl, .inl rfl⟩
          | some x =>
            obtain ⟨b, m⟩ := x
            by_cases hlt : n < m
            · exact .inr ⟨by simp only [if_pos hlt], .inr ⟨b, m, rfl, hlt⟩⟩
            · exact .inl ⟨by simp only [if_neg hlt], b, m, rfl, hlt⟩
        rcases hres with ⟨hE, b0, m0, hs0, hnl⟩ | ⟨hE, hs0⟩
        · have HE : Hid (bestK l d c (k + 1) = st) := HST.out.trans hE
          have hm0 : 0 ≤ m0 := by have := HBK.out; rw [hs0] at this; exact this.1
          have hbn : bestN st = m0 := by rw [hs0]; rfl
          have HBN := Lib.hid hbn
          rw [hbn]
          clear hE hs0 hbn
          go_wp2
          refine ⟨⟨k + 1, by omega, by go_num, by rw [HE.out, HBN.out], ?_, H6.out.2.2.1⟩, by simp [intOf]; omega⟩
          rw [HE.out]; exact H6.out.2.1
        · have HE : Hid (bestK l d c (k + 1) = some (⟨c, l[k].key, p⟩, n)) := HST.out.trans hE
          obtain ⟨N, hN, hor⟩ : ∃ N, bestN st = N ∧ (N < 0 ∨ (0 ≤ N ∧ n < N)) := by
            rcases hs0 with rfl | ⟨b0, m0, rfl, hl0⟩
            · exact ⟨-1, rfl, .inl (by omega)⟩
            · have := HBK.out
              exact ⟨m0, rfl, .inr ⟨this.1, hl0⟩⟩
          rw [hN]
          clear hE hs0 hN
          obtain ⟨a5, c5, e5, hc5, hm5, hcc5⟩ := id H6.out.2.2.2
          simp only [Value.slice.injEq] at e5
          obtain ⟨b5, o5, ha5, hb5', hcl⟩ := hcc5 0 (by rw [HFL.out]; simp)
          obtain rfl : fa = some ⟨b5, o5, none⟩ := e5.1.trans ha5
          have f0 : w6.cell? ⟨b5, o5, none⟩ = some (.int .i64 p) := by
            have := hcl 0 (.int .i64 p) (by simp only [HFL.out]; rfl)
            simpa using this
          have HSV := Lib.hid (And.intro (H6.out.1.cell 0 _ rfl) f0)
          clear e5 ha5 hcl f0 hcc5
          have hlb : w4.heap.size < w6.heap.size := H6.out.2.1.lt
          rcases hor with hor | ⟨hN0, hor⟩
          · go_wp2_with fail
            refine WalkT.start (fun w' => w'.cell? ⟨wr.heap.size, 0, none⟩ = some (.string l[k].key) ∧ w'.cell? ⟨b5, o5, none⟩ = some (.int .i64 p)) [8] (by kernel_rfl) ?_
            have HX7 : Hid (Blk w6.drew w4.heap.size #[.string (bestD st).cust, .string (bestD st).spl, .int .i64 (bestD st).port] 36 ∧ Below w4.heap.size w4 w6.drew ∧ (w6.drew.cell? ⟨wr.heap.size, 0, none⟩ = some (.string l[k].key) ∧ w6.drew.cell? ⟨b5, o5, none⟩ = some (.int .i64 p))) := ⟨H6.out.2.1.drew, Below.drew H6.out.2.2.1, HSV.out⟩
            have hlc : w4.heap.size < w6.drew.heap.size := hlb
            generalize w6.drew = w7 at *
            have hb1 := HX7.out.1.cell 0 _ rfl
            have hb2 := HX7.out.1.cell 1 _ rfl
            have hb3 := HX7.out.1.cell 2 _ rfl
            have hbf := fun o => HX7.out.1.free o
            (refine WalkT.quiet (i := 0) (v := ?_) rfl (by kernel_rfl) (by kernel_rfl) (by kernel_rfl) (fun _ _ _ h => h) (Or.inl ⟨by rfl, ?_⟩) ?_; rotate_left; (· (intro wS hSw; (try dsimp only at hSw); go_simp; try with_reducible rfl)); try simp only [Act.put, pu1, pu2, pu3, pu4, pu5, pu6])
            (refine WalkT.quiet (i := 1) (v := ?_) rfl (by kernel_rfl) (by kernel_rfl) (by kernel_rfl) (fun _ _ _ h => h) (Or.inl ⟨by rfl, ?_⟩) ?_; rotate_left; (· (intro wS hSw; (try dsimp only at hSw); go_simp; try with_reducible rfl)); try simp only [Act.put, pu1, pu2, pu3, pu4, pu5, pu6])
            (refine WalkT.take (i := 2) (v := ?_) rfl (by kernel_rfl) (by kernel_rfl) (by kernel_rfl) (by kernel_rfl) (fun _ _ _ h => h) (HX7.out.2.2) (Or.inl ⟨by rfl, ?_⟩) ?_; rotate_left; (· (intro wS hSw; obtain ⟨u1, u2⟩ := hSw; go_simp; try with_reducible rfl)); try simp only [Act.put, pu1, pu2, pu3, pu4, pu5, pu6])
            (refine WalkT.quiet (i := 3) (v := ?_) rfl (by kernel_rfl) (by kernel_rfl) (by kernel_rfl) (fun _ _ _ h => h) (Or.inl ⟨by rfl, ?_⟩) ?_; rotate_left; (· (intro wS hSw; (try dsimp only at hSw); go_simp; try with_reducible rfl)); try simp only [Act.put, pu1, pu2, pu3, pu4, pu5, pu6])
            (refine WalkT.quiet (i := 4) (v := ?_) rfl (by kernel_rfl) (by kernel_rfl) (by kernel_rfl) (fun _ _ _ h => h) (Or.inl ⟨by rfl, ?_⟩) ?_; rotate_left; (· (intro wS hSw; (try dsimp only at hSw); go_simp; try with_reducible rfl)); try simp only [Act.put, pu1, pu2, pu3, pu4, pu5, pu6])
            (refine WalkT.take (i := 5) (v := ?_) rfl (by kernel_rfl) (by kernel_rfl) (by kernel_rfl) (by kernel_rfl) (fun _ _ _ h => h) (HX7.out.2.2) (Or.inl ⟨by rfl, ?_⟩) ?_; rotate_left; (· (intro wS hSw; obtain ⟨u1, u2⟩ := hSw; go_simp; try with_reducible rfl)); try simp only [Act.put, pu1, pu2, pu3, pu4, pu5, pu6])
            (refine WalkT.quiet (i := 6) (v := ?_) rfl (by kernel_rfl) (by kernel_rfl) (by kernel_rfl) (fun _ _ _ h => h) (Or.inl ⟨by rfl, ?_⟩) ?_; rotate_left; (· (intro wS hSw; (try dsimp only at hSw); go_simp; try with_reducible rfl)); try simp only [Act.put, pu1, pu2, pu3, pu4, pu5, pu6])
            (refine WalkT.quiet (i := 7) (v := ?_) rfl (by kernel_rfl) (by kernel_rfl) (by kernel_rfl) (fun _ _ _ h => h) (Or.inl ⟨by rfl, ?_⟩) ?_; rotate_left; (· (intro wS hSw; (try dsimp only at hSw); go_simp; try with_reducible rfl)); try simp only [Act.put, pu1, pu2, pu3, pu4, pu5, pu6])
            (refine WalkT.ready (rs := [8]) (by kernel_rfl) (by simp) (AllT.cons rfl (fun K hK => ?_) AllT.nil); go_simp)
            (refine hK.out _ _ (fun h => absurd h (by decide)) ?_; clear hK K; try simp only [Act.put, pu1, pu2, pu3, pu4, pu5, pu6])
            (refine WalkT.quiet (i := 9) (v := ?_) rfl (by kernel_rfl) (by kernel_rfl) (by kernel_rfl) (fun _ _ _ h => h) (Or.inl ⟨by rfl, ?_⟩) ?_; rotate_left; (· (intro wS hSw; (try dsimp only at hSw); go_simp; try with_reducible rfl)); try simp only [Act.put, pu1, pu2, pu3, pu4, pu5, pu6])
            refine WalkT.done (by kernel_rfl) ?_
            have hfin := ((HX7.out.1.set 0 (.string c)).set 1 (.string l[k].key)).set 2 (.int .i64 p)
            have hB7 : Below w4.heap.size w4 (((w7.setCell ⟨w4.heap.size, 0, none⟩ (.string c)).setCell ⟨w4.heap.size, 1, none⟩ (.string l[k].key)).setCell ⟨w4.heap.size, 2, none⟩ (.int .i64 p)) := Below.setCell (Below.setCell (Below.setCell HX7.out.2.1 (Nat.le_refl _) _) (Nat.le_refl _) _) (Nat.le_refl _) _
            have HFIN := Lib.hid (And.intro hfin hB7)
            clear hB7
            clear hfin
            go_wp2
            refine ⟨⟨k + 1, by omega, by go_num, by rw [HE.out]; rfl, ?_, HFIN.out.2⟩, by simp [intOf]; omega⟩
            rw [HE.out]; exact HFIN.out.1
          · have hnn : ¬ N < 0 := by omega
            go_wp2_with fail
            refine WalkT.start (fun w' => w'.cell? ⟨wr.heap.size, 0, none⟩ = some (.string l[k].key) ∧ w'.cell? ⟨b5, o5, none⟩ = some (.int .i64 p)) [8] (by kernel_rfl) ?_
            have HX7 : Hid (Blk w6.drew w4.heap.size #[.string (bestD st).cust, .string (bestD st).spl, .int .i64 (bestD st).port] 36 ∧ Below w4.heap.size w4 w6.drew ∧ (w6.drew.cell? ⟨wr.heap.size, 0, none⟩ = some (.string l[k].key) ∧ w6.drew.cell? ⟨b5, o5, none⟩ = some (.int .i64 p))) := ⟨H6.out.2.1.drew, Below.drew H6.out.2.2.1, HSV.out⟩
            have hlc : w4.heap.size < w6.drew.heap.size := hlb
            generalize w6.drew = w7 at *
            have hb1 := HX7.out.1.cell 0 _ rfl
            have hb2 := HX7.out.1.cell 1 _ rfl
            have hb3 := HX7.out.1.cell 2 _ rfl
            have hbf := fun o => HX7.out.1.free o
            (refine WalkT.quiet (i := 0) (v := ?_) rfl (by kernel_rfl) (by kernel_rfl) (by kernel_rfl) (fun _ _ _ h => h) (Or.inl ⟨by rfl, ?_⟩) ?_; rotate_left; (· (intro wS hSw; (try dsimp only at hSw); go_simp; try with_reducible rfl)); try simp only [Act.put, pu1, pu2, pu3, pu4, pu5, pu6])
            (refine WalkT.quiet (i := 1) (v := ?_) rfl (by kernel_rfl) (by kernel_rfl) (by kernel_rfl) (fun _ _ _ h => h) (Or.inl ⟨by rfl, ?_⟩) ?_; rotate_left; (· (intro wS hSw; (try dsimp only at hSw); go_simp; try with_reducible rfl)); try simp only [Act.put, pu1, pu2, pu3, pu4, pu5, pu6])
            (refine WalkT.take (i := 2) (v := ?_) rfl (by kernel_rfl) (by kernel_rfl) (by kernel_rfl) (by kernel_rfl) (fun _ _ _ h => h) (HX7.out.2.2) (Or.inl ⟨by rfl, ?_⟩) ?_; rotate_left; (· (intro wS hSw; obtain ⟨u1, u2⟩ := hSw; go_simp; try with_reducible rfl)); try simp only [Act.put, pu1, pu2, pu3, pu4, pu5, pu6])
            (refine WalkT.quiet (i := 3) (v := ?_) rfl (by kernel_rfl) (by kernel_rfl) (by kernel_rfl) (fun _ _ _ h => h) (Or.inl ⟨by rfl, ?_⟩) ?_; rotate_left; (· (intro wS hSw; (try dsimp only at hSw); go_simp; try with_reducible rfl)); try simp only [Act.put, pu1, pu2, pu3, pu4, pu5, pu6])
            (refine WalkT.quiet (i := 4) (v := ?_) rfl (by kernel_rfl) (by kernel_rfl) (by kernel_rfl) (fun _ _ _ h => h) (Or.inl ⟨by rfl, ?_⟩) ?_; rotate_left; (· (intro wS hSw; (try dsimp only at hSw); go_simp; try with_reducible rfl)); try simp only [Act.put, pu1, pu2, pu3, pu4, pu5, pu6])
            (refine WalkT.take (i := 5) (v := ?_) rfl (by kernel_rfl) (by kernel_rfl) (by kernel_rfl) (by kernel_rfl) (fun _ _ _ h => h) (HX7.out.2.2) (Or.inl ⟨by rfl, ?_⟩) ?_; rotate_left; (· (intro wS hSw; obtain ⟨u1, u2⟩ := hSw; go_simp; try with_reducible rfl)); try simp only [Act.put, pu1, pu2, pu3, pu4, pu5, pu6])
            (refine WalkT.quiet (i := 6) (v := ?_) rfl (by kernel_rfl) (by kernel_rfl) (by kernel_rfl) (fun _ _ _ h => h) (Or.inl ⟨by rfl, ?_⟩) ?_; rotate_left; (· (intro wS hSw; (try dsimp only at hSw); go_simp; try with_reducible rfl)); try simp only [Act.put, pu1, pu2, pu3, pu4, pu5, pu6])
            (refine WalkT.quiet (i := 7) (v := ?_) rfl (by kernel_rfl) (by kernel_rfl) (by kernel_rfl) (fun _ _ _ h => h) (Or.inl ⟨by rfl, ?_⟩) ?_; rotate_left; (· (intro wS hSw; (try dsimp only at hSw); go_simp; try with_reducible rfl)); try simp only [Act.put, pu1, pu2, pu3, pu4, pu5, pu6])
            (refine WalkT.ready (rs := [8]) (by kernel_rfl) (by simp) (AllT.cons rfl (fun K hK => ?_) AllT.nil); go_simp)
            (refine hK.out _ _ (fun h => absurd h (by decide)) ?_; clear hK K; try simp only [Act.put, pu1, pu2, pu3, pu4, pu5, pu6])
            (refine WalkT.quiet (i := 9) (v := ?_) rfl (by kernel_rfl) (by kernel_rfl) (by kernel_rfl) (fun _ _ _ h => h) (Or.inl ⟨by rfl, ?_⟩) ?_; rotate_left; (· (intro wS hSw; (try dsimp only at hSw); go_simp; try with_reducible rfl)); try simp only [Act.put, pu1, pu2, pu3, pu4, pu5, pu6])
            refine WalkT.done (by kernel_rfl) ?_
            have hfin := ((HX7.out.1.set 0 (.string c)).set 1 (.string l[k].key)).set 2 (.int .i64 p)
            have hB7 : Below w4.heap.size w4 (((w7.setCell ⟨w4.heap.size, 0, none⟩ (.string c)).setCell ⟨w4.heap.size, 1, none⟩ (.string l[k].key)).setCell ⟨w4.heap.size, 2, none⟩ (.int .i64 p)) := Below.setCell (Below.setCell (Below.setCell HX7.out.2.1 (Nat.le_refl _) _) (Nat.le_refl _) _) (Nat.le_refl _) _
            have HFIN := Lib.hid (And.intro hfin hB7)
            clear hB7
            clear hfin
            go_wp2
            refine ⟨⟨k + 1, by omega, by go_num, by rw [HE.out]; rfl, ?_, HFIN.out.2⟩, by simp [intOf]; omega⟩
            rw [HE.out]; exact HFIN.out.1
    · obtain rfl : k = l.length := by omega
      have HSL := HSk
      have z0 := (HSL.out).br.cell 0 _ rfl; have z1 := (HSL.out).br.cell 1 _ rfl; have zf := fun o => (HSL.out).br.free o; have d0 := (HSL.out).bd.cell 0 _ rfl; have d1 := (HSL.out).bd.cell 1 _ rfl; have d2 := (HSL.out).bd.cell 2 _ rfl; have df := fun o => (HSL.out).bd.free o
      have zz : True := trivial
      have HNZ : Hid True := trivial
      have q0 := HB.out.1.cell 0 _ rfl
      have q1 := HB.out.1.cell 1 _ rfl
      have q2 := HB.out.1.cell 2 _ rfl
      cases hbk : bestK l d c l.length with
      | none =>
        have hE : conF l d c = 12 := by unfold conF; rw [if_neg (by have := HFF.out.1; omega), if_neg (by rw [HK.out]; simp), if_neg (by have := HD.out; omega), if_pos hbk]
        have hbn : bestN (none : Option (Drp × Int)) = -1 := rfl
        rw [hbn]
        clear hbk hbn
        (have HE := Lib.hid hE; have HE2 := Lib.hid (con_err HE.out (by first | decide | (have := HNZ.out; exact this))); clear zz; go_wp2; refine bodyPost_ret (v := .tuple #[.agg #[.slice none 0 0, .slice none 0 0], .agg #[.string ⟨#[]⟩, .string ⟨#[]⟩, .int .i64 0], .int .i64 (12)]) ?_ rfl ⟨.slice none 0 0, .slice none 0 0, ?_, ?_, ?_, ?_⟩; (· simp [results, go_sem, z0, z1, d0, d1, d2]); (· rw [HE2.out.1, HE.out]; rfl); (· rw [HE2.out.2.1]; exact World.ownsRow_nil _ _ _ _); (· rw [HE2.out.2.2]; exact World.ownsRow_nil _ _ _ _); (· have hh := (HSL.out).be; (repeat (first | exact Below.refl _ _ | assumption | refine below_draws ?_ _ | refine Below.drew ?_ | refine below_alloc ?_ _ (by first | omega | (simp; done) | (simp; omega)) | refine Below.setCell ?_ (by first | omega | (simp; done) | (simp; omega)) _ | refine below_at ?_ (by assumption) (by first | omega | (simp; done) | (simp; omega))))))
      | some x =>
        obtain ⟨b, m⟩ := x
        have hbi := HBK.out
        rw [hbk] at hbi
        have hm0 : 0 ≤ m := hbi.1
        have hm1 : ¬ m < 0 := by omega
        have hbn : bestN (some (b, m)) = m := rfl
        rw [hbn]
        have HBB := Lib.hid (And.intro hbk hbi)
        clear hbn hbk hbi
        have t0 := HSL.out.bt.cell 0 _ rfl
        have t1 := HSL.out.bt.cell 1 _ rfl
        by_cases h5 : 5000 ≤ d.length
        · have h5' : (5000 : Int) ≤ (d.length : Int) := by omega
          have hE : conF l d c = 2 := by unfold conF; rw [if_neg (by have := HFF.out.1; omega), if_neg (by rw [HK.out]; simp), if_neg (by have := HD.out; omega), if_neg (by rw [HBB.out.1]; simp), if_pos h5]
          clear h5
          (have HE := Lib.hid hE; have HE2 := Lib.hid (con_err HE.out (by first | decide | (have := HNZ.out; exact this))); clear zz; go_wp2; refine bodyPost_ret (v := .tuple #[.agg #[.slice none 0 0, .slice none 0 0], .agg #[.string ⟨#[]⟩, .string ⟨#[]⟩, .int .i64 0], .int .i64 (2)]) ?_ rfl ⟨.slice none 0 0, .slice none 0 0, ?_, ?_, ?_, ?_⟩; (· simp [results, go_sem, z0, z1, d0, d1, d2]); (· rw [HE2.out.1, HE.out]; rfl); (· rw [HE2.out.2.1]; exact World.ownsRow_nil _ _ _ _); (· rw [HE2.out.2.2]; exact World.ownsRow_nil _ _ _ _); (· have hh := (HSL.out).be; (repeat (first | exact Below.refl _ _ | assumption | refine below_draws ?_ _ | refine Below.drew ?_ | refine below_alloc ?_ _ (by first | omega | (simp; done) | (simp; omega)) | refine Below.setCell ?_ (by first | omega | (simp; done) | (simp; omega)) _ | refine below_at ?_ (by assumption) (by first | omega | (simp; done) | (simp; omega))))))
        · have h5' : ¬ (5000 : Int) ≤ (d.length : Int) := by omega
          have hE : conF l d c = 0 := by unfold conF; rw [if_neg (by have := HFF.out.1; omega), if_neg (by rw [HK.out]; simp), if_neg (by have := HD.out; omega), if_neg (by rw [HBB.out.1]; simp), if_neg h5]
          have HE := Lib.hid hE
          clear h5 hE
          rw [HBB.out.1] at q0 q1 q2
          simp only [bestD] at q0 q1 q2
          clear z0 z1 zf d0 d1 d2 df zz HNZ
          go_wp2_with fail
          refine (copied_any _ _ l d _ (by exact HSL.out.a1) (by exact HSL.out.a2) (by omega) (by omega)).mono ?_
          rintro e w6 ⟨u1, u2, rfl, ho1, ho2, hdis, hb6⟩
          obtain ⟨s1, k1, rfl⟩ := own_sliceH ho1
          obtain ⟨s2, k2, rfl⟩ := own_sliceH ho2
          have hz6 : wr.heap.size ≤ w6.heap.size := hb6.size
          have hba : Below w6.heap.size w6 (w6.alloc (.cells #[.slice s1 l.length k1, .slice s2 d.length k2] 29)) := below_alloc (Below.refl _ _) _ (Nat.le_refl _)
          have H6 := Lib.hid (And.intro (Blk.new w6 #[.slice s1 l.length k1, .slice s2 d.length k2] 29) (And.intro (own_below ho1 hba) (And.intro (own_below ho2 hba) (And.intro (below_at hb6 hba hz6) hdis))))
          have t15a := H6.out.1.cell 0 _ rfl
          have t15b := H6.out.1.cell 1 _ rfl
          clear ho1 ho2 hdis hb6 hba t0 t1 q0 q1 q2
          have hz6a : w6.heap.size < (w6.alloc (.cells #[.slice s1 l.length k1, .slice s2 d.length k2] 29)).heap.size := by simp
          go_wp2_with fail
          refine (place_any _ d c _ (by exact Arr.of_own Drp.cells_len H6.out.2.2.1) (by omega) HFF.out.2.custs).mono ?_
          rintro e w7 ⟨⟨hit, rfl⟩, hb7⟩
          have hz7 : w6.heap.size < w7.heap.size := Nat.lt_of_lt_of_le hz6a hb7.size
          have H7 := Lib.hid (And.intro (H6.out.1.below hb7 hz6a) (And.intro (own_below H6.out.2.1 hb7) (And.intro (own_below H6.out.2.2.1 hb7) (And.intro (below_at H6.out.2.2.2.1 hb7 (by omega)) H6.out.2.2.2.2))))
          clear hb7 H6 hz6a t15a t15b
          have HQ := Lib.hid (HB.out.1.below H7.out.2.2.2.1 hsz)
          rw [HBB.out.1] at HQ
          simp only [bestD] at HQ
          have t15a := H7.out.1.cell 0 _ rfl
          have t15b := H7.out.1.cell 1 _ rfl
          have q0 := HQ.out.cell 0 _ rfl
          have q1 := HQ.out.cell 1 _ rfl
          have q2 := HQ.out.cell 2 _ rfl
          go_wp2_with fail
          have hba : Below w7.heap.size w7 (w7.alloc (.cells #[.string b.cust, .string b.spl, .int .i64 b.port] 36)) := below_alloc (Below.refl _ _) _ (Nat.le_refl _)
          have hla : w7.heap.size < (w7.alloc (.cells #[.string b.cust, .string b.spl, .int .i64 b.port] 36)).heap.size := by simp
          have H8 := Lib.hid (And.intro (H7.out.1.below hba hz7) (And.intro (own_below H7.out.2.1 hba) (And.intro (own_below H7.out.2.2.1 hba) (And.intro (below_at H7.out.2.2.2.1 hba (by omega)) (Blk.new w7 #[.string b.cust, .string b.spl, .int .i64 b.port] 36)))))
          have hvb : (Value.slice s2 d.length k2).ownBlock ≠ some w7.heap.size := fun e => Nat.lt_irrefl _ (H7.out.2.2.1.lt _ e).2
          have hdis := H7.out.2.2.2.2
          clear t15a t15b q0 q1 q2 hba
          generalize w7.alloc (.cells #[.string b.cust, .string b.spl, .int .i64 b.port] 36) = w8 at *
          refine (insert_drp _ d (posD d c) b _ wr.heap.size _ H8.out.2.2.1 (posD_le d c) H8.out.2.2.2.2 hvb (by omega) (by omega)).mono ?_
          rintro e w9 ⟨v3, rfl, ho3, hg3⟩
          have hz9 : w8.heap.size ≤ w9.heap.size := hg3.size
          have hn15 : (Value.slice s2 d.length k2).ownBlock ≠ some w6.heap.size := own_ne H8.out.2.2.1 H8.out.1 (by decide)
          have ho1 := own_keep H8.out.2.1 hg3 (fun k hk => fun e => hdis k hk e)
          have hB9 : Below wr.heap.size wr w9 := below_at H8.out.2.2.2.1 (own_grownBel H8.out.2.2.1 hg3 (by omega)) (Nat.le_refl _)
          have hb9 := H8.out.1.grown hg3 (fun e => hn15 e.symm)
          have hn3 := own_ne ho3 hb9 (by decide)
          obtain ⟨s3, k3, rfl⟩ := own_sliceH ho3
          have ho1' := own_setNe ho1 (show (Value.slice s1 l.length k1).ownBlock ≠ some w6.heap.size from own_ne ho1 hb9 (by decide)) 1 (.slice s3 (d.length + 1) k3)
          have ho3' := own_setNe ho3 hn3 1 (.slice s3 (d.length + 1) k3)
          have hb9' := hb9.set 1 (.slice s3 (d.length + 1) k3)
          have hB9' := Below.setCell hB9 hz6 (p := ⟨w6.heap.size, 1, none⟩) (.slice s3 (d.length + 1) k3)
          have H9 := Lib.hid (And.intro hb9' (And.intro ho1' (And.intro ho3' hB9')))
          have g1 := hb9.cell 1 _ rfl
          have g2 := hb9.free 1
          clear ho1 ho3 hg3 hb9 ho1' ho3' hb9' hB9' hB9 hdis hvb hn15 hn3
          go_wp2_with fail
          have hz10 : wr.heap.size < (w9.setCell ⟨w6.heap.size, 1, none⟩ (.slice s3 (d.length + 1) k3)).heap.size := Nat.lt_of_le_of_lt hz6 H9.out.1.lt
          generalize w9.setCell ⟨w6.heap.size, 1, none⟩ (.slice s3 (d.length + 1) k3) = w10 at *
          clear g1 g2
          refine WalkT.start (fun w' => w'.cell? ⟨w6.heap.size, 0, none⟩ = some (.slice s1 l.length k1) ∧ w'.cell? ⟨w6.heap.size, 1, none⟩ = some (.slice s3 (d.length + 1) k3) ∧ w'.cell? ⟨w4.heap.size, 0, none⟩ = some (.string b.cust) ∧ w'.cell? ⟨w4.heap.size, 1, none⟩ = some (.string b.spl) ∧ w'.cell? ⟨w4.heap.size, 2, none⟩ = some (.int .i64 b.port)) [3] (by kernel_rfl) ?_
          have H10 := Lib.hid (And.intro (H9.out.1.drew) (And.intro (own_below H9.out.2.1 (Below.drew (Below.refl _ _))) (And.intro (own_below H9.out.2.2.1 (Below.drew (Below.refl _ _))) (Below.drew H9.out.2.2.2))))
          replace hz10 : wr.heap.size < w10.drew.heap.size := hz10
          clear H9
          generalize w10.drew = w11 at *
          have HQ2 := Lib.hid (HB.out.1.below H10.out.2.2.2 hsz)
          rw [HBB.out.1] at HQ2
          simp only [bestD] at HQ2
          have HST := Lib.hid (HSL.out.below H10.out.2.2.2)
          have z0 := (HST.out).br.cell 0 _ rfl; have z1 := (HST.out).br.cell 1 _ rfl; have zf := fun o => (HST.out).br.free o; have d0 := (HST.out).bd.cell 0 _ rfl; have d1 := (HST.out).bd.cell 1 _ rfl; have d2 := (HST.out).bd.cell 2 _ rfl; have df := fun o => (HST.out).bd.free o
          refine WalkT.take (i := 0) (v := ?_) rfl (by kernel_rfl) (by kernel_rfl) (by kernel_rfl) (by kernel_rfl) (fun _ _ _ h => h) (⟨H10.out.1.cell 0 _ rfl, H10.out.1.cell 1 _ rfl, HQ2.out.cell 0 _ rfl, HQ2.out.cell 1 _ rfl, HQ2.out.cell 2 _ rfl⟩) (Or.inl ⟨by rfl, ?_⟩) ?_; rotate_left; (· (intro wS hSw; obtain ⟨u1, u2, u3, u4, u5⟩ := hSw; go_simp; try with_reducible rfl)); try simp only [Act.put, pu1, pu2, pu3, pu4, pu5, pu6]
          refine WalkT.take (i := 1) (v := ?_) rfl (by kernel_rfl) (by kernel_rfl) (by kernel_rfl) (by kernel_rfl) (fun _ _ _ h => h) (⟨H10.out.1.cell 0 _ rfl, H10.out.1.cell 1 _ rfl, HQ2.out.cell 0 _ rfl, HQ2.out.cell 1 _ rfl, HQ2.out.cell 2 _ rfl⟩) (Or.inl ⟨by rfl, ?_⟩) ?_; rotate_left; (· (intro wS hSw; obtain ⟨u1, u2, u3, u4, u5⟩ := hSw; go_simp; try with_reducible rfl)); try simp only [Act.put, pu1, pu2, pu3, pu4, pu5, pu6]
          refine WalkT.ready (rs := [2]) (by kernel_rfl) (by simp) (AllT.cons rfl (fun K hK => ?_) AllT.nil); go_simp
          have n15 : w6.heap.size ≠ w.heap.size + 1 := by omega
          have n4 : w4.heap.size ≠ w.heap.size + 1 := by omega
          refine hK.out _ _ (fun _ _ => ⟨((H10.out.1.setOther n15 _ _).setOther n15 _ _).cell 0 _ rfl, ((H10.out.1.setOther n15 _ _).setOther n15 _ _).cell 1 _ rfl, ((HQ2.out.setOther n4 _ _).setOther n4 _ _).cell 0 _ rfl, ((HQ2.out.setOther n4 _ _).setOther n4 _ _).cell 1 _ rfl, ((HQ2.out.setOther n4 _ _).setOther n4 _ _).cell 2 _ rfl⟩) ?_; clear hK K; try simp only [Act.put, pu1, pu2, pu3, pu4, pu5, pu6]
          refine WalkT.ready (rs := [3]) (by kernel_rfl) (by simp) (AllT.cons rfl (fun K hK => ?_) AllT.nil); go_simp
          refine hK.out _ _ (fun h => absurd h (by decide)) ?_; clear hK K; try simp only [Act.put, pu1, pu2, pu3, pu4, pu5, pu6]
          refine WalkT.quiet (i := 4) (v := ?_) rfl (by kernel_rfl) (by kernel_rfl) (by kernel_rfl) (fun _ _ _ h => h) (Or.inl ⟨by rfl, ?_⟩) ?_; rotate_left; (· (intro wS hSw; (try dsimp only at hSw); go_simp; try with_reducible rfl)); try simp only [Act.put, pu1, pu2, pu3, pu4, pu5, pu6]
          refine WalkT.done (by kernel_rfl) ?_
          have m12 : w.heap.size + 1 ≠ w.heap.size + 1 + 1 := by omega
          have m21 : w.heap.size + 1 + 1 ≠ w.heap.size + 1 := by omega
          have hBR := ((((HST.out.br.set 0 (.slice s1 l.length k1)).set 1 (.slice s3 (d.length + 1) k3)).setOther m12 0 (.string b.cust)).setOther m12 1 (.string b.spl)).setOther m12 2 (.int .i64 b.port)
          have hBD := ((((HST.out.bd.setOther m21 0 (.slice s1 l.length k1)).setOther m21 1 (.slice s3 (d.length + 1) k3)).set 0 (.string b.cust)).set 1 (.string b.spl)).set 2 (.int .i64 b.port)
          have l1 : w.heap.size + 1 < wr.heap.size := by omega
          have l2 : w.heap.size + 1 + 1 < wr.heap.size := by omega
          have hO1 := own_baseH (own_setOtherH (own_setOtherH (own_setOtherH (own_setOtherH (own_setOtherH H10.out.2.1 l1 0 (.slice s1 l.length k1)) l1 1 (.slice s3 (d.length + 1) k3)) l2 0 (.string b.cust)) l2 1 (.string b.spl)) l2 2 (.int .i64 b.port)) (show w.heap.size ≤ wr.heap.size by omega)
          have hO3 := own_baseH (own_setOtherH (own_setOtherH (own_setOtherH (own_setOtherH (own_setOtherH H10.out.2.2.1 l1 0 (.slice s1 l.length k1)) l1 1 (.slice s3 (d.length + 1) k3)) l2 0 (.string b.cust)) l2 1 (.string b.spl)) l2 2 (.int .i64 b.port)) (show w.heap.size ≤ wr.heap.size by omega)
          have hBe := Below.setCell (p := ⟨w.heap.size + 1 + 1, 2, none⟩) (Below.setCell (p := ⟨w.heap.size + 1 + 1, 1, none⟩) (Below.setCell (p := ⟨w.heap.size + 1 + 1, 0, none⟩) (Below.setCell (p := ⟨w.heap.size + 1, 1, none⟩) (Below.setCell (p := ⟨w.heap.size + 1, 0, none⟩) HST.out.be (by simp) (.slice s1 l.length k1)) (by simp) (.slice s3 (d.length + 1) k3)) (by simp; omega) (.string b.cust)) (by simp; omega) (.string b.spl)) (by simp; omega) (.int .i64 b.port)
          clear z0 z1 zf d0 d1 d2 df
          generalize ((((w11.setCell { block := w.heap.size + 1, off := 0 } (Value.slice s1 l.length k1)).setCell { block := w.heap.size + 1, off := 1 } (Value.slice s3 (d.length + 1) k3)).setCell { block := w.heap.size + 1 + 1, off := 0 } (Value.string b.cust)).setCell { block := w.heap.size + 1 + 1, off := 1 } (Value.string b.spl)).setCell { block := w.heap.size + 1 + 1, off := 2 } (Value.int IntKind.i64 b.port) = WF at *
          have HO := Lib.hid (And.intro hO1 (And.intro hO3 hBe))
          have z0 := hBR.cell 0 _ rfl
          have z1 := hBR.cell 1 _ rfl
          have d0 := hBD.cell 0 _ rfl
          have d1 := hBD.cell 1 _ rfl
          have d2 := hBD.cell 2 _ rfl
          clear hO1 hO3 hBe hBR hBD
          have hcb : conB l d c = b := by unfold conB; rw [if_pos HE.out, HBB.out.1]; rfl
          have hcs : conS l d c = l := by unfold conS; rw [if_pos HE.out]
          have hcd : conD l d c = d.take (posD d c) ++ b :: d.drop (posD d c) := by unfold conD; rw [if_pos HE.out, hcb]
          have hcl : (conD l d c).length = d.length + 1 := by rw [hcd]; have := posD_le d c; simp; omega
          have HCC := Lib.hid (And.intro hcb (And.intro hcs (And.intro hcd hcl)))
          clear hcb hcs hcd hcl
          go_wp2
          refine bodyPost_ret (v := .tuple #[.agg #[.slice s1 l.length k1, .slice s3 (d.length + 1) k3], .agg #[.string b.cust, .string b.spl, .int .i64 b.port], .int .i64 0]) ?_ rfl ⟨.slice s1 l.length k1, .slice s3 (d.length + 1) k3, ?_, ?_, ?_, HO.out.2.2⟩
          · simp [results, go_sem, z0, z1, d0, d1, d2]
          · rw [HCC.out.1, HE.out]
          · rw [HCC.out.2.1]; exact HO.out.1
          · rw [HCC.out.2.2.2, HCC.out.2.2.1]; exact HO.out.2.1
end Go.Proofs.YtcecpodbmjghhaaGreat
