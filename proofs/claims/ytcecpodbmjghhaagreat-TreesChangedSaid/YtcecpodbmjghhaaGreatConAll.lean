/- Texts of one subject in one: Rem, LawConP; what each shows stands at its head. No condition. -/
import Derived.Test.YtcecpodbmjghhaaGreatConn
import Derived.Test.YtcecpodbmjghhaaGreatInsAll
/- Walk of package tree: a customer is taken out. -/
set_option linter.unusedVariables false
set_option linter.unusedSimpArgs false
namespace Go.Proofs.YtcecpodbmjghhaaGreat
open Go Go.RowKit
/-- the error of Remove -/
def remF (l : List Splt) (d : List Drp) (c : ByteArray) : Int := if treeF l d ≠ 0 then treeF l d else if findD d c < 0 then 8 else 0
def remS (l : List Splt) (d : List Drp) (c : ByteArray) : List Splt := if remF l d c = 0 then l else []
def remD (l : List Splt) (d : List Drp) (c : ByteArray) : List Drp := if remF l d c = 0 then d.take (findD d c).toNat ++ d.drop ((findD d c).toNat + 1) else []
theorem rem_err {l : List Splt} {d : List Drp} {c : ByteArray} {F : Int} (h : remF l d c = F) (hF : F ≠ 0) : remS l d c = [] ∧ remD l d c = [] := by
  refine ⟨?_, ?_⟩
  · unfold remS; rw [if_neg (by rw [h]; exact hF)]
  · unfold remD; rw [if_neg (by rw [h]; exact hF)]
/-- what is behind Remove -/
def RemPost (l : List Splt) (d : List Drp) (c : ByteArray) (w : World) (e : Ending) (w' : World) : Prop := ∃ v1 v2, e = .returned (.tuple #[.agg #[v1, v2], .int .i64 (remF l d c)]) ∧
  w'.ownsRow w.heap.size 58 4 v1 (remS l d c).length ((remS l d c).flatMap Splt.cells) ∧ w'.ownsRow w.heap.size 36 3 v2 (remD l d c).length ((remD l d c).flatMap Drp.cells) ∧ Below w.heap.size w w'
/-- Remove's boxes -/
structure RemSt (w W : World) (v1 v2 : Value) (l : List Splt) (d : List Drp) : Prop where
  be : Below w.heap.size w W
  bt : Blk W w.heap.size #[v1, v2] 29
  br : Blk W (w.heap.size + 1) #[.slice none 0 0, .slice none 0 0] 29
  a1 : Arr Splt.cells 4 W l v1
  a2 : Arr Drp.cells 3 W d v2
theorem RemSt.below {w W W' : World} {v1 v2 : Value} {l : List Splt} {d : List Drp} (h : RemSt w W v1 v2 l d) (hb : Below W.heap.size W W') : RemSt w W' v1 v2 l d :=
  ⟨below_at h.be hb h.be.size, h.bt.below hb h.bt.lt, h.br.below hb h.br.lt, h.a1.below hb, h.a2.below hb⟩
set_option maxHeartbeats 8000000 in
set_option maxRecDepth 100000 in
theorem remove_any (v1 v2 : Value) (l : List Splt) (d : List Drp) (c : ByteArray) (w : World) (h1 : Arr Splt.cells 4 w l v1) (h2 : Arr Drp.cells 3 w d v2) : Calls Tryz.prog 11 #[.agg #[v1, v2], .string c] w (RemPost l d c w) := by
  obtain ⟨a1, cap1, rfl, hcap1, hmax1, hc1⟩ := id h1
  obtain ⟨a2, cap2, rfl, hcap2, hmax2, hc2⟩ := id h2
  unfold maxLen at hmax1 hmax2
  have hbt := (Blk.new w #[.slice a1 l.length cap1, .slice a2 d.length cap2] 29).alloc (.cells #[.slice none 0 0, .slice none 0 0] 29)
  have hbr : Blk ((w.alloc (.cells #[.slice a1 l.length cap1, .slice a2 d.length cap2] 29)).alloc (.cells #[.slice none 0 0, .slice none 0 0] 29)) (w.heap.size + 1) #[.slice none 0 0, .slice none 0 0] 29 := Blk.newAt (by simp)
  have hBe : Below w.heap.size w ((w.alloc (.cells #[.slice a1 l.length cap1, .slice a2 d.length cap2] 29)).alloc (.cells #[.slice none 0 0, .slice none 0 0] 29)) := by (repeat (first | exact Below.refl _ _ | assumption | refine below_draws ?_ _ | refine Below.drew ?_ | refine below_alloc ?_ _ (by first | omega | (simp; done) | (simp; omega)) | refine Below.setCell ?_ (by first | omega | (simp; done) | (simp; omega)) _ | refine below_at ?_ (by assumption) (by first | omega | (simp; done) | (simp; omega))))
  have HS0 : Hid (RemSt w ((w.alloc (.cells #[.slice a1 l.length cap1, .slice a2 d.length cap2] 29)).alloc (.cells #[.slice none 0 0, .slice none 0 0] 29)) (.slice a1 l.length cap1) (.slice a2 d.length cap2) l d) := ⟨hBe, hbt, hbr, h1.below hBe, h2.below hBe⟩
  have p0 := hbt.cell 0 _ rfl
  have p1 := hbt.cell 1 _ rfl
  clear h1 h2 hc1 hc2 hbt hbr hBe
  go_enter Tryz.func11, Tryz.ntmps11
  go_wp2_with fail
  refine (checkTree_any _ _ l d _ (by exact HS0.out.a1) (by exact HS0.out.a2)).mono ?_
  rintro e w2 ⟨rfl, hb2⟩
  have hz2 := hb2.size
  simp only [World.size_alloc] at hz2
  have HS2 := Lib.hid (HS0.out.below hb2)
  clear hb2 p0 p1
  have z0 := (HS2.out).br.cell 0 _ rfl; have z1 := (HS2.out).br.cell 1 _ rfl; have zf := fun o => (HS2.out).br.free o
  by_cases hf : treeF l d = 0
  rotate_left
  · have hf1 : (treeF l d != 0) = true := by simp [hf]
    have HNZ : Hid (treeF l d ≠ 0) := hf
    have hE : remF l d c = treeF l d := by unfold remF; rw [if_pos hf]
    clear hf
    (have HE := Lib.hid hE; have HE2 := Lib.hid (rem_err HE.out (by first | decide | (have := HNZ.out; exact this))); go_wp2; refine bodyPost_ret (v := .tuple #[.agg #[.slice none 0 0, .slice none 0 0], .int .i64 (treeF l d)]) ?_ rfl ⟨.slice none 0 0, .slice none 0 0, ?_, ?_, ?_, ?_⟩; (· simp [results, go_sem, z0, z1]); (· rw [HE.out]); (· rw [HE2.out.1]; exact World.ownsRow_nil _ _ _ _); (· rw [HE2.out.2]; exact World.ownsRow_nil _ _ _ _); (· have hh := (HS2.out).be; (repeat (first | exact Below.refl _ _ | assumption | refine below_draws ?_ _ | refine Below.drew ?_ | refine below_alloc ?_ _ (by first | omega | (simp; done) | (simp; omega)) | refine Below.setCell ?_ (by first | omega | (simp; done) | (simp; omega)) _ | refine below_at ?_ (by assumption) (by first | omega | (simp; done) | (simp; omega))))))
  have HFF := Lib.hid (And.intro hf (tok_of hf))
  have hd5 : d.length ≤ 5000 := by
    have := HFF.out.2.dr
    unfold dropsF at this
    split at this <;> omega
  have hl5 := HFF.out.2.s.len
  rw [hf]
  clear hf
  have t0 := HS2.out.bt.cell 0 _ rfl
  have t1 := HS2.out.bt.cell 1 _ rfl
  go_wp2_with fail
  refine (drop_any _ _ d c _ (by exact HS2.out.a2) (by omega)).mono ?_
  rintro e w3 ⟨rfl, hb3⟩
  have hz3 := hb3.size
  have HS3 := Lib.hid (HS2.out.below hb3)
  clear hb3 z0 z1 zf t0 t1
  have z0 := (HS3.out).br.cell 0 _ rfl; have z1 := (HS3.out).br.cell 1 _ rfl; have zf := fun o => (HS3.out).br.free o
  have HNZ : Hid True := trivial
  by_cases hd : findD d c < 0
  · have hd1 : decide (findD d c < 0) = true := by simpa using hd
    have hE : remF l d c = 8 := by unfold remF; rw [if_neg (by have := HFF.out.1; omega), if_pos hd]
    clear hd
    (have HE := Lib.hid hE; have HE2 := Lib.hid (rem_err HE.out (by first | decide | (have := HNZ.out; exact this))); go_wp2; refine bodyPost_ret (v := .tuple #[.agg #[.slice none 0 0, .slice none 0 0], .int .i64 (8)]) ?_ rfl ⟨.slice none 0 0, .slice none 0 0, ?_, ?_, ?_, ?_⟩; (· simp [results, go_sem, z0, z1]); (· rw [HE.out]); (· rw [HE2.out.1]; exact World.ownsRow_nil _ _ _ _); (· rw [HE2.out.2]; exact World.ownsRow_nil _ _ _ _); (· have hh := (HS3.out).be; (repeat (first | exact Below.refl _ _ | assumption | refine below_draws ?_ _ | refine Below.drew ?_ | refine below_alloc ?_ _ (by first | omega | (simp; done) | (simp; omega)) | refine Below.setCell ?_ (by first | omega | (simp; done) | (simp; omega)) _ | refine below_at ?_ (by assumption) (by first | omega | (simp; done) | (simp; omega))))))
  obtain ⟨i, hi, hie⟩ : ∃ i : Nat, i < d.length ∧ findD d c = i := by
    rcases findD_get d c with ⟨h, _⟩ | ⟨i, hi, h, _⟩
    · omega
    · exact ⟨i, hi, h⟩
  have hE : remF l d c = 0 := by unfold remF; rw [if_neg (by have := HFF.out.1; omega), if_neg hd]
  have HE := Lib.hid (And.intro hE hie)
  have t0 := HS3.out.bt.cell 0 _ rfl
  have t1 := HS3.out.bt.cell 1 _ rfl
  rw [hie]
  have hd1 : ¬ ((i : Int) < 0) := by omega
  clear hd hE hie HNZ
  go_wp2_with fail
  refine (copied_any _ _ l d _ (by exact HS3.out.a1) (by exact HS3.out.a2) (by omega) (by omega)).mono ?_
  rintro e w6 ⟨u1, u2, rfl, ho1, ho2, hdis, hb6⟩
  obtain ⟨s1, k1, rfl⟩ := own_sliceH ho1
  obtain ⟨g, k2, cur, rfl, hg, hbg, hck, hcm, hcs, hct⟩ := own_blk ho2 (by omega)
  have hz6 : w3.heap.size ≤ w6.heap.size := hb6.size
  have hglt := hbg.lt
  have hba : Below w6.heap.size w6 (w6.alloc (.cells #[.slice s1 l.length k1, .slice (some ⟨g, 0, none⟩) d.length k2] 29)) := below_alloc (Below.refl _ _) _ (Nat.le_refl _)
  have hd6 : (Value.slice s1 l.length k1).ownBlock ≠ some g := fun e => hdis g e rfl
  have H6 := Lib.hid (And.intro (Blk.new w6 #[.slice s1 l.length k1, .slice (some ⟨g, 0, none⟩) d.length k2] 29) (And.intro (own_below ho1 hba) (And.intro (hbg.below hba hglt) (And.intro (below_at hb6 hba hz6) hd6))))
  have t15a := H6.out.1.cell 0 _ rfl
  have t15b := H6.out.1.cell 1 _ rfl
  have hz7 : w6.heap.size < (w6.alloc (.cells #[.slice s1 l.length k1, .slice (some ⟨g, 0, none⟩) d.length k2] 29)).heap.size := by simp
  clear ho1 ho2 hdis hb6 hba t0 t1 hd6 z0 z1 zf hbg
  go_wp2_with fail
  generalize w6.alloc (.cells #[.slice s1 l.length k1, .slice (some ⟨g, 0, none⟩) d.length k2] 29) = w7 at *
  refine (delete_drp g k2 cur d i w3.heap.size _ H6.out.2.2.1 hg hck hcm hcs hct hi hd5).mono ?_
  rintro e w9 ⟨rfl, ho3, hg3⟩
  have hz9 : w7.heap.size ≤ w9.heap.size := hg3.size
  have hng : g ≠ w6.heap.size := by omega
  have hb9 := H6.out.1.grown hg3 (by simp; omega)
  have ho1 := own_keep H6.out.2.1 hg3 (fun k hk e => H6.out.2.2.2.2 (hk.trans e.symm))
  have hB9 : Below w3.heap.size w3 w9 := below_at H6.out.2.2.2.1 (grown_row hg3 hg (by omega)) (Nat.le_refl _)
  have ho1' := own_setNe ho1 (show (Value.slice s1 l.length k1).ownBlock ≠ some w6.heap.size from own_ne ho1 hb9 (by decide)) 1 (.slice (some ⟨g, 0, none⟩) (d.length - 1) k2)
  have ho3' := own_setNe ho3 (show (Value.slice (some ⟨g, 0, none⟩) (d.length - 1) k2).ownBlock ≠ some w6.heap.size from own_ne ho3 hb9 (by decide)) 1 (.slice (some ⟨g, 0, none⟩) (d.length - 1) k2)
  have hb9' := hb9.set 1 (.slice (some ⟨g, 0, none⟩) (d.length - 1) k2)
  have hB9' := Below.setCell hB9 hz6 (p := ⟨w6.heap.size, 1, none⟩) (.slice (some ⟨g, 0, none⟩) (d.length - 1) k2)
  have H9 := Lib.hid (And.intro hb9' (And.intro ho1' (And.intro ho3' hB9')))
  have g0 := hb9.cell 0 _ rfl
  have g1 := hb9.cell 1 _ rfl
  have g2 := hb9.free 1
  have HS9 := Lib.hid (HS3.out.below hB9)
  have z0 := (HS9.out).br.cell 0 _ rfl; have z1 := (HS9.out).br.cell 1 _ rfl; have zf := fun o => (HS9.out).br.free o
  have n61 : w6.heap.size ≠ w.heap.size + 1 := by have := HS3.out.br.lt; omega
  have n16 : ¬ (w.heap.size + 1 = w6.heap.size) := fun e => n61 e.symm
  have l1 : w.heap.size + 1 < w3.heap.size := HS3.out.br.lt
  clear ho1 ho3 hg3 hb9 ho1' ho3' hb9' hB9' hB9
  go_wp2
  have hBR := ((HS9.out.br.setOther (fun e => n61 e.symm) 1 (.slice (some ⟨g, 0, none⟩) (d.length - 1) k2)).set 0 (.slice s1 l.length k1)).set 1 (.slice (some ⟨g, 0, none⟩) (d.length - 1) k2)
  have r0 := hBR.cell 0 _ rfl
  have r1 := hBR.cell 1 _ rfl
  have hcs : remS l d c = l := by unfold remS; rw [if_pos HE.out.1]
  have hcd : remD l d c = d.take i ++ d.drop (i + 1) := by unfold remD; rw [if_pos HE.out.1, HE.out.2, Int.toNat_natCast]
  have hcl : (remD l d c).length = d.length - 1 := by rw [hcd]; simp; omega
  refine bodyPost_ret (v := .tuple #[.agg #[.slice s1 l.length k1, .slice (some ⟨g, 0, none⟩) (d.length - 1) k2], .int .i64 0]) ?_ rfl ⟨.slice s1 l.length k1, .slice (some ⟨g, 0, none⟩) (d.length - 1) k2, ?_, ?_, ?_, ?_⟩
  · simp [results, go_sem, r0, r1]
  · rw [HE.out.1]
  · rw [hcs]
    exact own_baseH (own_setOtherH (own_setOtherH (own_baseH H9.out.2.1 (Nat.le_refl _)) l1 0 _) l1 1 _) (by omega)
  · rw [hcl, hcd]
    exact own_baseH (own_setOtherH (own_setOtherH (own_baseH H9.out.2.2.1 (Nat.le_refl _)) l1 0 _) l1 1 _) (by omega)
  · refine Below.setCell (p := ⟨w.heap.size + 1, 1, none⟩) (Below.setCell (p := ⟨w.heap.size + 1, 0, none⟩) (Below.setCell (p := ⟨w6.heap.size, 1, none⟩) HS9.out.be ?_ _) ?_ _) ?_ _
    · simp; omega
    · simp
    · simp
end Go.Proofs.YtcecpodbmjghhaaGreat
/- Plain: a tree with a customer connected is right, has one free port less, and is the tree again when the customer is taken out. -/
namespace Go.Proofs.YtcecpodbmjghhaaGreat
theorem find_ne {d : List Drp} {c : ByteArray} (h : findD d c < 0) : ∀ x ∈ d, x.cust ≠ c := by
  intro x hx e
  rcases findD_get d c with ⟨_, hn⟩ | ⟨k, hk, h1, _⟩
  · unfold dropW at hn
    rw [List.find?_eq_none] at hn
    exact hn x hx (strB_iff.2 e)
  · omega
theorem pos_less {d : List Drp} {c : ByteArray} (hr : Rising (d.map (·.cust))) (k : Nat) (hk : k < d.length) : (lessB d[k].cust c = true ↔ k < posD d c) := takeWhile_mono (risingD_mono hr c) k hk
theorem take_less {d : List Drp} {c : ByteArray} (hr : Rising (d.map (·.cust))) : ∀ x ∈ d.take (posD d c), lessB x.cust c = true := by
  intro x hx
  obtain ⟨j, hj, rfl⟩ := List.mem_iff_getElem.1 hx
  rw [List.length_take] at hj
  rw [List.getElem_take]
  exact (pos_less hr j (by omega)).2 (by omega)
theorem drop_more {d : List Drp} {c : ByteArray} (hr : Rising (d.map (·.cust))) (hn : ∀ x ∈ d, x.cust ≠ c) : ∀ x ∈ d.drop (posD d c), lessB c x.cust = true := by
  intro x hx
  obtain ⟨j, hj, rfl⟩ := List.mem_iff_getElem.1 hx
  rw [List.length_drop] at hj
  rw [List.getElem_drop]
  have hlt : posD d c + j < d.length := by omega
  rcases lessB_total d[posD d c + j].cust c with h | h | h
  · have := (pos_less hr _ hlt).1 h; omega
  · exact absurd h (hn _ (List.getElem_mem _))
  · exact h
theorem rising_ins {d : List Drp} {c : ByteArray} {b : Drp} (hb : b.cust = c) (hr : Rising (d.map (·.cust))) (hn : ∀ x ∈ d, x.cust ≠ c) : Rising ((d.take (posD d c) ++ b :: d.drop (posD d c)).map (·.cust)) := by
  have h1 := take_less (c := c) hr
  have h2 := drop_more hr hn
  unfold Rising at *
  rw [List.pairwise_map] at *
  rw [List.pairwise_append, List.pairwise_cons]
  refine ⟨hr.sublist (List.take_sublist _ _), ⟨fun x hx => by rw [hb]; exact h2 x hx, hr.sublist (List.drop_sublist _ _)⟩, fun x hx y hy => ?_⟩
  rcases List.mem_cons.1 hy with rfl | hy
  · rw [hb]; exact h1 x hx
  · exact lessB_trans (h1 x hx) (h2 y hy)
/-- a drop that is right by itself -/
def DrpOk (l : List Splt) (x : Drp) : Prop := keyB x.cust = true ∧ ∃ s, getS l x.spl = some s ∧ outB x.port 1 s.ways = false
theorem drp_ok {l : List Splt} {d : List Drp} (h : TOk l d) : ∀ x ∈ d, DrpOk l x := by
  intro x hx
  obtain ⟨k, hk, rfl⟩ := List.mem_iff_getElem.1 hx
  have hdr := h.dr
  unfold dropsF at hdr
  split at hdr
  · omega
  split at hdr
  · rename_i h1; exact absurd hdr h1
  rename_i h1
  have h2 := faultAt_zero.1 (Decidable.not_not.1 h1) k hk
  unfold dropFault at h2
  rw [List.getElem?_eq_getElem hk] at h2
  simp only at h2
  split at h2
  · omega
  rename_i hkb
  refine ⟨by simpa using hkb, ?_⟩
  cases hg : getS l d[k].spl with
  | none => rw [hg] at h2; simp at h2
  | some s =>
    rw [hg] at h2
    refine ⟨s, rfl, ?_⟩
    cases ho : outB d[k].port 1 s.ways
    · rfl
    · simp only [ho, if_true] at h2; omega
theorem drops_of {l : List Splt} {d : List Drp} (hl : d.length ≤ 5000) (h1 : ∀ x ∈ d, DrpOk l x) (h2 : Rising (d.map (·.cust))) (h3 : (usedP l d).Nodup) : dropsF l d = 0 := by
  have hz : faultAt (dropFault l d) d.length = 0 := by
    refine faultAt_zero.2 fun k hk => ?_
    obtain ⟨hkb, s, hg, ho⟩ := h1 d[k] (List.getElem_mem hk)
    unfold dropFault
    rw [List.getElem?_eq_getElem hk]
    simp only [hg, ho, hkb]
    rw [if_neg (by simp), if_neg (by simp), if_neg ?_]
    rintro ⟨h0, hle⟩
    have e : d[k - 1]?.getD default = d[k - 1] := by rw [List.getElem?_eq_getElem (by omega)]; rfl
    rw [e, leB_not] at hle
    unfold Rising at h2
    rw [List.pairwise_map, List.pairwise_iff_getElem] at h2
    have := h2 (k - 1) k (by omega) hk (by omega)
    rw [this] at hle; cases hle
  have htw : twiceD l d d.length = false := by
    unfold twiceD
    rw [List.any_eq_false]
    intro k hk
    have hk : k < d.length := by simpa using hk
    rw [dupD_in l d k hk]
    unfold usedP List.Nodup at h3
    rw [List.pairwise_append] at h3
    obtain ⟨_, h4, h5⟩ := h3
    intro hs
    unfold seenD at hs
    rw [Bool.or_eq_true] at hs
    rcases hs with hs | hs
    · unfold seenP at hs
      rw [List.take_length, List.any_eq_true] at hs
      obtain ⟨s, hsm, hs⟩ := hs
      simp only [Bool.and_eq_true, decide_eq_true_eq] at hs
      exact h5 _ (List.mem_map.2 ⟨s, List.mem_filter.2 ⟨hsm, by simpa using hs.1⟩, rfl⟩) _ (List.mem_map.2 ⟨d[k], List.getElem_mem hk, rfl⟩) hs.2
    · rw [List.any_eq_true] at hs
      obtain ⟨x, hxm, hx⟩ := hs
      obtain ⟨j, hj, rfl⟩ := List.mem_iff_getElem.1 hxm
      rw [List.length_take] at hj
      rw [List.getElem_take] at hx
      rw [List.pairwise_map, List.pairwise_iff_getElem] at h4
      exact h4 j k (by omega) hk (by omega) (by simpa using hx)
  unfold dropsF
  rw [if_neg (by omega), if_neg (by omega), htw]; rfl
/-- the free port that is taken -/
theorem con_best {l : List Splt} {d : List Drp} {c : ByteArray} (h : conF l d c = 0) : treeF l d = 0 ∧ keyB c = true ∧ findD d c < 0 ∧ d.length < 5000 ∧ ∃ s ∈ l, ∃ p : Int, conB l d c = ⟨c, s.key, p⟩ ∧ 1 ≤ p ∧ p ≤ s.ways ∧ (atPort l d (s.key, p)).size = 0 := by
  have h0 := h
  unfold conF at h
  split at h
  · rename_i h1; exact absurd h h1
  rename_i h1
  split at h
  · omega
  rename_i h2
  split at h
  · omega
  rename_i h3
  split at h
  · omega
  rename_i h4
  split at h
  · omega
  have ht : treeF l d = 0 := by omega
  have ok := tok_of ht
  refine ⟨ht, by simpa using h2, by omega, by omega, ?_⟩
  have hi := best_inv (d := d) ok.s (fun s hs => by
    obtain ⟨j, hj, rfl⟩ := List.mem_iff_getElem.1 hs
    exact ok.ends (getS_self' ok.s hj)) c l.length (Nat.le_refl _)
  cases hb : bestK l d c l.length with
  | none => exact absurd hb h4
  | some x =>
    obtain ⟨b, m⟩ := x
    rw [hb] at hi
    obtain ⟨_, _, s, hs, p, r, hf, rfl, _⟩ := hi
    have hp : p ∈ freeL l d s := by rw [hf]; exact List.mem_cons_self
    unfold freeL at hp
    rw [List.mem_map] at hp
    obtain ⟨i, hi, rfl⟩ := hp
    rw [List.mem_filter, List.mem_range] at hi
    refine ⟨s, hs, (i : Int) + 1, ?_, by omega, by omega, by simpa using hi.2⟩
    unfold conB
    rw [if_pos h0, hb]; rfl
end Go.Proofs.YtcecpodbmjghhaaGreat
