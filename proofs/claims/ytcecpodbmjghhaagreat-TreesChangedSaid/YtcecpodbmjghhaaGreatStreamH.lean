/- Walk of the stream: two trees with parts of one. -/
import Derived.Test.YtcecpodbmjghhaaGreatStreamYZ
import Derived.Test.YtcecpodbmjghhaaGreatTreeGH
import Derived.Test.YtcecpodbmjghhaaGreatCatAll
import Derived.Test.YtcecpodbmjghhaaGreatConn
import Derived.Test.YtcecpodbmjghhaaGreatChAll
set_option linter.unusedVariables false
set_option linter.unusedSimpArgs false
namespace Go.Proofs.YtcecpodbmjghhaaGreat
open Go Go.RowKit
/-- the memory of the two trees -/
structure HalfSt (s M : Nat) (w W : World) (ua va ub vb : Value) (l : List Splt) (p q : List Drp) : Prop where
  st : Strm W s M
  gr : w.grownBy W (some s)
  ba : Blk W (w.heap.size + 1) #[ua, va] 29
  bb : Blk W (w.heap.size + 2) #[ub, vb] 29
  oa : W.ownsRow (w.heap.size + 3) 58 4 ua l.length (l.flatMap Splt.cells)
  ob : W.ownsRow (w.heap.size + 3) 58 4 ub l.length (l.flatMap Splt.cells)
  da : W.ownsRow (w.heap.size + 3) 36 3 va p.length (p.flatMap Drp.cells)
  db : W.ownsRow (w.heap.size + 3) 36 3 vb q.length (q.flatMap Drp.cells)
  ap : ∀ k, va.ownBlock = some k → vb.ownBlock ≠ some k
  lt : s < w.heap.size
section
variable {s M : Nat} {w W W2 : World} {ua va ub vb v' : Value} {l : List Splt} {p q : List Drp} {x : Drp}
theorem HalfSt.step {M' : Nat} (h : HalfSt s M w W ua va ub vb l p q) (hs : Strm W2 s M') (hg : W.grownBy W2 (some s)) : HalfSt s M' w W2 ua va ub vb l p q := by
  have hl := h.lt
  exact ⟨hs, grown_trans h.gr hg, h.ba.grown hg (by simp; omega), h.bb.grown hg (by simp; omega), own_grown h.oa hg (by omega), own_grown h.ob hg (by omega), own_grown h.da hg (by omega), own_grown h.db hg (by omega), h.ap, hl⟩
theorem HalfSt.drew (h : HalfSt s M w W ua va ub vb l p q) : HalfSt s M w W.drew ua va ub vb l p q := ⟨h.st.drew, grown_drew h.gr, h.ba.drew, h.bb.drew, h.oa, h.ob, h.da, h.db, h.ap, h.lt⟩
theorem HalfSt.alloc (h : HalfSt s M w W ua va ub vb l p q) (o : Obj) : HalfSt s M w (W.alloc o) ua va ub vb l p q := h.step (h.st.alloc o) (World.grownBy_alloc W o _)
theorem HalfSt.mono {M' : Nat} (h : HalfSt s M w W ua va ub vb l p q) (hm : M ≤ M') : HalfSt s M' w W ua va ub vb l p q := { h with st := h.st.mono hm }
theorem HalfSt.ne (h : HalfSt s M w W ua va ub vb l p q) {c : Nat} (hc : c < w.heap.size + 3) : ua.ownBlock ≠ some c ∧ ub.ownBlock ≠ some c ∧ va.ownBlock ≠ some c ∧ vb.ownBlock ≠ some c :=
  ⟨fun e => by have := (h.oa.lt _ e).1; omega, fun e => by have := (h.ob.lt _ e).1; omega, fun e => by have := (h.da.lt _ e).1; omega, fun e => by have := (h.db.lt _ e).1; omega⟩
theorem HalfSt.appA (h : HalfSt s M w W ua va ub vb l p q) {g n cap : Nat} (hv : v' = .slice (some ⟨g, 0, none⟩) n cap) (hg : W.grownBy W2 va.ownBlock) (hat : va.ownBlock = some g ∨ g = W.heap.size)
    (ho : W2.ownsRow (w.heap.size + 3) 36 3 v' (p.length + 1) (p.flatMap Drp.cells ++ [.string x.cust, .string x.spl, .int .i64 x.port])) : HalfSt s M w (W2.setCell ⟨w.heap.size + 1, 1, none⟩ v') ua v' ub vb l (p ++ [x]) q := by
  have hl := h.lt
  have hwl := h.bb.lt
  obtain ⟨n1, n2, n3, n4⟩ := h.ne (c := w.heap.size + 1) (by omega)
  obtain ⟨m1, m2, m3, m4⟩ := h.ne (c := w.heap.size + 2) (by omega)
  refine ⟨(strm_app h.st h.da hg (by omega)).setOther (by omega) _ _, grown_setOwn (grown_app h.gr h.da hg (by omega)) (by omega) _ _, (h.ba.grown hg (fun e => n3 e.symm)).set 1 v', (h.bb.grown hg (fun e => m3 e.symm)).setOther (by omega) _ _, ?_, ?_, ?_, ?_, ?_, hl⟩
  · exact own_setNe (own_keep h.oa hg (fun k e1 e2 => own_apart h.oa h.da (by decide) k e1 e2)) n1 _ _
  · exact own_setNe (own_keep h.ob hg (fun k e1 e2 => own_apart h.ob h.da (by decide) k e1 e2)) n2 _ _
  · have h0 := own_setNe ho (c := w.heap.size + 1) (fun e => by have := (ho.lt _ e).1; omega) 1 v'
    rw [List.length_append, List.length_singleton, List.flatMap_append]
    simpa [Drp.cells] using h0
  · exact own_setNe (own_keep h.db hg (fun k e1 e2 => h.ap k e2 e1)) n4 _ _
  · subst hv
    intro k hk hk2
    simp only [Value.ownBlock, Option.some.injEq] at hk
    subst hk
    rcases hat with hat | hat
    · exact h.ap g hat hk2
    · have := (h.db.lt _ hk2).2; omega
theorem HalfSt.appB (h : HalfSt s M w W ua va ub vb l p q) {g n cap : Nat} (hv : v' = .slice (some ⟨g, 0, none⟩) n cap) (hg : W.grownBy W2 vb.ownBlock) (hat : vb.ownBlock = some g ∨ g = W.heap.size)
    (ho : W2.ownsRow (w.heap.size + 3) 36 3 v' (q.length + 1) (q.flatMap Drp.cells ++ [.string x.cust, .string x.spl, .int .i64 x.port])) : HalfSt s M w (W2.setCell ⟨w.heap.size + 2, 1, none⟩ v') ua va ub v' l p (q ++ [x]) := by
  have hl := h.lt
  have hwl := h.bb.lt
  obtain ⟨n1, n2, n3, n4⟩ := h.ne (c := w.heap.size + 2) (by omega)
  obtain ⟨m1, m2, m3, m4⟩ := h.ne (c := w.heap.size + 1) (by omega)
  refine ⟨(strm_app h.st h.db hg (by omega)).setOther (by omega) _ _, grown_setOwn (grown_app h.gr h.db hg (by omega)) (by omega) _ _, (h.ba.grown hg (fun e => m4 e.symm)).setOther (by omega) _ _, (h.bb.grown hg (fun e => n4 e.symm)).set 1 v', ?_, ?_, ?_, ?_, ?_, hl⟩
  · exact own_setNe (own_keep h.oa hg (fun k e1 e2 => own_apart h.oa h.db (by decide) k e1 e2)) n1 _ _
  · exact own_setNe (own_keep h.ob hg (fun k e1 e2 => own_apart h.ob h.db (by decide) k e1 e2)) n2 _ _
  · exact own_setNe (own_keep h.da hg (fun k e1 e2 => h.ap k e1 e2)) n3 _ _
  · have h0 := own_setNe ho (c := w.heap.size + 2) (fun e => by have := (ho.lt _ e).1; omega) 1 v'
    rw [List.length_append, List.length_singleton, List.flatMap_append]
    simpa [Drp.cells] using h0
  · subst hv
    intro k hk hk2
    simp only [Value.ownBlock, Option.some.injEq] at hk2
    subst hk2
    rcases hat with hat | hat
    · exact h.ap g hk hat
    · have := (h.da.lt _ hk).2; omega
end
/-- low: above the stream -/
def LowV (s : Nat) (v : Value) : Prop := ∀ b off n cap, v = .slice (some ⟨b, off, none⟩) n cap → s < b
theorem low_own {s base sz n : Nat} {e : TypeId} {w : World} {v : Value} {xs : List Value} (h : w.ownsRow base e sz v n xs) (hs : s < base) : LowV s v := by
  intro b off n cap e
  have := (h.lt b (by rw [e]; rfl)).1
  omega
def HalfPost (l : List Splt) (d : List Drp) (s m : Nat) (w : World) (e : Ending) (w' : World) : Prop := ∃ ua va ub vb p q, e = .returned (.tuple #[.agg #[ua, va], .agg #[ub, vb]]) ∧ p.Sublist d ∧ q.Sublist d ∧
  Arr Splt.cells 4 w' l ua ∧ Arr Drp.cells 3 w' p va ∧ Arr Splt.cells 4 w' l ub ∧ Arr Drp.cells 3 w' q vb ∧ (LowV s ua ∧ LowV s va ∧ LowV s ub ∧ LowV s vb) ∧ Strm w' s (m + d.length) ∧ w.grownBy w' (some s)
theorem sub_snoc {d p : List Drp} {k : Nat} (hk : k < d.length) (h : p.Sublist (d.take k)) : p.Sublist (d.take (k + 1)) ∧ (p ++ [d[k]]).Sublist (d.take (k + 1)) := by
  rw [List.take_succ_eq_append_getElem hk]
  exact ⟨h.trans (List.sublist_append_left _ _), h.append (List.Sublist.refl _)⟩
theorem infoDrpQ : (Tryz.prog.info? 36).map (fun i => (i.zero, i.size, i.bytes)) = some (some (.agg #[.string ⟨#[]⟩, .string ⟨#[]⟩, .int .i64 0]), 3, 40) := by kernel_rfl
set_option maxHeartbeats 16000000 in
set_option maxRecDepth 100000 in
theorem halfTrees_any (s m : Nat) (v1 v2 : Value) (l : List Splt) (d : List Drp) (w : World) (h : Strm w s m) (hm : m ≤ 1000000) (h1 : Arr Splt.cells 4 w l v1) (h2 : Arr Drp.cells 3 w d v2) (lo2 : LowV s v2) (lo1 : LowV s v1) (hl : l.length ≤ 500) (hd : d.length ≤ 100) :
    Calls Tryz.prog 22 #[.pointer (some ⟨s, 0, none⟩), .agg #[v1, v2]] w (HalfPost l d s m w) := by
  have hsl := h.lt
  have HA := Lib.hid (And.intro h1 (And.intro h2 (And.intro lo1 lo2)))
  obtain ⟨a1, cap1, rfl, -, -, -⟩ := id h1
  obtain ⟨a2, cap2, rfl, hcap2, hmax2, hc2⟩ := id h2
  unfold maxLen at hmax2
  have HC := Lib.hid hc2
  obtain ⟨i0, hi, hz0, hz1, hz2⟩ := info_parts infoDrpQ
  have W0b : Blk (((w.alloc (.cells #[.slice a1 l.length cap1, .slice a2 d.length cap2] 29)).alloc (.cells #[.slice none 0 0, .slice none 0 0] 29)).alloc (.cells #[.slice none 0 0, .slice none 0 0] 29)) w.heap.size #[.slice a1 l.length cap1, .slice a2 d.length cap2] 29 := ((Blk.new w _ _).alloc _).alloc _
  have W0a : Blk (((w.alloc (.cells #[.slice a1 l.length cap1, .slice a2 d.length cap2] 29)).alloc (.cells #[.slice none 0 0, .slice none 0 0] 29)).alloc (.cells #[.slice none 0 0, .slice none 0 0] 29)) (w.heap.size + 1) #[.slice none 0 0, .slice none 0 0] 29 := (Blk.newAt (by simp)).alloc _
  have W0c : Blk (((w.alloc (.cells #[.slice a1 l.length cap1, .slice a2 d.length cap2] 29)).alloc (.cells #[.slice none 0 0, .slice none 0 0] 29)).alloc (.cells #[.slice none 0 0, .slice none 0 0] 29)) (w.heap.size + 2) #[.slice none 0 0, .slice none 0 0] 29 := Blk.newAt (by simp)
  have W0e : Below w.heap.size w (((w.alloc (.cells #[.slice a1 l.length cap1, .slice a2 d.length cap2] 29)).alloc (.cells #[.slice none 0 0, .slice none 0 0] 29)).alloc (.cells #[.slice none 0 0, .slice none 0 0] 29)) := by (repeat (first | exact Below.refl _ _ | assumption | refine below_draws ?_ _ | refine Below.drew ?_ | refine below_alloc ?_ _ (by first | omega | (simp; done) | (simp; omega)) | refine Below.setCell ?_ (by first | omega | (simp; done) | (simp; omega)) _ | refine below_at ?_ (by assumption) (by first | omega | (simp; done) | (simp; omega))))
  have W0z : w.heap.size + 3 ≤ (((w.alloc (.cells #[.slice a1 l.length cap1, .slice a2 d.length cap2] 29)).alloc (.cells #[.slice none 0 0, .slice none 0 0] 29)).alloc (.cells #[.slice none 0 0, .slice none 0 0] 29)).heap.size := by simp
  have HX0 := Lib.hid (And.intro W0b (And.intro W0a (And.intro W0c W0e)))
  have HST := Lib.hid h
  clear h1 h2 lo1 lo2 hc2 W0b W0a W0c W0e h
  go_enter Tryz.func22, Tryz.ntmps22
  go_wp2_with fail
  refine WalkT.start (fun w' => w'.cell? ⟨w.heap.size, 0, none⟩ = some (.slice a1 l.length cap1)) [7, 9] (by kernel_rfl) ?_
  replace HX0 := Lib.hid (And.intro HX0.out.1.drew (And.intro HX0.out.2.1.drew (And.intro HX0.out.2.2.1.drew HX0.out.2.2.2.drew)))
  replace W0z : w.heap.size + 3 ≤ ((((w.alloc (.cells #[.slice a1 l.length cap1, .slice a2 d.length cap2] 29)).alloc (.cells #[.slice none 0 0, .slice none 0 0] 29)).alloc (.cells #[.slice none 0 0, .slice none 0 0] 29)).drew).heap.size := W0z
  generalize (((w.alloc (.cells #[.slice a1 l.length cap1, .slice a2 d.length cap2] 29)).alloc (.cells #[.slice none 0 0, .slice none 0 0] 29)).alloc (.cells #[.slice none 0 0, .slice none 0 0] 29)).drew = W0 at *
  have HSC : Hid (W0.cell? ⟨w.heap.size, 0, none⟩ = some (.slice a1 l.length cap1)) := HX0.out.1.cell 0 _ rfl
  (refine WalkT.quiet (i := 0) (v := ?_) rfl (by kernel_rfl) (by kernel_rfl) (by kernel_rfl) (fun _ _ _ h => h) (Or.inl ⟨by rfl, ?_⟩) ?_; rotate_left; (· (intro wS hSw; (try dsimp only at hSw); go_simp; try with_reducible rfl)); try simp only [Act.put, pu1, pu2, pu3, pu4, pu5, pu6])
  (refine WalkT.take (i := 1) (v := ?_) rfl (by kernel_rfl) (by kernel_rfl) (by kernel_rfl) (by kernel_rfl) (fun _ _ _ h => h) HSC.out (Or.inl ⟨by rfl, ?_⟩) ?_; rotate_left; (· (intro wS hSw; (try dsimp only at hSw); go_simp; try with_reducible rfl)); try simp only [Act.put, pu1, pu2, pu3, pu4, pu5, pu6])
  (refine WalkT.quiet (i := 3) (v := ?_) rfl (by kernel_rfl) (by kernel_rfl) (by kernel_rfl) (fun _ _ _ h => h) (Or.inl ⟨by rfl, ?_⟩) ?_; rotate_left; (· (intro wS hSw; (try dsimp only at hSw); go_simp; try with_reducible rfl)); try simp only [Act.put, pu1, pu2, pu3, pu4, pu5, pu6])
  (refine WalkT.take (i := 4) (v := ?_) rfl (by kernel_rfl) (by kernel_rfl) (by kernel_rfl) (by kernel_rfl) (fun _ _ _ h => h) HSC.out (Or.inl ⟨by rfl, ?_⟩) ?_; rotate_left; (· (intro wS hSw; (try dsimp only at hSw); go_simp; try with_reducible rfl)); try simp only [Act.put, pu1, pu2, pu3, pu4, pu5, pu6])
  (refine WalkT.ready (rs := [2]) (by kernel_rfl) (by simp) (AllT.cons rfl (fun K hK => ?_) AllT.nil); go_simp)
  refine (clone_splt _ l _ (by exact HA.out.1.below HX0.out.2.2.2) (by omega)).mono ?_
  rintro e W1 ⟨ua, rfl, ⟨hoa, -⟩, hb1⟩
  obtain ⟨xua, nua, rfl⟩ := own_slice hoa
  have hz1' := hb1.size
  have HX1 := Lib.hid (And.intro (HX0.out.1.below hb1 (by omega)) (And.intro (HX0.out.2.1.below hb1 (by omega)) (And.intro (HX0.out.2.2.1.below hb1 (by omega)) (And.intro (below_at HX0.out.2.2.2 hb1 (by omega)) (own_baseH hoa W0z)))))
  clear hb1 hoa
  (refine hK.out _ _ (fun _ _ => HX1.out.1.cell 0 _ rfl) ?_; clear hK K; try simp only [Act.put, pu1, pu2, pu3, pu4, pu5, pu6])
  (refine WalkT.quiet (i := 6) (v := ?_) rfl (by kernel_rfl) (by kernel_rfl) (by kernel_rfl) (fun _ _ _ h => h) (Or.inl ⟨by rfl, ?_⟩) ?_; rotate_left; (· (intro wS hSw; (try dsimp only at hSw); go_simp; try with_reducible rfl)); try simp only [Act.put, pu1, pu2, pu3, pu4, pu5, pu6])
  (refine WalkT.ready (rs := [5]) (by kernel_rfl) (by simp) (AllT.cons rfl (fun K hK => ?_) AllT.nil); go_simp)
  refine (clone_splt _ l _ (by exact HA.out.1.below HX1.out.2.2.2.1) (by omega)).mono ?_
  rintro e W2 ⟨ub, rfl, ⟨hob, -⟩, hb2⟩
  obtain ⟨xub, nub, rfl⟩ := own_slice hob
  have hz2' := hb2.size
  have HX2 := Lib.hid (And.intro (HX1.out.1.below hb2 (by omega)) (And.intro (HX1.out.2.1.below hb2 (by omega)) (And.intro (HX1.out.2.2.1.below hb2 (by omega)) (And.intro (below_at HX1.out.2.2.2.1 hb2 (by omega)) (And.intro (own_below HX1.out.2.2.2.2 hb2) (own_baseH (B' := w.heap.size + 3) hob (by omega)))))))
  clear hb2 hob
  (refine hK.out _ _ (fun _ _ => HX2.out.1.cell 0 _ rfl) ?_; clear hK K; try simp only [Act.put, pu1, pu2, pu3, pu4, pu5, pu6])
  have y0 := HX2.out.2.1.cell 0 _ rfl
  have yf := fun o => HX2.out.2.1.free o
  have x0 := HX2.out.2.2.1.cell 0 _ rfl
  have xf := fun o => HX2.out.2.2.1.free o
  clear HSC
  (refine WalkT.ready (rs := [7]) (by kernel_rfl) (by simp) (AllT.cons rfl (fun K hK => ?_) AllT.nil); go_simp)
  (refine hK.out _ _ (fun h => absurd h (by decide)) ?_; clear hK K; try simp only [Act.put, pu1, pu2, pu3, pu4, pu5, pu6])
  (refine WalkT.quiet (i := 8) (v := ?_) rfl (by kernel_rfl) (by kernel_rfl) (by kernel_rfl) (fun _ _ _ h => h) (Or.inl ⟨by rfl, ?_⟩) ?_; rotate_left; (· (intro wS hSw; (try dsimp only at hSw); go_simp; try with_reducible rfl)); try simp only [Act.put, pu1, pu2, pu3, pu4, pu5, pu6])
  (refine WalkT.ready (rs := [9]) (by kernel_rfl) (by simp) (AllT.cons rfl (fun K hK => ?_) AllT.nil); go_simp)
  (refine hK.out _ _ (fun h => absurd h (by decide)) ?_; clear hK K; try simp only [Act.put, pu1, pu2, pu3, pu4, pu5, pu6])
  refine WalkT.done (by kernel_rfl) ?_
  have HH : Hid (HalfSt s m w ((W2.setCell ⟨w.heap.size + 1, 0, none⟩ (.slice xua l.length nua)).setCell ⟨w.heap.size + 2, 0, none⟩ (.slice xub l.length nub)) (.slice xua l.length nua) (.slice none 0 0) (.slice xub l.length nub) (.slice none 0 0) l [] []) := by
    have hB : Below w.heap.size w ((W2.setCell ⟨w.heap.size + 1, 0, none⟩ (.slice xua l.length nua)).setCell ⟨w.heap.size + 2, 0, none⟩ (.slice xub l.length nub)) := Below.setCell (Below.setCell HX2.out.2.2.2.1 (by simp) _) (by simp) _
    refine ⟨HST.out.below hB (Nat.le_refl _), grown_below _ hB, (HX2.out.2.1.set 0 (.slice xua l.length nua)).setOther (by omega) _ _, (HX2.out.2.2.1.setOther (by omega) _ _).set 0 (.slice xub l.length nub), ?_, ?_, World.ownsRow_nil _ _ _ _, World.ownsRow_nil _ _ _ _, (fun k e => by cases e), hsl⟩
    · have hlt := HX2.out.2.2.2.2.1.lt
      exact own_setNe (own_setNe HX2.out.2.2.2.2.1 (fun e => by have := (hlt _ e).1; omega) _ _) (fun e => by have := (hlt _ e).1; omega) _ _
    · have hlt := HX2.out.2.2.2.2.2.lt
      exact own_setNe (own_setNe HX2.out.2.2.2.2.2 (fun e => by have := (hlt _ e).1; omega) _ _) (fun e => by have := (hlt _ e).1; omega) _ _
  have hbt : Blk ((W2.setCell ⟨w.heap.size + 1, 0, none⟩ (.slice xua l.length nua)).setCell ⟨w.heap.size + 2, 0, none⟩ (.slice xub l.length nub)) w.heap.size #[.slice a1 l.length cap1, .slice a2 d.length cap2] 29 := (HX2.out.1.setOther (by omega) _ _).setOther (by omega) _ _
  have t1 := hbt.cell 1 _ rfl
  clear HX0 HX1 HX2 y0 yf x0 xf hbt hz1' hz2'
  generalize (W2.setCell ⟨w.heap.size + 1, 0, none⟩ (.slice xua l.length nua)).setCell ⟨w.heap.size + 2, 0, none⟩ (.slice xub l.length nub) = W3 at *
  go_wp2
  clear t1
  go_loopw [20] (fun i wr => ∃ (k : Nat) (va vb : Value) (p q : List Drp), k ≤ d.length ∧ i = .int .i64 k ∧ p.Sublist (d.take k) ∧ q.Sublist (d.take k) ∧ HalfSt s (m + k) w wr (.slice xua l.length nua) va (.slice xub l.length nub) vb l p q) (fun i _ => d.length - (intOf i).toNat)
  case atStart => exact ⟨0, _, _, [], [], by omega, rfl, List.nil_sublist _, List.nil_sublist _, HH.out⟩
  case round =>
    obtain ⟨k, va, vb, p, q, hk, rfl, hp, hq, hS⟩ := hrel
    have HS := Lib.hid hS
    have hwl := hS.bb.lt
    clear hS
    by_cases hlt : k < d.length
    · obtain ⟨b, off, rfl, hb, hcc⟩ := HC.out k hlt
      have hbs : some b ≠ some s := by have := HA.out.2.2.2 b off _ _ rfl; simp; omega
      obtain ⟨c0, c1, c2⟩ := drp_at hcc
      replace c0 := (World.cell?_of_block (w := w) (w' := wr) (a := ⟨b, _, none⟩) (HS.out.gr.block b hb hbs)).trans c0
      replace c1 := (World.cell?_of_block (w := w) (w' := wr) (a := ⟨b, _, none⟩) (HS.out.gr.block b hb hbs)).trans c1
      replace c2 := (World.cell?_of_block (w := w) (w' := wr) (a := ⟨b, _, none⟩) (HS.out.gr.block b hb hbs)).trans c2
      have hpl : p.length ≤ 100 := by have := hp.length_le; rw [List.length_take] at this; omega
      have hql : q.length ≤ 100 := by have := hq.length_le; rw [List.length_take] at this; omega
      have HP := Lib.hid (And.intro (sub_snoc hlt hp) (sub_snoc hlt hq))
      have hX := Blk.new wr #[.string d[k].cust, .string d[k].spl, .int .i64 d[k].port] 36
      have HX := Lib.hid (And.intro hX (HS.out.alloc (.cells #[.string d[k].cust, .string d[k].spl, .int .i64 d[k].port] 36)))
      clear hcc hbs hp hq hX
      go_wp2_with fail
      refine (next_any s (m + k) 3 _ HX.out.2.st (by omega) (by omega) (by omega)).mono ?_
      rintro e w4 ⟨v, rfl, ⟨r, rfl, r0, r1⟩, hs4, hg4⟩
      have hz4 : wr.heap.size + 1 ≤ w4.heap.size := by have := hg4.size; simpa using this
      have hX4 := HX.out.1.grown hg4 (by simp; omega)
      have HS4 := Lib.hid (HX.out.2.step hs4 hg4)
      have HX4 := Lib.hid hX4
      have x0 := hX4.cell 0 _ rfl
      have x1 := hX4.cell 1 _ rfl
      have x2 := hX4.cell 2 _ rfl
      have g1 := HS4.out.ba.cell 1 _ rfl
      have g2 := HS4.out.bb.cell 1 _ rfl
      clear hs4 hg4 hX4 c0 c1 c2 HX
      obtain ⟨xa, na, hva⟩ := own_slice HS4.out.da
      obtain ⟨xb, nb, hvb⟩ := own_slice HS4.out.db
      subst hva hvb
      have hr : r = 0 ∨ r = 1 ∨ r = 2 := by omega
      rcases hr with rfl | rfl | rfl
      · go_wp2_with ((at_builtin; go_must (refine wpList_append_lies _ rfl _ _ 27 rfl _ 36 _ (.agg #[.string ⟨#[]⟩, .string ⟨#[]⟩, .int .i64 0]) 3 40 Tryz.underlying27 hi hz0 hz1 hz2 rfl (by decide) _ _ _ rfl (HS4.out.da.alloc _) ⟨w4.heap.size, 0, none⟩ 1 1 [.string d[k].cust, .string d[k].spl, .int .i64 d[k].port] rfl rfl (by exact news_at (by first | rfl | simp | simp [World.setCell]) (by rfl)) (by simp [Value.oneCell']) (by omega) (by unfold maxLen; omega) (by omega) (by first | omega | (simp; done) | (simp; omega)) _ rfl ?_)); intro g6 cap6 w6 hown6 hgrow hat6 hlt6; have hA := (HS4.out.alloc (.cells #[.string d[k].cust, .string d[k].spl, .int .i64 d[k].port] 36)); have e1 := (hA.ba.grown hgrow (fun e => (hA.ne (c := w.heap.size + 1) (by omega)).2.2.1 e.symm)); have e2 := e1.cell 1 _ rfl; have e3 := fun o => e1.free o; have HF := Lib.hid (hA.appA (x := d[k]) rfl hgrow hat6 hown6); clear hA e1 hown6 hgrow hat6)
        exact ⟨⟨k + 1, _, _, _, _, by omega, by go_num, HP.out.1.2, HP.out.2.1, HF.out.mono (by omega)⟩, by simp [intOf]; omega⟩
      · go_wp2_with ((at_builtin; go_must (refine wpList_append_lies _ rfl _ _ 27 rfl _ 36 _ (.agg #[.string ⟨#[]⟩, .string ⟨#[]⟩, .int .i64 0]) 3 40 Tryz.underlying27 hi hz0 hz1 hz2 rfl (by decide) _ _ _ rfl (HS4.out.db.alloc _) ⟨w4.heap.size, 0, none⟩ 1 1 [.string d[k].cust, .string d[k].spl, .int .i64 d[k].port] rfl rfl (by exact news_at (by first | rfl | simp | simp [World.setCell]) (by rfl)) (by simp [Value.oneCell']) (by omega) (by unfold maxLen; omega) (by omega) (by first | omega | (simp; done) | (simp; omega)) _ rfl ?_)); intro g6 cap6 w6 hown6 hgrow hat6 hlt6; have hA := (HS4.out.alloc (.cells #[.string d[k].cust, .string d[k].spl, .int .i64 d[k].port] 36)); have e1 := (hA.bb.grown hgrow (fun e => (hA.ne (c := w.heap.size + 2) (by omega)).2.2.2 e.symm)); have e2 := e1.cell 1 _ rfl; have e3 := fun o => e1.free o; have HF := Lib.hid (hA.appB (x := d[k]) rfl hgrow hat6 hown6); clear hA e1 hown6 hgrow hat6)
        exact ⟨⟨k + 1, _, _, _, _, by omega, by go_num, HP.out.1.1, HP.out.2.2, HF.out.mono (by omega)⟩, by simp [intOf]; omega⟩
      · have hvl := fun e => (HS.out.da.lt wr.heap.size e).2
        have HVL := Lib.hid hvl
        clear hvl
        go_upto_region 9 with ((at_builtin; (refine wpList_append_lies _ rfl _ _ 27 rfl _ 36 _ (.agg #[.string ⟨#[]⟩, .string ⟨#[]⟩, .int .i64 0]) 3 40 Tryz.underlying27 hi hz0 hz1 hz2 rfl (by decide) _ _ _ rfl (HS4.out.da.alloc _) ⟨w4.heap.size, 0, none⟩ 1 1 [.string d[k].cust, .string d[k].spl, .int .i64 d[k].port] rfl rfl (by exact news_at (by first | rfl | simp | simp [World.setCell]) (by rfl)) (by simp [Value.oneCell']) (by omega) (by unfold maxLen; omega) (by omega) (by first | omega | (simp; done) | (simp; omega)) _ rfl ?_)); intro g6 cap6 w6 hown6 hgrow hat6 hlt6; have hA := (HS4.out.alloc (.cells #[.string d[k].cust, .string d[k].spl, .int .i64 d[k].port] 36)); have e1 := (hA.ba.grown hgrow (fun e => (hA.ne (c := w.heap.size + 1) (by omega)).2.2.1 e.symm)); have e2 := e1.cell 1 _ rfl; have e3 := fun o => e1.free o; have e4 := (hA.bb.grown hgrow (fun e => (hA.ne (c := w.heap.size + 2) (by omega)).2.2.1 e.symm)); have e5 := e4.cell 1 _ rfl; have e6 := (HX4.out.alloc (.cells #[.string d[k].cust, .string d[k].spl, .int .i64 d[k].port] 36)).grown hgrow (fun e => absurd (HVL.out e.symm) (Nat.lt_irrefl _)); have E6 := Lib.hid e6; have e7 := hgrow.size; simp only [World.size_alloc] at e7; have HF := Lib.hid (hA.appA (x := d[k]) rfl hgrow hat6 hown6); clear hA e1 e4 e6 hown6 hgrow hat6)
        have HX7 : Hid (Blk (w6.setCell ⟨w.heap.size + 1, 1, none⟩ (.slice (some ⟨g6, 0, none⟩) (p.length + 1) cap6)) wr.heap.size #[.string d[k].cust, .string d[k].spl, .int .i64 d[k].port] 36) := E6.out.setOther (by omega) _ _
        have hz7 : w.heap.size + 3 ≤ (w6.setCell ⟨w.heap.size + 1, 1, none⟩ (.slice (some ⟨g6, 0, none⟩) (p.length + 1) cap6)).heap.size := by simp [World.setCell]; omega
        clear E6 e2 e3 e5 x0 x1 x2 g1 g2
        generalize w6.setCell ⟨w.heap.size + 1, 1, none⟩ (.slice (some ⟨g6, 0, none⟩) (p.length + 1) cap6) = W7 at *
        have x0 := HX7.out.cell 0 _ rfl
        have x1 := HX7.out.cell 1 _ rfl
        have x2 := HX7.out.cell 2 _ rfl
        have g2 := HF.out.bb.cell 1 _ rfl
        go_wp2_with ((at_builtin; go_must (refine wpList_append_lies _ rfl _ _ 27 rfl _ 36 _ (.agg #[.string ⟨#[]⟩, .string ⟨#[]⟩, .int .i64 0]) 3 40 Tryz.underlying27 hi hz0 hz1 hz2 rfl (by decide) _ _ _ rfl (HF.out.db.alloc _) ⟨W7.heap.size, 0, none⟩ 1 1 [.string d[k].cust, .string d[k].spl, .int .i64 d[k].port] rfl rfl (by exact news_at (by first | rfl | simp | simp [World.setCell]) (by rfl)) (by simp [Value.oneCell']) (by omega) (by unfold maxLen; omega) (by omega) (by first | omega | (simp; done) | (simp; omega)) _ rfl ?_)); intro g8 cap8 w8 hown8 hgrow8 hat8 hlt8; have hA := (HF.out.alloc (.cells #[.string d[k].cust, .string d[k].spl, .int .i64 d[k].port] 36)); have e1 := (hA.bb.grown hgrow8 (fun e => (hA.ne (c := w.heap.size + 2) (by omega)).2.2.2 e.symm)); have f2 := e1.cell 1 _ rfl; have f3 := fun o => e1.free o; have HG := Lib.hid (hA.appB (x := d[k]) rfl hgrow8 hat8 hown8); clear hA e1 hown8 hgrow8 hat8)
        exact ⟨⟨k + 1, _, _, _, _, by omega, by go_num, HP.out.1.2, HP.out.2.2, HG.out.mono (by omega)⟩, by simp [intOf]; omega⟩
    · obtain rfl : k = d.length := by omega
      rw [List.take_length] at hp hq
      obtain ⟨xa, na, hva⟩ := own_slice HS.out.da
      obtain ⟨xb, nb, hvb⟩ := own_slice HS.out.db
      subst hva hvb
      have HE := Lib.hid (And.intro hp (And.intro hq HS.out.drew))
      clear hp hq HS
      go_wp2_with fail
      refine WalkT.start (fun w' => w'.cell? ⟨w.heap.size + 1, 0, none⟩ = some (.slice xua l.length nua) ∧ w'.cell? ⟨w.heap.size + 1, 1, none⟩ = some (.slice xa p.length na) ∧ w'.cell? ⟨w.heap.size + 2, 0, none⟩ = some (.slice xub l.length nub) ∧ w'.cell? ⟨w.heap.size + 2, 1, none⟩ = some (.slice xb q.length nb)) [3] (by kernel_rfl) ?_
      generalize wr.drew = W5 at *
      have a0 := HE.out.2.2.ba.cell 0 _ rfl
      have a1' := HE.out.2.2.ba.cell 1 _ rfl
      have af := fun o => HE.out.2.2.ba.free o
      have b0 := HE.out.2.2.bb.cell 0 _ rfl
      have b1 := HE.out.2.2.bb.cell 1 _ rfl
      have bf := fun o => HE.out.2.2.bb.free o
      have HSC := Lib.hid (And.intro a0 (And.intro a1' (And.intro b0 b1)))
      (refine WalkT.take (i := 0) (v := ?_) rfl (by kernel_rfl) (by kernel_rfl) (by kernel_rfl) (by kernel_rfl) (fun _ _ _ h => h) HSC.out (Or.inl ⟨by rfl, ?_⟩) ?_; rotate_left; (· (intro wS hSw; (try dsimp only at hSw); obtain ⟨q0, q1, q2, q3⟩ := hSw; go_simp; try with_reducible rfl)); try simp only [Act.put, pu1, pu2, pu3, pu4, pu5, pu6])
      (refine WalkT.take (i := 1) (v := ?_) rfl (by kernel_rfl) (by kernel_rfl) (by kernel_rfl) (by kernel_rfl) (fun _ _ _ h => h) HSC.out (Or.inl ⟨by rfl, ?_⟩) ?_; rotate_left; (· (intro wS hSw; (try dsimp only at hSw); obtain ⟨q0, q1, q2, q3⟩ := hSw; go_simp; try with_reducible rfl)); try simp only [Act.put, pu1, pu2, pu3, pu4, pu5, pu6])
      (refine WalkT.ready (rs := [2]) (by kernel_rfl) (by simp) (AllT.cons rfl (fun K hK => ?_) AllT.nil); go_simp)
      (refine hK.out _ _ (fun _ _ => (⟨((HE.out.2.2.ba.set 0 _).set 1 _).cell 0 _ rfl, ((HE.out.2.2.ba.set 0 _).set 1 _).cell 1 _ rfl, ((HE.out.2.2.bb.setOther (by omega) _ _).setOther (by omega) _ _).cell 0 _ rfl, ((HE.out.2.2.bb.setOther (by omega) _ _).setOther (by omega) _ _).cell 1 _ rfl⟩)) ?_; clear hK K; try simp only [Act.put, pu1, pu2, pu3, pu4, pu5, pu6])
      (refine WalkT.ready (rs := [3]) (by kernel_rfl) (by simp) (AllT.cons rfl (fun K hK => ?_) AllT.nil); go_simp)
      (refine hK.out _ _ (fun h => absurd h (by decide)) ?_; clear hK K; try simp only [Act.put, pu1, pu2, pu3, pu4, pu5, pu6])
      refine WalkT.done (by kernel_rfl) ?_
      obtain ⟨n1, n2, n3, n4⟩ := HE.out.2.2.ne (c := w.heap.size + 1) (by omega)
      obtain ⟨m1, m2, m3, m4⟩ := HE.out.2.2.ne (c := w.heap.size + 2) (by omega)
      have HNE := Lib.hid (And.intro n1 (And.intro n2 (And.intro n3 (And.intro n4 (And.intro m1 (And.intro m2 (And.intro m3 m4)))))))
      clear n1 n2 n3 n4 m1 m2 m3 m4
      go_wp2
      refine bodyPost_ret (v := .tuple #[.agg #[.slice xua l.length nua, .slice xa p.length na], .agg #[.slice xub l.length nub, .slice xb q.length nb]]) ?_ rfl ⟨_, _, _, _, p, q, rfl, HE.out.1, HE.out.2.1, ?_, ?_, ?_, ?_, ⟨low_own HE.out.2.2.oa (by omega), low_own HE.out.2.2.da (by omega), low_own HE.out.2.2.ob (by omega), low_own HE.out.2.2.db (by omega)⟩, ?_, ?_⟩
      · simp [results, go_sem, a0, a1', b0, b1]
      · exact arr_setOther (arr_setOther (arr_setOther (arr_setOther (Arr.of_own Splt.cells_len HE.out.2.2.oa) HNE.out.1 _ _) HNE.out.1 _ _) HNE.out.2.2.2.2.1 _ _) HNE.out.2.2.2.2.1 _ _
      · exact arr_setOther (arr_setOther (arr_setOther (arr_setOther (Arr.of_own Drp.cells_len HE.out.2.2.da) HNE.out.2.2.1 _ _) HNE.out.2.2.1 _ _) HNE.out.2.2.2.2.2.2.1 _ _) HNE.out.2.2.2.2.2.2.1 _ _
      · exact arr_setOther (arr_setOther (arr_setOther (arr_setOther (Arr.of_own Splt.cells_len HE.out.2.2.ob) HNE.out.2.1 _ _) HNE.out.2.1 _ _) HNE.out.2.2.2.2.2.1 _ _) HNE.out.2.2.2.2.2.1 _ _
      · exact arr_setOther (arr_setOther (arr_setOther (arr_setOther (Arr.of_own Drp.cells_len HE.out.2.2.db) HNE.out.2.2.2.1 _ _) HNE.out.2.2.2.1 _ _) HNE.out.2.2.2.2.2.2.2 _ _) HNE.out.2.2.2.2.2.2.2 _ _
      · exact (((HE.out.2.2.st.setOther (by omega) _ _).setOther (by omega) _ _).setOther (by omega) _ _).setOther (by omega) _ _
      · exact grown_setOwn (grown_setOwn (grown_setOwn (grown_setOwn HE.out.2.2.gr (by omega) _ _) (by omega) _ _) (by omega) _ _) (by omega) _ _
end Go.Proofs.YtcecpodbmjghhaaGreat
