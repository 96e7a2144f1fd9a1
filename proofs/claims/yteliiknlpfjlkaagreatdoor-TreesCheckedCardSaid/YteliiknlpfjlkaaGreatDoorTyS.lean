/- Walk of package tree: a tree is read from a text. -/
import Derived.Test.YteliiknlpfjlkaaGreatDoorTyR
import Derived.Test.YteliiknlpfjlkaaGreatDoorTreeAll
set_option linter.unusedVariables false
set_option linter.unusedSimpArgs false
namespace Go.Proofs.YteliiknlpfjlkaaGreatDoor
open Go Go.RowKit

theorem tread1_any (ob : Nat) (w0 : World) (done : List (List UInt8)) (x : ByteArray) (W : World) (h : TrInv ob w0 done W) (hdl : done.length ≤ 1000000) (hx : x.size ≤ 1000000) :
    Calls Tryz.prog 85 #[.string x, .pointer (some ⟨ob, 0, none⟩)] W fun e W' => e = .returned (.bool (treeOkP done x.data.toList)) ∧ TrInv ob w0 (done ++ [x.data.toList]) W' ∧ KeepS W W' := by
  have HI := Lib.hid h
  clear h
  go_enter Tryz.func85, Tryz.ntmps85
  go_wp2_with fail
  refine (treadLine_any ob w0 done x W HI.out hdl hx).mono ?_
  rintro e w1 ⟨rfl, h1, h2⟩
  have H1 := Lib.hid (And.intro h1 h2)
  clear h1 h2
  go_wp2
  go_ret
  exact ⟨rfl, H1.out.1, H1.out.2⟩
theorem tread1_feeds (ob : Nat) (w0 : World) (most : Nat) (hm : most ≤ 1000000) : Feeds 85 #[.pointer (some ⟨ob, 0, none⟩)] treeOkP (TrInv ob w0) most where
  run := run_fn Tryz.func85 (by kernel_rfl) rfl
  grows := fun _ _ _ h hb => h.below hb
  call := fun done x W h hd hx => tread1_any ob w0 done x W h hd (by omega)
  maxl := fun _ _ h => h.mx.below h.be
def TReadPost (text : ByteArray) (w : World) (e : Ending) (w' : World) : Prop := ∃ (v1 v2 : Value) (xs : List Splt) (ys : List Drp) (i er : Int), e = .returned (.tuple #[.agg #[v1, v2], .int .i64 i, .int .i64 er]) ∧ treeRead text.data.toList = (xs, ys, i, er) ∧ Arr Splt.cells 4 w' xs v1 ∧ Arr Drp.cells 3 w' ys v2 ∧ Below w.heap.size w w'
set_option maxHeartbeats 4000000 in
set_option maxRecDepth 100000 in
theorem tread_any (text : ByteArray) (w : World) (hs : text.size ≤ 1000000) (hM : MaxL w) : Calls Tryz.prog 35 #[.string text] w (TReadPost text w) := by
  have hl : text.data.toList.length = text.size := (Lib.size_eq text).symm
  have hb1 : Below w.heap.size w (w.alloc (.cells #[.slice none 0 0, .slice none 0 0] 60)) := below_alloc (Below.refl _ _) _ (Nat.le_refl _)
  have hrb : Blk (w.alloc (.cells #[.slice none 0 0, .slice none 0 0] 60)) w.heap.size #[.slice none 0 0, .slice none 0 0] 60 := Blk.new _ _ _
  obtain ⟨w1, hw1⟩ : ∃ w1, w1 = w.alloc (.cells #[.slice none 0 0, .slice none 0 0] 60) := ⟨_, rfl⟩
  rw [← hw1] at hb1 hrb
  have hrl := hrb.lt
  have HW1 := Lib.hid hw1
  have H1 := Lib.hid (And.intro hb1 (And.intro hrb (hM.below hb1)))
  clear hw1 hb1 hM
  by_cases hbig : 200000 < text.size
  · have hbi : (200000 : Int) < (text.size : Int) := by omega
    have HR := Lib.hid (show treeRead text.data.toList = ([], [], 0, 2) by unfold treeRead; rw [if_pos (by omega)])
    have z0 := hrb.cell 0 _ rfl
    have z1 := hrb.cell 1 _ rfl
    have zf := fun o => hrb.free o
    clear hl hrb
    go_enter Tryz.func35, Tryz.ntmps35
    go_upto_region 1 with fail
    rw [← HW1.out]
    go_wp2
    refine bodyPost_ret (v := .tuple #[.agg #[.slice none 0 0, .slice none 0 0], .int .i64 0, .int .i64 2]) ?_ rfl ⟨_, _, _, _, _, _, rfl, HR.out, Arr.nil _ _ _, Arr.nil _ _ _, ?_⟩
    · simp [results, go_sem, z0, z1]
    · have := H1.out.1; (repeat (first | exact Below.refl _ _ | assumption | refine below_draws ?_ _ | refine Below.drew ?_ | refine below_alloc ?_ _ (by first | omega | (simp; done) | (simp; omega)) | refine Below.setCell ?_ (by first | omega | (simp; done) | (simp; omega)) _ | refine below_at ?_ (by assumption) (by first | omega | (simp; done) | (simp; omega))))
  have hbi : ¬ (200000 : Int) < (text.size : Int) := by omega
  have HL := Lib.hid (show ¬ 200000 < text.data.toList.length by omega)
  have hI : TrInv w1.heap.size w1 [] (w1.alloc (.cells #[.slice none 0 0, .slice none 0 0] 60)) := ⟨H1.out.2.2, below_alloc (Below.refl _ _) _ (Nat.le_refl _), ⟨_, _, [], [], Blk.new _ _ _, World.ownsRow_nil _ _ _ _, World.ownsRow_nil _ _ _ _, TrRows.nil⟩, Nat.le_refl _⟩
  have HI := Lib.hid hI
  clear hl hI hrb
  go_enter Tryz.func35, Tryz.ntmps35
  go_upto_region 1 with fail
  rw [← HW1.out]
  go_wp2_with fail
  refine (each_any _ _ treeOkP (TrInv w1.heap.size w1) 1000000 text _ (tread1_feeds w1.heap.size w1 1000000 (Nat.le_refl _)) (Nat.le_refl _) hs HI.out).mono ?_
  unfold EachPost
  rintro e w2 ⟨rfl, hi⟩
  obtain ⟨I, hIe⟩ : ∃ I, eachF treeOkP text.data.toList = I := ⟨_, rfl⟩
  have HE := Lib.hid hIe
  rw [hIe] at hi ⊢
  obtain ⟨i, b, P⟩ := I
  simp only at hi ⊢
  have HI2 := Lib.hid hi
  have hr2 := H1.out.2.1.below hi.be hrl
  have z0 := hr2.cell 0 _ rfl
  have z1 := hr2.cell 1 _ rfl
  have zf := fun o => hr2.free o
  have HR2 := Lib.hid hr2
  clear hIe hi HI hr2
  cases b
  · have HR := Lib.hid (show treeRead text.data.toList = ([], [], (i : Int), 9) by unfold treeRead; rw [if_neg HL.out, ← eachP_eq, HE.out, if_pos rfl])
    go_wp2
    refine bodyPost_ret (v := .tuple #[.agg #[.slice none 0 0, .slice none 0 0], .int .i64 i, .int .i64 9]) ?_ rfl ⟨_, _, _, _, _, _, rfl, HR.out, Arr.nil _ _ _, Arr.nil _ _ _, ?_⟩
    · simp [results, go_sem, z0, z1]
    · have h1 := H1.out.1; have h2 := below_at h1 HI2.out.be h1.size; (repeat (first | exact Below.refl _ _ | assumption | refine below_draws ?_ _ | refine Below.drew ?_ | refine below_alloc ?_ _ (by first | omega | (simp; done) | (simp; omega)) | refine Below.setCell ?_ (by first | omega | (simp; done) | (simp; omega)) _ | refine below_at ?_ (by assumption) (by first | omega | (simp; done) | (simp; omega))))
  · obtain ⟨v1, v2, xs, ys, hbx, ho1, ho2, htr⟩ := HI2.out.row
    obtain ⟨e1, e2⟩ := htr.ok (feed_seq HE.out)
    have ha1 := Arr.of_own Splt.cells_len ho1
    have ha2 := Arr.of_own Drp.cells_len ho2
    obtain ⟨s1, k1, rfl⟩ := own_slice' ho1
    obtain ⟨s2, k2, rfl⟩ := own_slice' ho2
    have b0 := hbx.cell 0 _ rfl
    have b1 := hbx.cell 1 _ rfl
    have HX := Lib.hid (And.intro hbx (And.intro ha1 (And.intro ha2 (And.intro e1 e2))))
    have HO := Lib.hid (And.intro ho1 ho2)
    clear hbx ho1 ho2 htr ha1 ha2 e1 e2
    go_wp2_with fail
    refine (checkTree_any _ _ xs ys _ (by exact HX.out.2.1) (by exact HX.out.2.2.1)).mono ?_
    rintro e w3 ⟨rfl, hb3⟩
    have hr3 := HR2.out.below hb3 HR2.out.lt
    have hx3 := HX.out.1.below hb3 HX.out.1.lt
    have H3 := Lib.hid (And.intro (HX.out.2.1.below hb3) (And.intro (HX.out.2.2.1.below hb3) (below_at (below_at H1.out.1 HI2.out.be H1.out.1.size) hb3 (by have := H1.out.1.size; have := HI2.out.be.size; omega))))
    have o1 := own_below HO.out.1 hb3
    have o2 := own_below HO.out.2 hb3
    have HO3 := Lib.hid (And.intro o1 (And.intro o2 (And.intro (own_neM o1 hr3 (by decide)) (own_neM o2 hr3 (by decide)))))
    clear o1 o2
    have z0 := hr3.cell 0 _ rfl
    have z1 := hr3.cell 1 _ rfl
    have zf := fun o => hr3.free o
    have b0 := hx3.cell 0 _ rfl
    have b1 := hx3.cell 1 _ rfl
    clear hb3 hr3 hx3
    obtain ⟨F, hF⟩ : ∃ F, F = treeF xs ys := ⟨_, rfl⟩
    have HF := Lib.hid hF
    rw [← hF]
    clear hF
    have HT : Hid (treeRead text.data.toList = if F ≠ 0 then ([], [], 0, F) else (xs, ys, 0, 0)) := by
      show _ = _
      unfold treeRead
      rw [if_neg HL.out, ← eachP_eq, HE.out, if_neg (by simp)]
      simp only
      rw [← HX.out.2.2.2.1, ← HX.out.2.2.2.2, ← HF.out]
    by_cases h0 : F = 0
    · subst h0
      have HR := HT.out
      rw [if_neg (by simp)] at HR
      have HR2 := Lib.hid HR
      clear HR
      go_wp2
      refine bodyPost_ret (v := .tuple #[.agg #[.slice s1 xs.length k1, .slice s2 ys.length k2], .int .i64 0, .int .i64 0]) ?_ rfl ⟨_, _, xs, ys, _, _, rfl, HR2.out, ?_, ?_, ?_⟩
      · simp [results, go_sem, z0, z1]
      · exact Arr.of_own Splt.cells_len (World.ownsRow.kept (row := some w.heap.size) HO3.out.1 (grown_setCells w.heap.size [.slice s1 xs.length k1, .slice s2 ys.length k2] 0 w3) (.inr HO3.out.2.2.1))
      · exact Arr.of_own Drp.cells_len (World.ownsRow.kept (row := some w.heap.size) HO3.out.2.1 (grown_setCells w.heap.size [.slice s1 xs.length k1, .slice s2 ys.length k2] 0 w3) (.inr HO3.out.2.2.2))
      · have := H3.out.2.2; (repeat (first | exact Below.refl _ _ | assumption | refine below_draws ?_ _ | refine Below.drew ?_ | refine below_alloc ?_ _ (by first | omega | (simp; done) | (simp; omega)) | refine Below.setCell ?_ (by first | omega | (simp; done) | (simp; omega)) _ | refine below_at ?_ (by assumption) (by first | omega | (simp; done) | (simp; omega))))
    · have h1 : (F != 0) = true := by simpa using h0
      have HR := HT.out
      rw [if_pos h0] at HR
      have HR2 := Lib.hid HR
      clear HR h0
      go_wp2
      refine bodyPost_ret (v := .tuple #[.agg #[.slice none 0 0, .slice none 0 0], .int .i64 0, .int .i64 F]) ?_ rfl ⟨_, _, _, _, _, _, rfl, HR2.out, Arr.nil _ _ _, Arr.nil _ _ _, ?_⟩
      · simp [results, go_sem, z0, z1]
      · have := H3.out.2.2; (repeat (first | exact Below.refl _ _ | assumption | refine below_draws ?_ _ | refine Below.drew ?_ | refine below_alloc ?_ _ (by first | omega | (simp; done) | (simp; omega)) | refine Below.setCell ?_ (by first | omega | (simp; done) | (simp; omega)) _ | refine below_at ?_ (by assumption) (by first | omega | (simp; done) | (simp; omega))))
end Go.Proofs.YteliiknlpfjlkaaGreatDoor
