/- Walks of the stream: a text that is changed at one byte; a text of parts, or nearly one. -/
import Derived.Test.YteliiknlpfjlkaaGreatDoorTxAll
import Derived.Test.YteliiknlpfjlkaaGreatDoorStream2
import Derived.Test.YteliiknlpfjlkaaGreatDoorKeepA
set_option linter.unusedVariables false
set_option linter.unusedSimpArgs false
namespace Go.Proofs.YteliiknlpfjlkaaGreatDoor
open Go Go.RowKit

/-- a string of at most so many bytes -/
def StrLe (n : Nat) (v : Value) (_ : World) : Prop := ∃ t : ByteArray, v = .string t ∧ t.size ≤ n
theorem enc_size (z : Int) : (Utf8.encode z).size ≤ 4 := by
  unfold Utf8.encode
  dsimp only
  repeat' split
  all_goals (show Array.size _ ≤ 4; simp)
set_option maxHeartbeats 2000000 in
set_option maxRecDepth 100000 in
theorem changed_any (s m : Nat) (t w' : ByteArray) (w : World) (h : Strm w s m) (hm : m ≤ 1000000) (ht : t.size ≤ 100000) (hw : w'.size ≤ 100) : Calls Tryz.prog 61 #[.pointer (some ⟨s, 0, none⟩), .string t, .string w'] w
    (Draw (StrLe (t.size + w'.size + 4)) s m 3 w) := by
  have HS := Lib.hid h
  clear h
  by_cases h0 : t.size = 0
  · have hE : t.toList.isEmpty = true := by rw [isEmpty_size]; simp [h0]
    clear h0
    go_enter Tryz.func61, Tryz.ntmps61
    go_wp2
    go_ret
    exact ⟨_, rfl, ⟨w', rfl, by omega⟩, HS.out.mono (by omega), grown_below _ (Below.refl _ _)⟩
  have hE : t.toList.isEmpty = false := by rw [isEmpty_size]; simp [h0]
  by_cases h1 : w'.size = 0
  · have hF : w'.toList.isEmpty = true := by rw [isEmpty_size]; simp [h1]
    clear h0 h1
    go_enter Tryz.func61, Tryz.ntmps61
    go_wp2
    go_ret
    exact ⟨_, rfl, ⟨w', rfl, by omega⟩, HS.out.mono (by omega), grown_below _ (Below.refl _ _)⟩
  have hF : w'.toList.isEmpty = false := by rw [isEmpty_size]; simp [h1]
  go_enter Tryz.func61, Tryz.ntmps61
  go_wp2_with fail
  refine (next_any s m _ _ HS.out (by omega) (by omega) (by omega)).mono ?_
  rintro e w1 ⟨v, rfl, ⟨r, rfl, z0, z1⟩, hs1, hg1⟩
  obtain ⟨i, rfl⟩ := Int.eq_ofNat_of_zero_le z0
  have hil : i < t.size := by omega
  have hile : i ≤ t.size := by omega
  have hil1 : i + 1 ≤ t.size := by omega
  have hwi : IntKind.i64.wrap ((i : Int) + 1) = (i : Int) + 1 := IntWalk.i64_in _ (by omega)
  have hi1 : (0 : Int) ≤ (i : Int) + 1 := by omega
  have hi2 : (i : Int) + 1 ≤ (t.size : Int) := by omega
  have hi3 : ((i : Int) + 1).toNat = i + 1 := by omega
  have hi4 : (i : Int) ≤ (t.size : Int) := by omega
  have H1 := Lib.hid (And.intro hs1 hg1)
  clear hs1 hg1
  go_wp2_with fail
  refine (next_any s (m + 1) _ _ H1.out.1 (by omega) (by omega) (by omega)).mono ?_
  rintro e w2 ⟨v, rfl, ⟨r, rfl, y0, y1⟩, hs2, hg2⟩
  obtain ⟨j, rfl⟩ := Int.eq_ofNat_of_zero_le y0
  have hjl : j < w'.size := by omega
  have H2 := Lib.hid (And.intro hs2 (grown_trans H1.out.2 hg2))
  clear hs2 hg2
  go_wp2_with fail
  refine (next_any s (m + 2) _ _ H2.out.1 (by omega) (by omega) (by omega)).mono ?_
  rintro e w3 ⟨v, rfl, ⟨r, rfl, x0, x1⟩, hs3, hg3⟩
  have H3 := Lib.hid (And.intro hs3 (grown_trans H2.out.2 hg3))
  clear hs3 hg3
  rcases (show r = 0 ∨ r = 1 ∨ r = 2 by omega) with rfl | rfl | rfl
  · go_wp2_with fail
    refine WalkT.start (fun _ => True) [] (by kernel_rfl) ?_
    (refine WalkT.quiet (i := 0) (v := ?_) rfl (by kernel_rfl) (by kernel_rfl) (by kernel_rfl) (fun _ _ _ h => h) (Or.inl ⟨by rfl, ?_⟩) ?_; rotate_left; (· (intro wS hSw; (try dsimp only at hSw); go_simp; try with_reducible rfl)); try simp only [Act.put, List.setIfInBounds_toArray, List.set_cons_zero, List.set_cons_succ, List.getElem_toArray, List.getElem_cons_succ, List.getElem_cons_zero])
    (refine WalkT.quiet (i := 1) (v := ?_) rfl (by kernel_rfl) (by kernel_rfl) (by kernel_rfl) (fun _ _ _ h => h) (Or.inl ⟨by rfl, ?_⟩) ?_; rotate_left; (· (intro wS hSw; (try dsimp only at hSw); go_simp; try with_reducible rfl)); try simp only [Act.put, List.setIfInBounds_toArray, List.set_cons_zero, List.set_cons_succ, List.getElem_toArray, List.getElem_cons_succ, List.getElem_cons_zero])
    (refine WalkT.quiet (i := 2) (v := ?_) rfl (by kernel_rfl) (by kernel_rfl) (by kernel_rfl) (fun _ _ _ h => h) (Or.inl ⟨by rfl, ?_⟩) ?_; rotate_left; (· (intro wS hSw; (try dsimp only at hSw); go_simp; try with_reducible rfl)); try simp only [Act.put, List.setIfInBounds_toArray, List.set_cons_zero, List.set_cons_succ, List.getElem_toArray, List.getElem_cons_succ, List.getElem_cons_zero])
    (refine WalkT.quiet (i := 3) (v := ?_) rfl (by kernel_rfl) (by kernel_rfl) (by kernel_rfl) (fun _ _ _ h => h) (Or.inl ⟨by rfl, ?_⟩) ?_; rotate_left; (· (intro wS hSw; (try dsimp only at hSw); go_simp; try with_reducible rfl)); try simp only [Act.put, List.setIfInBounds_toArray, List.set_cons_zero, List.set_cons_succ, List.getElem_toArray, List.getElem_cons_succ, List.getElem_cons_zero])
    (refine WalkT.quiet (i := 4) (v := ?_) rfl (by kernel_rfl) (by kernel_rfl) (by kernel_rfl) (fun _ _ _ h => h) (Or.inl ⟨by rfl, ?_⟩) ?_; rotate_left; (· (intro wS hSw; (try dsimp only at hSw); go_simp; try with_reducible rfl)); try simp only [Act.put, List.setIfInBounds_toArray, List.set_cons_zero, List.set_cons_succ, List.getElem_toArray, List.getElem_cons_succ, List.getElem_cons_zero])
    (refine WalkT.quiet (i := 5) (v := ?_) rfl (by kernel_rfl) (by kernel_rfl) (by kernel_rfl) (fun _ _ _ h => h) (Or.inl ⟨by rfl, ?_⟩) ?_; rotate_left; (· (intro wS hSw; (try dsimp only at hSw); go_simp; try with_reducible rfl)); try simp only [Act.put, List.setIfInBounds_toArray, List.set_cons_zero, List.set_cons_succ, List.getElem_toArray, List.getElem_cons_succ, List.getElem_cons_zero])
    (obtain ⟨E, hE'⟩ : ∃ E, E = Utf8.encode (IntKind.i32.wrap (w'[j].toNat : Int)) := ⟨_, rfl⟩; have hEs : E.size ≤ 4 := (by rw [hE']; exact enc_size _); rw [← hE']; clear hE')
    (obtain ⟨A, hA⟩ : ∃ A, A = t.extract 0 i := ⟨_, rfl⟩; have hAs : A.size ≤ i := (by rw [hA, ByteArray.size_extract]; omega); rw [← hA]; clear hA)
    have a1 : ¬ 9223372036854775807 < A.size + E.size := by omega
    (refine WalkT.quiet (i := 6) (v := ?_) rfl (by kernel_rfl) (by kernel_rfl) (by kernel_rfl) (fun _ _ _ h => h) (Or.inl ⟨by rfl, ?_⟩) ?_; rotate_left; (· (intro wS hSw; (try dsimp only at hSw); go_simp; try with_reducible rfl)); try simp only [Act.put, List.setIfInBounds_toArray, List.set_cons_zero, List.set_cons_succ, List.getElem_toArray, List.getElem_cons_succ, List.getElem_cons_zero])
    (obtain ⟨B, hB⟩ : ∃ B, B = A ++ E := ⟨_, rfl⟩; have hBs : B.size ≤ i + 4 := (by rw [hB, ByteArray.size_append]; omega); rw [← hB]; clear hB a1)
    (refine WalkT.quiet (i := 7) (v := ?_) rfl (by kernel_rfl) (by kernel_rfl) (by kernel_rfl) (fun _ _ _ h => h) (Or.inl ⟨by rfl, ?_⟩) ?_; rotate_left; (· (intro wS hSw; (try dsimp only at hSw); go_simp; try with_reducible rfl)); try simp only [Act.put, List.setIfInBounds_toArray, List.set_cons_zero, List.set_cons_succ, List.getElem_toArray, List.getElem_cons_succ, List.getElem_cons_zero])
    (refine WalkT.quiet (i := 8) (v := ?_) rfl (by kernel_rfl) (by kernel_rfl) (by kernel_rfl) (fun _ _ _ h => h) (Or.inl ⟨by rfl, ?_⟩) ?_; rotate_left; (· (intro wS hSw; (try dsimp only at hSw); go_simp; try with_reducible rfl)); try simp only [Act.put, List.setIfInBounds_toArray, List.set_cons_zero, List.set_cons_succ, List.getElem_toArray, List.getElem_cons_succ, List.getElem_cons_zero])
    (refine WalkT.quiet (i := 9) (v := ?_) rfl (by kernel_rfl) (by kernel_rfl) (by kernel_rfl) (fun _ _ _ h => h) (Or.inl ⟨by rfl, ?_⟩) ?_; rotate_left; (· (intro wS hSw; (try dsimp only at hSw); go_simp; try with_reducible rfl)); try simp only [Act.put, List.setIfInBounds_toArray, List.set_cons_zero, List.set_cons_succ, List.getElem_toArray, List.getElem_cons_succ, List.getElem_cons_zero])
    (refine WalkT.quiet (i := 10) (v := ?_) rfl (by kernel_rfl) (by kernel_rfl) (by kernel_rfl) (fun _ _ _ h => h) (Or.inl ⟨by rfl, ?_⟩) ?_; rotate_left; (· (intro wS hSw; (try dsimp only at hSw); go_simp; try with_reducible rfl)); try simp only [Act.put, List.setIfInBounds_toArray, List.set_cons_zero, List.set_cons_succ, List.getElem_toArray, List.getElem_cons_succ, List.getElem_cons_zero])
    (obtain ⟨C, hC⟩ : ∃ C, C = t.extract (i + 1) t.size := ⟨_, rfl⟩; have hCs : C.size ≤ t.size - (i + 1) := (by rw [hC, ByteArray.size_extract]; omega); rw [← hC]; clear hC)
    have a2 : ¬ 9223372036854775807 < B.size + C.size := by omega
    (refine WalkT.quiet (i := 11) (v := ?_) rfl (by kernel_rfl) (by kernel_rfl) (by kernel_rfl) (fun _ _ _ h => h) (Or.inl ⟨by rfl, ?_⟩) ?_; rotate_left; (· (intro wS hSw; (try dsimp only at hSw); go_simp; try with_reducible rfl)); try simp only [Act.put, List.setIfInBounds_toArray, List.set_cons_zero, List.set_cons_succ, List.getElem_toArray, List.getElem_cons_succ, List.getElem_cons_zero])
    (refine WalkT.quiet (i := 12) (v := ?_) rfl (by kernel_rfl) (by kernel_rfl) (by kernel_rfl) (fun _ _ _ h => h) (Or.inl ⟨by rfl, ?_⟩) ?_; rotate_left; (· (intro wS hSw; (try dsimp only at hSw); go_simp; try with_reducible rfl)); try simp only [Act.put, List.setIfInBounds_toArray, List.set_cons_zero, List.set_cons_succ, List.getElem_toArray, List.getElem_cons_succ, List.getElem_cons_zero])
    refine WalkT.done (by kernel_rfl) ?_
    go_wp2
    go_ret
    exact ⟨_, rfl, ⟨B ++ C, rfl, by rw [ByteArray.size_append]; omega⟩, H3.out.1, grown_drew H3.out.2⟩
  · go_wp2_with fail
    refine WalkT.start (fun _ => True) [] (by kernel_rfl) ?_
    (refine WalkT.quiet (i := 0) (v := ?_) rfl (by kernel_rfl) (by kernel_rfl) (by kernel_rfl) (fun _ _ _ h => h) (Or.inl ⟨by rfl, ?_⟩) ?_; rotate_left; (· (intro wS hSw; (try dsimp only at hSw); go_simp; try with_reducible rfl)); try simp only [Act.put, List.setIfInBounds_toArray, List.set_cons_zero, List.set_cons_succ, List.getElem_toArray, List.getElem_cons_succ, List.getElem_cons_zero])
    (refine WalkT.quiet (i := 1) (v := ?_) rfl (by kernel_rfl) (by kernel_rfl) (by kernel_rfl) (fun _ _ _ h => h) (Or.inl ⟨by rfl, ?_⟩) ?_; rotate_left; (· (intro wS hSw; (try dsimp only at hSw); go_simp; try with_reducible rfl)); try simp only [Act.put, List.setIfInBounds_toArray, List.set_cons_zero, List.set_cons_succ, List.getElem_toArray, List.getElem_cons_succ, List.getElem_cons_zero])
    (refine WalkT.quiet (i := 2) (v := ?_) rfl (by kernel_rfl) (by kernel_rfl) (by kernel_rfl) (fun _ _ _ h => h) (Or.inl ⟨by rfl, ?_⟩) ?_; rotate_left; (· (intro wS hSw; (try dsimp only at hSw); go_simp; try with_reducible rfl)); try simp only [Act.put, List.setIfInBounds_toArray, List.set_cons_zero, List.set_cons_succ, List.getElem_toArray, List.getElem_cons_succ, List.getElem_cons_zero])
    (refine WalkT.quiet (i := 3) (v := ?_) rfl (by kernel_rfl) (by kernel_rfl) (by kernel_rfl) (fun _ _ _ h => h) (Or.inl ⟨by rfl, ?_⟩) ?_; rotate_left; (· (intro wS hSw; (try dsimp only at hSw); go_simp; try with_reducible rfl)); try simp only [Act.put, List.setIfInBounds_toArray, List.set_cons_zero, List.set_cons_succ, List.getElem_toArray, List.getElem_cons_succ, List.getElem_cons_zero])
    (refine WalkT.quiet (i := 4) (v := ?_) rfl (by kernel_rfl) (by kernel_rfl) (by kernel_rfl) (fun _ _ _ h => h) (Or.inl ⟨by rfl, ?_⟩) ?_; rotate_left; (· (intro wS hSw; (try dsimp only at hSw); go_simp; try with_reducible rfl)); try simp only [Act.put, List.setIfInBounds_toArray, List.set_cons_zero, List.set_cons_succ, List.getElem_toArray, List.getElem_cons_succ, List.getElem_cons_zero])
    (refine WalkT.quiet (i := 5) (v := ?_) rfl (by kernel_rfl) (by kernel_rfl) (by kernel_rfl) (fun _ _ _ h => h) (Or.inl ⟨by rfl, ?_⟩) ?_; rotate_left; (· (intro wS hSw; (try dsimp only at hSw); go_simp; try with_reducible rfl)); try simp only [Act.put, List.setIfInBounds_toArray, List.set_cons_zero, List.set_cons_succ, List.getElem_toArray, List.getElem_cons_succ, List.getElem_cons_zero])
    (obtain ⟨E, hE'⟩ : ∃ E, E = Utf8.encode (IntKind.i32.wrap (w'[j].toNat : Int)) := ⟨_, rfl⟩; have hEs : E.size ≤ 4 := (by rw [hE']; exact enc_size _); rw [← hE']; clear hE')
    (obtain ⟨A, hA⟩ : ∃ A, A = t.extract 0 i := ⟨_, rfl⟩; have hAs : A.size ≤ i := (by rw [hA, ByteArray.size_extract]; omega); rw [← hA]; clear hA)
    have a1 : ¬ 9223372036854775807 < A.size + E.size := by omega
    (refine WalkT.quiet (i := 6) (v := ?_) rfl (by kernel_rfl) (by kernel_rfl) (by kernel_rfl) (fun _ _ _ h => h) (Or.inl ⟨by rfl, ?_⟩) ?_; rotate_left; (· (intro wS hSw; (try dsimp only at hSw); go_simp; try with_reducible rfl)); try simp only [Act.put, List.setIfInBounds_toArray, List.set_cons_zero, List.set_cons_succ, List.getElem_toArray, List.getElem_cons_succ, List.getElem_cons_zero])
    (obtain ⟨B, hB⟩ : ∃ B, B = A ++ E := ⟨_, rfl⟩; have hBs : B.size ≤ i + 4 := (by rw [hB, ByteArray.size_append]; omega); rw [← hB]; clear hB a1)
    (refine WalkT.quiet (i := 7) (v := ?_) rfl (by kernel_rfl) (by kernel_rfl) (by kernel_rfl) (fun _ _ _ h => h) (Or.inl ⟨by rfl, ?_⟩) ?_; rotate_left; (· (intro wS hSw; (try dsimp only at hSw); go_simp; try with_reducible rfl)); try simp only [Act.put, List.setIfInBounds_toArray, List.set_cons_zero, List.set_cons_succ, List.getElem_toArray, List.getElem_cons_succ, List.getElem_cons_zero])
    (refine WalkT.quiet (i := 8) (v := ?_) rfl (by kernel_rfl) (by kernel_rfl) (by kernel_rfl) (fun _ _ _ h => h) (Or.inl ⟨by rfl, ?_⟩) ?_; rotate_left; (· (intro wS hSw; (try dsimp only at hSw); go_simp; try with_reducible rfl)); try simp only [Act.put, List.setIfInBounds_toArray, List.set_cons_zero, List.set_cons_succ, List.getElem_toArray, List.getElem_cons_succ, List.getElem_cons_zero])
    (refine WalkT.quiet (i := 9) (v := ?_) rfl (by kernel_rfl) (by kernel_rfl) (by kernel_rfl) (fun _ _ _ h => h) (Or.inl ⟨by rfl, ?_⟩) ?_; rotate_left; (· (intro wS hSw; (try dsimp only at hSw); go_simp; try with_reducible rfl)); try simp only [Act.put, List.setIfInBounds_toArray, List.set_cons_zero, List.set_cons_succ, List.getElem_toArray, List.getElem_cons_succ, List.getElem_cons_zero])
    (obtain ⟨C, hC⟩ : ∃ C, C = t.extract i t.size := ⟨_, rfl⟩; have hCs : C.size ≤ t.size - i := (by rw [hC, ByteArray.size_extract]; omega); rw [← hC]; clear hC)
    have a2 : ¬ 9223372036854775807 < B.size + C.size := by omega
    (refine WalkT.quiet (i := 10) (v := ?_) rfl (by kernel_rfl) (by kernel_rfl) (by kernel_rfl) (fun _ _ _ h => h) (Or.inl ⟨by rfl, ?_⟩) ?_; rotate_left; (· (intro wS hSw; (try dsimp only at hSw); go_simp; try with_reducible rfl)); try simp only [Act.put, List.setIfInBounds_toArray, List.set_cons_zero, List.set_cons_succ, List.getElem_toArray, List.getElem_cons_succ, List.getElem_cons_zero])
    (refine WalkT.quiet (i := 11) (v := ?_) rfl (by kernel_rfl) (by kernel_rfl) (by kernel_rfl) (fun _ _ _ h => h) (Or.inl ⟨by rfl, ?_⟩) ?_; rotate_left; (· (intro wS hSw; (try dsimp only at hSw); go_simp; try with_reducible rfl)); try simp only [Act.put, List.setIfInBounds_toArray, List.set_cons_zero, List.set_cons_succ, List.getElem_toArray, List.getElem_cons_succ, List.getElem_cons_zero])
    refine WalkT.done (by kernel_rfl) ?_
    go_wp2
    go_ret
    exact ⟨_, rfl, ⟨B ++ C, rfl, by rw [ByteArray.size_append]; omega⟩, H3.out.1, grown_drew H3.out.2⟩
  · go_wp2_with fail
    refine WalkT.start (fun _ => True) [] (by kernel_rfl) ?_
    (refine WalkT.quiet (i := 0) (v := ?_) rfl (by kernel_rfl) (by kernel_rfl) (by kernel_rfl) (fun _ _ _ h => h) (Or.inl ⟨by rfl, ?_⟩) ?_; rotate_left; (· (intro wS hSw; (try dsimp only at hSw); go_simp; try with_reducible rfl)); try simp only [Act.put, List.setIfInBounds_toArray, List.set_cons_zero, List.set_cons_succ, List.getElem_toArray, List.getElem_cons_succ, List.getElem_cons_zero])
    (refine WalkT.quiet (i := 1) (v := ?_) rfl (by kernel_rfl) (by kernel_rfl) (by kernel_rfl) (fun _ _ _ h => h) (Or.inl ⟨by rfl, ?_⟩) ?_; rotate_left; (· (intro wS hSw; (try dsimp only at hSw); go_simp; try with_reducible rfl)); try simp only [Act.put, List.setIfInBounds_toArray, List.set_cons_zero, List.set_cons_succ, List.getElem_toArray, List.getElem_cons_succ, List.getElem_cons_zero])
    (refine WalkT.quiet (i := 2) (v := ?_) rfl (by kernel_rfl) (by kernel_rfl) (by kernel_rfl) (fun _ _ _ h => h) (Or.inl ⟨by rfl, ?_⟩) ?_; rotate_left; (· (intro wS hSw; (try dsimp only at hSw); go_simp; try with_reducible rfl)); try simp only [Act.put, List.setIfInBounds_toArray, List.set_cons_zero, List.set_cons_succ, List.getElem_toArray, List.getElem_cons_succ, List.getElem_cons_zero])
    (obtain ⟨A, hA⟩ : ∃ A, A = t.extract 0 i := ⟨_, rfl⟩; have hAs : A.size ≤ i := (by rw [hA, ByteArray.size_extract]; omega); rw [← hA]; clear hA)
    (refine WalkT.quiet (i := 3) (v := ?_) rfl (by kernel_rfl) (by kernel_rfl) (by kernel_rfl) (fun _ _ _ h => h) (Or.inl ⟨by rfl, ?_⟩) ?_; rotate_left; (· (intro wS hSw; (try dsimp only at hSw); go_simp; try with_reducible rfl)); try simp only [Act.put, List.setIfInBounds_toArray, List.set_cons_zero, List.set_cons_succ, List.getElem_toArray, List.getElem_cons_succ, List.getElem_cons_zero])
    (refine WalkT.quiet (i := 4) (v := ?_) rfl (by kernel_rfl) (by kernel_rfl) (by kernel_rfl) (fun _ _ _ h => h) (Or.inl ⟨by rfl, ?_⟩) ?_; rotate_left; (· (intro wS hSw; (try dsimp only at hSw); go_simp; try with_reducible rfl)); try simp only [Act.put, List.setIfInBounds_toArray, List.set_cons_zero, List.set_cons_succ, List.getElem_toArray, List.getElem_cons_succ, List.getElem_cons_zero])
    (refine WalkT.quiet (i := 5) (v := ?_) rfl (by kernel_rfl) (by kernel_rfl) (by kernel_rfl) (fun _ _ _ h => h) (Or.inl ⟨by rfl, ?_⟩) ?_; rotate_left; (· (intro wS hSw; (try dsimp only at hSw); go_simp; try with_reducible rfl)); try simp only [Act.put, List.setIfInBounds_toArray, List.set_cons_zero, List.set_cons_succ, List.getElem_toArray, List.getElem_cons_succ, List.getElem_cons_zero])
    (refine WalkT.quiet (i := 6) (v := ?_) rfl (by kernel_rfl) (by kernel_rfl) (by kernel_rfl) (fun _ _ _ h => h) (Or.inl ⟨by rfl, ?_⟩) ?_; rotate_left; (· (intro wS hSw; (try dsimp only at hSw); go_simp; try with_reducible rfl)); try simp only [Act.put, List.setIfInBounds_toArray, List.set_cons_zero, List.set_cons_succ, List.getElem_toArray, List.getElem_cons_succ, List.getElem_cons_zero])
    (obtain ⟨C, hC⟩ : ∃ C, C = t.extract (i + 1) t.size := ⟨_, rfl⟩; have hCs : C.size ≤ t.size - (i + 1) := (by rw [hC, ByteArray.size_extract]; omega); rw [← hC]; clear hC)
    have a2 : ¬ 9223372036854775807 < A.size + C.size := by omega
    (refine WalkT.quiet (i := 7) (v := ?_) rfl (by kernel_rfl) (by kernel_rfl) (by kernel_rfl) (fun _ _ _ h => h) (Or.inl ⟨by rfl, ?_⟩) ?_; rotate_left; (· (intro wS hSw; (try dsimp only at hSw); go_simp; try with_reducible rfl)); try simp only [Act.put, List.setIfInBounds_toArray, List.set_cons_zero, List.set_cons_succ, List.getElem_toArray, List.getElem_cons_succ, List.getElem_cons_zero])
    (refine WalkT.quiet (i := 8) (v := ?_) rfl (by kernel_rfl) (by kernel_rfl) (by kernel_rfl) (fun _ _ _ h => h) (Or.inl ⟨by rfl, ?_⟩) ?_; rotate_left; (· (intro wS hSw; (try dsimp only at hSw); go_simp; try with_reducible rfl)); try simp only [Act.put, List.setIfInBounds_toArray, List.set_cons_zero, List.set_cons_succ, List.getElem_toArray, List.getElem_cons_succ, List.getElem_cons_zero])
    refine WalkT.done (by kernel_rfl) ?_
    go_wp2
    go_ret
    exact ⟨_, rfl, ⟨A ++ C, rfl, by rw [ByteArray.size_append]; omega⟩, H3.out.1, grown_drew H3.out.2⟩
set_option maxHeartbeats 2000000 in
set_option maxRecDepth 100000 in
theorem partString_any (s m : Nat) (w : World) (h : Strm w s m) (hm : m ≤ 40000) (ht : Tab10 w) (hlow : ∀ w', w.grownBy w' (some s) → Tab10 w') : Calls Tryz.prog 24 #[.pointer (some ⟨s, 0, none⟩)] w
    (Draw (StrLe 1000) s m 6100 w) := by
  have hl := h.lt
  have HL := Lib.hid hlow
  clear ht hlow
  go_enter Tryz.func24, Tryz.ntmps24
  go_wp2_with fail
  refine (rightParts_any s m 4 _ h (by omega) (by omega)).mono ?_
  rintro e w1 ⟨v, rfl, ⟨l, hl4, hf, hA, -⟩, hs1, hg1⟩
  have H1 := Lib.hid (And.intro hs1 hg1)
  have hlen := text_len (parts_each hf).2
  clear hs1 hg1
  go_wp2_with fail
  refine (partLines_any _ l _ hA (HL.out _ H1.out.2) hf).mono ?_
  rintro e w2 ⟨rfl, hb2⟩
  have H2 := Lib.hid (And.intro (H1.out.1.below hb2 (Nat.le_refl _)) (grown_trans H1.out.2 (grown_below (some s) hb2)))
  obtain ⟨T, hT⟩ : ∃ T, T = bA (partsText l) := ⟨_, rfl⟩
  have hTs : T.size ≤ 110 := by rw [hT, size_bA]; omega
  rw [← hT]
  clear hT hb2 hA hf hlen
  go_wp2_with fail
  refine (pick_lit s _ [0, 0, 1, 2] _ H2.out.1 (by omega) (by simp) (by simp) (by first | rfl | simp) (by rfl) (by rfl)).mono ?_
  rintro e w3 ⟨v, rfl, ⟨r, rfl, hr⟩, hs3, hg3⟩
  have hrr : 0 ≤ r ∧ r ≤ 2 := by simp only [List.mem_cons, List.not_mem_nil, or_false] at hr; omega
  obtain ⟨n, rfl⟩ := Int.eq_ofNat_of_zero_le hrr.1
  have hn : n ≤ 2 := by omega
  have H3 := Lib.hid (And.intro hs3 (grown_trans H2.out.2 hg3))
  clear hs3 hg3 hr hrr
  go_wp2
  go_loopw [3, 10] (fun tv i wr => ∃ (k : Nat) (t : ByteArray), k ≤ n ∧ i = .int .i64 k ∧ tv = .string t ∧ t.size ≤ 110 + 10 * k ∧ Strm wr s (m + 6001 + 3 * k) ∧ w.grownBy wr (some s)) (fun _ i _ => n - (intOf i).toNat)
  case atStart => exact ⟨0, T, by omega, rfl, rfl, by omega, H3.out.1.mono (by omega), H3.out.2⟩
  case round =>
    obtain ⟨k, t, hk, rfl, rfl, hts, hst, hgr⟩ := hrel
    have HR := Lib.hid (And.intro hst hgr)
    clear hst hgr
    by_cases hlt : k < n
    · go_wp2_with fail
      refine (changed_any s _ t ⟨#[32, 10, 48, 49, 102, 45]⟩ _ HR.out.1 (by omega) (by omega) (by decide)).mono ?_
      rintro e w4 ⟨v, rfl, ⟨t2, rfl, ht2⟩, hs4, hg4⟩
      have hsz : (⟨#[32, 10, 48, 49, 102, 45]⟩ : ByteArray).size = 6 := rfl
      have H4 := Lib.hid (And.intro hs4 (grown_trans HR.out.2 hg4))
      have ht3 : t2.size ≤ 110 + 10 * (k + 1) := by omega
      clear hs4 hg4 hsz ht2
      go_wp2
      exact ⟨⟨k + 1, t2, by omega, by go_num, rfl, ht3, H4.out.1.mono (by omega), H4.out.2⟩, by simp [intOf]; omega⟩
    · obtain rfl : k = n := by omega
      go_wp2
      go_ret
      exact ⟨_, rfl, ⟨t, rfl, by omega⟩, HR.out.1.mono (by omega), HR.out.2⟩
end Go.Proofs.YteliiknlpfjlkaaGreatDoor
