/- Texts of one subject in one: TxN, TxL, TxB, TxP, TxC, TxD, TxQ, TxR, TxT, TxS; what each shows stands at its head. No condition. -/
import Derived.Test.YteliiknlpfjlkaaGreatDoorTxPl
import Derived.Test.YteliiknlpfjlkaaGreatDoorAskAll
import Derived.Test.YteliiknlpfjlkaaGreatDoorKeysAll
import Derived.Test.YteliiknlpfjlkaaGreatDoorBase
import Derived.Deep.CutRange
import Derived.Test.YteliiknlpfjlkaaGreatDoorMemAll
import Derived.Test.YteliiknlpfjlkaaGreatDoorShelfB
import Derived.Shelf.Strings.Builder1
import Derived.Test.YteliiknlpfjlkaaGreatDoorOrders
import Derived.RegionTactic
import Derived.Test.YteliiknlpfjlkaaGreatDoorCatAll
import Derived.Test.YteliiknlpfjlkaaGreatDoorKeepA
import Derived.Test.YteliiknlpfjlkaaGreatDoorWalkAll
import Derived.Test.YteliiknlpfjlkaaGreatDoorRefBAll
/- Walks: the numbers of texts: the program's reading and the reference's. -/
set_option linter.unusedVariables false
set_option linter.unusedSimpArgs false
namespace Go.Proofs.YteliiknlpfjlkaaGreatDoor
open Go Go.RowKit

theorem trim_any (s : ByteArray) (w : World) : Calls Tryz.prog 103 #[.string s, .string ⟨#[45]⟩] w fun e w' => e = .returned (.string (bA (bare s.data.toList))) ∧ w' = w := Tryz.strings_TrimPrefix s ⟨#[45]⟩ w
section
variable {s D : ByteArray} {most : Nat}
theorem n_empty (hD : D.data.toList = bare s.data.toList) (h : D.size = 0) : numL most s.data.toList = none := by
  have e : bare s.data.toList = [] := by rw [← hD]; exact List.length_eq_zero_iff.1 (by rw [← Lib.size_eq]; exact h)
  unfold numL digsB
  rw [e]; simp
theorem n_long (hD : D.data.toList = bare s.data.toList) (h : most < D.size) : numL most s.data.toList = none := by
  have e : (bare s.data.toList).length = D.size := by rw [← hD, ← Lib.size_eq]
  unfold numL digsB
  rw [decide_eq_false (show ¬ (bare s.data.toList).length ≤ most by omega)]; simp
theorem n_zero (hD : D.data.toList = bare s.data.toList) (h0 : 0 < D.size) (h : D[0] = 48) (h2 : 1 < D.size ∨ D.size < s.size) : numL most s.data.toList = none := by
  obtain ⟨r, hr⟩ := head_of D h0
  have e : (bare s.data.toList).length = D.size := by rw [← hD, ← Lib.size_eq]
  have e2 : s.data.toList.length = s.size := (Lib.size_eq s).symm
  have e3 : (bare s.data.toList).head? = some 48 := by rw [← hD, hr, h]; rfl
  unfold numL canD
  rw [e3]
  rcases h2 with h2 | h2
  · rw [decide_eq_true (show 1 < (bare s.data.toList).length by omega)]; simp
  · rw [decide_eq_true (show (bare s.data.toList).length < s.data.toList.length by omega)]; simp
theorem n_bad (hD : D.data.toList = bare s.data.toList) (h : D.data.toList.all isDig = false) : numL most s.data.toList = none := by
  unfold numL digsB
  rw [← hD, h]; simp
theorem n_ok (hD : D.data.toList = bare s.data.toList) (h0 : 0 < D.size) (h1 : D.size ≤ most) (h2 : D[0] = 48 → D.size ≤ 1 ∧ s.size ≤ D.size) (h : D.data.toList.all isDig = true) : ∃ n, Lib.atoi s.data.toList = some n ∧ numL most s.data.toList = some n := by
  have e : (bare s.data.toList).length = D.size := by rw [← hD, ← Lib.size_eq]
  have e2 : s.data.toList.length = s.size := (Lib.size_eq s).symm
  have hd : digsB most s.data.toList = true := by
    unfold digsB
    rw [decide_eq_true (show (bare s.data.toList).length ≤ most by omega), ← hD, h]
    cases hl : D.data.toList with
    | nil => rw [hD] at hl; rw [hl] at e; simp at e; omega
    | cons _ _ => rfl
  obtain ⟨m, _, ha, _⟩ := atoi_digs hd
  refine ⟨_, ha, ?_⟩
  obtain ⟨r, hr⟩ := head_of D h0
  have e3 : (bare s.data.toList).head? = some D[0] := by rw [← hD, hr]; rfl
  unfold numL
  rw [hd, ← ha, if_pos]
  unfold canD
  rw [e3]
  by_cases h48 : D[0] = 48
  · obtain ⟨h3, h4⟩ := h2 h48
    rw [decide_eq_false (show ¬ 1 < (bare s.data.toList).length by omega), decide_eq_false (show ¬ (bare s.data.toList).length < s.data.toList.length by omega)]; simp
  · simp [h48]
end
theorem bare_le (s : List UInt8) : (bare s).length ≤ s.length ∧ s.length ≤ (bare s).length + 1 := by
  cases s with
  | nil => rw [bare_nil]; simp
  | cons b r =>
    by_cases h : b = 45
    · subst h; rw [bare_neg]; simp
    · rw [bare_pos h]; simp
theorem atoi_any (s : ByteArray) (n : Int) (hl : s.size ≤ 18) (h : Lib.atoi s.data.toList = some n) (w : World) : Calls Tryz.prog 105 #[.string s] w fun e w' => e = .returned (.tuple #[.int .i64 n, .nilIface]) ∧ Below w.heap.size w w' := by
  refine (Tryz.strconv_Atoi s n hl h w).mono ?_
  rintro e w' ⟨rfl, t, rfl⟩
  exact ⟨rfl, Go.Joins.below_bytesWorld _ _ _ _ (Nat.le_refl _)⟩
/-- a number, or none -/
def NumPost (most : Nat) (s : ByteArray) (w : World) (e : Ending) (w' : World) : Prop := e = .returned (.tuple #[.int .i64 ((numL most s.data.toList).getD 0), .bool (numL most s.data.toList).isSome]) ∧ Below w.heap.size w w'
theorem num_none {most : Nat} {s : ByteArray} {w w' : World} (h : numL most s.data.toList = none) (hb : Below w.heap.size w w') : NumPost most s w (.returned (.tuple #[.int .i64 0, .bool false])) w' := by
  unfold NumPost; rw [h]; exact ⟨rfl, hb⟩
theorem num_some {most : Nat} {s : ByteArray} {n : Int} {w w' : World} (h : numL most s.data.toList = some n) (hb : Below w.heap.size w w') : NumPost most s w (.returned (.tuple #[.int .i64 n, .bool true])) w' := by
  unfold NumPost; rw [h]; exact ⟨rfl, hb⟩
set_option maxHeartbeats 4000000 in
set_option maxRecDepth 100000 in
theorem number_any (s : ByteArray) (most : Nat) (hm : most ≤ 17) (w : World) (hs : s.size ≤ 1000000) : Calls Tryz.prog 101 #[.string s, .int .i64 most] w (NumPost most s w) := by
  obtain ⟨D, hD⟩ : ∃ D, D = bA (bare s.data.toList) := ⟨_, rfl⟩
  have hDd : D.data.toList = bare s.data.toList := by rw [hD]; rfl
  have HD := Lib.hid (And.intro hD hDd)
  have hDs : D.size ≤ s.size ∧ s.size ≤ D.size + 1 := by
    have := bare_le s.data.toList
    rw [← hDd, ← Lib.size_eq, ← Lib.size_eq] at this; exact this
  obtain ⟨hDs1, hDs2⟩ := hDs
  clear hD hDd
  by_cases h0 : D.size = 0
  · have hE : D.toList.isEmpty = true := by rw [isEmpty_size]; simp [h0]
    have HN := Lib.hid (n_empty (most := most) HD.out.2 h0)
    clear h0
    (go_enter Tryz.func101, Tryz.ntmps101; go_wp2_with (refine (trim_any s _).mono ?_; rintro e w' ⟨rfl, hw⟩; rw [hw, ← HD.out.1]; clear hw w'); go_ret2; exact num_none (HN.out) (Below.refl _ _))
  have hpos : 0 < D.size := by omega
  have hE : D.toList.isEmpty = false := by rw [isEmpty_size]; simp [h0]
  by_cases hlong : most < D.size
  · have HN := Lib.hid (n_long HD.out.2 hlong)
    clear h0
    (go_enter Tryz.func101, Tryz.ntmps101; go_wp2_with (refine (trim_any s _).mono ?_; rintro e w' ⟨rfl, hw⟩; rw [hw, ← HD.out.1]; clear hw w'); go_ret2; exact num_none (HN.out) (Below.refl _ _))
  have hlong' : ¬ (most : Int) < (D.size : Int) := by omega
  by_cases hz : D[0] = 48 ∧ (1 < D.size ∨ D.size < s.size)
  · obtain ⟨hz1, hz2⟩ := hz
    have HN := Lib.hid (n_zero (most := most) HD.out.2 hpos hz1 hz2)
    have hz3 : ((D[0].toNat : Int) == 48) = true := by rw [hz1]; rfl
    have HZ1 := Lib.hid hz1
    clear h0 hz1
    rcases Nat.lt_or_ge 1 D.size with h1 | h1
    · clear hz2
      (go_enter Tryz.func101, Tryz.ntmps101; go_wp2_with (refine (trim_any s _).mono ?_; rintro e w' ⟨rfl, hw⟩; rw [hw, ← HD.out.1]; clear hw w'); go_ret2; exact num_none (HN.out) (Below.refl _ _))
    · have h1' : ¬ (1 : Int) < (D.size : Int) := by omega
      have h2 : D.size < s.size := by omega
      clear hz2
      (go_enter Tryz.func101, Tryz.ntmps101; go_wp2_with (refine (trim_any s _).mono ?_; rintro e w' ⟨rfl, hw⟩; rw [hw, ← HD.out.1]; clear hw w'); go_ret2; exact num_none (HN.out) (Below.refl _ _))
  have HZ := Lib.hid hz
  clear hE h0
  have hE : D.toList.isEmpty = false := by rw [isEmpty_size]; exact decide_eq_false (by omega)
  go_enter Tryz.func101, Tryz.ntmps101
  go_upto_region 2 with ((refine (trim_any s _).mono ?_; rintro e w' ⟨rfl, hw⟩; rw [hw, ← HD.out.1]; clear hw w'))
  go_cut [36] from 12 to 36 (fun t wc => t = .bool false ∧ wc = w)
  case first =>
    by_cases h48 : D[0] = 48
    · have hz3 : ((D[0].toNat : Int) == 48) = true := by rw [h48]; rfl
      have h1 : ¬ (1 : Int) < (D.size : Int) := fun h => hz ⟨h48, .inl (by omega)⟩
      have h2 : ¬ (D.size : Int) < (s.size : Int) := fun h => hz ⟨h48, .inr (by omega)⟩
      clear h48 hz
      go_wp2
      go_meet
      exact ⟨rfl, rfl⟩
    · have hz3 : ((D[0].toNat : Int) == 48) = false := by
        rw [beq_eq_false_iff_ne]
        intro h
        exact h48 (byte_eq (n := 48) (by omega) (by decide))
      clear h48 hz
      go_wp2
      go_meet
      exact ⟨rfl, rfl⟩
  case rest =>
  obtain ⟨rfl, hw⟩ := hcut
  have hw := hw.symm
  subst hw
  clear hz
  go_wp2
  go_loop [39] (fun i => ∃ k : Nat, k ≤ D.size ∧ i = .int .i64 k ∧ (D.data.toList.take k).all isDig = true) (fun i => D.size - (intOf i).toNat)
  case atStart => exact ⟨0, by omega, rfl, by simp⟩
  case round =>
    obtain ⟨k, hk, rfl, hzk⟩ := hrel
    have HK := Lib.hid hzk
    clear hzk
    by_cases hlt : k < D.size
    · cases hc : isDig D[k]
      · have HB := Lib.hid (n_bad (most := most) HD.out.2 (all_hit D isDig k hlt hc))
        unfold isDig at hc
        rcases (show (D[k].toNat : Int) < 48 ∨ 57 < (D[k].toNat : Int) by simp at hc; omega) with q | q
        · clear hc
          go_wp2
          go_ret2
          exact num_none HB.out (Below.refl _ _)
        · have q2 : ¬ (D[k].toNat : Int) < 48 := by omega
          clear hc
          go_wp2
          go_ret2
          exact num_none HB.out (Below.refl _ _)
      · have HT := Lib.hid ((all_take_succ D isDig k hlt HK.out).trans hc)
        have hb := dig_bounds hc
        have q1 : ¬ (D[k].toNat : Int) < 48 := by omega
        have q2 : ¬ 57 < (D[k].toNat : Int) := by omega
        clear hc hb
        go_wp2
        exact ⟨⟨k + 1, by omega, by go_num, HT.out⟩, by simp [intOf]; omega⟩
    · obtain rfl : k = D.size := by omega
      have hall : D.data.toList.all isDig = true := by
        have := HK.out
        rwa [List.take_of_length_le (by rw [← Lib.size_eq]; exact Nat.le_refl _)] at this
      obtain ⟨n, ha, hn⟩ := n_ok (most := most) HD.out.2 hpos (by omega) (fun h => by
        have := HZ.out
        constructor
        · rcases Nat.lt_or_ge 1 D.size with h1 | h1
          · exact absurd ⟨h, .inl h1⟩ this
          · exact h1
        · rcases Nat.lt_or_ge D.size s.size with h1 | h1
          · exact absurd ⟨h, .inr h1⟩ this
          · exact h1) hall
      have HN := Lib.hid (And.intro ha hn)
      clear ha hn hall
      go_wp2_with fail
      refine (atoi_any s n (by omega) HN.out.1 _).mono ?_
      rintro e w2 ⟨rfl, hb2⟩
      have HB2 := Lib.hid hb2
      clear hb2
      go_wp2_with fail
      go_quiet (fail)
      go_wp2
      go_ret2
      exact num_some HN.out.2 (by have := HB2.out; (repeat (first | exact Below.refl _ _ | assumption | refine below_draws ?_ _ | refine Below.drew ?_ | refine below_alloc ?_ _ (by first | omega | (simp; done) | (simp; omega)) | refine Below.setCell ?_ (by first | omega | (simp; done) | (simp; omega)) _ | refine below_at ?_ (by assumption) (by first | omega | (simp; done) | (simp; omega)))))
end Go.Proofs.YteliiknlpfjlkaaGreatDoor
/- Walks: a string cut at a byte; the words of a line. -/
set_option linter.unusedVariables false
set_option linter.unusedSimpArgs false
namespace Go.Proofs.YteliiknlpfjlkaaGreatDoor
open Go Go.RowKit

/-- the library's variable of a length is an integer -/
def MaxL (w : World) : Prop := ∃ m, w.cell? ⟨0, 0, none⟩ = some (.int .i64 m)
theorem MaxL.below {w w' : World} (h : MaxL w) (hb : Below w.heap.size w w') : MaxL w' := by
  obtain ⟨m, hm⟩ := h
  exact ⟨m, (hb.cell (World.block_lt_of_cell? _ _ hm)).trans hm⟩
/-- the pieces of a string -/
def segB (c : UInt8) (s : ByteArray) : List ByteArray := (segs c s.data.toList).map bA
theorem splitB_eq (c : UInt8) (s : ByteArray) : Lib.splitB ⟨#[c]⟩ 0 (Lib.countB s ⟨#[c]⟩) s = segB c s ∧ (segB c s).length = Lib.countB s ⟨#[c]⟩ + 1 := by
  have h1 : Lib.splitB ⟨#[c]⟩ 0 (Lib.countB s ⟨#[c]⟩) s = segB c s := by
    unfold segB
    rw [← splitB_segs c s, List.map_map]
    have : (bA ∘ fun x : ByteArray => x.data.toList) = id := by funext x; exact bA_data x
    rw [this, List.map_id]
  exact ⟨h1, by rw [← h1]; exact Lib.splitB_all ⟨#[c]⟩ (Nat.le_refl _) 0 _ s rfl⟩
theorem split_any (s : ByteArray) (c : UInt8) (w : World) (hs : s.size ≤ 1000000) (hM : MaxL w) : Calls Tryz.prog 113 #[.string s, .string ⟨#[c]⟩] w
    fun e w' => e = .returned (.slice (some ⟨w.heap.size, 0, none⟩) (segB c s).length (segB c s).length) ∧ w' = w.alloc (.cells ((segB c s).map Value.string).toArray 9) := by
  obtain ⟨m, hm⟩ := hM
  refine (Tryz.strings_Split s ⟨#[c]⟩ m w (by omega) hm (Nat.le_refl _)).mono ?_
  rintro e w' ⟨rfl, rfl⟩
  obtain ⟨h1, h2⟩ := splitB_eq c s
  rw [h1, h2]
  exact ⟨rfl, rfl⟩
theorem segB_size {c : UInt8} {s : ByteArray} {x : ByteArray} (hx : x ∈ segB c s) : x.size ≤ s.size := by
  unfold segB at hx
  obtain ⟨l, hl, rfl⟩ := List.mem_map.1 hx
  rw [size_bA]
  have key : ∀ (t : List UInt8), ∀ l ∈ segs c t, l.length ≤ t.length := by
    intro t
    induction t with
    | nil => intro l hl; simp [segs] at hl; subst hl; simp
    | cons y t ih =>
      intro l hl
      unfold segs at hl
      split at hl
      · rcases List.mem_cons.1 hl with rfl | hl
        · simp
        · have := ih l hl; simp; omega
      · cases hr : segs c t with
        | nil => exact absurd hr (segs_ne c t)
        | cons g r =>
          rw [hr] at hl
          rcases List.mem_cons.1 hl with rfl | hl
          · have := ih g (by rw [hr]; simp); simp; omega
          · have := ih l (by rw [hr]; simp [hl]); simp; omega
  have := key _ l hl
  rw [Lib.size_eq]; exact this
theorem strs_cell {W : World} {b : Nat} {L : List ByteArray} {t : TypeId} (h : Blk W b (L.map Value.string).toArray t) (k : Nat) (hk : k < L.length) : W.cell? ⟨b, k, none⟩ = some (.string L[k]) :=
  h.cell k _ (by simp [List.getElem?_eq_getElem hk])
/-- words, as many as are asked, none of them empty -/
def goodW (many : Nat) (L : List ByteArray) : Prop := L.length = many ∧ ∀ x ∈ L, x.size ≠ 0
def WordsPost (line : ByteArray) (many : Nat) (w : World) (e : Ending) (w' : World) : Prop :=
  (goodW many (segB 32 line) ∧ e = .returned (.tuple #[.slice (some ⟨w.heap.size, 0, none⟩) (segB 32 line).length (segB 32 line).length, .bool true]) ∧ w' = w.alloc (.cells ((segB 32 line).map Value.string).toArray 9)) ∨
  (¬ goodW many (segB 32 line) ∧ e = .returned (.tuple #[.slice none 0 0, .bool false]) ∧ Below w.heap.size w w')
set_option maxHeartbeats 4000000 in
set_option maxRecDepth 100000 in
theorem words_any (line : ByteArray) (many : Nat) (w : World) (hs : line.size ≤ 1000000) (hm : many ≤ 1000) (hM : MaxL w) : Calls Tryz.prog 100 #[.string line, .int .i64 many] w (WordsPost line many w) := by
  have HM := Lib.hid hM
  have HBa : Hid (Below w.heap.size w (w.alloc (.cells ((segB 32 line).map Value.string).toArray 9))) := below_alloc (Below.refl _ _) _ (Nat.le_refl _)
  have hbk : Blk (w.alloc (.cells ((segB 32 line).map Value.string).toArray 9)) w.heap.size ((segB 32 line).map Value.string).toArray 9 := Blk.new _ _ _
  have HK := Lib.hid hbk
  clear hM hbk
  go_enter Tryz.func100, Tryz.ntmps100
  go_wp2_with fail
  refine (split_any line 32 _ hs HM.out).mono ?_
  rintro e w' ⟨rfl, hw⟩
  rw [hw]
  clear hw w'
  obtain ⟨w1, hw1⟩ : ∃ w1, w1 = w.alloc (.cells ((segB 32 line).map Value.string).toArray 9) := ⟨_, rfl⟩
  rw [← hw1] at HK HBa ⊢
  have HW1 := Lib.hid hw1
  clear hw1
  obtain ⟨L, hL⟩ : ∃ L, L = segB 32 line := ⟨_, rfl⟩
  rw [← hL] at HK ⊢
  have HL := Lib.hid hL
  clear hL
  by_cases hlen : L.length = many
  rotate_left
  · have hne : ((L.length : Int) != (many : Int)) = true := by simp; omega
    have HN : Hid (¬ goodW many L) := fun h => hlen h.1
    clear hlen
    go_wp2
    go_ret2
    unfold WordsPost; rw [← HL.out]; exact .inr ⟨HN.out, rfl, HBa.out⟩
  · have hne : ((L.length : Int) != (many : Int)) = false := by simp; omega
    have HLN := Lib.hid hlen
    have hL1 : L.length ≤ 1000 := by omega
    clear hlen
    go_wp2
    go_loop [17] (fun i => ∃ k : Nat, k ≤ L.length ∧ i = .int .i64 k ∧ ∀ j (hj : j < L.length), j < k → L[j].size ≠ 0) (fun i => L.length - (intOf i).toNat)
    case atStart => exact ⟨0, by omega, rfl, fun j hj h => absurd h (by omega)⟩
    case round =>
      obtain ⟨k, hk, rfl, hz⟩ := hrel
      have HZ := Lib.hid hz
      clear hz
      by_cases hlt : k < L.length
      · have c0 := strs_cell HK.out k hlt
        have hkl : (k : Int) < (L.length : Int) := by omega
        by_cases h0 : L[k].size = 0
        · have hE : L[k].toList.isEmpty = true := by rw [isEmpty_size]; simp [h0]
          have HN : Hid (¬ goodW many L) := fun h => h.2 _ (List.getElem_mem hlt) h0
          clear h0
          go_wp2
          go_ret2
          unfold WordsPost; rw [← HL.out]; exact .inr ⟨HN.out, rfl, HBa.out⟩
        · have hE : L[k].toList.isEmpty = false := by rw [isEmpty_size]; simp [h0]
          have H0 := Lib.hid h0
          clear h0
          go_wp2
          refine ⟨⟨k + 1, by omega, by go_num, fun j hj hjk => ?_⟩, by simp [intOf]; omega⟩
          rcases Nat.lt_or_ge j k with h | h
          · exact HZ.out j hj h
          · obtain rfl : j = k := by omega
            exact H0.out
      · obtain rfl : k = L.length := by omega
        go_wp2
        go_ret2
        unfold WordsPost
        have hw1 := HW1.out
        rw [← HL.out] at hw1 ⊢
        refine .inl ⟨⟨HLN.out, fun x hx => ?_⟩, rfl, hw1⟩
        obtain ⟨j, hj, rfl⟩ := List.mem_iff_getElem.1 hx
        exact HZ.out j hj hj
end Go.Proofs.YteliiknlpfjlkaaGreatDoor
/- Walks: strings.Builder at this dump: its check of copies, what is written. -/
set_option linter.unusedVariables false
set_option linter.unusedSimpArgs false
namespace Go.Proofs.YteliiknlpfjlkaaGreatDoor
open Go Go.RowKit

theorem sizeBuilder : (Tryz.prog.info? 81).map (·.size) = some 2 := by kernel_rfl
set_option maxHeartbeats 1000000 in
set_option maxRecDepth 100000 in
theorem copyUsed (b : Nat) (w : World) (h0 : w.cell? ⟨b, 0, none⟩ = some (.pointer (some ⟨b, 0, none⟩))) : Calls Tryz.prog 97 #[.pointer (some ⟨b, 0, none⟩)] w fun e w' => e = .returned (.tuple #[]) ∧ w' = w := by
  obtain ⟨j, hj, _⟩ := Option.map_eq_some_iff.1 sizeBuilder
  go_enter Tryz.func97, Tryz.ntmps97
  go_wp2
  rw [Lib.run_neq_ptr_same w _ Tryz.underlying78 hj]
  go_wp2
  ((try simp only [Exit.inBlock, Exit.then]); refine bodyPost_end (results_none rfl _ _ _) rfl ?_)
  exact ⟨rfl, rfl⟩
set_option maxHeartbeats 1000000 in
set_option maxRecDepth 100000 in
theorem copyFresh (b : Nat) (w : World) (h0 : w.cell? ⟨b, 0, none⟩ = some (.pointer none)) (hsh : w.shape? b = some (81, 2)) (hfz : w.frozen? ⟨b, 0, none⟩ = false) : Calls Tryz.prog 97 #[.pointer (some ⟨b, 0, none⟩)] w fun e w' => e = .returned (.tuple #[]) ∧ w' = w.setCell ⟨b, 0, none⟩ (.pointer (some ⟨b, 0, none⟩)) := by
  obtain ⟨j, hj, hjs⟩ := Option.map_eq_some_iff.1 sizeBuilder
  have hlies : liesAt Tryz.prog Tryz.prog.depth 81 (2 / Tryz.prog.cellsOf 81) 0 81 1 = true := by kernel_rfl
  go_enter Tryz.func97, Tryz.ntmps97
  go_wp2
  rw [Lib.run_to_unsafe w ⟨b, 0, none⟩ Tryz.underlying78 Tryz.underlying161 hj (by rw [hjs]; decide) hsh (Nat.zero_lt_succ 1)]
  simp only [Result.andThen]
  rw [Oper.upon_value]
  go_wp2
  rw [run_callFunc_extern Tryz.func124 (by kernel_rfl) (by kernel_rfl) (by kernel_rfl) (e := Extern.AbiNoEscape.same) (by kernel_rfl)]
  rw [Lib.run_noEscape]
  simp only [Result.andThen]
  rw [Oper.upon_value]
  go_wp2
  rw [Lib.run_from_unsafe w ⟨b, 0, none⟩ Tryz.underlying161 Tryz.underlying78 hj hsh hlies]
  simp only [Result.andThen]
  rw [Oper.upon_value]
  go_wp2
  ((try simp only [Exit.inBlock, Exit.then]); refine bodyPost_end (results_none rfl _ _ _) rfl ?_)
  exact ⟨rfl, rfl⟩
/-- a builder at block b, of a base B -/
def IsBld (B b : Nat) (l : List UInt8) (w : World) : Prop := Lib.IsBuilder 81 5 B b (Lib.byteCells l) w
theorem copyCheck_any (B b : Nat) (bs : List Value) (w : World) (h : Lib.IsBuilder 81 5 B b bs w) : Calls Tryz.prog 97 #[.pointer (some ⟨b, 0, none⟩)] w fun e w' => e = .returned (.tuple #[]) ∧ Lib.BuilderAt 81 5 B b (.pointer (some ⟨b, 0, none⟩)) bs w' ∧ Below B w w' := by
  rcases h with h | h
  · refine (copyFresh b w h.cell0 h.shape h.frozen0).mono ?_
    rintro e w' ⟨rfl, rfl⟩
    exact ⟨rfl, h.used _, (Below.refl B w).setCell (p := ⟨b, 0, none⟩) h.1 _⟩
  · refine (copyUsed b w h.cell0).mono ?_
    rintro e w' ⟨rfl, rfl⟩
    exact ⟨rfl, h, Below.refl B _⟩
theorem infoByte : (Tryz.prog.info? 5).map (fun i => (i.zero, i.size, i.bytes)) = some (some (.int .u8 0), 1, 1) := by kernel_rfl
set_option maxHeartbeats 2000000 in
set_option maxRecDepth 100000 in
theorem writeS_any (B b : Nat) (l : List UInt8) (s : ByteArray) (w : World) (h : IsBld B b l w) (hlen : l.length + s.size ≤ 140737488355328) (hBw : B ≤ w.heap.size) :
    Calls Tryz.prog 56 #[.pointer (some ⟨b, 0, none⟩), .string s] w fun e w' => e = .returned (.tuple #[.int .i64 s.size, .nilIface]) ∧ IsBld B b (l ++ s.data.toList) w' ∧ Below B w w' := by
  obtain ⟨i0, hi, hz0, hz1, hz2⟩ := info_parts infoByte
  have hbl := Lib.byteCells_length l
  go_enter Tryz.func56, Tryz.ntmps56
  go_wp2_with (refine (copyCheck_any B b (Lib.byteCells l) _ h).mono ?_)
  rintro e w1 ⟨rfl, h1, hb1⟩
  obtain ⟨hB, v, hbk, hown, hne⟩ := h1
  have c0 : w1.cell? ⟨b, 0, none⟩ = some (.pointer (some ⟨b, 0, none⟩)) := by rw [Lib.cell_of_heap hbk]; rfl
  have c1 : w1.cell? ⟨b, 1, none⟩ = some v := by rw [Lib.cell_of_heap hbk]; rfl
  go_wp2_with (at_builtin; refine Lib.wpList_append_own_string _ rfl _ _ 79 9 rfl B 5 i0 Tryz.underlying79 Tryz.underlying9 hi hz0 hz1 hz2 _ _ _ rfl hown s rfl ?c3 ?c4 ?c5 ?_)
  case c3 => unfold maxLen; omega
  case c4 => omega
  case c5 => have := hb1.size; omega
  intro v' w2 hown' hgrow _
  have hlt : b < w1.heap.size := by
    rcases Nat.lt_or_ge b w1.heap.size with h' | h'
    · exact h'
    · simp [Array.getElem?_eq_none h'] at hbk
  have hb2 : w2.heap[b]? = some (.cells #[.pointer (some ⟨b, 0, none⟩), v] 81 (0, 0)) := by
    rw [hgrow.block b hlt (fun e => hne e.symm)]
    exact hbk
  have d0 : w2.cell? ⟨b, 0, none⟩ = some (.pointer (some ⟨b, 0, none⟩)) := by rw [Lib.cell_of_heap hb2]; rfl
  have d1 : w2.cell? ⟨b, 1, none⟩ = some v := by rw [Lib.cell_of_heap hb2]; rfl
  have f1 : w2.frozen? ⟨b, 1, none⟩ = false := Lib.frozen_of_heap hb2 1
  obtain ⟨ao, n', cap, rfl⟩ : ∃ ao n' cap, v' = .slice ao n' cap := by
    rcases hown'.2 with ⟨hv, _⟩ | ⟨g, cap, cur, hv, _⟩
    · exact ⟨_, _, _, hv⟩
    · exact ⟨_, _, _, hv⟩
  go_wp2
  go_ret2
  have e5 : l.length + s.size = (Lib.byteCells l ++ Lib.strCells s).length := by rw [List.length_append, Lib.byteCells_length, Lib.strCells_length]
  rw [e5] at hown'
  refine ⟨rfl, ?_, ?_⟩
  · unfold IsBld
    rw [Lib.byteCells_append]
    exact .inr (Lib.BuilderAt.put (T := 81) (e := 5) hB hb2 (bs' := Lib.byteCells l ++ Lib.strCells s) hown' (by decide))
  · exact (hb1.grown hgrow (by have := hb1.size; omega) (fun k hk => (hown.lt k hk).1)).setCell (p := ⟨b, 1, none⟩) hB _
theorem bld_new (w : World) : IsBld w.heap.size w.heap.size [] (w.alloc (.cells #[.pointer none, .slice none 0 0] 81)) := Lib.fresh_isBuilder _ _ w
theorem bldAt_below {B b : Nat} {p : Value} {bs : List Value} {w w' : World} (h : Lib.BuilderAt 81 5 B b p bs w) (hb : Below w.heap.size w w') : Lib.BuilderAt 81 5 B b p bs w' := by
  have hlt := h.lt
  obtain ⟨hB, v, hbk, hown, hne⟩ := h
  exact ⟨hB, v, by rw [hb.block b hlt]; exact hbk, own_below hown hb, hne⟩
theorem IsBld.below {B b : Nat} {l : List UInt8} {w w' : World} (h : IsBld B b l w) (hb : Below w.heap.size w w') : IsBld B b l w' := h.elim (fun h => .inl (bldAt_below h hb)) (fun h => .inr (bldAt_below h hb))
theorem IsBld.lt {B b : Nat} {l : List UInt8} {w : World} (h : IsBld B b l w) : b < w.heap.size := h.elim (fun h => h.lt) (fun h => h.lt)
theorem str_any (B b : Nat) (l : List UInt8) (w : World) (h : IsBld B b l w) (hBw : B ≤ w.heap.size) : Calls Tryz.prog 59 #[.pointer (some ⟨b, 0, none⟩)] w fun e w' => e = .returned (.string ⟨l.toArray⟩) ∧ Below B w w' := Tryz.Builder_String_any B b l w h hBw
end Go.Proofs.YteliiknlpfjlkaaGreatDoor
/- Walks of package budget: the word of a kind, a line of a part. -/
set_option linter.unusedVariables false
set_option linter.unusedSimpArgs false
namespace Go.Proofs.YteliiknlpfjlkaaGreatDoor
open Go Go.RowKit

set_option maxHeartbeats 1000000 in
set_option maxRecDepth 100000 in
theorem word_any (k : Nat) (hk : 1 ≤ k ∧ k ≤ 4) (w : World) : Calls Tryz.prog 57 #[.int .i64 k] w fun e w' => e = .returned (.string (bA (kindW k))) ∧ w = w' := by
  have hix0 : ∀ w, (Instr.index 136 (.agg #[.string ⟨#[102, 105, 98, 114, 101]⟩, .string ⟨#[115, 112, 108, 105, 99, 101]⟩, .string ⟨#[99, 111, 110, 110, 101, 99, 116, 111, 114]⟩, .string ⟨#[115, 112, 108, 105, 116, 116, 101, 114]⟩]) (.int .i64 0)).run Tryz.prog w = .ok (.string (bA (kindW 1))) w := fun w => by kernel_rfl
  have hix1 : ∀ w, (Instr.index 136 (.agg #[.string ⟨#[102, 105, 98, 114, 101]⟩, .string ⟨#[115, 112, 108, 105, 99, 101]⟩, .string ⟨#[99, 111, 110, 110, 101, 99, 116, 111, 114]⟩, .string ⟨#[115, 112, 108, 105, 116, 116, 101, 114]⟩]) (.int .i64 1)).run Tryz.prog w = .ok (.string (bA (kindW 2))) w := fun w => by kernel_rfl
  have hix2 : ∀ w, (Instr.index 136 (.agg #[.string ⟨#[102, 105, 98, 114, 101]⟩, .string ⟨#[115, 112, 108, 105, 99, 101]⟩, .string ⟨#[99, 111, 110, 110, 101, 99, 116, 111, 114]⟩, .string ⟨#[115, 112, 108, 105, 116, 116, 101, 114]⟩]) (.int .i64 2)).run Tryz.prog w = .ok (.string (bA (kindW 3))) w := fun w => by kernel_rfl
  have hix3 : ∀ w, (Instr.index 136 (.agg #[.string ⟨#[102, 105, 98, 114, 101]⟩, .string ⟨#[115, 112, 108, 105, 99, 101]⟩, .string ⟨#[99, 111, 110, 110, 101, 99, 116, 111, 114]⟩, .string ⟨#[115, 112, 108, 105, 116, 116, 101, 114]⟩]) (.int .i64 3)).run Tryz.prog w = .ok (.string (bA (kindW 4))) w := fun w => by kernel_rfl
  rcases (show k = 1 ∨ k = 2 ∨ k = 3 ∨ k = 4 by omega) with rfl | rfl | rfl | rfl
  all_goals
    go_enter Tryz.func57, Tryz.ntmps57
    go_wp2_with (simp only [hix0, hix1, hix2, hix3])
    go_ret
    exact ⟨rfl, rfl⟩
theorem kindW_inj {w : List UInt8} {k : Int} (h : kindOf w = none) (hk : 1 ≤ k ∧ k ≤ 4) : kindW k ≠ w := fun e => by
  rw [← e, kindOf_W hk] at h; cases h
theorem strB_bA (a : List UInt8) (s : ByteArray) : (bA a).toList = s.toList ↔ a = s.data.toList := by rw [ByteArray.toList_eq, ByteArray.toList_eq, data_bA]
/-- a part, or none -/
def PartPost (line : ByteArray) (w : World) (e : Ending) (w' : World) : Prop := ∃ (k n : Int) (ok : Bool), e = .returned (.tuple #[.agg #[.int .i64 k, .int .i64 n], .bool ok]) ∧ (partDec line.data.toList = some ⟨k, n⟩ ∧ ok = true ∨ partDec line.data.toList = none ∧ ok = false) ∧ Below w.heap.size w w'
theorem dec_bad {line : ByteArray} (h : ¬ goodW 2 (segB 32 line)) : partDec line.data.toList = none := by
  unfold partDec
  split
  · rename_i a b hs
    have e : segB 32 line = [bA a, bA b] := by unfold segB; rw [hs]; rfl
    cases hk : kindOf a with
    | none => rfl
    | some k =>
      cases hn : numL 15 b with
      | none => rfl
      | some n =>
        exfalso
        apply h
        rw [e]
        refine ⟨rfl, fun x hx => ?_⟩
        simp only [List.mem_cons, List.not_mem_nil, or_false] at hx
        rcases hx with rfl | rfl
        · rw [size_bA]
          intro h0
          rw [List.length_eq_zero_iff.1 h0] at hk
          have h9 : kindOf [] = none := by decide
          rw [h9] at hk; cases hk
        · rw [size_bA]
          intro h0
          exact (numL_len hn).2.1 (List.length_eq_zero_iff.1 h0)
  · rfl
theorem dec_good {line : ByteArray} {A B : ByteArray} (h : segB 32 line = [A, B]) : partDec line.data.toList = (kindOf A.data.toList).bind fun k => (numL 15 B.data.toList).map fun n => ⟨k, n⟩ := by
  unfold segB at h
  cases hs : segs 32 line.data.toList with
  | nil => rw [hs] at h; cases h
  | cons a r =>
    rw [hs] at h
    cases r with
    | nil => cases h
    | cons b r =>
      cases r with
      | cons _ _ => cases h
      | nil =>
        simp only [List.map_cons, List.map_nil, List.cons.injEq, and_true] at h
        obtain ⟨rfl, rfl⟩ := h
        exact partDec_two hs
set_option maxHeartbeats 4000000 in
set_option maxRecDepth 100000 in
theorem readLine_any (line : ByteArray) (w : World) (hs : line.size ≤ 1000000) (hM : MaxL w) : Calls Tryz.prog 64 #[.string line] w (PartPost line w) := by
  have HM : Hid (MaxL (w.alloc (.cells #[.int .i64 0, .int .i64 0] 54))) := hM.below (below_alloc (Below.refl _ _) _ (Nat.le_refl _))
  have hrb : Blk (w.alloc (.cells #[.int .i64 0, .int .i64 0] 54)) w.heap.size #[.int .i64 0, .int .i64 0] 54 := Blk.new _ _ _
  have HR := Lib.hid (And.intro hrb (below_alloc (Below.refl w.heap.size w) (.cells #[.int .i64 0, .int .i64 0] 54) (Nat.le_refl _)))
  clear hM hrb
  go_enter Tryz.func64, Tryz.ntmps64
  go_wp2_with fail
  generalize w.alloc (.cells #[.int .i64 0, .int .i64 0] 54) = w1 at *
  refine (words_any line 2 _ hs (by decide) HM.out).mono ?_
  rintro e w2 (⟨hg, rfl, hw⟩ | ⟨hb, rfl, hb2⟩)
  rotate_left
  · have HD := Lib.hid (dec_bad hb)
    have H2 := Lib.hid (And.intro (HR.out.1.below hb2 HR.out.1.lt) (below_at HR.out.2 hb2 HR.out.2.size))
    have z0 := H2.out.1.cell 0 _ rfl
    have z1 := H2.out.1.cell 1 _ rfl
    have zf := fun o => H2.out.1.free o
    clear hb hb2
    go_wp2
    refine bodyPost_ret (v := .tuple #[.agg #[.int .i64 0, .int .i64 0], .bool false]) ?_ rfl ⟨0, 0, false, rfl, .inr ⟨HD.out, rfl⟩, ?_⟩
    · simp [results, go_sem, z0, z1]
    · have := H2.out.2; (repeat (first | exact Below.refl _ _ | assumption | refine below_draws ?_ _ | refine Below.drew ?_ | refine below_alloc ?_ _ (by first | omega | (simp; done) | (simp; omega)) | refine Below.setCell ?_ (by first | omega | (simp; done) | (simp; omega)) _ | refine below_at ?_ (by assumption) (by first | omega | (simp; done) | (simp; omega))))
  obtain ⟨A, B, hAB⟩ : ∃ A B, segB 32 line = [A, B] := by
    cases hh : segB 32 line with
    | nil => rw [hh] at hg; exact absurd hg.1 (by simp)
    | cons a r =>
      cases r with
      | nil => rw [hh] at hg; exact absurd hg.1 (by simp)
      | cons b r =>
        cases r with
        | nil => exact ⟨a, b, rfl⟩
        | cons _ _ => rw [hh] at hg; exact absurd hg.1 (by simp)
  have HD := Lib.hid (dec_good hAB)
  have hBs : B.size ≤ line.size := segB_size (by rw [hAB]; simp)
  rw [hAB] at hw ⊢
  have hba : Below w1.heap.size w1 w2 := by rw [hw]; exact below_alloc (Below.refl _ _) _ (Nat.le_refl _)
  have hbk : Blk w2 w1.heap.size #[.string A, .string B] 9 := by rw [hw]; exact Blk.new _ _ _
  have H2 := Lib.hid (And.intro (HR.out.1.below hba HR.out.1.lt) (And.intro (below_at HR.out.2 hba HR.out.2.size) hbk))
  clear hg hAB hw hba hbk
  generalize w1.heap.size = tb at *
  have p1 := H2.out.2.2.cell 1 _ rfl
  go_wp2_with fail
  refine (number_any B 15 (by decide) _ (by omega)).mono ?_
  rintro e w3 ⟨rfl, hb3⟩
  have H3 := Lib.hid (And.intro (H2.out.1.below hb3 H2.out.1.lt) (And.intro (below_at H2.out.2.1 hb3 H2.out.2.1.size) (H2.out.2.2.below hb3 H2.out.2.2.lt)))
  clear hb3 p1 H2
  obtain ⟨n, hn⟩ : ∃ n, n = (numL 15 B.data.toList).getD 0 := ⟨_, rfl⟩
  obtain ⟨ok, hok⟩ : ∃ ok, ok = (numL 15 B.data.toList).isSome := ⟨_, rfl⟩
  rw [← hn, ← hok]
  have HN := Lib.hid (And.intro hn hok)
  clear hn hok
  go_wp2
  go_loopw [7] (fun i wr => ∃ k : Nat, 1 ≤ k ∧ k ≤ 5 ∧ i = .int .i64 k ∧ Below w3.heap.size w3 wr ∧ ∀ j : Nat, 1 ≤ j → j < k → kindW j ≠ A.data.toList) (fun i _ => 5 - (intOf i).toNat)
  case atStart => exact ⟨1, by omega, by omega, rfl, Below.refl _ _, fun j h1 h2 => absurd h2 (by omega)⟩
  case round =>
    obtain ⟨k, hk1, hk5, rfl, hB, hne⟩ := hrel
    have HK := Lib.hid (And.intro (H3.out.1.below hB H3.out.1.lt) (And.intro (below_at H3.out.2.1 hB H3.out.2.1.size) (And.intro (H3.out.2.2.below hB H3.out.2.2.lt) (And.intro hB hne))))
    clear hB hne
    by_cases hlt : k ≤ 4
    · have hkl : (k : Int) ≤ 4 := by omega
      have q0 := HK.out.2.2.1.cell 0 _ rfl
      go_wp2_with fail
      go_region_held3 (fun w' => w'.cell? ⟨tb, 0, none⟩ = some (.string A)) (go_keep)
        (first | (go_at_call 57; refine (word_any k ⟨hk1, hlt⟩ _).mono ?_; rintro e w4 ⟨rfl, rfl⟩))
      have HKd : Hid (Blk wr.drew w.heap.size #[.int .i64 0, .int .i64 0] 54 ∧ Below w.heap.size w wr.drew ∧ Below w3.heap.size w3 wr.drew) := ⟨HK.out.1.drew, Below.drew HK.out.2.1, Below.drew HK.out.2.2.2.1⟩
      have HNE := Lib.hid HK.out.2.2.2.2
      clear HK q0
      generalize wr.drew = wd at *
      generalize hbb : ((bA (kindW (k : Int))).toList == A.toList) = bb
      cases bb
      rotate_left
      · have he : kindW k = A.data.toList := (strB_bA _ _).1 (by simpa using hbb)
        have hko : kindOf A.data.toList = some (k : Int) := by rw [← he]; exact kindOf_W ⟨by omega, by omega⟩
        have HX := Lib.hid hko
        have z0 := HKd.out.1.cell 0 _ rfl
        have z1 := HKd.out.1.cell 1 _ rfl
        have zf := fun o => HKd.out.1.free o
        clear he hko hbb
        go_wp2
        refine bodyPost_ret (v := .tuple #[.agg #[.int .i64 k, .int .i64 n], .bool ok]) ?_ rfl ⟨k, n, ok, rfl, ?_, ?_⟩
        · simp [results, go_sem, z0, z1]
        · rw [HD.out, HX.out]
          have h1 := HN.out.1
          have h2 := HN.out.2
          cases hb : numL 15 B.data.toList with
          | none => rw [hb] at h2; exact .inr ⟨rfl, h2⟩
          | some m => rw [hb] at h1 h2; exact .inl ⟨by rw [h1]; rfl, h2⟩
        · have := HKd.out.2.1; (repeat (first | exact Below.refl _ _ | assumption | refine below_draws ?_ _ | refine Below.drew ?_ | refine below_alloc ?_ _ (by first | omega | (simp; done) | (simp; omega)) | refine Below.setCell ?_ (by first | omega | (simp; done) | (simp; omega)) _ | refine below_at ?_ (by assumption) (by first | omega | (simp; done) | (simp; omega))))
      · have he : ¬ kindW k = A.data.toList := fun h => by
          have := (strB_bA _ A).2 h
          rw [this] at hbb
          simp at hbb
        have HX := Lib.hid he
        clear he hbb
        go_wp2
        refine ⟨⟨k + 1, by omega, by omega, by go_num, HKd.out.2.2, fun j h1 h2 => ?_⟩, by simp [intOf]; omega⟩
        rcases Nat.lt_or_ge j k with h | h
        · exact HNE.out j h1 h
        · obtain rfl : j = k := by omega
          exact HX.out
    · obtain rfl : k = 5 := by omega
      have hnone : kindOf A.data.toList = none := by
        cases hh : kindOf A.data.toList with
        | none => rfl
        | some q =>
          exfalso
          obtain ⟨h1, h2, h3⟩ := kindW_of hh
          obtain ⟨j, rfl⟩ := Int.eq_ofNat_of_zero_le (show 0 ≤ q by omega)
          exact HK.out.2.2.2.2 j (by omega) (by omega) h1
      have HX : Hid (partDec line.data.toList = none) := by rw [HD.out, hnone]; rfl
      have z0 := HK.out.1.cell 0 _ rfl
      have z1 := HK.out.1.cell 1 _ rfl
      have zf := fun o => HK.out.1.free o
      clear hnone
      go_wp2
      refine bodyPost_ret (v := .tuple #[.agg #[.int .i64 0, .int .i64 0], .bool false]) ?_ rfl ⟨0, 0, false, rfl, .inr ⟨HX.out, rfl⟩, ?_⟩
      · simp [results, go_sem, z0, z1]
      · have := HK.out.2.1; (repeat (first | exact Below.refl _ _ | assumption | refine below_draws ?_ _ | refine Below.drew ?_ | refine below_alloc ?_ _ (by first | omega | (simp; done) | (simp; omega)) | refine Below.setCell ?_ (by first | omega | (simp; done) | (simp; omega)) _ | refine below_at ?_ (by assumption) (by first | omega | (simp; done) | (simp; omega))))
end Go.Proofs.YteliiknlpfjlkaaGreatDoor
/- Walks: the lines of a text, each handed to a function value: the program's, and the reference's. -/
set_option linter.unusedVariables false
set_option linter.unusedSimpArgs false
namespace Go.Proofs.YteliiknlpfjlkaaGreatDoor
open Go Go.RowKit

/-- rows of strings stand -/
def KeepS (W W' : World) : Prop := W.heap.size ≤ W'.heap.size ∧ ∀ b cs, Blk W b cs 9 → Blk W' b cs 9
theorem KeepS.refl (W : World) : KeepS W W := ⟨Nat.le_refl _, fun _ _ h => h⟩
theorem KeepS.trans {a b c : World} (h : KeepS a b) (k : KeepS b c) : KeepS a c := ⟨Nat.le_trans h.1 k.1, fun _ _ x => k.2 _ _ (h.2 _ _ x)⟩
theorem KeepS.below {W W' : World} (h : Below W.heap.size W W') : KeepS W W' := ⟨h.size, fun _ _ x => x.below h x.lt⟩
/-- what a function value does with a line behind the lines that were: told of all worlds in which Inv holds -/
structure Feeds (F : FuncId) (cp : Array Value) (ok : List (List UInt8) → List UInt8 → Bool) (Inv : List (List UInt8) → World → Prop) (most : Nat) : Prop where
  run : ∀ (args : Array Value) (w : World), (callFunc F args).run Tryz.prog w = .ok (.enter F args) w
  grows : ∀ done (W W' : World), Inv done W → Below W.heap.size W W' → Inv done W'
  call : ∀ done (x : ByteArray) (W : World), Inv done W → done.length ≤ 1000000 → x.size ≤ most → Calls Tryz.prog F (#[.string x] ++ cp) W fun e W' => e = .returned (.bool (ok done x.data.toList)) ∧ Inv (done ++ [x.data.toList]) W' ∧ KeepS W W'
  maxl : ∀ done (W : World), Inv done W → MaxL W
def EachPost (ok : List (List UInt8) → List UInt8 → Bool) (Inv : List (List UInt8) → World → Prop) (s : ByteArray) (e : Ending) (w' : World) : Prop :=
  e = .returned (.tuple #[.int .i64 (eachF ok s.data.toList).1, .bool (eachF ok s.data.toList).2.1]) ∧ Inv (eachF ok s.data.toList).2.2 w'
/-- what Lines answers -/
def LinesPost (s : ByteArray) (w : World) (e : Ending) (w' : World) : Prop := ∃ (a : Option Addr) (n cap : Nat) (en : Bool) (L : List ByteArray), e = .returned (.tuple #[.slice a n cap, .bool en]) ∧ n = L.length ∧ L.length ≤ 1000001 ∧
  L.map (fun x => x.data.toList) = (if (restL s.data.toList).isEmpty then lineL s.data.toList else lineL s.data.toList ++ [restL s.data.toList]) ∧ en = (restL s.data.toList).isEmpty ∧
  (∀ x ∈ L, x.size ≤ s.size) ∧ (L = [] ∨ ∃ b, a = some ⟨b, 0, none⟩ ∧ Blk w' b (L.map Value.string).toArray 9) ∧ Below w.heap.size w w'
theorem segs_len (c : UInt8) : ∀ s : List UInt8, (segs c s).length ≤ s.length + 1
  | [] => by simp [segs]
  | x :: r => by
    have ih := segs_len c r
    unfold segs
    split
    · simp; omega
    · cases hr : segs c r with
      | nil => exact absurd hr (segs_ne c r)
      | cons g t => rw [hr] at ih; simp at ih ⊢; omega
set_option maxHeartbeats 4000000 in
set_option maxRecDepth 100000 in
theorem lines_any (s : ByteArray) (w : World) (hs : s.size ≤ 1000000) (hM : MaxL w) : Calls Tryz.prog 99 #[.string s] w (LinesPost s w) := by
  have HM := Lib.hid hM
  clear hM
  by_cases h0 : s.size = 0
  · have hE : s.toList.isEmpty = true := by rw [isEmpty_size]; simp [h0]
    have e0 : s.data.toList = [] := List.length_eq_zero_iff.1 (by rw [← Lib.size_eq]; exact h0)
    have H0 := Lib.hid e0
    clear h0 e0
    go_enter Tryz.func99, Tryz.ntmps99
    go_wp2
    go_ret2
    refine ⟨none, 0, 0, true, [], rfl, rfl, by simp, ?_, ?_, by simp, .inl rfl, Below.refl _ _⟩
    · rw [H0.out]; rfl
    · rw [H0.out]; rfl
  · have hE : s.toList.isEmpty = false := by rw [isEmpty_size]; simp [h0]
    have hne : s.data.toList ≠ [] := fun e => h0 (by rw [Lib.size_eq, e]; rfl)
    have HR := Lib.hid (ends_rest hne)
    obtain ⟨D, hD⟩ : ∃ D, D = bA (Lib.trimSuffix s.data.toList [10]) := ⟨_, rfl⟩
    have hDs : D.size ≤ s.size := by rw [hD, size_bA, Lib.size_eq]; exact Lib.trimSuffix_le _ _
    have HD := Lib.hid hD
    clear h0 hne hD
    go_enter Tryz.func99, Tryz.ntmps99
    go_wp2_with fail
    refine (Tryz.strings_CutSuffix s ⟨#[10]⟩ _ (by omega)).mono ?_
    rintro e w' ⟨rfl, hw⟩
    rw [hw]
    clear hw w'
    rw [show (⟨(Lib.trimSuffix s.data.toList (⟨#[10]⟩ : ByteArray).data.toList).toArray⟩ : ByteArray) = D from HD.out.symm, show Lib.hasSuffix s.data.toList (⟨#[10]⟩ : ByteArray).data.toList = (restL s.data.toList).isEmpty from HR.out.1]
    generalize hen : (restL s.data.toList).isEmpty = en
    have HE := Lib.hid hen
    clear hen
    go_wp2_with fail
    refine (split_any D 10 _ (by omega) HM.out).mono ?_
    rintro e w' ⟨rfl, hw⟩
    rw [hw]
    clear hw w'
    have HB := Lib.hid (And.intro (Blk.new w ((segB 10 D).map Value.string).toArray 9) (below_alloc (Below.refl w.heap.size w) (.cells ((segB 10 D).map Value.string).toArray 9) (Nat.le_refl _)))
    generalize w.alloc (.cells ((segB 10 D).map Value.string).toArray 9) = w1 at *
    go_wp2
    go_ret2
    have hsd : (segB 10 D).map (fun x => x.data.toList) = segs 10 (Lib.trimSuffix s.data.toList [10]) := by
      unfold segB
      rw [List.map_map, HD.out]
      have : ((fun x : ByteArray => x.data.toList) ∘ bA) = id := by funext x; rfl
      rw [this, List.map_id, data_bA]
    refine ⟨_, _, _, en, segB 10 D, rfl, rfl, ?_, ?_, HE.out.symm, fun x hx => Nat.le_trans (segB_size hx) hDs, .inr ⟨_, rfl, HB.out.1⟩, HB.out.2⟩
    · have := segs_len 10 D.data.toList
      have h2 := Lib.size_eq D
      unfold segB
      rw [List.length_map]; omega
    · rw [hsd]; exact HR.out.2
theorem lines_no (s : List UInt8) : (∀ x ∈ lineL s, (10 : UInt8) ∉ x) ∧ (10 : UInt8) ∉ restL s := by
  have h := line_rest s
  exact ⟨fun x hx => segs_no x (by rw [h]; simp [hx]), segs_no _ (by rw [h]; simp)⟩
set_option maxHeartbeats 4000000 in
set_option maxRecDepth 100000 in
theorem each_any (F : FuncId) (cp : Array Value) (ok : List (List UInt8) → List UInt8 → Bool) (Inv : List (List UInt8) → World → Prop) (most : Nat) (text : ByteArray) (w : World) (hF : Feeds F cp ok Inv most) (hm : most ≤ 1000000) (hs : text.size ≤ most) (hI : Inv [] w) :
    Calls Tryz.prog 62 #[.string text, .func (.func F) #[] cp] w (EachPost ok Inv text) := by
  have hFd := Lib.hid hF
  have HI0 := Lib.hid hI
  have hFr := hF.run
  clear hF hI
  go_enter Tryz.func62, Tryz.ntmps62
  go_wp2_with fail
  refine (lines_any text w (by omega) (hFd.out.maxl [] w HI0.out)).mono ?_
  rintro e w1 ⟨a, n, cap, en, L, rfl, hn, hL1, hLM, hen, hsz, hblk, hb1⟩
  have HI1 : Hid (Inv [] w1) := hFd.out.grows _ _ _ HI0.out hb1
  obtain ⟨M, hM⟩ : ∃ M, M = lineL text.data.toList := ⟨_, rfl⟩
  rw [← hen, ← hM] at hLM
  have HE : Hid (eachF ok text.data.toList = feedF ok [] M en) := by unfold eachF; rw [← hM, ← hen]; rfl
  have hsz : Hid (∀ x ∈ L, x.size ≤ most) := fun x hx => Nat.le_trans (hsz x hx) hs
  have hblk := Lib.hid hblk
  clear hen hM hb1 HI0
  cases en
  · have hLM : L.map (fun x => x.data.toList) = M ++ [restL text.data.toList] := by simpa using hLM
    have hlen : L.length = M.length + 1 := by have := congrArg List.length hLM; simpa using this
    have hnM : n = M.length + 1 := by omega
    have hML : M.length ≤ 1000001 := by omega
    have HL : Hid (∀ k (hk : k < M.length) (hk2 : k < L.length), L[k].data.toList = M[k]) := fun k hk hk2 => by
      have := congrArg (fun l => l[k]?) hLM
      simp only [List.getElem?_map, List.getElem?_eq_getElem hk2, List.getElem?_append_left hk, List.getElem?_eq_getElem hk, Option.map_some, Option.some.injEq] at this
      exact this
    have HLN := Lib.hid hlen
    clear hLM hn
    subst hnM
    go_wp2
    go_loopw [17] (fun i wr => ∃ k : Nat, k ≤ M.length ∧ i = .int .i64 k ∧ Inv (M.take k) wr ∧ KeepS w1 wr ∧ feedF ok (M.take k) (M.drop k) false = feedF ok [] M false) (fun i _ => M.length + 1 - (intOf i).toNat)
    case atStart => exact ⟨0, by omega, rfl, HI1.out, KeepS.refl _, rfl⟩
    case round =>
      obtain ⟨k, hk, rfl, hi, hkp, hfd⟩ := hrel
      have HI := Lib.hid (And.intro hi (And.intro hkp hfd))
      clear hi hkp hfd
      have hkl : k < L.length := by omega
      obtain ⟨b, rfl, hbk⟩ : ∃ b, a = some ⟨b, 0, none⟩ ∧ Blk wr b (L.map Value.string).toArray 9 := by
        rcases hblk.out with h | ⟨b, h1, h2⟩
        · exact absurd h (by intro h; rw [h] at hkl; simp at hkl)
        · exact ⟨b, h1, HI.out.2.1.2 _ _ h2⟩
      have c0 := strs_cell hbk k hkl
      clear hbk hlen
      have hnw : IntKind.i64.wrap (((M.length + 1 : Nat) : Int) - 1) = (M.length : Int) := by rw [IntWalk.i64_in _ (by omega)]; omega
      have hnw2 : IntKind.i64.wrap ((M.length : Int) + 1 - 1) = (M.length : Int) := by rw [IntWalk.i64_in _ (by omega)]; omega
      have hnw3 : IntKind.i64.wrap (M.length : Int) = (M.length : Int) := by rw [IntWalk.i64_in _ (by omega)]
      have hk1 : (k : Int) < (M.length : Int) + 1 := by omega
      by_cases hkM : k < M.length
      · have hne : ((k : Int) == (M.length : Int)) = false := by rw [beq_eq_false_iff_ne]; omega
        have hne2 : ¬ k = M.length := by omega
        have hlk := Lib.hid (HL.out k hkM hkl)
        go_wp2_with fail
        refine (hFd.out.call (M.take k) L[k] wr HI.out.1 (by rw [List.length_take]; omega) (hsz.out _ (List.getElem_mem hkl))).mono ?_
        rintro e w3 ⟨rfl, hi3, hk3⟩
        rw [hlk.out] at hi3 ⊢
        have HI3 := Lib.hid (And.intro hi3 (HI.out.2.1.trans hk3))
        clear hi3 hk3
        generalize hob : ok (M.take k) M[k] = ob
        have HOB := Lib.hid hob
        clear hob
        cases ob
        · go_wp2
          go_ret2
          unfold EachPost
          rw [HE.out, ← HI.out.2.2, feed_step hkM, HOB.out]
          exact ⟨rfl, by rw [List.take_succ_eq_append_getElem hkM]; exact HI3.out.1⟩
        · go_wp2
          refine ⟨⟨k + 1, by omega, by go_num, by rw [List.take_succ_eq_append_getElem hkM]; exact HI3.out.1, HI3.out.2, ?_⟩, by simp [intOf]; omega⟩
          rw [← HI.out.2.2, feed_step hkM, HOB.out]; rfl
      · have heq : k = M.length := by omega
        subst heq
        clear hkM
        go_wp2
        go_ret2
        unfold EachPost
        rw [HE.out, ← HI.out.2.2, feed_end]
        exact ⟨rfl, by have := HI.out.1; rwa [List.take_length] at this⟩
  · have hLM : L.map (fun x => x.data.toList) = M := by simpa using hLM
    have hlen : L.length = M.length := by have := congrArg List.length hLM; simpa using this
    have hnM : n = M.length := by omega
    have hML : M.length ≤ 1000001 := by omega
    have HL : Hid (∀ k (hk : k < M.length) (hk2 : k < L.length), L[k].data.toList = M[k]) := fun k hk hk2 => by
      have := congrArg (fun l => l[k]?) hLM
      simp only [List.getElem?_map, List.getElem?_eq_getElem hk2, List.getElem?_eq_getElem hk, Option.map_some, Option.some.injEq] at this
      exact this
    have HLN := Lib.hid hlen
    clear hLM hn
    subst hnM
    go_wp2
    go_loopw [17] (fun i wr => ∃ k : Nat, k ≤ M.length ∧ i = .int .i64 k ∧ Inv (M.take k) wr ∧ KeepS w1 wr ∧ feedF ok (M.take k) (M.drop k) true = feedF ok [] M true) (fun i _ => M.length - (intOf i).toNat)
    case atStart => exact ⟨0, by omega, rfl, HI1.out, KeepS.refl _, rfl⟩
    case round =>
      obtain ⟨k, hk, rfl, hi, hkp, hfd⟩ := hrel
      have HI := Lib.hid (And.intro hi (And.intro hkp hfd))
      clear hi hkp hfd
      by_cases hkM : k < M.length
      · have hkl : k < L.length := by omega
        obtain ⟨b, rfl, hbk⟩ : ∃ b, a = some ⟨b, 0, none⟩ ∧ Blk wr b (L.map Value.string).toArray 9 := by
          rcases hblk.out with h | ⟨b, h1, h2⟩
          · exact absurd h (by intro h; rw [h] at hkl; simp at hkl)
          · exact ⟨b, h1, HI.out.2.1.2 _ _ h2⟩
        have c0 := strs_cell hbk k hkl
        clear hbk hlen
        have hk1 : (k : Int) < (M.length : Int) := by omega
        have hlk := Lib.hid (HL.out k hkM hkl)
        go_wp2_with fail
        refine (hFd.out.call (M.take k) L[k] wr HI.out.1 (by rw [List.length_take]; omega) (hsz.out _ (List.getElem_mem hkl))).mono ?_
        rintro e w3 ⟨rfl, hi3, hk3⟩
        rw [hlk.out] at hi3 ⊢
        have HI3 := Lib.hid (And.intro hi3 (HI.out.2.1.trans hk3))
        clear hi3 hk3
        generalize hob : ok (M.take k) M[k] = ob
        have HOB := Lib.hid hob
        clear hob
        cases ob
        · go_wp2
          go_ret2
          unfold EachPost
          rw [HE.out, ← HI.out.2.2, feed_step hkM, HOB.out]
          exact ⟨rfl, by rw [List.take_succ_eq_append_getElem hkM]; exact HI3.out.1⟩
        · go_wp2
          refine ⟨⟨k + 1, by omega, by go_num, by rw [List.take_succ_eq_append_getElem hkM]; exact HI3.out.1, HI3.out.2, ?_⟩, by simp [intOf]; omega⟩
          rw [← HI.out.2.2, feed_step hkM, HOB.out]; rfl
      · have heq : k = M.length := by omega
        subst heq
        clear hkM hlen
        go_wp2
        go_ret2
        unfold EachPost
        rw [HE.out, ← HI.out.2.2, feed_end]
        exact ⟨rfl, by have := HI.out.1; rwa [List.take_length] at this⟩
end Go.Proofs.YteliiknlpfjlkaaGreatDoor
/- Walk of the reference: the lines of a text, each handed to a function value. -/
set_option linter.unusedVariables false
set_option linter.unusedSimpArgs false
namespace Go.Proofs.YteliiknlpfjlkaaGreatDoor
open Go Go.RowKit

theorem cut_any (s : ByteArray) (c : UInt8) (w : World) (hs : s.size ≤ 1000000) (hM : MaxL w) : Calls Tryz.prog 67 #[.string s, .string ⟨#[c]⟩] w
    fun e w' => e = .returned (.tuple #[.string (bA (Lib.cut s.data.toList [c]).1), .string (bA (Lib.cut s.data.toList [c]).2.1), .bool (Lib.cut s.data.toList [c]).2.2]) ∧ Below w.heap.size w w' := by
  obtain ⟨m, hm⟩ := hM
  refine (Tryz.strings_Cut s ⟨#[c]⟩ m w (by omega) hm).mono ?_
  rintro e w' ⟨rfl, n, rfl⟩
  exact ⟨rfl, below_draws (Below.refl _ _) n⟩
/-- what is left behind k lines -/
def remL (M : List (List UInt8)) (R : List UInt8) (k : Nat) : List UInt8 := (M.drop k).flatMap (fun x => x ++ [10]) ++ R
theorem rem_succ {M : List (List UInt8)} {R : List UInt8} {k : Nat} (hk : k < M.length) : remL M R k = M[k] ++ 10 :: remL M R (k + 1) := by
  unfold remL
  rw [List.drop_eq_getElem_cons hk, List.flatMap_cons]
  simp
theorem rem_end {M : List (List UInt8)} {R : List UInt8} : remL M R M.length = R := by unfold remL; rw [List.drop_length]; rfl
theorem rem_len {M : List (List UInt8)} {R : List UInt8} : ∀ k, k ≤ M.length → (remL M R k).length ≤ (remL M R 0).length
  | 0, _ => Nat.le_refl _
  | k + 1, h => by
    have h1 := rem_len (M := M) (R := R) k (by omega)
    rw [rem_succ (R := R) (show k < M.length by omega), List.length_append, List.length_cons] at h1
    omega
theorem isEmpty_bA (l : List UInt8) : (bA l).toList.isEmpty = l.isEmpty := by rw [ByteArray.toList_eq, data_bA]
set_option maxHeartbeats 4000000 in
set_option maxRecDepth 100000 in
theorem rlines_any (F : FuncId) (cp : Array Value) (ok : List (List UInt8) → List UInt8 → Bool) (Inv : List (List UInt8) → World → Prop) (most : Nat) (text : ByteArray) (w : World) (hF : Feeds F cp ok Inv most) (hm : most ≤ 1000000) (hs : text.size ≤ most) (hI : Inv [] w) :
    Calls Tryz.prog 65 #[.string text, .func (.func F) #[] cp] w (EachPost ok Inv text) := by
  have hFd := Lib.hid hF
  have HI0 := Lib.hid hI
  have hFr := hF.run
  clear hF hI
  obtain ⟨M, hM⟩ : ∃ M, M = lineL text.data.toList := ⟨_, rfl⟩
  obtain ⟨R, hR⟩ : ∃ R, R = restL text.data.toList := ⟨_, rfl⟩
  have HE : Hid (eachF ok text.data.toList = feedF ok [] M R.isEmpty) := by unfold eachF; rw [← hM, ← hR]; rfl
  have hno := lines_no text.data.toList
  rw [← hM, ← hR] at hno
  have hrem : text = bA (remL M R 0) := by
    have h1 := lines_all text.data.toList
    rw [← hM, ← hR] at h1
    have h2 : remL M R 0 = text.data.toList := h1.symm
    rw [h2, bA_data]
  have hlen : (remL M R 0).length ≤ most := by
    have h1 : text.size = (remL M R 0).length := by rw [hrem, size_bA]
    omega
  have hMl : M.length ≤ 1000000 := by
    have : ∀ M : List (List UInt8), M.length ≤ (M.flatMap (fun x => x ++ [10])).length := by
      intro M
      induction M with
      | nil => simp
      | cons x M ih => rw [List.flatMap_cons, List.length_append, List.length_append, List.length_cons, List.length_singleton]; omega
    have h1 := this M
    have h2 : remL M R 0 = M.flatMap (fun x => x ++ [10]) ++ R := rfl
    rw [h2, List.length_append] at hlen; omega
  have HNO := Lib.hid (And.intro hno (fun k (hk : k ≤ M.length) => Nat.le_trans (rem_len (R := R) k hk) hlen))
  have HT := Lib.hid hrem
  clear hM hR hno hrem hlen
  go_enter Tryz.func65, Tryz.ntmps65
  go_wp2
  go_loopw [0, 6] (fun tv i wr => ∃ k : Nat, k ≤ M.length ∧ i = .int .i64 k ∧ tv = .string (bA (remL M R k)) ∧ Inv (M.take k) wr ∧ feedF ok (M.take k) (M.drop k) R.isEmpty = feedF ok [] M R.isEmpty) (fun _ i _ => M.length + 1 - (intOf i).toNat)
  case atStart => exact ⟨0, by omega, rfl, by rw [← HT.out], HI0.out, rfl⟩
  case round =>
    obtain ⟨k, hk, rfl, rfl, hi, hfd⟩ := hrel
    have HI := Lib.hid (And.intro hi hfd)
    have hsz : (bA (remL M R k)).size ≤ 1000000 := by rw [size_bA]; exact Nat.le_trans (HNO.out.2 k hk) hm
    have hme := isEmpty_bA (remL M R k)
    clear hi hfd
    by_cases hkM : k < M.length
    · have hrs := rem_succ (R := R) hkM
      have hne : (bA (remL M R k)).toList.isEmpty = false := by rw [hme, hrs]; cases M[k] <;> rfl
      have HC : Hid (Lib.cut (bA (remL M R k)).data.toList [10] = (M[k], remL M R (k + 1), true)) := by
        rw [data_bA, hrs]; exact cut_at1 (HNO.out.1.1 _ (List.getElem_mem hkM))
      have hxs : (bA M[k]).size ≤ most := by
        rw [size_bA]
        have := HNO.out.2 k hk
        rw [hrs, List.length_append] at this; omega
      have HX := Lib.hid hxs
      clear hme hrs hxs
      generalize bA (remL M R k) = T at *
      go_wp2_with fail
      refine (cut_any T 10 wr hsz (hFd.out.maxl _ _ HI.out.1)).mono ?_
      rw [HC.out]
      rintro e w2 ⟨rfl, hb2⟩
      have HI2 := Lib.hid (hFd.out.grows _ _ _ HI.out.1 hb2)
      clear hb2
      go_wp2_with fail
      refine (hFd.out.call (M.take k) (bA M[k]) w2 HI2.out (by rw [List.length_take]; omega) HX.out).mono ?_
      rintro e w3 ⟨rfl, hi3, hk3⟩
      rw [data_bA] at hi3 ⊢
      have HI3 := Lib.hid hi3
      clear hi3 hk3
      generalize hob : ok (M.take k) M[k] = ob
      have HOB := Lib.hid hob
      clear hob
      cases ob
      · go_wp2
        go_ret2
        unfold EachPost
        rw [HE.out, ← HI.out.2, feed_step hkM, HOB.out]
        exact ⟨rfl, by rw [List.take_succ_eq_append_getElem hkM]; exact HI3.out⟩
      · go_wp2
        refine ⟨⟨k + 1, by omega, by go_num, rfl, by rw [List.take_succ_eq_append_getElem hkM]; exact HI3.out, ?_⟩, by simp [intOf]; omega⟩
        rw [← HI.out.2, feed_step hkM, HOB.out]; rfl
    · have heq : k = M.length := by omega
      subst heq
      clear hkM
      have HRE := Lib.hid (rem_end (M := M) (R := R))
      by_cases hR0 : R = []
      · have hne : (bA (remL M R M.length)).toList.isEmpty = true := by rw [hme, HRE.out, hR0]; rfl
        have H0 := Lib.hid hR0
        clear hme hR0
        generalize bA (remL M R M.length) = T at *
        go_wp2
        go_ret2
        unfold EachPost
        rw [HE.out, ← HI.out.2, feed_end, H0.out]
        exact ⟨rfl, by have := HI.out.1; rwa [List.take_length] at this⟩
      · have hRe : R.isEmpty = false := by cases R with | nil => exact absurd rfl hR0 | cons _ _ => rfl
        have hne : (bA (remL M R M.length)).toList.isEmpty = false := by rw [hme, HRE.out, hRe]
        have HC : Hid (Lib.cut (bA (remL M R M.length)).data.toList [10] = (R, [], false)) := by
          rw [data_bA, HRE.out]; exact cut_none1 HNO.out.1.2
        have H0 := Lib.hid hRe
        clear hme hR0 hRe
        generalize bA (remL M R M.length) = T at *
        go_wp2_with fail
        refine (cut_any T 10 wr hsz (hFd.out.maxl _ _ HI.out.1)).mono ?_
        rw [HC.out]
        rintro e w2 ⟨rfl, hb2⟩
        have HI2 := Lib.hid (hFd.out.grows _ _ _ HI.out.1 hb2)
        clear hb2
        go_wp2
        go_ret2
        unfold EachPost
        rw [HE.out, ← HI.out.2, feed_end, H0.out]
        exact ⟨rfl, by have := HI2.out; rwa [List.take_length] at this⟩
end Go.Proofs.YteliiknlpfjlkaaGreatDoor
/- Walks: what reads parts off the lines of a text: the program's function value and the reference's. -/
set_option linter.unusedVariables false
set_option linter.unusedSimpArgs false
namespace Go.Proofs.YteliiknlpfjlkaaGreatDoor
open Go Go.RowKit

theorem blk_ne {W : World} {a b : Nat} {cs cs' : Array Value} {t t' : TypeId} (h : Blk W a cs t) (h' : Blk W b cs' t') (ht : t ≠ t') : a ≠ b := by
  intro e
  subst e
  unfold Blk at h h'
  rw [h] at h'
  have := Option.some.inj h'
  simp at this
  exact ht this.2
theorem own_slice' {W : World} {B sz n : Nat} {e : TypeId} {v : Value} {xs : List Value} (h : W.ownsRow B e sz v n xs) : ∃ a cap, v = .slice a n cap := by
  rcases h.2 with ⟨hv, h0⟩ | ⟨g, cap, cur, rfl, _⟩
  · exact ⟨none, 0, by rw [hv, h0]⟩
  · exact ⟨_, cap, rfl⟩
/-- the parts that were read, behind some lines -/
structure PrInv (ob : Nat) (w0 : World) (done : List (List UInt8)) (W : World) : Prop where
  mx : MaxL w0
  be : Below w0.heap.size w0 W
  row : ∃ v xs, Blk W ob #[v] 26 ∧ W.ownsRow w0.heap.size 54 2 v xs.length (xs.flatMap Part.cells) ∧ xs.length = done.length ∧ ((∀ l ∈ done, (partDec l).isSome = true) → xs = done.filterMap partDec)
  hn : w0.heap.size ≤ ob
theorem PrInv.below {ob : Nat} {w0 W W' : World} {done : List (List UInt8)} (h : PrInv ob w0 done W) (hb : Below W.heap.size W W') : PrInv ob w0 done W' := by
  obtain ⟨v, xs, h1, h2, h3, h4⟩ := h.row
  exact ⟨h.mx, below_at h.be hb h.be.size, ⟨v, xs, h1.below hb h1.lt, own_below h2 hb, h3, h4⟩, h.hn⟩
/-- a part is put behind those that were -/
theorem PrInv.more {ob : Nat} {w0 W W1 W2 : World} {done : List (List UInt8)} {l : List UInt8} {v v' : Value} {xs : List Part} {x : Part} (h : PrInv ob w0 done W) (hbx : Blk W ob #[v] 26) (ho : W.ownsRow w0.heap.size 54 2 v xs.length (xs.flatMap Part.cells)) (hl : xs.length = done.length) (hx : (∀ l ∈ done, (partDec l).isSome = true) → xs = done.filterMap partDec)
    (hb : Below W.heap.size W W1) (hg : W1.grownBy W2 v.ownBlock) (ho2 : W2.ownsRow w0.heap.size 54 2 v' (xs.length + 1) (xs.flatMap Part.cells ++ [.int .i64 x.kind, .int .i64 x.amt])) (hd : ∀ y, partDec l = some y → x = y) :
    PrInv ob w0 (done ++ [l]) (W2.setCell ⟨ob, 0, none⟩ v') ∧ KeepS W (W2.setCell ⟨ob, 0, none⟩ v') := by
  have hn := h.hn
  have hbx1 := hbx.below hb hbx.lt
  have ho1 := own_below ho hb
  have hne := own_neM ho1 hbx1 (by decide)
  have hbx2 := hbx1.grown hg (fun e => hne e.symm)
  have hne2 := own_neM ho2 hbx2 (by decide)
  have hB2 : Below w0.heap.size w0 W2 := below_grown (below_at h.be hb h.be.size) ho1 hg (Nat.le_refl _) (Nat.le_trans h.be.size hb.size)
  refine ⟨⟨h.mx, Below.setCell hB2 hn _, ⟨v', xs ++ [x], hbx2.set 0 v', ?_, by simp [hl], fun ha => ?_⟩, hn⟩, ?_, fun b cs hs => ?_⟩
  · rw [List.length_append, List.length_singleton, List.flatMap_append, List.flatMap_cons, List.flatMap_nil, List.append_nil]
    refine ho2.kept (row := some ob) (grown_setCells ob [v'] 0 W2) ?_
    cases hv : v'.ownBlock with
    | none => exact .inl rfl
    | some k => exact .inr (fun e => hne2 (hv.trans e))
  · rw [List.filterMap_append, hx (fun y hy => ha y (List.mem_append_left _ hy))]
    obtain ⟨y, hy⟩ := Option.isSome_iff_exists.1 (ha l (by simp))
    rw [List.filterMap_cons, hy, hd y hy]; rfl
  · have h1 := hb.size; have h2 := hg.size; simp only [World.setCell, Array.size_modify]; omega
  · have h1 := hs.below hb hs.lt
    have h2 := h1.grown hg (fun e => own_neM ho1 h1 (by decide) e.symm)
    exact h2.setOther (blk_ne h2 hbx2 (by decide)) _ _
set_option maxHeartbeats 4000000 in
set_option maxRecDepth 100000 in
theorem read1_any (ob : Nat) (w0 : World) (done : List (List UInt8)) (x : ByteArray) (W : World) (h : PrInv ob w0 done W) (hdl : done.length ≤ 1000000) (hx : x.size ≤ 1000000) :
    Calls Tryz.prog 63 #[.string x, .pointer (some ⟨ob, 0, none⟩)] W fun e W' => e = .returned (.bool (partOk done x.data.toList)) ∧ PrInv ob w0 (done ++ [x.data.toList]) W' ∧ KeepS W W' := by
  have HI := Lib.hid h
  obtain ⟨i0, hi, hz0, hz1, hz2⟩ := info_parts infoPart
  clear h
  go_enter Tryz.func63, Tryz.ntmps63
  go_wp2_with fail
  refine (readLine_any x W hx (HI.out.mx.below HI.out.be)).mono ?_
  rintro e w1 ⟨k, n, ok, rfl, hd, hb1⟩
  have HI1 := Lib.hid (HI.out.below hb1)
  have HD := Lib.hid (And.intro hd hb1)
  obtain ⟨v, xs, hbx, ho, hl, hxs⟩ := HI1.out.row
  have hxl : xs.length ≤ 1000000 := by omega
  obtain ⟨sa, sc, rfl⟩ := own_slice' ho
  have hob := hbx.lt
  have b0 := hbx.cell 0 _ rfl
  have bf := hbx.free 0
  have HX := Lib.hid (And.intro hbx (And.intro ho (And.intro hl hxs)))
  have hw0 := HI1.out.be.size
  have hne := own_neM ho hbx (by decide)
  have HNE := Lib.hid hne
  clear hd hb1 hbx ho hl hxs hne
  go_wp2_with ((at_builtin; go_must (refine wpList_append_own _ rfl _ _ 26 rfl _ 54 _ (.agg #[.int .i64 0, .int .i64 0]) 2 16 Tryz.underlying26 hi hz0 hz1 hz2 rfl (by decide) _ _ _ rfl ((HX.out.2.1.alloc _).alloc _) ⟨(w1.heap.size + 1), 0, none⟩ 1 1 [.int .i64 k, .int .i64 n] rfl rfl (by exact news_at (by first | rfl | simp) (by rfl)) (by simp [Value.oneCell']) (by unfold maxLen; omega) (by omega) (by first | omega | (simp; done) | (simp; omega)) ?_)); intro v' w9 hown9 hgrow _; obtain ⟨g9, cap9, rfl⟩ := own_slice' hown9; have bb := ((HX.out.1.alloc (.cells #[.int .i64 k, .int .i64 n] 54)).alloc (.cells #[.int .i64 k, .int .i64 n] 54)).grown hgrow (fun e => HNE.out e.symm); have bb0 := bb.cell 0 _ rfl; have bbf := bb.free 0)
  go_ret
  have hm := HI1.out.more HX.out.1 HX.out.2.1 HX.out.2.2.1 HX.out.2.2.2 (l := x.data.toList) (x := ⟨k, n⟩) (below_alloc (below_alloc (Below.refl w1.heap.size w1) (.cells #[.int .i64 k, .int .i64 n] 54) (Nat.le_refl _)) (.cells #[.int .i64 k, .int .i64 n] 54) (by simp)) hgrow hown9 (fun y hy => by
    rcases HD.out.1 with ⟨h1, _⟩ | ⟨h1, _⟩
    · rw [h1] at hy; exact Option.some.inj hy
    · rw [h1] at hy; cases hy)
  refine ⟨?_, hm.1, (KeepS.below HD.out.2).trans hm.2⟩
  rcases HD.out.1 with ⟨h1, h2⟩ | ⟨h1, h2⟩
  · unfold partOk; rw [h1, h2]; rfl
  · unfold partOk; rw [h1, h2]; rfl
theorem read1_feeds (ob : Nat) (w0 : World) (most : Nat) (hm : most ≤ 1000000) : Feeds 63 #[.pointer (some ⟨ob, 0, none⟩)] partOk (PrInv ob w0) most where
  run := run_fn Tryz.func63 (by kernel_rfl) rfl
  grows := fun _ _ _ h hb => h.below hb
  call := fun done x W h hd hx => read1_any ob w0 done x W h hd (by omega)
  maxl := fun _ _ h => h.mx.below h.be
end Go.Proofs.YteliiknlpfjlkaaGreatDoor
/- Walks: parts are read from a text: the program and the reference. -/
set_option linter.unusedVariables false
set_option linter.unusedSimpArgs false
namespace Go.Proofs.YteliiknlpfjlkaaGreatDoor
open Go Go.RowKit

def ReadPost (text : ByteArray) (w : World) (e : Ending) (w' : World) : Prop := ∃ (v : Value) (xs : List Part) (i er : Int), e = .returned (.tuple #[v, .int .i64 i, .int .i64 er]) ∧ partsRead text.data.toList = (xs, i, er) ∧ Arr Part.cells 2 w' xs v ∧ Below w.heap.size w w'
set_option maxHeartbeats 4000000 in
set_option maxRecDepth 100000 in
theorem read_any (text : ByteArray) (w : World) (hs : text.size ≤ 1000000) (hM : MaxL w) : Calls Tryz.prog 25 #[.string text] w (ReadPost text w) := by
  have hl : text.data.toList.length = text.size := (Lib.size_eq text).symm
  by_cases hbig : 200000 < text.size
  · have hbi : (200000 : Int) < (text.size : Int) := by omega
    have HR := Lib.hid (show partsRead text.data.toList = ([], 0, 2) by unfold partsRead; rw [if_pos (by omega)])
    clear hl hM
    go_enter Tryz.func25, Tryz.ntmps25
    go_wp2
    go_ret3
    exact ⟨_, _, _, _, rfl, HR.out, Arr.nil _ _ _, Below.refl _ _⟩
  have hbi : ¬ (200000 : Int) < (text.size : Int) := by omega
  have HL := Lib.hid (show ¬ 200000 < text.data.toList.length by omega)
  have hI : PrInv w.heap.size w [] (w.alloc (.cells #[.slice none 0 0] 26)) := ⟨hM, below_alloc (Below.refl _ _) _ (Nat.le_refl _), ⟨_, [], Blk.new _ _ _, World.ownsRow_nil _ _ _ _, rfl, fun _ => rfl⟩, Nat.le_refl _⟩
  have HI := Lib.hid hI
  clear hl hI
  go_enter Tryz.func25, Tryz.ntmps25
  go_wp2_with fail
  refine (each_any _ _ partOk (PrInv w.heap.size w) 1000000 text _ (read1_feeds w.heap.size w 1000000 (Nat.le_refl _)) (Nat.le_refl _) hs HI.out).mono ?_
  unfold EachPost
  rintro e w2 ⟨rfl, hi⟩
  have HF : Hid (∀ i P, eachF partOk text.data.toList = (i, true, P) → ∀ l ∈ P, (partDec l).isSome = true) := fun i P h l hl => by
    obtain ⟨_, h2, _, h4⟩ := feed_ok (ok := partOk) (done := []) h
    rw [h2, List.nil_append] at hl
    obtain ⟨k, hk, rfl⟩ := List.mem_iff_getElem.1 hl
    have := h4 k hk
    exact this
  obtain ⟨I, hIe⟩ : ∃ I, eachF partOk text.data.toList = I := ⟨_, rfl⟩
  have HE := Lib.hid hIe
  rw [hIe] at hi ⊢
  obtain ⟨i, b, P⟩ := I
  simp only at hi ⊢
  have HI2 := Lib.hid hi
  clear hIe hi HI
  cases b
  · have HR := Lib.hid (show partsRead text.data.toList = ([], (i : Int), 9) by unfold partsRead; rw [if_neg HL.out, HE.out, if_pos rfl])
    go_wp2
    go_ret3
    exact ⟨_, _, _, _, rfl, HR.out, Arr.nil _ _ _, HI2.out.be⟩
  · obtain ⟨v, xs, hbx, ho, hxl, hx⟩ := HI2.out.row
    have hxs := hx (HF.out i P HE.out)
    have ha := Arr.of_own Part.cells_len ho
    obtain ⟨sa, sc, rfl⟩ := own_slice' ho
    have b0 := hbx.cell 0 _ rfl
    have HX := Lib.hid (And.intro hbx (And.intro ha hxs))
    clear hbx ho hx hxs ha hxl
    go_wp2_with fail
    refine (checkParts_any _ xs _ (by exact HX.out.2.1)).mono ?_
    rintro e w3 ⟨rfl, hb3⟩
    have H3 := Lib.hid (And.intro (HX.out.1.below hb3 HX.out.1.lt) (And.intro (HX.out.2.1.below hb3) (below_at HI2.out.be hb3 HI2.out.be.size)))
    clear hb3 b0
    obtain ⟨F, hF⟩ : ∃ F, F = partsFault xs := ⟨_, rfl⟩
    have HFF := Lib.hid hF
    rw [← hF]
    clear hF
    by_cases h0 : F = 0
    · subst h0
      have HR := Lib.hid (show partsRead text.data.toList = (xs, 0, 0) by unfold partsRead; rw [if_neg HL.out, HE.out, if_neg (by simp)]; simp only; rw [← HX.out.2.2, if_neg (by rw [← HFF.out]; simp)])
      have b0 := H3.out.1.cell 0 _ rfl
      go_wp2
      go_ret3
      exact ⟨_, _, _, _, rfl, HR.out, H3.out.2.1, H3.out.2.2⟩
    · have h1 : (F != 0) = true := by simpa using h0
      have HR := Lib.hid (show partsRead text.data.toList = ([], 0, F) by unfold partsRead; rw [if_neg HL.out, HE.out, if_neg (by simp)]; simp only; rw [← HX.out.2.2, ← HFF.out, if_pos h0])
      clear h0
      go_wp2
      go_ret3
      exact ⟨_, _, _, _, rfl, HR.out, Arr.nil _ _ _, H3.out.2.2⟩
end Go.Proofs.YteliiknlpfjlkaaGreatDoor
/- Walk of package budget: parts are written as a text. -/
set_option linter.unusedVariables false
set_option linter.unusedSimpArgs false
namespace Go.Proofs.YteliiknlpfjlkaaGreatDoor
open Go Go.RowKit

theorem app_data (a b : ByteArray) : (a ++ b).data.toList = a.data.toList ++ b.data.toList := by
  rw [ByteArray.data_append, Array.toList_append]
/-- a part's line as the program puts it together -/
def lineB (k : Int) (n : Int) : ByteArray := ((bA (kindW k) ++ ⟨#[32]⟩) ++ itoaZ n) ++ ⟨#[10]⟩
theorem lineB_data (x : Part) : (lineB x.kind x.amt).data.toList = partEnc x ++ [10] := by
  unfold lineB partEnc
  rw [app_data, app_data, app_data]
  show kindW x.kind ++ [32] ++ Lib.itoa x.amt ++ [10] = _
  simp
theorem text_succ {l : List Part} {k : Nat} (hk : k < l.length) : partsText (l.take (k + 1)) = partsText (l.take k) ++ (partEnc l[k] ++ [10]) := by
  unfold partsText
  rw [List.take_succ_eq_append_getElem hk, List.flatMap_append, List.flatMap_cons, List.flatMap_nil, List.append_nil]
def TextPost (l : List Part) (w : World) (e : Ending) (w' : World) : Prop := e = .returned (.tuple #[.string (bA (if partsFault l = 0 then partsText l else [])), .int .i64 (partsFault l)]) ∧ Below w.heap.size w w'
set_option maxHeartbeats 1500000 in
set_option maxRecDepth 100000 in
theorem text_any (v : Value) (l : List Part) (w : World) (h : Arr Part.cells 2 w l v) (ht : Tab10 w) : Calls Tryz.prog 22 #[v] w (TextPost l w) := by
  have HA := Lib.hid (And.intro h ht)
  obtain ⟨a, cap, rfl, hcap, hmax, hc⟩ := id h
  have hlen : l.length ≤ maxLen := by omega
  unfold maxLen at hlen hmax
  clear h ht hc
  go_enter Tryz.func22, Tryz.ntmps22
  go_wp2_with fail
  refine (checkParts_any _ l _ (by exact HA.out.1)).mono ?_
  rintro e w1 ⟨rfl, hb1⟩
  have H1 := Lib.hid (And.intro (HA.out.1.below hb1) (And.intro (HA.out.2.below hb1) hb1))
  have hz1 := hb1.size
  clear hb1
  obtain ⟨F, hF⟩ : ∃ F, F = partsFault l := ⟨_, rfl⟩
  have HF := Lib.hid hF
  rw [← hF]
  clear hF
  by_cases h0 : F = 0
  rotate_left
  · have h1 : (F != 0) = true := by simpa using h0
    have H0 := Lib.hid h0
    clear h0
    go_wp2
    go_ret2
    unfold TextPost
    rw [← HF.out, if_neg H0.out]
    exact ⟨rfl, H1.out.2.2⟩
  subst h0
  have HP := Lib.hid (parts_each HF.out.symm)
  have hl1000 := HP.out.1
  obtain ⟨a', cap', he, _, _, hc⟩ := H1.out.1
  simp only [Value.slice.injEq] at he
  obtain ⟨rfl, -, rfl⟩ := he
  have HC := Lib.hid hc
  have HB0 := Lib.hid (And.intro (bld_new w1) (below_alloc (Below.refl w1.heap.size w1) (.cells #[.pointer none, .slice none 0 0] 81) (Nat.le_refl _)))
  clear hc
  go_wp2
  generalize w1.alloc (.cells #[.pointer none, .slice none 0 0] 81) = w2 at *
  go_loopw [15] (fun i wr => ∃ k : Nat, k ≤ l.length ∧ i = .int .i64 k ∧ IsBld w1.heap.size w1.heap.size (partsText (l.take k)) wr ∧ Below w1.heap.size w1 wr) (fun i _ => l.length - (intOf i).toNat)
  case atStart => exact ⟨0, by omega, rfl, HB0.out.1, HB0.out.2⟩
  case round =>
    obtain ⟨k, hk, rfl, hbd, hbe⟩ := hrel
    have HR := Lib.hid (And.intro hbd hbe)
    have hsz := hbd.lt
    clear hbd hbe
    by_cases hlt : k < l.length
    · obtain ⟨b, off, rfl, hb, hcc⟩ := HC.out k hlt
      obtain ⟨c0, c1⟩ := part_at hcc
      replace c0 := (HR.out.2.cell (p := ⟨b, _, none⟩) hb).trans c0
      replace c1 := (HR.out.2.cell (p := ⟨b, _, none⟩) hb).trans c1
      have hpk := ok_part (HP.out.2 l[k] (List.getElem_mem hlt))
      obtain ⟨q1, q2, q3⟩ := hpk
      obtain ⟨kk, hkk⟩ := Int.eq_ofNat_of_zero_le (show 0 ≤ l[k].kind by omega)
      have HX := Lib.hid (And.intro (lineB_data l[k]) (text_succ hlt))
      have hll : (partsText (l.take k)).length ≤ 27000 := by
        have h1 := text_len (p := l.take k) (fun x hx => HP.out.2 x (List.mem_of_mem_take hx))
        rw [List.length_take] at h1; omega
      have hsl : (lineB l[k].kind l[k].amt).size ≤ 100 := by
        rw [Lib.size_eq, HX.out.1, List.length_append]
        have := (enc_dec (HP.out.2 l[k] (List.getElem_mem hlt))).2.2
        simp; omega
      have HSL := Lib.hid (And.intro hll hsl)
      clear hcc hll hsl
      generalize l[k] = X at *
      obtain ⟨xk, xa⟩ := X
      simp only at c0 c1 q1 q2 q3 hkk HX HSL
      subst hkk
      go_wp2_with fail
      have hX := Blk.new wr #[.int .i64 kk, .int .i64 xa] 54
      have hBa : Below wr.heap.size wr (wr.alloc (.cells #[.int .i64 kk, .int .i64 xa] 54)) := below_alloc (Below.refl _ _) _ (Nat.le_refl _)
      refine WalkT.start (fun w' => w'.cell? ⟨wr.heap.size, 0, none⟩ = some (.int .i64 kk) ∧ w'.cell? ⟨wr.heap.size, 1, none⟩ = some (.int .i64 xa)) [9] (by kernel_rfl) ?_
      have H3 : Hid (Blk ((wr.alloc (.cells #[.int .i64 kk, .int .i64 xa] 54)).drew) wr.heap.size #[.int .i64 kk, .int .i64 xa] 54 ∧ Below wr.heap.size wr ((wr.alloc (.cells #[.int .i64 kk, .int .i64 xa] 54)).drew)) := ⟨hX.drew, Below.drew hBa⟩
      clear hX hBa c0 c1
      generalize (wr.alloc (.cells #[.int .i64 kk, .int .i64 xa] 54)).drew = W0 at *
      have hS := And.intro (H3.out.1.cell 0 _ rfl) (H3.out.1.cell 1 _ rfl)
      (refine WalkT.quiet (i := 0) (v := ?_) rfl (by kernel_rfl) (by kernel_rfl) (by kernel_rfl) (fun _ _ _ h => h) (Or.inl ⟨by rfl, ?_⟩) ?_; rotate_left; (· (intro wS hSw; (try dsimp only at hSw); go_simp; try with_reducible rfl)); try simp only [Act.put, List.setIfInBounds_toArray, List.set_cons_zero, List.set_cons_succ, List.getElem_toArray, List.getElem_cons_succ, List.getElem_cons_zero])
      (refine WalkT.take (i := 1) (v := ?_) rfl (by kernel_rfl) (by kernel_rfl) (by kernel_rfl) (by kernel_rfl) (fun _ _ _ h => h) (hS) (Or.inl ⟨by rfl, ?_⟩) ?_; rotate_left; (· (intro wS hSw; (try dsimp only at hSw); obtain ⟨t0, t1⟩ := hSw; go_simp; try with_reducible rfl)); try simp only [Act.put, List.setIfInBounds_toArray, List.set_cons_zero, List.set_cons_succ, List.getElem_toArray, List.getElem_cons_succ, List.getElem_cons_zero])
      (refine WalkT.quiet (i := 4) (v := ?_) rfl (by kernel_rfl) (by kernel_rfl) (by kernel_rfl) (fun _ _ _ h => h) (Or.inl ⟨by rfl, ?_⟩) ?_; rotate_left; (· (intro wS hSw; (try dsimp only at hSw); go_simp; try with_reducible rfl)); try simp only [Act.put, List.setIfInBounds_toArray, List.set_cons_zero, List.set_cons_succ, List.getElem_toArray, List.getElem_cons_succ, List.getElem_cons_zero])
      (refine WalkT.take (i := 5) (v := ?_) rfl (by kernel_rfl) (by kernel_rfl) (by kernel_rfl) (by kernel_rfl) (fun _ _ _ h => h) (hS) (Or.inl ⟨by rfl, ?_⟩) ?_; rotate_left; (· (intro wS hSw; (try dsimp only at hSw); obtain ⟨t0, t1⟩ := hSw; go_simp; try with_reducible rfl)); try simp only [Act.put, List.setIfInBounds_toArray, List.set_cons_zero, List.set_cons_succ, List.getElem_toArray, List.getElem_cons_succ, List.getElem_cons_zero])
      (refine WalkT.ready (rs := [2]) (by kernel_rfl) (by simp) (AllT.cons rfl (fun K hK => ?_) AllT.nil); go_simp)
      refine (word_any kk ⟨by omega, by omega⟩ _).mono ?_
      rintro e Wq ⟨rfl, rfl⟩
      (refine hK.out _ _ (fun _ _ => hS) ?_; clear hK K; try simp only [Act.put, List.setIfInBounds_toArray, List.set_cons_zero, List.set_cons_succ, List.getElem_toArray, List.getElem_cons_succ, List.getElem_cons_zero])
      obtain ⟨K0, hK0⟩ : ∃ K0, K0 = bA (kindW kk) := ⟨_, rfl⟩
      rw [← hK0]
      have s0 : K0.size ≤ 9 := by rw [hK0, size_bA]; exact (kindW_no kk).2.2
      have a1 : ¬ 9223372036854775807 < K0.size + 1 := by omega
      have HK0 := Lib.hid hK0
      clear hK0
      (refine WalkT.quiet (i := 3) (v := ?_) rfl (by kernel_rfl) (by kernel_rfl) (by kernel_rfl) (fun _ _ _ h => h) (Or.inl ⟨by rfl, ?_⟩) ?_; rotate_left; (· (intro wS hSw; (try dsimp only at hSw); go_simp; try with_reducible rfl)); try simp only [Act.put, List.setIfInBounds_toArray, List.set_cons_zero, List.set_cons_succ, List.getElem_toArray, List.getElem_cons_succ, List.getElem_cons_zero])
      obtain ⟨K1, hK1⟩ : ∃ K1, K1 = K0 ++ ⟨#[32]⟩ := ⟨_, rfl⟩
      rw [← hK1]
      have s1 : K1.size ≤ 10 := by rw [hK1, ByteArray.size_append]; exact Nat.add_le_add_right s0 1
      have HK1 := Lib.hid hK1
      clear hK1 a1
      (refine WalkT.ready (rs := [6]) (by kernel_rfl) (by simp) (AllT.cons rfl (fun K hK => ?_) AllT.nil); go_simp)
      refine (itoaZ_any xa (by omega) (by omega) _ ?_).mono ?_
      · have h1 : Below w1.heap.size w1 W0 := below_at HR.out.2 H3.out.2 (by omega)
        exact H1.out.2.1.below h1
      rintro e W1 ⟨rfl, hb1⟩
      have H4 := Lib.hid (And.intro (H3.out.1.below hb1 H3.out.1.lt) (below_at H3.out.2 hb1 H3.out.2.size))
      clear hb1
      (refine hK.out _ _ (fun _ _ => ⟨H4.out.1.cell 0 _ rfl, H4.out.1.cell 1 _ rfl⟩) ?_; clear hK K; try simp only [Act.put, List.setIfInBounds_toArray, List.set_cons_zero, List.set_cons_succ, List.getElem_toArray, List.getElem_cons_succ, List.getElem_cons_zero])
      clear hS
      obtain ⟨T, hT⟩ : ∃ T, T = itoaZ xa := ⟨_, rfl⟩
      rw [← hT]
      have s2 : T.size ≤ 16 := by rw [hT]; show (bA (Lib.itoa xa)).size ≤ 16; rw [size_bA]; exact (numL_len (itoa_numL q3 (by decide))).1
      have a2 : ¬ 9223372036854775807 < K1.size + T.size := by omega
      have HT := Lib.hid hT
      clear hT
      (refine WalkT.quiet (i := 7) (v := ?_) rfl (by kernel_rfl) (by kernel_rfl) (by kernel_rfl) (fun _ _ _ h => h) (Or.inl ⟨by rfl, ?_⟩) ?_; rotate_left; (· (intro wS hSw; (try dsimp only at hSw); go_simp; try with_reducible rfl)); try simp only [Act.put, List.setIfInBounds_toArray, List.set_cons_zero, List.set_cons_succ, List.getElem_toArray, List.getElem_cons_succ, List.getElem_cons_zero])
      obtain ⟨K2, hK2⟩ : ∃ K2, K2 = K1 ++ T := ⟨_, rfl⟩
      rw [← hK2]
      have s3 : K2.size ≤ 26 := by rw [hK2, ByteArray.size_append]; omega
      have a3 : ¬ 9223372036854775807 < K2.size + 1 := by omega
      have HK2 := Lib.hid hK2
      clear hK2 a2
      (refine WalkT.quiet (i := 8) (v := ?_) rfl (by kernel_rfl) (by kernel_rfl) (by kernel_rfl) (fun _ _ _ h => h) (Or.inl ⟨by rfl, ?_⟩) ?_; rotate_left; (· (intro wS hSw; (try dsimp only at hSw); go_simp; try with_reducible rfl)); try simp only [Act.put, List.setIfInBounds_toArray, List.set_cons_zero, List.set_cons_succ, List.getElem_toArray, List.getElem_cons_succ, List.getElem_cons_zero])
      have hSe : K2 ++ ⟨#[10]⟩ = lineB kk xa := by rw [HK2.out, HK1.out, HK0.out, HT.out]; rfl
      rw [hSe]
      clear hSe a3
      (refine WalkT.ready (rs := [9]) (by kernel_rfl) (by simp) (AllT.cons rfl (fun K hK => ?_) AllT.nil); go_simp)
      refine (writeS_any w1.heap.size w1.heap.size (partsText (l.take k)) (lineB kk xa) _ (HR.out.1.below H4.out.2) (by have := HSL.out.1; have := HSL.out.2; omega) (by have := H4.out.2.size; omega)).mono ?_
      rintro e W2 ⟨rfl, hbd, hb2⟩
      have H5 := Lib.hid (And.intro hbd (below_at (below_at HR.out.2 H4.out.2 (by omega)) hb2 (Nat.le_refl _)))
      clear hbd hb2
      (refine hK.out _ _ (fun h => absurd h (by decide)) ?_; clear hK K; try simp only [Act.put, List.setIfInBounds_toArray, List.set_cons_zero, List.set_cons_succ, List.getElem_toArray, List.getElem_cons_succ, List.getElem_cons_zero])
      refine WalkT.done (by kernel_rfl) ?_
      go_wp2
      refine ⟨⟨k + 1, by omega, by go_num, ?_, H5.out.2⟩, by simp [intOf]; omega⟩
      rw [HX.out.2, ← HX.out.1]; exact H5.out.1
    · obtain rfl : k = l.length := by omega
      go_wp2_with fail
      refine (str_any w1.heap.size w1.heap.size _ _ HR.out.1 (by omega)).mono ?_
      rintro e w9 ⟨rfl, hb9⟩
      have H9 := Lib.hid (below_at HR.out.2 hb9 (Nat.le_refl _))
      clear hb9
      go_wp2
      go_ret2
      unfold TextPost
      rw [← HF.out, if_pos rfl]
      exact ⟨rfl, below_at H1.out.2.2 H9.out (by omega)⟩
end Go.Proofs.YteliiknlpfjlkaaGreatDoor
/- Walk of the reference: parts are written as a text. -/
set_option linter.unusedVariables false
set_option linter.unusedSimpArgs false
namespace Go.Proofs.YteliiknlpfjlkaaGreatDoor
open Go Go.RowKit

theorem partWords_any (w : World) : Calls Tryz.prog 60 #[] w fun e w' => e = .returned (.slice (some ⟨w.heap.size, 0, none⟩) 5 5) ∧ w' = w.alloc (.cells #[.string ⟨#[]⟩, .string ⟨#[102, 105, 98, 114, 101]⟩, .string ⟨#[115, 112, 108, 105, 99, 101]⟩, .string ⟨#[99, 111, 110, 110, 101, 99, 116, 111, 114]⟩, .string ⟨#[115, 112, 108, 105, 116, 116, 101, 114]⟩] 9) := by
  go_enter Tryz.func60, Tryz.ntmps60
  go_wp2
  go_ret
  exact ⟨rfl, rfl⟩
theorem words_cell {w : World} {b : Nat} (h : Blk w b #[.string ⟨#[]⟩, .string ⟨#[102, 105, 98, 114, 101]⟩, .string ⟨#[115, 112, 108, 105, 99, 101]⟩, .string ⟨#[99, 111, 110, 110, 101, 99, 116, 111, 114]⟩, .string ⟨#[115, 112, 108, 105, 116, 116, 101, 114]⟩] 9) (k : Nat) (hk : 1 ≤ k ∧ k ≤ 4) : w.cell? ⟨b, k, none⟩ = some (.string (bA (kindW k))) := by
  rcases (show k = 1 ∨ k = 2 ∨ k = 3 ∨ k = 4 by omega) with rfl | rfl | rfl | rfl
  · exact h.cell 1 _ rfl
  · exact h.cell 2 _ rfl
  · exact h.cell 3 _ rfl
  · exact h.cell 4 _ rfl
set_option maxHeartbeats 2000000 in
set_option maxRecDepth 100000 in
theorem partLines_any (v : Value) (l : List Part) (w : World) (h : Arr Part.cells 2 w l v) (ht : Tab10 w) (hf : partsFault l = 0) : Calls Tryz.prog 23 #[v] w fun e w' => e = .returned (.string (bA (partsText l))) ∧ Below w.heap.size w w' := by
  have HT := Lib.hid ht
  obtain ⟨a, cap, rfl, hcap, hmax, hc⟩ := id h
  unfold maxLen at hmax
  have HC := Lib.hid hc
  have HP := Lib.hid (parts_each hf)
  have hl1000 := HP.out.1
  have HB0 := Lib.hid (And.intro (bld_new w) (below_alloc (Below.refl w.heap.size w) (.cells #[.pointer none, .slice none 0 0] 81) (Nat.le_refl _)))
  clear h ht hc hf
  go_enter Tryz.func23, Tryz.ntmps23
  go_wp2
  generalize w.alloc (.cells #[.pointer none, .slice none 0 0] 81) = w2 at *
  go_loopw [8] (fun i wr => ∃ k : Nat, k ≤ l.length ∧ i = .int .i64 k ∧ IsBld w.heap.size w.heap.size (partsText (l.take k)) wr ∧ Below w.heap.size w wr) (fun i _ => l.length - (intOf i).toNat)
  case atStart => exact ⟨0, by omega, rfl, HB0.out.1, HB0.out.2⟩
  case round =>
    obtain ⟨k, hk, rfl, hbd, hbe⟩ := hrel
    have HR := Lib.hid (And.intro hbd hbe)
    have hsz := hbd.lt
    clear hbd hbe
    by_cases hlt : k < l.length
    · obtain ⟨b, off, rfl, hb, hcc⟩ := HC.out k hlt
      obtain ⟨c0, c1⟩ := part_at hcc
      replace c0 := (HR.out.2.cell (p := ⟨b, _, none⟩) hb).trans c0
      replace c1 := (HR.out.2.cell (p := ⟨b, _, none⟩) hb).trans c1
      have hpk := ok_part (HP.out.2 l[k] (List.getElem_mem hlt))
      obtain ⟨q1, q2, q3⟩ := hpk
      obtain ⟨kk, hkk⟩ := Int.eq_ofNat_of_zero_le (show 0 ≤ l[k].kind by omega)
      have HX := Lib.hid (And.intro (lineB_data l[k]) (text_succ hlt))
      have hll : (partsText (l.take k)).length ≤ 27000 := by
        have h1 := text_len (p := l.take k) (fun x hx => HP.out.2 x (List.mem_of_mem_take hx))
        rw [List.length_take] at h1; omega
      have hsl : (lineB l[k].kind l[k].amt).size ≤ 100 := by
        rw [Lib.size_eq, HX.out.1, List.length_append]
        have := (enc_dec (HP.out.2 l[k] (List.getElem_mem hlt))).2.2
        simp; omega
      have HSL := Lib.hid (And.intro hll hsl)
      clear hcc hll hsl
      generalize l[k] = X at *
      obtain ⟨xk, xa⟩ := X
      simp only at c0 c1 q1 q2 q3 hkk HX HSL
      subst hkk
      have hk4 : 1 ≤ kk ∧ kk ≤ 4 := by omega
      have i5 : (kk : Int) < 5 := by omega
      have i0 : (0 : Int) ≤ (kk : Int) := by omega
      go_wp2_with fail
      have hX := Blk.new wr #[.int .i64 kk, .int .i64 xa] 54
      have hBa : Below wr.heap.size wr (wr.alloc (.cells #[.int .i64 kk, .int .i64 xa] 54)) := below_alloc (Below.refl _ _) _ (Nat.le_refl _)
      refine WalkT.start (fun w' => w'.cell? ⟨wr.heap.size, 0, none⟩ = some (.int .i64 kk) ∧ w'.cell? ⟨wr.heap.size, 1, none⟩ = some (.int .i64 xa)) [11] (by kernel_rfl) ?_
      have H3 : Hid (Blk ((wr.alloc (.cells #[.int .i64 kk, .int .i64 xa] 54)).drew) wr.heap.size #[.int .i64 kk, .int .i64 xa] 54 ∧ Below wr.heap.size wr ((wr.alloc (.cells #[.int .i64 kk, .int .i64 xa] 54)).drew)) := ⟨hX.drew, Below.drew hBa⟩
      clear hX hBa c0 c1
      generalize (wr.alloc (.cells #[.int .i64 kk, .int .i64 xa] 54)).drew = W0 at *
      have hS := And.intro (H3.out.1.cell 0 _ rfl) (H3.out.1.cell 1 _ rfl)
      (refine WalkT.quiet (i := 1) (v := ?_) rfl (by kernel_rfl) (by kernel_rfl) (by kernel_rfl) (fun _ _ _ h => h) (Or.inl ⟨by rfl, ?_⟩) ?_; rotate_left; (· (intro wS hSw; (try dsimp only at hSw); go_simp; try with_reducible rfl)); try simp only [Act.put, List.setIfInBounds_toArray, List.set_cons_zero, List.set_cons_succ, List.getElem_toArray, List.getElem_cons_succ, List.getElem_cons_zero])
      (refine WalkT.take (i := 2) (v := ?_) rfl (by kernel_rfl) (by kernel_rfl) (by kernel_rfl) (by kernel_rfl) (fun _ _ _ h => h) (hS) (Or.inl ⟨by rfl, ?_⟩) ?_; rotate_left; (· (intro wS hSw; (try dsimp only at hSw); obtain ⟨t0, t1⟩ := hSw; go_simp; try with_reducible rfl)); try simp only [Act.put, List.setIfInBounds_toArray, List.set_cons_zero, List.set_cons_succ, List.getElem_toArray, List.getElem_cons_succ, List.getElem_cons_zero])
      (refine WalkT.quiet (i := 6) (v := ?_) rfl (by kernel_rfl) (by kernel_rfl) (by kernel_rfl) (fun _ _ _ h => h) (Or.inl ⟨by rfl, ?_⟩) ?_; rotate_left; (· (intro wS hSw; (try dsimp only at hSw); go_simp; try with_reducible rfl)); try simp only [Act.put, List.setIfInBounds_toArray, List.set_cons_zero, List.set_cons_succ, List.getElem_toArray, List.getElem_cons_succ, List.getElem_cons_zero])
      (refine WalkT.take (i := 7) (v := ?_) rfl (by kernel_rfl) (by kernel_rfl) (by kernel_rfl) (by kernel_rfl) (fun _ _ _ h => h) (hS) (Or.inl ⟨by rfl, ?_⟩) ?_; rotate_left; (· (intro wS hSw; (try dsimp only at hSw); obtain ⟨t0, t1⟩ := hSw; go_simp; try with_reducible rfl)); try simp only [Act.put, List.setIfInBounds_toArray, List.set_cons_zero, List.set_cons_succ, List.getElem_toArray, List.getElem_cons_succ, List.getElem_cons_zero])
      clear hS
      (refine WalkT.ready (rs := [0]) (by kernel_rfl) (by simp) (AllT.cons rfl (fun K hK => ?_) AllT.nil); go_simp)
      refine (partWords_any _).mono ?_
      rintro e W1 ⟨rfl, hw⟩
      have hba : Below W0.heap.size W0 W1 := by rw [hw]; exact below_alloc (Below.refl _ _) _ (Nat.le_refl _)
      have hwb : Blk W1 W0.heap.size #[.string ⟨#[]⟩, .string ⟨#[102, 105, 98, 114, 101]⟩, .string ⟨#[115, 112, 108, 105, 99, 101]⟩, .string ⟨#[99, 111, 110, 110, 101, 99, 116, 111, 114]⟩, .string ⟨#[115, 112, 108, 105, 116, 116, 101, 114]⟩] 9 := by rw [hw]; exact Blk.new _ _ _
      have H1 := Lib.hid (And.intro (H3.out.1.below hba H3.out.1.lt) (And.intro (below_at H3.out.2 hba H3.out.2.size) hwb))
      have hz1 := H1.out.2.1.size
      clear hw hba hwb
      (refine hK.out _ _ (fun _ _ => ⟨H1.out.1.cell 0 _ rfl, H1.out.1.cell 1 _ rfl⟩) ?_; clear hK K; try simp only [Act.put, List.setIfInBounds_toArray, List.set_cons_zero, List.set_cons_succ, List.getElem_toArray, List.getElem_cons_succ, List.getElem_cons_zero])
      (refine WalkT.quiet (i := 3) (v := ?_) rfl (by kernel_rfl) (by kernel_rfl) (by kernel_rfl) (fun _ _ _ h => h) (Or.inl ⟨by rfl, ?_⟩) ?_; rotate_left; (· (intro wS hSw; (try dsimp only at hSw); go_simp; try with_reducible rfl)); try simp only [Act.put, List.setIfInBounds_toArray, List.set_cons_zero, List.set_cons_succ, List.getElem_toArray, List.getElem_cons_succ, List.getElem_cons_zero])
      have wc := words_cell H1.out.2.2 kk hk4
      have HTW : Hid (Tab10 W1) := HT.out.below (below_at HR.out.2 H1.out.2.1 (by omega))
      refine WalkT.ready (rs := [4, 8]) (by kernel_rfl) (by simp) ?_
      refine AllT.cons rfl (fun K hK => ?_) ?_
      · go_simp
        (refine hK.out _ _ (fun _ _ => ⟨H1.out.1.cell 0 _ rfl, H1.out.1.cell 1 _ rfl⟩) ?_; clear hK K; try simp only [Act.put, List.setIfInBounds_toArray, List.set_cons_zero, List.set_cons_succ, List.getElem_toArray, List.getElem_cons_succ, List.getElem_cons_zero])
        (obtain ⟨K0, hK0⟩ : ∃ K0, K0 = bA (kindW kk) := ⟨_, rfl⟩; rw [← hK0]; have s0 : K0.size ≤ 9 := (by rw [hK0, size_bA]; exact (kindW_no kk).2.2); have a1 : ¬ 9223372036854775807 < K0.size + 1 := (by omega); have HK0 := Lib.hid hK0; clear hK0; (refine WalkT.quiet (i := 5) (v := ?_) rfl (by kernel_rfl) (by kernel_rfl) (by kernel_rfl) (fun _ _ _ h => h) (Or.inl ⟨by rfl, ?_⟩) ?_; rotate_left; (· (intro wS hSw; (try dsimp only at hSw); go_simp; try with_reducible rfl)); try simp only [Act.put, List.setIfInBounds_toArray, List.set_cons_zero, List.set_cons_succ, List.getElem_toArray, List.getElem_cons_succ, List.getElem_cons_zero]); obtain ⟨K1, hK1⟩ : ∃ K1, K1 = K0 ++ ⟨#[32]⟩ := ⟨_, rfl⟩; rw [← hK1]; have s1 : K1.size ≤ 10 := (by rw [hK1, ByteArray.size_append]; exact Nat.add_le_add_right s0 1); have HK1 := Lib.hid hK1; clear hK1 a1)
        (refine WalkT.ready (rs := [8]) (by kernel_rfl) (by simp) (AllT.cons rfl (fun K hK => ?_) AllT.nil); go_simp)
        refine (itoaZ_any xa (by omega) (by omega) _ HTW.out).mono ?_
        rintro e W3 ⟨rfl, hb1⟩
        have H4 := Lib.hid (below_at H1.out.2.1 hb1 H1.out.2.1.size)
        (refine hK.out _ _ (fun _ _ => ⟨(H1.out.1.below hb1 H1.out.1.lt).cell 0 _ rfl, (H1.out.1.below hb1 H1.out.1.lt).cell 1 _ rfl⟩) ?_; clear hK K; try simp only [Act.put, List.setIfInBounds_toArray, List.set_cons_zero, List.set_cons_succ, List.getElem_toArray, List.getElem_cons_succ, List.getElem_cons_zero])
        clear hb1 wc
        (obtain ⟨T, hT⟩ : ∃ T, T = itoaZ xa := ⟨_, rfl⟩; rw [← hT]; have s2 : T.size ≤ 16 := (by rw [hT]; show (bA (Lib.itoa xa)).size ≤ 16; rw [size_bA]; exact (numL_len (itoa_numL q3 (by decide))).1); have a2 : ¬ 9223372036854775807 < K1.size + T.size := (by omega); have HT := Lib.hid hT; clear hT; (refine WalkT.quiet (i := 9) (v := ?_) rfl (by kernel_rfl) (by kernel_rfl) (by kernel_rfl) (fun _ _ _ h => h) (Or.inl ⟨by rfl, ?_⟩) ?_; rotate_left; (· (intro wS hSw; (try dsimp only at hSw); go_simp; try with_reducible rfl)); try simp only [Act.put, List.setIfInBounds_toArray, List.set_cons_zero, List.set_cons_succ, List.getElem_toArray, List.getElem_cons_succ, List.getElem_cons_zero]); obtain ⟨K2, hK2⟩ : ∃ K2, K2 = K1 ++ T := ⟨_, rfl⟩; rw [← hK2]; have s3 : K2.size ≤ 26 := (by rw [hK2, ByteArray.size_append]; omega); have a3 : ¬ 9223372036854775807 < K2.size + 1 := (by omega); have HK2 := Lib.hid hK2; clear hK2 a2; (refine WalkT.quiet (i := 10) (v := ?_) rfl (by kernel_rfl) (by kernel_rfl) (by kernel_rfl) (fun _ _ _ h => h) (Or.inl ⟨by rfl, ?_⟩) ?_; rotate_left; (· (intro wS hSw; (try dsimp only at hSw); go_simp; try with_reducible rfl)); try simp only [Act.put, List.setIfInBounds_toArray, List.set_cons_zero, List.set_cons_succ, List.getElem_toArray, List.getElem_cons_succ, List.getElem_cons_zero]); have hSe : K2 ++ ⟨#[10]⟩ = lineB kk xa := (by rw [HK2.out, HK1.out, HK0.out, HT.out]; rfl); rw [hSe]; clear hSe a3)
        ((refine WalkT.ready (rs := [11]) (by kernel_rfl) (by simp) (AllT.cons rfl (fun K hK => ?_) AllT.nil); go_simp); refine (writeS_any w.heap.size w.heap.size (partsText (l.take k)) (lineB kk xa) _ (HR.out.1.below H4.out) (by have := HSL.out.1; have := HSL.out.2; omega) (by have := H4.out.size; omega)).mono ?_; rintro e W2 ⟨rfl, hbd, hb2⟩; have H5 := Lib.hid (And.intro hbd (below_at (below_at HR.out.2 H4.out (by omega)) hb2 (Nat.le_refl _))); clear hbd hb2; (refine hK.out _ _ (fun h => absurd h (by decide)) ?_; clear hK K; try simp only [Act.put, List.setIfInBounds_toArray, List.set_cons_zero, List.set_cons_succ, List.getElem_toArray, List.getElem_cons_succ, List.getElem_cons_zero]); refine WalkT.done (by kernel_rfl) ?_; go_wp2; refine ⟨⟨k + 1, by omega, by go_num, ?_, H5.out.2⟩, by simp [intOf]; omega⟩; rw [HX.out.2, ← HX.out.1]; exact H5.out.1)
      refine AllT.cons rfl (fun K hK => ?_) AllT.nil
      · go_simp
        refine (itoaZ_any xa (by omega) (by omega) _ HTW.out).mono ?_
        rintro e W3 ⟨rfl, hb1⟩
        have H4 := Lib.hid (below_at H1.out.2.1 hb1 H1.out.2.1.size)
        (refine hK.out _ _ (fun _ _ => ⟨(H1.out.1.below hb1 H1.out.1.lt).cell 0 _ rfl, (H1.out.1.below hb1 H1.out.1.lt).cell 1 _ rfl⟩) ?_; clear hK K; try simp only [Act.put, List.setIfInBounds_toArray, List.set_cons_zero, List.set_cons_succ, List.getElem_toArray, List.getElem_cons_succ, List.getElem_cons_zero])
        replace wc := words_cell (H1.out.2.2.below hb1 H1.out.2.2.lt) kk hk4
        have HB1 := Lib.hid (H1.out.1.below hb1 H1.out.1.lt)
        clear hb1
        (refine WalkT.ready (rs := [4]) (by kernel_rfl) (by simp) (AllT.cons rfl (fun K hK => ?_) AllT.nil); go_simp)
        (refine hK.out _ _ (fun _ _ => ⟨HB1.out.cell 0 _ rfl, HB1.out.cell 1 _ rfl⟩) ?_; clear hK K; try simp only [Act.put, List.setIfInBounds_toArray, List.set_cons_zero, List.set_cons_succ, List.getElem_toArray, List.getElem_cons_succ, List.getElem_cons_zero])
        clear wc
        (obtain ⟨K0, hK0⟩ : ∃ K0, K0 = bA (kindW kk) := ⟨_, rfl⟩; rw [← hK0]; have s0 : K0.size ≤ 9 := (by rw [hK0, size_bA]; exact (kindW_no kk).2.2); have a1 : ¬ 9223372036854775807 < K0.size + 1 := (by omega); have HK0 := Lib.hid hK0; clear hK0; (refine WalkT.quiet (i := 5) (v := ?_) rfl (by kernel_rfl) (by kernel_rfl) (by kernel_rfl) (fun _ _ _ h => h) (Or.inl ⟨by rfl, ?_⟩) ?_; rotate_left; (· (intro wS hSw; (try dsimp only at hSw); go_simp; try with_reducible rfl)); try simp only [Act.put, List.setIfInBounds_toArray, List.set_cons_zero, List.set_cons_succ, List.getElem_toArray, List.getElem_cons_succ, List.getElem_cons_zero]); obtain ⟨K1, hK1⟩ : ∃ K1, K1 = K0 ++ ⟨#[32]⟩ := ⟨_, rfl⟩; rw [← hK1]; have s1 : K1.size ≤ 10 := (by rw [hK1, ByteArray.size_append]; exact Nat.add_le_add_right s0 1); have HK1 := Lib.hid hK1; clear hK1 a1)
        (obtain ⟨T, hT⟩ : ∃ T, T = itoaZ xa := ⟨_, rfl⟩; rw [← hT]; have s2 : T.size ≤ 16 := (by rw [hT]; show (bA (Lib.itoa xa)).size ≤ 16; rw [size_bA]; exact (numL_len (itoa_numL q3 (by decide))).1); have a2 : ¬ 9223372036854775807 < K1.size + T.size := (by omega); have HT := Lib.hid hT; clear hT; (refine WalkT.quiet (i := 9) (v := ?_) rfl (by kernel_rfl) (by kernel_rfl) (by kernel_rfl) (fun _ _ _ h => h) (Or.inl ⟨by rfl, ?_⟩) ?_; rotate_left; (· (intro wS hSw; (try dsimp only at hSw); go_simp; try with_reducible rfl)); try simp only [Act.put, List.setIfInBounds_toArray, List.set_cons_zero, List.set_cons_succ, List.getElem_toArray, List.getElem_cons_succ, List.getElem_cons_zero]); obtain ⟨K2, hK2⟩ : ∃ K2, K2 = K1 ++ T := ⟨_, rfl⟩; rw [← hK2]; have s3 : K2.size ≤ 26 := (by rw [hK2, ByteArray.size_append]; omega); have a3 : ¬ 9223372036854775807 < K2.size + 1 := (by omega); have HK2 := Lib.hid hK2; clear hK2 a2; (refine WalkT.quiet (i := 10) (v := ?_) rfl (by kernel_rfl) (by kernel_rfl) (by kernel_rfl) (fun _ _ _ h => h) (Or.inl ⟨by rfl, ?_⟩) ?_; rotate_left; (· (intro wS hSw; (try dsimp only at hSw); go_simp; try with_reducible rfl)); try simp only [Act.put, List.setIfInBounds_toArray, List.set_cons_zero, List.set_cons_succ, List.getElem_toArray, List.getElem_cons_succ, List.getElem_cons_zero]); have hSe : K2 ++ ⟨#[10]⟩ = lineB kk xa := (by rw [HK2.out, HK1.out, HK0.out, HT.out]; rfl); rw [hSe]; clear hSe a3)
        ((refine WalkT.ready (rs := [11]) (by kernel_rfl) (by simp) (AllT.cons rfl (fun K hK => ?_) AllT.nil); go_simp); refine (writeS_any w.heap.size w.heap.size (partsText (l.take k)) (lineB kk xa) _ (HR.out.1.below H4.out) (by have := HSL.out.1; have := HSL.out.2; omega) (by have := H4.out.size; omega)).mono ?_; rintro e W2 ⟨rfl, hbd, hb2⟩; have H5 := Lib.hid (And.intro hbd (below_at (below_at HR.out.2 H4.out (by omega)) hb2 (Nat.le_refl _))); clear hbd hb2; (refine hK.out _ _ (fun h => absurd h (by decide)) ?_; clear hK K; try simp only [Act.put, List.setIfInBounds_toArray, List.set_cons_zero, List.set_cons_succ, List.getElem_toArray, List.getElem_cons_succ, List.getElem_cons_zero]); refine WalkT.done (by kernel_rfl) ?_; go_wp2; refine ⟨⟨k + 1, by omega, by go_num, ?_, H5.out.2⟩, by simp [intOf]; omega⟩; rw [HX.out.2, ← HX.out.1]; exact H5.out.1)
    · obtain rfl : k = l.length := by omega
      go_wp2_with fail
      refine (str_any w.heap.size w.heap.size _ _ HR.out.1 (by omega)).mono ?_
      rintro e w9 ⟨rfl, hb9⟩
      have H9 := Lib.hid (below_at HR.out.2 hb9 (Nat.le_refl _))
      clear hb9
      go_wp2
      go_ret
      exact ⟨rfl, H9.out⟩
end Go.Proofs.YteliiknlpfjlkaaGreatDoor
