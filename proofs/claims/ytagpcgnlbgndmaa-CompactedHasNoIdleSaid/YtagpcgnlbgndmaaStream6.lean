/- Walks of the stream: what draws lists of classes. -/
import Derived.Test.YtagpcgnlbgndmaaStreamL
import Derived.Test.YtagpcgnlbgndmaaOrders
import Derived.Test.YtagpcgnlbgndmaaLibB
import Derived.Test.YtagpcgnlbgndmaaRowPut
set_option linter.unusedVariables false
set_option linter.unusedSimpArgs false
namespace Go.Proofs.Ytagpcgnlbgndmaa
open Go Go.RowKit

theorem Arr.grownRow {α : Type} {cells : α → List Value} {sz : Nat} {w w' : World} {l : List α} {b off n cap : Nat} {row : Option Nat} (h : Arr cells sz w l (.slice (some ⟨b, off, none⟩) n cap)) (hg : w.grownBy w' row) (hne : row ≠ some b) : Arr cells sz w' l (.slice (some ⟨b, off, none⟩) n cap) := by
  obtain ⟨a, cap', he, h2, h3, h4⟩ := h
  refine ⟨a, cap', he, h2, h3, fun k hk => ?_⟩
  obtain ⟨b', off', ha, hb, hc⟩ := h4 k hk
  simp only [Value.slice.injEq] at he
  obtain ⟨he, _, _⟩ := he
  rw [ha] at he
  simp only [Option.some.injEq, Addr.mk.injEq, and_true] at he
  obtain ⟨rfl, rfl⟩ := he
  exact ⟨_, _, ha, Nat.lt_of_lt_of_le hb hg.size, fun j u hu => hg.cell (hc j u hu) (fun e => hne e.symm)⟩

theorem genLit {C : World → Prop} {W : World} {cs : Array Value} {t : TypeId} (s n : Nat) (l : List Int) (hcs : cs.toList = l.map (Value.int .i64)) (hn : n = l.length) (hl : l.length ≤ 1000000)
    (h : ∀ W', W.grownBy W' (some s) → (∀ m, Strm W s m → Strm W' s m) → Arr intCells 1 W' l (.slice (some ⟨W.heap.size, 0, none⟩) n n) → C W') : C (W.alloc (.cells cs t)) :=
  h _ (World.grownBy_alloc W _ _) (fun _ hs => hs.alloc _) (arr_ints_lit rfl hn hcs hl)
theorem genStr {C : World → Prop} {W : World} {cs : Array Value} {t : TypeId} (s n : Nat) (l : List ByteArray) (hcs : cs.toList = l.flatMap strCells) (hn : n = l.length) (hl : l.length ≤ 1000000)
    (h : ∀ W', W.grownBy W' (some s) → (∀ m, Strm W s m → Strm W' s m) → Arr strCells 1 W' l (.slice (some ⟨W.heap.size, 0, none⟩) n n) → C W') : C (W.alloc (.cells cs t)) :=
  h _ (World.grownBy_alloc W _ _) (fun _ hs => hs.alloc _) (Arr.litAt (cells := strCells) (sz := 1) (l := l) (fun _ => rfl) rfl hcs hn (by rw [hn]; unfold maxLen; omega))
theorem slice_ne {s q k : Nat} (h : s < q) : ∀ n cap off, Value.slice (some ⟨q, 0, none⟩) k k ≠ .slice (some ⟨s, off, none⟩) n cap := by
  intro n cap off e
  simp only [Value.slice.injEq, Option.some.injEq, Addr.mk.injEq] at e
  omega
theorem slice_low {s g n cap : Nat} (h : s < g) : ∀ b off n' cap', Value.slice (some ⟨g, 0, none⟩) n cap = .slice (some ⟨b, off, none⟩) n' cap' → s < b := by
  intro b off n' cap' e
  simp only [Value.slice.injEq, Option.some.injEq, Addr.mk.injEq] at e
  have := e.1.1
  omega
theorem own_off {w : World} {base : Nat} {e : TypeId} {size : Nat} {g off n cap m : Nat} {xs : List Value} (h : w.ownsRow base e size (.slice (some ⟨g, off, none⟩) n cap) m xs) : off = 0 := by
  obtain ⟨_, h2⟩ := h
  rcases h2 with ⟨e, _⟩ | ⟨_, _, _, e, _⟩
  · cases e
  · simp only [Value.slice.injEq, Option.some.injEq, Addr.mk.injEq] at e; exact e.1.2.1
theorem class_cells {w : World} {g k : Nat} {l : List Class} {c : Class} (hc : ∃ h : k < l.length, l[k] = c) (h : Row Class.cells 3 w g l) :
    w.cell? ⟨g, k * 3, none⟩ = some (.string c.key) ∧ w.cell? ⟨g, k * 3 + 1, none⟩ = some (.int .i64 c.min) ∧ w.cell? ⟨g, k * 3 + 2, none⟩ = some (.int .i64 c.max) := by
  obtain ⟨hk, rfl⟩ := hc
  have e : ∀ j, (⟨g, 0 + k * 3 + j, none⟩ : Addr) = ⟨g, k * 3 + j, none⟩ := fun j => by rw [Nat.zero_add]
  exact ⟨by have := h.1 k hk 0 _ rfl; rw [e] at this; exact this, by have := h.1 k hk 1 _ rfl; rw [e] at this; exact this, by have := h.1 k hk 2 _ rfl; rw [e] at this; exact this⟩
theorem class_other0 {k : Nat} {l : List Class} {c : Class} {a : ByteArray} (hc : ∃ h : k < l.length, l[k] = c) : ∀ j, j ≠ 0 → (Class.cells ⟨a, c.min, c.max⟩)[j]? = (Class.cells (l[k]'hc.1))[j]? := by
  obtain ⟨hk, rfl⟩ := hc
  intro j hj
  cases j with
  | zero => exact absurd rfl hj
  | succ j => rfl
theorem class_other2 {k : Nat} {l : List Class} {a : ByteArray} {x y z : Int} (hk : k < l.length) : ∀ j, j ≠ 2 → (Class.cells ⟨a, x, z⟩)[j]? = (Class.cells ((l.set k ⟨a, x, y⟩)[k]'(by rw [List.length_set]; exact hk)))[j]? := by
  intro j hj
  rw [List.getElem_set_self]
  match j with
  | 0 => rfl
  | 1 => rfl
  | 2 => exact absurd rfl hj
  | j + 3 => rfl

theorem infoClass6 : (Try.prog.info? 119).map (fun i => (i.zero, i.size, i.bytes)) = some (some (.agg #[.string ⟨#[]⟩, .int .i64 0, .int .i64 0]), 3, 32) := by kernel_rfl

set_option maxHeartbeats 1000000 in
set_option maxRecDepth 100000 in
theorem classList_any (s m : Nat) (w : World) (h : Strm w s m) (hm : m ≤ 1000000) : Calls Try.prog 17 #[.pointer (some ⟨s, 0, none⟩)] w
    (Draw (NewArr Class.cells 3 s) s m 20 w) := by
  have hl := h.lt
  obtain ⟨i0, hi, hz0, hz1, hz2⟩ := info_parts infoClass6
  go_enter Try.func17, Try.ntmps17
  go_wp2_with fail
  refine (range_any s m _ _ _ (h.alloc _) (by omega) (by omega) (by omega) (by omega)).mono ?_
  rintro e w1 ⟨v, rfl, ⟨r, rfl, r0, r1⟩, hs1, hg1⟩
  obtain ⟨n, rfl⟩ := Int.eq_ofNat_of_zero_le r0
  have hn : n ≤ 3 := by omega
  have hA0 : Arr strCells 1 (w.alloc (.cells #[.string ⟨#[97]⟩, .string ⟨#[98]⟩, .string ⟨#[99]⟩] 9)) [⟨#[97]⟩, ⟨#[98]⟩, ⟨#[99]⟩] (.slice (some ⟨w.heap.size, 0, none⟩) 3 3) := Arr.litAt (cells := strCells) (sz := 1) (l := [⟨#[97]⟩, ⟨#[98]⟩, ⟨#[99]⟩]) (fun _ => rfl) rfl (by rfl) (by rfl) (by simp [maxLen])
  have HI := Lib.hid (And.intro hs1 (And.intro (grown_trans (World.grownBy_alloc w _ _) hg1) (Arr.grown hA0 hg1 (by omega))))
  clear hs1 hg1 hA0
  go_wp2
  go_loopw [3, 13] (fun v i wr => ∃ l : List Class, l.length ≤ n ∧ i = .int .i64 l.length ∧ wr.ownsRow (w.heap.size + 1) 119 3 v l.length (l.flatMap Class.cells) ∧ Strm wr s (m + 1 + 2 * l.length) ∧ w.grownBy wr (some s) ∧ (∀ c ∈ l, 0 ≤ c.min ∧ c.min ≤ 1000) ∧ Arr strCells 1 wr [⟨#[97]⟩, ⟨#[98]⟩, ⟨#[99]⟩] (.slice (some ⟨w.heap.size, 0, none⟩) 3 3)) (fun _ i _ => n - (intOf i).toNat)
  case atStart => exact ⟨[], by simp, rfl, World.ownsRow_nil _ _ _ _, HI.out.1, HI.out.2.1, by simp, HI.out.2.2⟩
  case round =>
    obtain ⟨l, hk, rfl, hown, hs, hg, hB, hA⟩ := hrel
    have HBD := Lib.hid hB
    clear hB
    have hsz : w.heap.size ≤ wr.heap.size := hg.size
    by_cases hlt : l.length < n
    · obtain ⟨a, cap, he, -, -, hc⟩ := hA
      obtain ⟨b, off, ha, hbl, hcc⟩ := hc l.length (by simp only [List.length_cons, List.length_nil]; omega)
      simp only [List.length_cons, List.length_nil, Value.slice.injEq] at he
      obtain ⟨he, -, -⟩ := he
      rw [ha] at he
      simp only [Option.some.injEq, Addr.mk.injEq, and_true] at he
      obtain ⟨rfl, rfl⟩ := he
      have c0 := hcc 0 _ rfl
      simp only [Nat.mul_one, Nat.add_zero, Nat.zero_add] at c0
      generalize ([⟨#[97]⟩, ⟨#[98]⟩, ⟨#[99]⟩] : List ByteArray)[l.length]'(by simp only [List.length_cons, List.length_nil]; omega) = key at c0
      have hA : Arr strCells 1 wr [⟨#[97]⟩, ⟨#[98]⟩, ⟨#[99]⟩] (.slice (some ⟨w.heap.size, 0, none⟩) 3 3) := ⟨_, 3, rfl, by simp, by simp [maxLen], fun k hk => by obtain ⟨b, off, h1, h2, h3⟩ := hc k hk; rw [ha] at h1; exact ⟨b, off, h1, h2, h3⟩⟩
      have HO := Lib.hid (And.intro hown (And.intro hg hA))
      clear hown hg hA hc hcc ha
      go_wp2_with fail
      refine (pick_lit s (m + 1 + 2 * l.length) [0, 500, 1000] _ (hs) (by omega) (by simp) (by simp) (by first | rfl | simp) (by rfl) (by rfl)).mono ?_
      rintro e w2 ⟨v, rfl, ⟨r2, rfl, hr2⟩, hs2, hg2⟩
      go_wp2_with fail
      refine (pick_lit s (m + 1 + 2 * l.length + 1) [0, 500, 1500, 1500] _ (hs2) (by omega) (by simp) (by simp) (by first | rfl | simp) (by rfl) (by rfl)).mono ?_
      rintro e w3 ⟨v, rfl, ⟨r3, rfl, hr3⟩, hs3, hg3⟩
      simp only [List.mem_cons, List.not_mem_nil, or_false] at hr2 hr3
      have hb2 : 0 ≤ r2 ∧ r2 ≤ 1000 := by omega
      have hb3 : 0 ≤ r3 ∧ r3 ≤ 1500 := by omega
      obtain ⟨b21, b22⟩ := hb2
      obtain ⟨b31, b32⟩ := hb3
      have l2 := hg2.size
      have l3 := hg3.size
      have HO2 := Lib.hid (own_grown (own_grown HO.out.1 hg2 (by omega)) hg3 (by omega))
      have HG2 := Lib.hid (grown_trans HO.out.2.1 (grown_trans hg2 hg3))
      have HA2 := Lib.hid (Arr.grown (Arr.grown HO.out.2.2 hg2 (by omega)) hg3 (by omega))
      clear hr2 hr3 hs hs2 hg2 hg3 HO c0
      go_wp2_with ((at_builtin; go_must (refine wpList_append_own _ rfl _ _ 34 rfl _ 119 _ (.agg #[.string ⟨#[]⟩, .int .i64 0, .int .i64 0]) 3 32 Try.underlying34 hi hz0 hz1 hz2 rfl (by decide) _ _ _ rfl (own_below HO2.out (by (repeat (first | exact Below.refl _ _ | assumption | refine below_draws ?_ _ | refine Below.drew ?_ | refine below_alloc ?_ _ (by first | omega | (simp; done) | (simp; omega)) | refine Below.setCell ?_ (by first | omega | (simp; done) | (simp; omega)) _ | refine below_at ?_ (by assumption) (by first | omega | (simp; done) | (simp; omega)))))) ⟨w3.heap.size, 0, none⟩ 1 1 [.string key, .int .i64 r2, .int .i64 (r2 + r3)] rfl rfl (by exact news_at (by first | rfl | simp) (by rfl)) (by simp [Value.oneCell']) (by unfold maxLen; omega) (by omega) (by first | omega | (simp; done) | (simp; omega)) ?_)); intro v' w4 hown3 hgrow _)
      refine ⟨⟨l ++ [⟨key, r2, r2 + r3⟩], by simp only [List.length_append, List.length_cons, List.length_nil]; omega, by simp, ?_, ?_, ?_, ?_, ?_⟩, by simp [intOf]; omega⟩
      · simp only [List.length_append, List.length_cons, List.length_nil, List.flatMap_append, List.flatMap_cons, List.flatMap_nil, List.append_nil]; exact hown3
      · refine (strm_app (hs3.alloc _) (own_below HO2.out (by (repeat (first | exact Below.refl _ _ | assumption | refine below_draws ?_ _ | refine Below.drew ?_ | refine below_alloc ?_ _ (by first | omega | (simp; done) | (simp; omega)) | refine Below.setCell ?_ (by first | omega | (simp; done) | (simp; omega)) _ | refine below_at ?_ (by assumption) (by first | omega | (simp; done) | (simp; omega)))))) hgrow (by omega)).mono (by simp; omega)
      · exact grown_app (grown_alloc HG2.out _) (own_below HO2.out (by (repeat (first | exact Below.refl _ _ | assumption | refine below_draws ?_ _ | refine Below.drew ?_ | refine below_alloc ?_ _ (by first | omega | (simp; done) | (simp; omega)) | refine Below.setCell ?_ (by first | omega | (simp; done) | (simp; omega)) _ | refine below_at ?_ (by assumption) (by first | omega | (simp; done) | (simp; omega)))))) hgrow (by omega)
      · intro c hc
        rcases List.mem_append.1 hc with h | h
        · exact HBD.out c h
        · rw [List.mem_singleton] at h; subst h; exact ⟨b21, b22⟩
      · exact Arr.grownRow (HA2.out.below (below_alloc (Below.refl _ _) _ (Nat.le_refl _))) hgrow (by intro e; have := ((own_below HO2.out (by (repeat (first | exact Below.refl _ _ | assumption | refine below_draws ?_ _ | refine Below.drew ?_ | refine below_alloc ?_ _ (by first | omega | (simp; done) | (simp; omega)) | refine Below.setCell ?_ (by first | omega | (simp; done) | (simp; omega)) _ | refine below_at ?_ (by assumption) (by first | omega | (simp; done) | (simp; omega)))))).lt _ e).1; omega)
    · have HO := Lib.hid (And.intro hown (And.intro hs hg))
      have hM : m + 1 + 2 * l.length ≤ m + 7 := by omega
      generalize m + 1 + 2 * l.length = M at *
      have hAr := Arr.of_own Class.cells_len hown
      by_cases hl0 : 0 < l.length
      · obtain ⟨a, cap, rfl, hcap, hmax, hc⟩ := hAr
        obtain ⟨g, off, rfl, -, -⟩ := hc 0 hl0
        obtain rfl : off = 0 := own_off hown
        have hrow := Row.of_own Class.cells_len hown rfl
        have hgl := (hown.lt g rfl).1
        have HSR : Hid (RowSt Class.cells 3 s M w g wr l) := Lib.hid ⟨hs, hg, hrow, hl, by omega⟩
        have hlen : l.length ≤ 3 := by omega
        clear hown hg hA hc hrow HO
        go_wp2_with fail
        refine (flip_any s M _ _ hs (by omega) (by omega) (by omega)).mono ?_
        rintro e wy ⟨v, rfl, ⟨fb, rfl⟩, hsy, hgy⟩
        have HSY := Lib.hid (HSR.out.step hsy hgy)
        clear HSR hgy hs
        cases fb
        · go_wp2
          go_ret
          exact ⟨_, rfl, ⟨l, HSY.out.row.arr rfl hcap hmax, slice_low (g := g) (n := l.length) (cap := cap) (by omega)⟩, HSY.out.st.mono (by omega), HSY.out.gr⟩
        · go_wp2_with fail
          refine (next_any s (M + 1) _ _ hsy (by omega) (by omega) (by omega)).mono ?_
          rintro e wz ⟨v, rfl, ⟨r, rfl, z0, z1⟩, hsz2, hgz⟩
          obtain ⟨k, rfl⟩ := Int.eq_ofNat_of_zero_le z0
          have hkl : k < l.length := by omega
          have HSZ := Lib.hid (HSY.out.step hsz2 hgz)
          have hbd := HBD.out l[k] (List.getElem_mem _)
          have HC0 : Hid (∃ c, l[k]'hkl = c) := Lib.hid ⟨_, rfl⟩
          obtain ⟨c, hc⟩ := HC0.out
          have HC : Hid (∃ h : k < l.length, l[k] = c) := Lib.hid ⟨hkl, hc⟩
          rw [hc] at hbd
          obtain ⟨b1, b2⟩ := hbd
          have w1' : IntKind.i64.wrap (c.min - 1) = c.min - 1 := IntWalk.i64_in _ (by omega)
          clear HSY hsy hgz hsz2 hc HC0
          go_wp2_with fail
          have SW0 : RowSt Class.cells 3 s (M + 1 + 1) w g wz.drew l := ⟨HSZ.out.st.drew, grown_drew HSZ.out.gr, HSZ.out.row, HSZ.out.l1, HSZ.out.l2⟩
          clear HSZ
          refine WalkT.start (fun w' => w'.cell? ⟨g, k * 3, none⟩ = some (.string c.key) ∧ w'.cell? ⟨g, k * 3 + 1, none⟩ = some (.int .i64 c.min) ∧ w'.cell? ⟨g, k * 3 + 2, none⟩ = some (.int .i64 c.max)) [23, 26] (by kernel_rfl) ?_
          generalize wz.drew = W0 at *
          refine WalkT.quiet (i := 0) (v := ?_) rfl (by kernel_rfl) (by kernel_rfl) (by kernel_rfl) (fun _ _ _ h => h) (Or.inl ⟨by rfl, ?_⟩) ?_
          rotate_left
          · (intro wS hSw; (try dsimp only at hSw); go_simp; try with_reducible rfl)
          try simp only [Act.put, List.setIfInBounds_toArray, List.set_cons_zero, List.set_cons_succ]
          refine WalkT.quiet (i := 1) (v := ?_) rfl (by kernel_rfl) (by kernel_rfl) (by kernel_rfl) (fun _ _ _ h => h) (Or.inl ⟨by rfl, ?_⟩) ?_
          rotate_left
          · (intro wS hSw; (try dsimp only at hSw); go_simp; try with_reducible rfl)
          try simp only [Act.put, List.setIfInBounds_toArray, List.set_cons_zero, List.set_cons_succ]
          refine WalkT.quiet (i := 2) (v := ?_) rfl (by kernel_rfl) (by kernel_rfl) (by kernel_rfl) (fun _ _ _ h => h) (Or.inl ⟨by rfl, ?_⟩) ?_
          rotate_left
          · (intro wS hSw; (try dsimp only at hSw); go_simp; try with_reducible rfl)
          try simp only [Act.put, List.setIfInBounds_toArray, List.set_cons_zero, List.set_cons_succ]
          refine WalkT.quiet (i := 3) (v := ?_) rfl (by kernel_rfl) (by kernel_rfl) (by kernel_rfl) (fun _ _ _ h => h) (Or.inl ⟨by rfl, ?_⟩) ?_
          rotate_left
          · (intro wS hSw; (try dsimp only at hSw); go_simp; try with_reducible rfl)
          try simp only [Act.put, List.setIfInBounds_toArray, List.set_cons_zero, List.set_cons_succ]
          refine WalkT.quiet (i := 4) (v := ?_) rfl (by kernel_rfl) (by kernel_rfl) (by kernel_rfl) (fun _ _ _ h => h) (Or.inl ⟨by rfl, ?_⟩) ?_
          rotate_left
          · (intro wS hSw; (try dsimp only at hSw); go_simp; try with_reducible rfl)
          try simp only [Act.put, List.setIfInBounds_toArray, List.set_cons_zero, List.set_cons_succ]
          refine WalkT.quiet (i := 5) (v := ?_) rfl (by kernel_rfl) (by kernel_rfl) (by kernel_rfl) (fun _ _ _ h => h) (Or.inl ⟨by rfl, ?_⟩) ?_
          rotate_left
          · (intro wS hSw; (try dsimp only at hSw); go_simp; try with_reducible rfl)
          try simp only [Act.put, List.setIfInBounds_toArray, List.set_cons_zero, List.set_cons_succ]
          refine WalkT.take (i := 6) (v := ?_) rfl (by kernel_rfl) (by kernel_rfl) (by kernel_rfl) (by kernel_rfl) (fun _ _ _ h => h) (class_cells HC.out SW0.row) (Or.inl ⟨by rfl, ?_⟩) ?_
          rotate_left
          · (intro wS hSw; (try dsimp only at hSw); go_simp; try with_reducible rfl)
          try simp only [Act.put, List.setIfInBounds_toArray, List.set_cons_zero, List.set_cons_succ]
          refine WalkT.quiet (i := 9) (v := ?_) rfl (by kernel_rfl) (by kernel_rfl) (by kernel_rfl) (fun _ _ _ h => h) (Or.inl ⟨by rfl, ?_⟩) ?_
          rotate_left
          · (intro wS hSw; (try dsimp only at hSw); go_simp; try with_reducible rfl)
          try simp only [Act.put, List.setIfInBounds_toArray, List.set_cons_zero, List.set_cons_succ]
          refine WalkT.quiet (i := 10) (v := ?_) rfl (by kernel_rfl) (by kernel_rfl) (by kernel_rfl) (fun _ _ _ h => h) (Or.inl ⟨by rfl, ?_⟩) ?_
          rotate_left
          · (intro wS hSw; (try dsimp only at hSw); go_simp; try with_reducible rfl)
          try simp only [Act.put, List.setIfInBounds_toArray, List.set_cons_zero, List.set_cons_succ]
          refine WalkT.quiet (i := 11) (v := ?_) rfl (by kernel_rfl) (by kernel_rfl) (by kernel_rfl) (fun _ _ _ h => h) (Or.inl ⟨by rfl, ?_⟩) ?_
          rotate_left
          · (intro wS hSw; (try dsimp only at hSw); go_simp; try with_reducible rfl)
          try simp only [Act.put, List.setIfInBounds_toArray, List.set_cons_zero, List.set_cons_succ]
          refine WalkT.quiet (i := 12) (v := ?_) rfl (by kernel_rfl) (by kernel_rfl) (by kernel_rfl) (fun _ _ _ h => h) (Or.inl ⟨by rfl, ?_⟩) ?_
          rotate_left
          · (intro wS hSw; (try dsimp only at hSw); go_simp; try with_reducible rfl)
          try simp only [Act.put, List.setIfInBounds_toArray, List.set_cons_zero, List.set_cons_succ]
          refine WalkT.take (i := 13) (v := ?_) rfl (by kernel_rfl) (by kernel_rfl) (by kernel_rfl) (by kernel_rfl) (fun _ _ _ h => h) (class_cells HC.out SW0.row) (Or.inl ⟨by rfl, ?_⟩) ?_
          rotate_left
          · (intro wS hSw; (try dsimp only at hSw); go_simp; try with_reducible rfl)
          try simp only [Act.put, List.setIfInBounds_toArray, List.set_cons_zero, List.set_cons_succ]
          refine WalkT.quiet (i := 14) (v := ?_) rfl (by kernel_rfl) (by kernel_rfl) (by kernel_rfl) (fun _ _ _ h => h) (Or.inl ⟨by rfl, ?_⟩) ?_
          rotate_left
          · (intro wS hSw; (try dsimp only at hSw); go_simp; try with_reducible rfl)
          try simp only [Act.put, List.setIfInBounds_toArray, List.set_cons_zero, List.set_cons_succ]
          refine WalkT.quiet (i := 15) (v := ?_) rfl (by kernel_rfl) (by kernel_rfl) (by kernel_rfl) (fun _ _ _ h => h) (Or.inl ⟨by rfl, ?_⟩) ?_
          rotate_left
          · (intro wS hSw; (try dsimp only at hSw); go_simp; try with_reducible rfl)
          try simp only [Act.put, List.setIfInBounds_toArray, List.set_cons_zero, List.set_cons_succ]
          refine WalkT.quiet (i := 16) (v := ?_) rfl (by kernel_rfl) (by kernel_rfl) (by kernel_rfl) (fun _ _ _ h => h) (Or.inl ⟨by rfl, ?_⟩) ?_
          rotate_left
          · (intro wS hSw; (try dsimp only at hSw); go_simp; try with_reducible rfl)
          try simp only [Act.put, List.setIfInBounds_toArray, List.set_cons_zero, List.set_cons_succ]
          refine WalkT.take (i := 17) (v := ?_) rfl (by kernel_rfl) (by kernel_rfl) (by kernel_rfl) (by kernel_rfl) (fun _ _ _ h => h) (class_cells HC.out SW0.row) (Or.inl ⟨by rfl, ?_⟩) ?_
          rotate_left
          · (intro wS hSw; (try dsimp only at hSw); go_simp; try with_reducible rfl)
          try simp only [Act.put, List.setIfInBounds_toArray, List.set_cons_zero, List.set_cons_succ]
          refine WalkT.quiet (i := 18) (v := ?_) rfl (by kernel_rfl) (by kernel_rfl) (by kernel_rfl) (fun _ _ _ h => h) (Or.inl ⟨by rfl, ?_⟩) ?_
          rotate_left
          · (intro wS hSw; (try dsimp only at hSw); go_simp; try with_reducible rfl)
          try simp only [Act.put, List.setIfInBounds_toArray, List.set_cons_zero, List.set_cons_succ]
          refine WalkT.ready (rs := [7, 19]) (by kernel_rfl) (by simp) ?_
          refine AllT.cons rfl (fun K hK => ?_) ?_
          · go_simp
            refine genStr (C := fun W' => K _ W') s 3 [c.key, ⟨#[]⟩, ⟨#[97]⟩] (by rfl) (by rfl) (by simp) ?_
            intro W1 gW1 tW1 AW1
            have SW1 := SW0.step (tW1 _ SW0.st) gW1
            have qW1 : s < W0.heap.size := SW0.st.lt
            refine hK.out _ _ (fun _ _ => class_cells HC.out SW1.row) ?_
            clear hK K SW0 gW1 tW1
            try simp only [Act.put, List.setIfInBounds_toArray, List.set_cons_zero, List.set_cons_succ]
            refine WalkT.ready (rs := [8, 19]) (by kernel_rfl) (by simp) ?_
            refine AllT.cons rfl (fun K hK => ?_) ?_
            · go_simp
              go_wp2_with (go_at_call 78; refine (some_any s (M + 1 + 1) _ [c.key, ⟨#[]⟩, ⟨#[97]⟩] _ SW1.st (by omega) AW1 (by simp) (by simp) (slice_ne qW1)).mono ?_; rintro e W2 ⟨v, rfl, ⟨rA, rfl, -⟩, tW2, gW2⟩)
              have SW2 := SW1.step tW2 gW2
              have BW2_7 := Arr.grown AW1 gW2 (Nat.ne_of_gt qW1)
              refine hK.out _ _ (fun _ _ => class_cells HC.out SW2.row) ?_
              clear hK K SW1 gW2 tW2 AW1
              try simp only [Act.put, List.setIfInBounds_toArray, List.set_cons_zero, List.set_cons_succ]
              refine WalkT.ready (rs := [19]) (by kernel_rfl) (by simp) ?_
              refine AllT.cons rfl (fun K hK => ?_) ?_
              · go_simp
                refine genLit (C := fun W' => K _ W') s 3 [c.max, c.min - 1, 10001] (by rfl) (by rfl) (by simp) ?_
                intro W3 gW3 tW3 AW3
                have SW3 := SW2.step (tW3 _ SW2.st) gW3
                have qW3 : s < W2.heap.size := SW2.st.lt
                have BW3_7 := Arr.grown BW2_7 gW3 (Nat.ne_of_gt qW1)
                refine hK.out _ _ (fun _ _ => class_cells HC.out SW3.row) ?_
                clear hK K SW2 gW3 tW3 BW2_7
                try simp only [Act.put, List.setIfInBounds_toArray, List.set_cons_zero, List.set_cons_succ]
                refine WalkT.ready (rs := [20]) (by kernel_rfl) (by simp) ?_
                refine AllT.cons rfl (fun K hK => ?_) ?_
                · go_simp
                  go_wp2_with (go_at_call 18; refine (pick_any s (M + 1 + 1 + 1) _ [c.max, c.min - 1, 10001] _ SW3.st (by omega) AW3 (by simp) (by simp) (slice_ne qW3)).mono ?_; rintro e W4 ⟨v, rfl, ⟨rB, rfl, -⟩, tW4, gW4⟩)
                  have SW4 := SW3.step tW4 gW4
                  have BW4_7 := Arr.grown BW3_7 gW4 (Nat.ne_of_gt qW1)
                  have BW4_19 := Arr.grown AW3 gW4 (Nat.ne_of_gt qW3)
                  refine hK.out _ _ (fun _ _ => class_cells HC.out SW4.row) ?_
                  clear hK K SW3 gW4 tW4 BW3_7 AW3
                  try simp only [Act.put, List.setIfInBounds_toArray, List.set_cons_zero, List.set_cons_succ]
                  obtain ⟨x0, x1, x2⟩ := class_cells HC.out SW4.row
                  have xf := SW4.row.2.1
                  have SF := Lib.hid SW4
                  clear SW4
                  refine WalkT.quiet (i := 21) (v := ?_) rfl (by kernel_rfl) (by kernel_rfl) (by kernel_rfl) (fun _ _ _ h => h) (Or.inl ⟨by rfl, ?_⟩) ?_
                  rotate_left
                  · (intro wS hSw; (try dsimp only at hSw); go_simp; try with_reducible rfl)
                  try simp only [Act.put, List.setIfInBounds_toArray, List.set_cons_zero, List.set_cons_succ]
                  refine WalkT.quiet (i := 22) (v := ?_) rfl (by kernel_rfl) (by kernel_rfl) (by kernel_rfl) (fun _ _ _ h => h) (Or.inl ⟨by rfl, ?_⟩) ?_
                  rotate_left
                  · (intro wS hSw; (try dsimp only at hSw); go_simp; try with_reducible rfl)
                  try simp only [Act.put, List.setIfInBounds_toArray, List.set_cons_zero, List.set_cons_succ]
                  refine WalkT.ready (rs := [23]) (by kernel_rfl) (by simp) (AllT.cons rfl (fun K hK => ?_) AllT.nil)
                  go_simp
                  refine hK.out _ _ (fun h => absurd h (by decide)) ?_
                  clear hK K
                  try simp only [Act.put, List.setIfInBounds_toArray, List.set_cons_zero, List.set_cons_succ]
                  refine WalkT.quiet (i := 24) (v := ?_) rfl (by kernel_rfl) (by kernel_rfl) (by kernel_rfl) (fun _ _ _ h => h) (Or.inl ⟨by rfl, ?_⟩) ?_
                  rotate_left
                  · (intro wS hSw; (try dsimp only at hSw); go_simp; try with_reducible rfl)
                  try simp only [Act.put, List.setIfInBounds_toArray, List.set_cons_zero, List.set_cons_succ]
                  refine WalkT.quiet (i := 25) (v := ?_) rfl (by kernel_rfl) (by kernel_rfl) (by kernel_rfl) (fun _ _ _ h => h) (Or.inl ⟨by rfl, ?_⟩) ?_
                  rotate_left
                  · (intro wS hSw; (try dsimp only at hSw); go_simp; try with_reducible rfl)
                  try simp only [Act.put, List.setIfInBounds_toArray, List.set_cons_zero, List.set_cons_succ]
                  refine WalkT.ready (rs := [26]) (by kernel_rfl) (by simp) (AllT.cons rfl (fun K hK => ?_) AllT.nil)
                  go_simp
                  refine hK.out _ _ (fun h => absurd h (by decide)) ?_
                  clear hK K
                  try simp only [Act.put, List.setIfInBounds_toArray, List.set_cons_zero, List.set_cons_succ]
                  refine WalkT.done (by kernel_rfl) ?_
                  go_wp2
                  go_ret
                  have SE := (SF.out.put Class.cells_len k 0 hkl (by omega) ⟨rA, c.min, c.max⟩ (.string rA) rfl (class_other0 HC.out)).put Class.cells_len k 2 (by rw [List.length_set]; exact hkl) (by omega) ⟨rA, c.min, rB⟩ (.int .i64 rB) rfl (class_other2 hkl)
                  exact ⟨_, rfl, ⟨_, SE.row.arr (by simp) hcap hmax, slice_low (g := g) (n := l.length) (cap := cap) (Nat.lt_of_lt_of_le SE.l1 SE.l2)⟩, SE.st.mono (by omega), SE.gr⟩
                exact AllT.nil
              exact AllT.nil
            refine AllT.cons rfl (fun K hK => ?_) ?_
            · go_simp
              refine genLit (C := fun W' => K _ W') s 3 [c.max, c.min - 1, 10001] (by rfl) (by rfl) (by simp) ?_
              intro W5 gW5 tW5 AW5
              have SW5 := SW1.step (tW5 _ SW1.st) gW5
              have qW5 : s < W1.heap.size := SW1.st.lt
              have BW5_7 := Arr.grown AW1 gW5 (Nat.ne_of_gt qW1)
              refine hK.out _ _ (fun _ _ => class_cells HC.out SW5.row) ?_
              clear hK K SW1 gW5 tW5 AW1
              try simp only [Act.put, List.setIfInBounds_toArray, List.set_cons_zero, List.set_cons_succ]
              refine WalkT.ready (rs := [8]) (by kernel_rfl) (by simp) ?_
              refine AllT.cons rfl (fun K hK => ?_) ?_
              · go_simp
                go_wp2_with (go_at_call 78; refine (some_any s (M + 1 + 1) _ [c.key, ⟨#[]⟩, ⟨#[97]⟩] _ SW5.st (by omega) BW5_7 (by simp) (by simp) (slice_ne qW1)).mono ?_; rintro e W6 ⟨v, rfl, ⟨rA, rfl, -⟩, tW6, gW6⟩)
                have SW6 := SW5.step tW6 gW6
                have BW6_7 := Arr.grown BW5_7 gW6 (Nat.ne_of_gt qW1)
                have BW6_19 := Arr.grown AW5 gW6 (Nat.ne_of_gt qW5)
                refine hK.out _ _ (fun _ _ => class_cells HC.out SW6.row) ?_
                clear hK K SW5 gW6 tW6 BW5_7 AW5
                try simp only [Act.put, List.setIfInBounds_toArray, List.set_cons_zero, List.set_cons_succ]
                refine WalkT.ready (rs := [20]) (by kernel_rfl) (by simp) ?_
                refine AllT.cons rfl (fun K hK => ?_) ?_
                · go_simp
                  go_wp2_with (go_at_call 18; refine (pick_any s (M + 1 + 1 + 1) _ [c.max, c.min - 1, 10001] _ SW6.st (by omega) BW6_19 (by simp) (by simp) (slice_ne qW5)).mono ?_; rintro e W7 ⟨v, rfl, ⟨rB, rfl, -⟩, tW7, gW7⟩)
                  have SW7 := SW6.step tW7 gW7
                  have BW7_7 := Arr.grown BW6_7 gW7 (Nat.ne_of_gt qW1)
                  have BW7_19 := Arr.grown BW6_19 gW7 (Nat.ne_of_gt qW5)
                  refine hK.out _ _ (fun _ _ => class_cells HC.out SW7.row) ?_
                  clear hK K SW6 gW7 tW7 BW6_7 BW6_19
                  try simp only [Act.put, List.setIfInBounds_toArray, List.set_cons_zero, List.set_cons_succ]
                  obtain ⟨x0, x1, x2⟩ := class_cells HC.out SW7.row
                  have xf := SW7.row.2.1
                  have SF := Lib.hid SW7
                  clear SW7
                  refine WalkT.quiet (i := 21) (v := ?_) rfl (by kernel_rfl) (by kernel_rfl) (by kernel_rfl) (fun _ _ _ h => h) (Or.inl ⟨by rfl, ?_⟩) ?_
                  rotate_left
                  · (intro wS hSw; (try dsimp only at hSw); go_simp; try with_reducible rfl)
                  try simp only [Act.put, List.setIfInBounds_toArray, List.set_cons_zero, List.set_cons_succ]
                  refine WalkT.quiet (i := 22) (v := ?_) rfl (by kernel_rfl) (by kernel_rfl) (by kernel_rfl) (fun _ _ _ h => h) (Or.inl ⟨by rfl, ?_⟩) ?_
                  rotate_left
                  · (intro wS hSw; (try dsimp only at hSw); go_simp; try with_reducible rfl)
                  try simp only [Act.put, List.setIfInBounds_toArray, List.set_cons_zero, List.set_cons_succ]
                  refine WalkT.ready (rs := [23]) (by kernel_rfl) (by simp) (AllT.cons rfl (fun K hK => ?_) AllT.nil)
                  go_simp
                  refine hK.out _ _ (fun h => absurd h (by decide)) ?_
                  clear hK K
                  try simp only [Act.put, List.setIfInBounds_toArray, List.set_cons_zero, List.set_cons_succ]
                  refine WalkT.quiet (i := 24) (v := ?_) rfl (by kernel_rfl) (by kernel_rfl) (by kernel_rfl) (fun _ _ _ h => h) (Or.inl ⟨by rfl, ?_⟩) ?_
                  rotate_left
                  · (intro wS hSw; (try dsimp only at hSw); go_simp; try with_reducible rfl)
                  try simp only [Act.put, List.setIfInBounds_toArray, List.set_cons_zero, List.set_cons_succ]
                  refine WalkT.quiet (i := 25) (v := ?_) rfl (by kernel_rfl) (by kernel_rfl) (by kernel_rfl) (fun _ _ _ h => h) (Or.inl ⟨by rfl, ?_⟩) ?_
                  rotate_left
                  · (intro wS hSw; (try dsimp only at hSw); go_simp; try with_reducible rfl)
                  try simp only [Act.put, List.setIfInBounds_toArray, List.set_cons_zero, List.set_cons_succ]
                  refine WalkT.ready (rs := [26]) (by kernel_rfl) (by simp) (AllT.cons rfl (fun K hK => ?_) AllT.nil)
                  go_simp
                  refine hK.out _ _ (fun h => absurd h (by decide)) ?_
                  clear hK K
                  try simp only [Act.put, List.setIfInBounds_toArray, List.set_cons_zero, List.set_cons_succ]
                  refine WalkT.done (by kernel_rfl) ?_
                  go_wp2
                  go_ret
                  have SE := (SF.out.put Class.cells_len k 0 hkl (by omega) ⟨rA, c.min, c.max⟩ (.string rA) rfl (class_other0 HC.out)).put Class.cells_len k 2 (by rw [List.length_set]; exact hkl) (by omega) ⟨rA, c.min, rB⟩ (.int .i64 rB) rfl (class_other2 hkl)
                  exact ⟨_, rfl, ⟨_, SE.row.arr (by simp) hcap hmax, slice_low (g := g) (n := l.length) (cap := cap) (Nat.lt_of_lt_of_le SE.l1 SE.l2)⟩, SE.st.mono (by omega), SE.gr⟩
                exact AllT.nil
              exact AllT.nil
            exact AllT.nil
          refine AllT.cons rfl (fun K hK => ?_) ?_
          · go_simp
            refine genLit (C := fun W' => K _ W') s 3 [c.max, c.min - 1, 10001] (by rfl) (by rfl) (by simp) ?_
            intro W8 gW8 tW8 AW8
            have SW8 := SW0.step (tW8 _ SW0.st) gW8
            have qW8 : s < W0.heap.size := SW0.st.lt
            refine hK.out _ _ (fun _ _ => class_cells HC.out SW8.row) ?_
            clear hK K SW0 gW8 tW8
            try simp only [Act.put, List.setIfInBounds_toArray, List.set_cons_zero, List.set_cons_succ]
            refine WalkT.ready (rs := [7]) (by kernel_rfl) (by simp) ?_
            refine AllT.cons rfl (fun K hK => ?_) ?_
            · go_simp
              refine genStr (C := fun W' => K _ W') s 3 [c.key, ⟨#[]⟩, ⟨#[97]⟩] (by rfl) (by rfl) (by simp) ?_
              intro W9 gW9 tW9 AW9
              have SW9 := SW8.step (tW9 _ SW8.st) gW9
              have qW9 : s < W8.heap.size := SW8.st.lt
              have BW9_19 := Arr.grown AW8 gW9 (Nat.ne_of_gt qW8)
              refine hK.out _ _ (fun _ _ => class_cells HC.out SW9.row) ?_
              clear hK K SW8 gW9 tW9 AW8
              try simp only [Act.put, List.setIfInBounds_toArray, List.set_cons_zero, List.set_cons_succ]
              refine WalkT.ready (rs := [8]) (by kernel_rfl) (by simp) ?_
              refine AllT.cons rfl (fun K hK => ?_) ?_
              · go_simp
                go_wp2_with (go_at_call 78; refine (some_any s (M + 1 + 1) _ [c.key, ⟨#[]⟩, ⟨#[97]⟩] _ SW9.st (by omega) AW9 (by simp) (by simp) (slice_ne qW9)).mono ?_; rintro e W10 ⟨v, rfl, ⟨rA, rfl, -⟩, tW10, gW10⟩)
                have SW10 := SW9.step tW10 gW10
                have BW10_19 := Arr.grown BW9_19 gW10 (Nat.ne_of_gt qW8)
                have BW10_7 := Arr.grown AW9 gW10 (Nat.ne_of_gt qW9)
                refine hK.out _ _ (fun _ _ => class_cells HC.out SW10.row) ?_
                clear hK K SW9 gW10 tW10 BW9_19 AW9
                try simp only [Act.put, List.setIfInBounds_toArray, List.set_cons_zero, List.set_cons_succ]
                refine WalkT.ready (rs := [20]) (by kernel_rfl) (by simp) ?_
                refine AllT.cons rfl (fun K hK => ?_) ?_
                · go_simp
                  go_wp2_with (go_at_call 18; refine (pick_any s (M + 1 + 1 + 1) _ [c.max, c.min - 1, 10001] _ SW10.st (by omega) BW10_19 (by simp) (by simp) (slice_ne qW8)).mono ?_; rintro e W11 ⟨v, rfl, ⟨rB, rfl, -⟩, tW11, gW11⟩)
                  have SW11 := SW10.step tW11 gW11
                  have BW11_19 := Arr.grown BW10_19 gW11 (Nat.ne_of_gt qW8)
                  have BW11_7 := Arr.grown BW10_7 gW11 (Nat.ne_of_gt qW9)
                  refine hK.out _ _ (fun _ _ => class_cells HC.out SW11.row) ?_
                  clear hK K SW10 gW11 tW11 BW10_19 BW10_7
                  try simp only [Act.put, List.setIfInBounds_toArray, List.set_cons_zero, List.set_cons_succ]
                  obtain ⟨x0, x1, x2⟩ := class_cells HC.out SW11.row
                  have xf := SW11.row.2.1
                  have SF := Lib.hid SW11
                  clear SW11
                  refine WalkT.quiet (i := 21) (v := ?_) rfl (by kernel_rfl) (by kernel_rfl) (by kernel_rfl) (fun _ _ _ h => h) (Or.inl ⟨by rfl, ?_⟩) ?_
                  rotate_left
                  · (intro wS hSw; (try dsimp only at hSw); go_simp; try with_reducible rfl)
                  try simp only [Act.put, List.setIfInBounds_toArray, List.set_cons_zero, List.set_cons_succ]
                  refine WalkT.quiet (i := 22) (v := ?_) rfl (by kernel_rfl) (by kernel_rfl) (by kernel_rfl) (fun _ _ _ h => h) (Or.inl ⟨by rfl, ?_⟩) ?_
                  rotate_left
                  · (intro wS hSw; (try dsimp only at hSw); go_simp; try with_reducible rfl)
                  try simp only [Act.put, List.setIfInBounds_toArray, List.set_cons_zero, List.set_cons_succ]
                  refine WalkT.ready (rs := [23]) (by kernel_rfl) (by simp) (AllT.cons rfl (fun K hK => ?_) AllT.nil)
                  go_simp
                  refine hK.out _ _ (fun h => absurd h (by decide)) ?_
                  clear hK K
                  try simp only [Act.put, List.setIfInBounds_toArray, List.set_cons_zero, List.set_cons_succ]
                  refine WalkT.quiet (i := 24) (v := ?_) rfl (by kernel_rfl) (by kernel_rfl) (by kernel_rfl) (fun _ _ _ h => h) (Or.inl ⟨by rfl, ?_⟩) ?_
                  rotate_left
                  · (intro wS hSw; (try dsimp only at hSw); go_simp; try with_reducible rfl)
                  try simp only [Act.put, List.setIfInBounds_toArray, List.set_cons_zero, List.set_cons_succ]
                  refine WalkT.quiet (i := 25) (v := ?_) rfl (by kernel_rfl) (by kernel_rfl) (by kernel_rfl) (fun _ _ _ h => h) (Or.inl ⟨by rfl, ?_⟩) ?_
                  rotate_left
                  · (intro wS hSw; (try dsimp only at hSw); go_simp; try with_reducible rfl)
                  try simp only [Act.put, List.setIfInBounds_toArray, List.set_cons_zero, List.set_cons_succ]
                  refine WalkT.ready (rs := [26]) (by kernel_rfl) (by simp) (AllT.cons rfl (fun K hK => ?_) AllT.nil)
                  go_simp
                  refine hK.out _ _ (fun h => absurd h (by decide)) ?_
                  clear hK K
                  try simp only [Act.put, List.setIfInBounds_toArray, List.set_cons_zero, List.set_cons_succ]
                  refine WalkT.done (by kernel_rfl) ?_
                  go_wp2
                  go_ret
                  have SE := (SF.out.put Class.cells_len k 0 hkl (by omega) ⟨rA, c.min, c.max⟩ (.string rA) rfl (class_other0 HC.out)).put Class.cells_len k 2 (by rw [List.length_set]; exact hkl) (by omega) ⟨rA, c.min, rB⟩ (.int .i64 rB) rfl (class_other2 hkl)
                  exact ⟨_, rfl, ⟨_, SE.row.arr (by simp) hcap hmax, slice_low (g := g) (n := l.length) (cap := cap) (Nat.lt_of_lt_of_le SE.l1 SE.l2)⟩, SE.st.mono (by omega), SE.gr⟩
                exact AllT.nil
              exact AllT.nil
            exact AllT.nil
          exact AllT.nil
      · have h0 : l.length = 0 := by omega
        have hl1 : l = [] := List.length_eq_zero_iff.1 h0
        subst hl1
        rcases hown.2 with ⟨rfl, -⟩ | ⟨g, cap, cur, rfl, hgb, -, -, hmax, -⟩
        · clear hAr hA hown
          go_wp2
          go_ret
          exact ⟨_, rfl, ⟨[], Arr.nil _ _ _, fun b off n cap e => by cases e⟩, HO.out.2.1.mono (by omega), HO.out.2.2⟩
        · clear hAr hA hown
          go_wp2
          go_ret
          exact ⟨_, rfl, ⟨[], ⟨_, cap, rfl, by simp, hmax, fun k hk => by simp at hk⟩, slice_low (g := g) (n := 0) (cap := cap) (by omega)⟩, HO.out.2.1.mono (by omega), HO.out.2.2⟩
end Go.Proofs.Ytagpcgnlbgndmaa
