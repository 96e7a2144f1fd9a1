/- The walk of the reference's CheapestOf: what it needs in plain Lean and in memory. -/
import Derived.Test.YtagpcgnlbgndmaaCmp
import Derived.Test.YtagpcgnlbgndmaaSwpAll
import Derived.Test.YtagpcgnlbgndmaaLawFit
import Derived.Test.YtagpcgnlbgndmaaRefB5
import Derived.Deep.CutRange
set_option linter.unusedVariables false
set_option linter.unusedSimpArgs false
namespace Go.Proofs.Ytagpcgnlbgndmaa
open Go Go.RowKit
open Go.Maps (Keyed)

def leastS (st : Chp) : Int := match st with | none => -1 | some (_, s) => s
def bestS2 (st : Chp) (n : Nat) : List Int := membTo (chSet st) n
theorem bestS2_none (n : Nat) : bestS2 none n = [] := by unfold bestS2; rw [membTo_eq]; exact memb_zeroS _ _
theorem cof_step {p : List Part} {s : List Swap} {b : Nat} (hso : SwapsOk p.length s) (j : Nat) (hj : j < (membTo b s.length).length) :
    ∃ i, ∃ hi : i < s.length, (membTo b s.length)[j] = (i : Int) ∧ 0 ≤ s[i].at_ ∧ s[i].at_ < p.length ∧ (selSw s b).take (j + 1) = (selSw s b).take j ++ [s[i]] ∧ 0 ≤ s[i].price ∧ s[i].price ≤ 1000000000 := by
  have hb := memb_bound s.length b _ (List.getElem_mem hj)
  have hsel := selSw_members s b
  have hkz : j < (selSw s b).length := by rw [hsel]; simpa using hj
  have hzk : (selSw s b)[j] = s[(membTo b s.length)[j].toNat] := by
    simp only [hsel, List.getElem_map]
    rw [List.getD_eq_getElem?_getD, List.getElem?_eq_getElem (by omega)]; rfl
  obtain ⟨i, hi⟩ := Int.eq_ofNat_of_zero_le hb.1
  have hin : (membTo b s.length)[j].toNat = i := by omega
  have his : i < s.length := by omega
  have hzi : (selSw s b)[j] = s[i] := by rw [hzk]; simp [hin]
  have hy := hso.2 s[i] (List.getElem_mem his)
  exact ⟨i, his, hi, hy.1.1, hy.1.2, by rw [List.take_succ_eq_append_getElem hkz, hzi], hy.2.2.1, hy.2.2.2⟩
theorem setAll_snoc (p : List Part) (A : List Swap) (y : Swap) : setAll p (A ++ [y]) = (setAll p A).set y.at_.toNat y.by_ := by unfold setAll; rw [List.foldl_append]; rfl
theorem nodup_snoc (A : List Swap) (y : Swap) : decide (atsS (A ++ [y])).Nodup = (decide (atsS A).Nodup && !decide (y.at_ ∈ atsS A)) := by
  rw [atsS_snoc]
  by_cases h1 : (atsS A).Nodup
  · by_cases h2 : y.at_ ∈ atsS A
    · have : ¬ (atsS A ++ [y.at_]).Nodup := fun h => (List.nodup_append.1 h).2.2 _ h2 y.at_ (by simp) rfl
      simp [this, h2]
    · have : (atsS A ++ [y.at_]).Nodup := List.nodup_append.2 ⟨h1, by simp, fun q hq r hr e => by rw [List.mem_singleton] at hr; subst hr e; exact h2 hq⟩
      simp [this, h1, h2]
  · have : ¬ (atsS A ++ [y.at_]).Nodup := fun h => h1 (List.nodup_append.1 h).1
    simp [this, h1]
theorem take_bound {p : List Part} {s : List Swap} (hso : SwapsOk p.length s) (b j : Nat) : 0 ≤ priceS ((selSw s b).take j) ∧ priceS ((selSw s b).take j) ≤ 12000000000 := by
  have h1 := priceS_bound ((selSw s b).take j) (fun y hy => by
    have := hso.2 y (selSw_mem s b y (List.mem_of_mem_take hy)); exact this.2.2)
  have h2 := selSw_len s b
  have h3 := hso.1
  have h4 : ((selSw s b).take j).length ≤ 12 := by rw [List.length_take]; omega
  omega
theorem set_ok {p : List Part} {x : Losses} {o : Optics} {s : List Swap} (hf : faultF p x o = 0) (hso : SwapsOk p.length s) (b : Nat) : AllOk (setAll p (selSw s b)) x ∧ ((atsS (selSw s b)).Nodup → o.launch - total (setAll p (selSw s b)) x = o.launch - total p x - moreS p x (selSw s b)) := by
  obtain ⟨⟨hpl, hpo⟩, hx, ho⟩ := faultF_zero.1 hf
  refine ⟨⟨fun q hq => ?_, by rw [setAll_len]; exact hpl, hx⟩, fun hn => ?_⟩
  · rcases setAll_mem _ _ q hq with h | ⟨y, hy, rfl⟩
    · exact hpo q h
    · exact (hso.2 y (selSw_mem s b y hy)).2.1
  · rw [total_setAll x _ p hn (fun y hy => (hso.2 y (selSw_mem s b y hy)).1)]; omega
theorem or_before {n k b : Nat} {a c : Int} (hn : n ≤ 12) (hk : k < 2 ^ n) (hb : b < 2 ^ n) :
    decide (firstF [cmpI a c, cmpI ((membTo k n).length : Int) ((membTo b n).length : Int), cmpL (membTo k n) (membTo b n)] < 0) = decide (a < c ∨ (a = c ∧ befB k b = true)) := by
  have h := befB_list hn hk hb
  have hc := cmpL_range (membTo k n) (membTo b n)
  generalize cmpL (membTo k n) (membTo b n) = z at *
  apply decide_eq_decide.2
  rw [h]
  generalize (membTo k n).length = l1 at *
  generalize (membTo b n).length = l2 at *
  unfold cmpI
  by_cases h1 : a < c
  · rw [if_pos h1]
    exact ⟨fun _ => .inl h1, fun _ => by simp [firstF]⟩
  · rw [if_neg h1]
    by_cases h2 : c < a
    · rw [if_pos h2]
      exact ⟨fun h => by simp [firstF] at h, fun h => by omega⟩
    · rw [if_neg h2]
      by_cases h3 : (l1 : Int) < l2
      · rw [if_pos h3]
        exact ⟨fun _ => .inr ⟨by omega, .inl (by omega)⟩, fun _ => by simp [firstF]⟩
      · rw [if_neg h3]
        by_cases h4 : (l2 : Int) < l1
        · rw [if_pos h4]
          exact ⟨fun h => by simp [firstF] at h, fun h => by omega⟩
        · rw [if_neg h4]
          have : firstF [0, 0, z] = z := by rcases hc with rfl | rfl | rfl <;> simp [firstF]
          rw [this]
          exact ⟨fun h => .inr ⟨by omega, .inr ⟨by omega, h⟩⟩, fun h => by omega⟩

/-! ### memory -/
theorem FitR.grown {W0 W W' : World} {a : Option Addr} {q : List Part} {mb : Nat} (h : FitR W0 W0.heap.size a q W) (hg : W.grownBy W' (some mb)) (hB : W0.heap.size ≤ mb) (hgm : q ≠ [] → ∀ g, a = some ⟨g, 0, none⟩ → g < mb) : FitR W0 W0.heap.size a q W' := by
  refine ⟨below_at h.be (grown_row hg hB h.be.size) (Nat.le_refl _), fun hq => ?_⟩
  obtain ⟨g, ha, h1, h2⟩ := h.row hq
  have := hgm hq g ha
  exact ⟨g, ha, h1, h2.kept (hg.block g h2.2.2 (by simp; omega)) hg.size⟩
/-- a list of integers in memory newer than block mb -/
def LAt (mb : Nat) (la : Option Addr) (L : List Int) (W : World) : Prop := ∀ j (hj : j < L.length), ∃ b, la = some ⟨b, 0, none⟩ ∧ mb < b ∧ b < W.heap.size ∧ W.cell? ⟨b, j, none⟩ = some (.int .i64 L[j])
theorem LAt.grown {mb c : Nat} {la : Option Addr} {L : List Int} {W W' : World} (h : LAt mb la L W) (hg : W.grownBy W' (some c)) (hc : c ≤ mb) : LAt mb la L W' := by
  intro j hj
  obtain ⟨b, h1, h2, h3, h4⟩ := h j hj
  exact ⟨b, h1, h2, Nat.lt_of_lt_of_le h3 hg.size, hg.cell h4 (by simp; omega)⟩
theorem lat_of_own {mb base : Nat} {L : List Int} {W : World} {v : Value} (h : W.ownsRow base 3 1 v L.length (L.map (Value.int .i64))) (hb : mb < base) : ∃ la cap, v = .slice la L.length cap ∧ LAt mb la L W := by
  obtain ⟨la, cap, rfl, -, -, hg⟩ := OwnI2.form h
  refine ⟨la, cap, rfl, fun j hj => ?_⟩
  obtain ⟨g, rfl⟩ := hg (by omega)
  obtain ⟨l1, l2⟩ := h.lt g rfl
  obtain ⟨a', c', he, -, -, hc⟩ := Arr.of_ints h
  simp only [Value.slice.injEq] at he
  obtain ⟨rfl, _, _⟩ := he
  obtain ⟨b, off, hb', hbl, hcc⟩ := hc j hj
  simp only [Option.some.injEq, Addr.mk.injEq, and_true] at hb'
  obtain ⟨rfl, rfl⟩ := hb'
  have := hcc 0 _ rfl
  simp only [Nat.mul_one, Nat.add_zero, Nat.zero_add] at this
  exact ⟨_, rfl, by omega, l2, this⟩
set_option maxHeartbeats 4000000 in
set_option maxRecDepth 100000 in
theorem membersO_any (set n : Nat) (w : World) (hs : set < 4096) (hn : n ≤ 12) : Calls Try.prog 115 #[.int .i64 set, .int .i64 n] w
    fun e w' => ∃ v, e = .returned v ∧ w'.ownsRow w.heap.size 3 1 v (membTo set n).length ((membTo set n).map (Value.int .i64)) ∧ Below w.heap.size w w' := by
  obtain ⟨i0, hi, hz0, hz1, hz2⟩ := info_parts infoIntB
  go_enter Try.func115, Try.ntmps115
  go_wp2
  go_loopw [5, 8] (fun ov i wr => ∃ k : Nat, k ≤ n ∧ i = .int .i64 k ∧ wr.ownsRow w.heap.size 3 1 ov (membTo set k).length ((membTo set k).map (Value.int .i64)) ∧ Below w.heap.size w wr) (fun _ i _ => n - (intOf i).toNat)
  case atStart => exact ⟨0, by omega, rfl, World.ownsRow_nil _ _ _ _, Below.refl _ _⟩
  case round =>
    obtain ⟨k, hk, rfl, hown, hB⟩ := hrel
    have hsz := hB.size
    have HO := Lib.hid (And.intro hown hB)
    clear hown hB
    by_cases hlt : k < n
    · have hb := bit_int set k
      have hsc := membTo_succ set k
      have hml := membTo_len set k
      cases hbk : bitB set k
      · rw [hbk] at hb hsc
        have HSC := Lib.hid hsc
        clear hsc hbk
        go_wp2
        go_roundw
        case rel => exact ⟨k + 1, by omega, by go_num, by rw [HSC.out]; exact HO.out.1, HO.out.2⟩
        case measure => simp [intOf]; omega
      · rw [hbk] at hb hsc
        rw [if_pos rfl] at hsc
        have HSC := Lib.hid hsc
        clear hsc hbk
        go_wp2_with ((at_builtin; go_must (refine wpList_append_own _ rfl _ _ 22 rfl _ 3 _ (.int .i64 0) 1 8 Try.underlying22 hi hz0 hz1 hz2 rfl (by decide) _ _ _ rfl (HO.out.1.alloc _) ⟨wr.heap.size, 0, none⟩ 1 1 [.int .i64 (k : Int)] rfl rfl (by exact news_at (by first | rfl | simp) (by rfl)) (by simp [Value.oneCell']) (by unfold maxLen; omega) (by omega) (by first | omega | (simp; done) | (simp; omega)) ?_)); intro v' w4 hown4 hg4 _)
        go_roundw
        case rel => exact ⟨k + 1, by omega, by go_num, by rw [HSC.out, List.length_append, List.map_append]; exact hown4, below_grown (by have := HO.out.2; (repeat (first | exact Below.refl _ _ | assumption | refine below_draws ?_ _ | refine Below.drew ?_ | refine below_alloc ?_ _ (by first | omega | (simp; done) | (simp; omega)) | refine Below.setCell ?_ (by first | omega | (simp; done) | (simp; omega)) _ | refine below_at ?_ (by assumption) (by first | omega | (simp; done) | (simp; omega))))) (HO.out.1.alloc (.cells #[.int .i64 (k : Int)] 3)) hg4 (Nat.le_refl _) (by simp; omega)⟩
        case measure => simp [intOf]; omega
    · obtain rfl : k = n := by omega
      go_wp2
      go_ret
      exact ⟨_, rfl, HO.out.1, HO.out.2⟩
def MCells (x : Losses) (o : Optics) (b : Nat) (W : World) : Prop := (W.cell? ⟨b, 0, none⟩ = some (.int .i64 x.perKm) ∧ W.cell? ⟨b, 1, none⟩ = some (.int .i64 x.conn) ∧ W.cell? ⟨b, 2, none⟩ = some (.int .i64 x.dblg) ∧ W.cell? ⟨b, 3, none⟩ = some (.int .i64 x.exc)) ∧ (W.cell? ⟨b + 1, 0, none⟩ = some (.int .i64 o.launch) ∧ W.cell? ⟨b + 1, 1, none⟩ = some (.int .i64 o.least) ∧ W.cell? ⟨b + 1, 2, none⟩ = some (.int .i64 o.most))
theorem MSt.s {w W : World} {x : Losses} {o : Optics} (h : MSt w x o W) : MCells x o w.heap.size W :=
  ⟨⟨h.x.cell 0 _ rfl, h.x.cell 1 _ rfl, h.x.cell 2 _ rfl, h.x.cell 3 _ rfl⟩, h.o.cell 0 _ rfl, h.o.cell 1 _ rfl, h.o.cell 2 _ rfl⟩
end Go.Proofs.Ytagpcgnlbgndmaa
