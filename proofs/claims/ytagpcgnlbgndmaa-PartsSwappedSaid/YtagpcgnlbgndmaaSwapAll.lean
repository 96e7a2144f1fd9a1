/- Texts of one subject in one: SwapR, SwapC, Rep, StreamS; what each shows stands at its head. No condition. -/
import Derived.Test.YtagpcgnlbgndmaaSwpAll
import Derived.Test.YtagpcgnlbgndmaaRefB3
import Derived.Test.YtagpcgnlbgndmaaKeepA
import Derived.RegionTactic
import Derived.Test.YtagpcgnlbgndmaaMem
import Derived.Test.YtagpcgnlbgndmaaShelf
import Derived.Test.YtagpcgnlbgndmaaOrders
import Derived.Shelf.Spec.SlicesInsert
import Derived.Test.YtagpcgnlbgndmaaStream6
/- Walk: the reference's error of a list of swaps. -/
set_option linter.unusedVariables false
set_option linter.unusedSimpArgs false
namespace Go.Proofs.Ytagpcgnlbgndmaa
open Go Go.RowKit

def noneV (b : Bool) : Int := if b then 8 else 0
set_option maxHeartbeats 1000000 in
theorem none_any (b : Bool) (w : World) : Calls Try.prog 111 #[.bool b] w fun e w' => e = .returned (.int .i64 (noneV b)) ∧ w = w' := by
  cases b
  all_goals
    go_enter Try.func111, Try.ntmps111
    go_wp2
    go_ret
    exact ⟨rfl, rfl⟩
theorem swap_first (n : Nat) (s : Swap) : firstF [noneV (outB s.at_ 0 ((n : Int) - 1)), partFault s.by_, spanF s.price 0 1000000000] = swapFault n s := by
  unfold swapFault spanF noneV
  cases outB s.at_ 0 ((n : Int) - 1) <;> by_cases h : partFault s.by_ = 0 <;> cases outB s.price 0 1000000000 <;> simp [firstF, h]

set_option maxHeartbeats 4000000 in
set_option maxRecDepth 100000 in
theorem rswapsFault_any (vp v : Value) (p : List Part) (l : List Swap) (w : World) (hp : Arr Part.cells 2 w p vp) (h : Arr Swap.cells 4 w l v) : Calls Try.prog 49 #[vp, v] w
    fun e w' => e = .returned (.int .i64 (swapsFault p.length l)) ∧ Below w.heap.size w w' := by
  obtain ⟨ap, capp, rfl, hcapp, hmaxp, -⟩ := hp
  obtain ⟨a, cap, rfl, hcap, hmax, hc⟩ := h
  have hplen : p.length ≤ maxLen := by omega
  have hlen : l.length ≤ maxLen := by omega
  unfold maxLen at hlen hmax hmaxp hplen
  by_cases hbig : 12 < l.length
  · go_enter Try.func49, Try.ntmps49
    go_wp2
    go_ret
    exact ⟨ret_int (by simp [swapsFault, hbig]), by (repeat (first | exact Below.refl _ _ | assumption | refine below_draws ?_ _ | refine Below.drew ?_ | refine below_alloc ?_ _ (by first | omega | (simp; done) | (simp; omega)) | refine Below.setCell ?_ (by first | omega | (simp; done) | (simp; omega)) _ | refine below_at ?_ (by assumption) (by first | omega | (simp; done) | (simp; omega))))⟩
  have hwn : IntKind.i64.wrap ((p.length : Int) - 1) = (p.length : Int) - 1 := IntWalk.i64_in _ (by omega)
  go_enter Try.func49, Try.ntmps49
  go_wp2
  go_loopw [13] (fun i wr => ∃ k : Nat, k ≤ l.length ∧ i = .int .i64 k ∧ firstF ((l.map (swapFault p.length)).take k) = 0 ∧ Below w.heap.size w wr) (fun i _ => l.length - (intOf i).toNat)
  case atStart => exact ⟨0, by omega, rfl, rfl, Below.refl _ _⟩
  case round =>
    obtain ⟨k, hk, rfl, hz, hB⟩ := hrel
    have HZ := Lib.hid hz
    clear hz
    have hsz := hB.size
    by_cases hlt : k < l.length
    · obtain ⟨b, off, rfl, hb, hcc⟩ := hc k hlt
      obtain ⟨c0, c1, c2, c3⟩ := swap_at hcc
      replace c0 := (hB.cell (p := ⟨b, _, none⟩) hb).trans c0
      replace c1 := (hB.cell (p := ⟨b, _, none⟩) hb).trans c1
      replace c2 := (hB.cell (p := ⟨b, _, none⟩) hb).trans c2
      replace c3 := (hB.cell (p := ⟨b, _, none⟩) hb).trans c3
      clear hc hcc
      have hlt' : k < (l.map (swapFault p.length)).length := by simpa using hlt
      have HS := Lib.hid (swap_first p.length l[k])
      by_cases hx : swapFault p.length l[k] = 0
      · have hx' : (firstF [noneV (outB l[k].at_ 0 ((p.length : Int) - 1)), partFault l[k].by_, spanF l[k].price 0 1000000000] != 0) = false := by rw [HS.out, hx]; rfl
        have HX := Lib.hid hx
        clear hx
        go_wp2
        go_region_held3 (fun w' => w'.cell? ⟨wr.heap.size, 0, none⟩ = some (.int .i64 l[k].at_) ∧ w'.cell? ⟨wr.heap.size, 1, none⟩ = some (.int .i64 l[k].by_.kind) ∧ w'.cell? ⟨wr.heap.size, 2, none⟩ = some (.int .i64 l[k].by_.amt) ∧ w'.cell? ⟨wr.heap.size, 3, none⟩ = some (.int .i64 l[k].price)) (go_keep)
          (first
            | (go_at_call 80; refine (rin_any _ _ _ _).mono ?_; rintro e w' ⟨rfl, rfl⟩)
            | (go_at_call 111; refine (none_any _ _).mono ?_; rintro e w' ⟨rfl, rfl⟩)
            | (go_at_call 31; refine (span_any _ _ _ _).mono ?_; rintro e w' ⟨rfl, rfl⟩)
            | (go_at_call 79; refine (rpartFault_any _ _).mono ?_; rintro e w2 ⟨rfl, hb2⟩; have s2 : wr.heap.size + 1 ≤ w2.heap.size := (by have := hb2.size; (try simp at this); omega); have hd2 := bcellAt hb2 wr.heap.size (by first | omega | (simp; done) | (simp; omega)))
            | (go_at_call 19; refine (or_any _ [noneV (outB l[k].at_ 0 ((p.length : Int) - 1)), partFault l[k].by_, spanF l[k].price 0 1000000000] _ (by (try refine Arr.drew ?_); exact Arr.litAt (cells := intCells) (sz := 1) (fun _ => rfl) (by first | rfl | simp) (by rfl) (by rfl) (by simp [maxLen]))).mono ?_; rintro e w4 ⟨rfl, rfl⟩))
        go_wp2
        go_roundw
        case rel => exact ⟨k + 1, by omega, by go_num, by rw [firstF_take_succ _ k hlt' HZ.out]; simpa using HX.out, by (repeat (first | exact Below.refl _ _ | assumption | refine below_draws ?_ _ | refine Below.drew ?_ | refine below_alloc ?_ _ (by first | omega | (simp; done) | (simp; omega)) | refine Below.setCell ?_ (by first | omega | (simp; done) | (simp; omega)) _ | refine below_at ?_ (by assumption) (by first | omega | (simp; done) | (simp; omega))))⟩
        case measure => simp [intOf]; omega
      · have hx' : (firstF [noneV (outB l[k].at_ 0 ((p.length : Int) - 1)), partFault l[k].by_, spanF l[k].price 0 1000000000] != 0) = true := by rw [HS.out]; simpa using hx
        have HX := Lib.hid hx
        clear hx
        go_wp2
        go_region_held3 (fun w' => w'.cell? ⟨wr.heap.size, 0, none⟩ = some (.int .i64 l[k].at_) ∧ w'.cell? ⟨wr.heap.size, 1, none⟩ = some (.int .i64 l[k].by_.kind) ∧ w'.cell? ⟨wr.heap.size, 2, none⟩ = some (.int .i64 l[k].by_.amt) ∧ w'.cell? ⟨wr.heap.size, 3, none⟩ = some (.int .i64 l[k].price)) (go_keep)
          (first
            | (go_at_call 80; refine (rin_any _ _ _ _).mono ?_; rintro e w' ⟨rfl, rfl⟩)
            | (go_at_call 111; refine (none_any _ _).mono ?_; rintro e w' ⟨rfl, rfl⟩)
            | (go_at_call 31; refine (span_any _ _ _ _).mono ?_; rintro e w' ⟨rfl, rfl⟩)
            | (go_at_call 79; refine (rpartFault_any _ _).mono ?_; rintro e w2 ⟨rfl, hb2⟩; have s2 : wr.heap.size + 1 ≤ w2.heap.size := (by have := hb2.size; (try simp at this); omega); have hd2 := bcellAt hb2 wr.heap.size (by first | omega | (simp; done) | (simp; omega)))
            | (go_at_call 19; refine (or_any _ [noneV (outB l[k].at_ 0 ((p.length : Int) - 1)), partFault l[k].by_, spanF l[k].price 0 1000000000] _ (by (try refine Arr.drew ?_); exact Arr.litAt (cells := intCells) (sz := 1) (fun _ => rfl) (by first | rfl | simp) (by rfl) (by rfl) (by simp [maxLen]))).mono ?_; rintro e w4 ⟨rfl, rfl⟩))
        go_wp2
        go_ret
        exact ⟨ret_int (by rw [HS.out]; unfold swapsFault; rw [if_neg hbig, firstF_hit _ k hlt' HZ.out (by rw [List.getElem_map]; exact HX.out)]; simp), by (repeat (first | exact Below.refl _ _ | assumption | refine below_draws ?_ _ | refine Below.drew ?_ | refine below_alloc ?_ _ (by first | omega | (simp; done) | (simp; omega)) | refine Below.setCell ?_ (by first | omega | (simp; done) | (simp; omega)) _ | refine below_at ?_ (by assumption) (by first | omega | (simp; done) | (simp; omega))))⟩
    · go_wp2
      go_ret
      exact ⟨ret_int (by have := HZ.out; rw [List.take_of_length_le (by simp; omega)] at this; unfold swapsFault; rw [if_neg hbig, this]), by (repeat (first | exact Below.refl _ _ | assumption | refine below_draws ?_ _ | refine Below.drew ?_ | refine below_alloc ?_ _ (by first | omega | (simp; done) | (simp; omega)) | refine Below.setCell ?_ (by first | omega | (simp; done) | (simp; omega)) _ | refine below_at ?_ (by assumption) (by first | omega | (simp; done) | (simp; omega))))⟩
end Go.Proofs.Ytagpcgnlbgndmaa
/- Walks: copies of swaps; whether two lists of parts, of swaps are the same. -/
set_option linter.unusedVariables false
set_option linter.unusedSimpArgs false
namespace Go.Proofs.Ytagpcgnlbgndmaa
open Go Go.RowKit

theorem Swap.cells_len (s : Swap) : s.cells.length = 4 := rfl
theorem swap_one (l : List Swap) : ∀ u ∈ l.flatMap Swap.cells, u.oneCell' = true := by
  intro u hu
  obtain ⟨c, _, hc⟩ := List.mem_flatMap.1 hu
  simp [Swap.cells] at hc
  rcases hc with rfl | rfl | rfl | rfl <;> rfl
theorem infoSwap : (Try.prog.info? 113).map (fun i => (i.zero, i.size, i.bytes)) = some (some (.agg #[.int .i64 0, .int .i64 0, .int .i64 0, .int .i64 0]), 4, 32) := by kernel_rfl
set_option maxHeartbeats 1000000 in
set_option maxRecDepth 100000 in
theorem clone_swap (v : Value) (l : List Swap) (w : World) (h : Arr Swap.cells 4 w l v) (hl : l.length ≤ 100000000) : Calls Try.prog 72 #[v] w
    (Ret (fun v' w' => Cloned Swap.cells 4 113 w.heap.size l v' w') w) := by
  have h' := h
  obtain ⟨a, cap, rfl, hcap, hmax, hc⟩ := h
  obtain ⟨i0, hi, hz0, hz1, hz2⟩ := info_parts infoSwap
  have heq := fun (w : World) (a : Option Addr) (n c n' c' : Nat) => Lib.run_eql_slice_nil (P := Try.prog) w 74 113 a n c n' c' Try.underlying74
  cases a with
  | none =>
    have h0 : l = [] := by
      rcases Nat.eq_zero_or_pos l.length with h | h
      · exact List.length_eq_zero_iff.1 h
      · obtain ⟨_, _, e, _⟩ := hc 0 h; cases e
    subst h0
    go_enter Try.func72, Try.ntmps72
    go_wp2
    go_ret
    exact ⟨_, rfl, ⟨World.ownsRow_nil _ _ _ _, .inl ⟨rfl, rfl⟩⟩, by (repeat (first | exact Below.refl _ _ | assumption | refine below_draws ?_ _ | refine Below.drew ?_ | refine below_alloc ?_ _ (by first | omega | (simp; done) | (simp; omega)) | refine Below.setCell ?_ (by first | omega | (simp; done) | (simp; omega)) _ | refine below_at ?_ (by assumption) (by first | omega | (simp; done) | (simp; omega))))⟩
  | some ad =>
    have hnews := h'.news Swap.cells_len
    have HN := Lib.hid hnews
    clear hnews hc h'
    have hsl : (l.flatMap Swap.cells).length = l.length * 4 := flat_len Swap.cells_len l
    have HSL := Lib.hid hsl
    clear hsl
    go_enter Try.func72, Try.ntmps72
    go_wp2_with (at_builtin; go_must (refine wpList_append_own _ rfl _ _ 74 rfl w.heap.size 113 _ _ 4 32 Try.underlying74 hi hz0 hz1 hz2 rfl (by decide) _ 0 [] rfl (World.ownsRow_lit w #[] 0 (Nat.le_refl _) (by simp [maxLen]) rfl) ad l.length cap (l.flatMap Swap.cells) rfl HSL.out (fun j u hu => Lib.cell?_alloc_some _ (HN.out j u hu)) (swap_one l) (by unfold maxLen; omega) (by omega) (by first | omega | (simp; done) | (simp; omega)) ?_); intro v' w1 hown1 hgrow hnil)
    go_ret
    refine ⟨_, rfl, ⟨?_, .inr ?_⟩, ?_⟩
    · have := hown1; rw [Nat.zero_add, List.nil_append] at this; exact this
    · exact own_form hown1 (fun e => by have := (hnil.1 e).1; cases this)
    · exact below_grown (by (repeat (first | exact Below.refl _ _ | assumption | refine below_draws ?_ _ | refine Below.drew ?_ | refine below_alloc ?_ _ (by first | omega | (simp; done) | (simp; omega)) | refine Below.setCell ?_ (by first | omega | (simp; done) | (simp; omega)) _ | refine below_at ?_ (by assumption) (by first | omega | (simp; done) | (simp; omega))))) (World.ownsRow_lit (e := 113) (size := 4) w #[] 0 (Nat.le_refl _) (by simp [maxLen]) rfl) hgrow (Nat.le_refl _) (by first | omega | (simp; done) | (simp; omega))

set_option maxHeartbeats 1000000 in
set_option maxRecDepth 100000 in
theorem same_part (v1 v2 : Value) (l : List Part) (w : World) (h1 : Arr Part.cells 2 w l v1) (h2 : Arr Part.cells 2 w l v2) : Calls Try.prog 73 #[v1, v2] w
    fun e w' => e = .returned (.bool true) ∧ Below w.heap.size w w' := by
  obtain ⟨a, cap, rfl, hcap, hmax, hc⟩ := h1
  obtain ⟨a2, cap2, rfl, hcap2, hmax2, hc2⟩ := h2
  have hlen : l.length ≤ maxLen := by omega
  unfold maxLen at hlen hmax hmax2
  go_enter Try.func73, Try.ntmps73
  go_wp2
  go_loopw [13] (fun i wr => ∃ k : Nat, k ≤ l.length ∧ i = .int .i64 k ∧ Below w.heap.size w wr) (fun i _ => l.length - (intOf i).toNat)
  case atStart => exact ⟨0, by omega, rfl, Below.refl _ _⟩
  case round =>
    obtain ⟨k, hk, rfl, hB⟩ := hrel
    have hsz := hB.size
    by_cases hlt : k < l.length
    · obtain ⟨b, off, rfl, hb, hcc⟩ := hc k hlt
      obtain ⟨c0, c1⟩ := part_at hcc
      replace c0 := (hB.cell (p := ⟨b, _, none⟩) hb).trans c0
      replace c1 := (hB.cell (p := ⟨b, _, none⟩) hb).trans c1
      obtain ⟨b2, off2, rfl, hb2, hcc2⟩ := hc2 k hlt
      obtain ⟨d0, d1⟩ := part_at hcc2
      replace d0 := (hB.cell (p := ⟨b2, _, none⟩) hb2).trans d0
      replace d1 := (hB.cell (p := ⟨b2, _, none⟩) hb2).trans d1
      clear hc hcc hc2 hcc2
      go_wp2_with fail
      go_region
      go_wp2
      go_roundw
      case rel => exact ⟨k + 1, by omega, by go_num, by (repeat (first | exact Below.refl _ _ | assumption | refine below_draws ?_ _ | refine Below.drew ?_ | refine below_alloc ?_ _ (by first | omega | (simp; done) | (simp; omega)) | refine Below.setCell ?_ (by first | omega | (simp; done) | (simp; omega)) _ | refine below_at ?_ (by assumption) (by first | omega | (simp; done) | (simp; omega))))⟩
      case measure => simp [intOf]; omega
    · go_wp2
      go_ret
      exact ⟨rfl, by (repeat (first | exact Below.refl _ _ | assumption | refine below_draws ?_ _ | refine Below.drew ?_ | refine below_alloc ?_ _ (by first | omega | (simp; done) | (simp; omega)) | refine Below.setCell ?_ (by first | omega | (simp; done) | (simp; omega)) _ | refine below_at ?_ (by assumption) (by first | omega | (simp; done) | (simp; omega))))⟩
set_option maxHeartbeats 1000000 in
set_option maxRecDepth 100000 in
theorem same_swap (v1 v2 : Value) (l : List Swap) (w : World) (h1 : Arr Swap.cells 4 w l v1) (h2 : Arr Swap.cells 4 w l v2) : Calls Try.prog 74 #[v1, v2] w
    fun e w' => e = .returned (.bool true) ∧ Below w.heap.size w w' := by
  obtain ⟨a, cap, rfl, hcap, hmax, hc⟩ := h1
  obtain ⟨a2, cap2, rfl, hcap2, hmax2, hc2⟩ := h2
  have hlen : l.length ≤ maxLen := by omega
  unfold maxLen at hlen hmax hmax2
  go_enter Try.func74, Try.ntmps74
  go_wp2
  go_loopw [13] (fun i wr => ∃ k : Nat, k ≤ l.length ∧ i = .int .i64 k ∧ Below w.heap.size w wr) (fun i _ => l.length - (intOf i).toNat)
  case atStart => exact ⟨0, by omega, rfl, Below.refl _ _⟩
  case round =>
    obtain ⟨k, hk, rfl, hB⟩ := hrel
    have hsz := hB.size
    by_cases hlt : k < l.length
    · obtain ⟨b, off, rfl, hb, hcc⟩ := hc k hlt
      obtain ⟨c0, c1, c2, c3⟩ := swap_at hcc
      replace c0 := (hB.cell (p := ⟨b, _, none⟩) hb).trans c0
      replace c1 := (hB.cell (p := ⟨b, _, none⟩) hb).trans c1
      replace c2 := (hB.cell (p := ⟨b, _, none⟩) hb).trans c2
      replace c3 := (hB.cell (p := ⟨b, _, none⟩) hb).trans c3
      obtain ⟨b2, off2, rfl, hb2, hcc2⟩ := hc2 k hlt
      obtain ⟨d0, d1, d2, d3⟩ := swap_at hcc2
      replace d0 := (hB.cell (p := ⟨b2, _, none⟩) hb2).trans d0
      replace d1 := (hB.cell (p := ⟨b2, _, none⟩) hb2).trans d1
      replace d2 := (hB.cell (p := ⟨b2, _, none⟩) hb2).trans d2
      replace d3 := (hB.cell (p := ⟨b2, _, none⟩) hb2).trans d3
      clear hc hcc hc2 hcc2
      go_wp2_with fail
      go_region
      go_wp2
      go_roundw
      case rel => exact ⟨k + 1, by omega, by go_num, by (repeat (first | exact Below.refl _ _ | assumption | refine below_draws ?_ _ | refine Below.drew ?_ | refine below_alloc ?_ _ (by first | omega | (simp; done) | (simp; omega)) | refine Below.setCell ?_ (by first | omega | (simp; done) | (simp; omega)) _ | refine below_at ?_ (by assumption) (by first | omega | (simp; done) | (simp; omega))))⟩
      case measure => simp [intOf]; omega
    · go_wp2
      go_ret
      exact ⟨rfl, by (repeat (first | exact Below.refl _ _ | assumption | refine below_draws ?_ _ | refine Below.drew ?_ | refine below_alloc ?_ _ (by first | omega | (simp; done) | (simp; omega)) | refine Below.setCell ?_ (by first | omega | (simp; done) | (simp; omega)) _ | refine below_at ?_ (by assumption) (by first | omega | (simp; done) | (simp; omega))))⟩
end Go.Proofs.Ytagpcgnlbgndmaa
/- Walk: slices.Repeat of one swap. -/
set_option linter.unusedVariables false
set_option linter.unusedSimpArgs false
namespace Go.Proofs.Ytagpcgnlbgndmaa
open Go Go.RowKit

theorem setCells_append (g : Nat) : ∀ (xs : List Value) (o : Nat) (ys : List Value) (w : World), w.setCells g o (xs ++ ys) = (w.setCells g o xs).setCells g (o + xs.length) ys
  | [], o, ys, w => by simp [World.setCells]
  | x :: xs, o, ys, w => by
    rw [List.cons_append, World.setCells, World.setCells, setCells_append g xs (o + 1) ys, List.length_cons]
    rw [show o + 1 + xs.length = o + (xs.length + 1) by omega]
/-- elements are written over -/
theorem Row.splice {α : Type} {cells : α → List Value} {sz : Nat} (hlen : ∀ x, (cells x).length = sz) {g : Nat} : ∀ (M : List α) (w : World) (L : List α) (o : Nat), Row cells sz w g L → o + M.length ≤ L.length →
    Row cells sz (w.setCells g (o * sz) (M.flatMap cells)) g (L.take o ++ M ++ L.drop (o + M.length)) := by
  intro M
  induction M with
  | nil => intro w L o h ho; simpa [World.setCells] using h
  | cons x M ih =>
    intro w L o h ho
    rw [List.length_cons] at ho
    have h1 := Row.set hlen h o (by omega) x
    have h2 := ih _ (L.set o x) (o + 1) h1 (by rw [List.length_set]; omega)
    rw [List.flatMap_cons, setCells_append, hlen, show o * sz + sz = (o + 1) * sz by rw [Nat.succ_mul]]
    have e : L.take o ++ x :: M ++ L.drop (o + (x :: M).length) = (L.set o x).take (o + 1) ++ M ++ (L.set o x).drop (o + 1 + M.length) := by
      rw [List.take_succ_eq_append_getElem (by rw [List.length_set]; omega), List.getElem_set_self, List.take_set_of_le (Nat.le_refl _), List.drop_set_of_lt (by omega), List.length_cons, show o + 1 + M.length = o + (M.length + 1) by omega]
      simp
    rw [e]; exact h2
section
variable {P : Program}
theorem run_copy_sz (w : World) (dT sT ty elem : TypeId) (b o dLen dCap : Nat) (a : Addr) (sLen sCap n sz : Nat) (cs : List Value)
    (hu : P.underlying dT = some (.slice elem)) (hs : (P.info? elem).map (·.size) = some sz) (hn : Nat.min sLen dLen = n) (hcs : cs.length = n * sz)
    (hsrc : ∀ j v, cs[j]? = some v → w.cell? (a.add j) = some v) (hc : ∀ j, j < cs.length → (w.cell? ⟨b, o + j, none⟩).isSome = true) (hf : ∀ j, j < cs.length → w.frozen? ⟨b, o + j, none⟩ = false) (h1 : ∀ v ∈ cs, v.oneCell' = true) :
    (Builtin.copy_ #[dT, sT] ty #[.slice (some ⟨b, o, none⟩) dLen dCap, .slice (some a) sLen sCap]).run P w = .ok (goInt n) (w.setCells b o cs) := by
  have hl := run_loadCells_list (P := P) w a cs hsrc
  have hst := run_storeCells_cells (P := P) b o cs 0 w (by simpa using hc) (by simpa using hf) h1
  cases hq : P.info? elem with
  | none => simp [hq] at hs
  | some i =>
    have hi : i.size = sz := by simpa [hq] using hs
    simp [Builtin.copy_, run_underlying hu, Builtin.lenOf, Builtin.firstCells, sizeOf, typeInfo, hq, hi, hn, ← hcs, hl, hst]
end
theorem sizeSwap : (Try.prog.info? 113).map (·.size) = some 4 := by kernel_rfl
theorem made_swaps (c : Nat) : (madeCells (Value.agg #[.int .i64 0, .int .i64 0, .int .i64 0, .int .i64 0]).cells (c * 4)).toList = (List.replicate c (⟨0, ⟨0, 0⟩, 0⟩ : Swap)).flatMap Swap.cells := by
  apply List.ext_getElem
  · rw [flat_len Swap.cells_len]; simp [madeCells, Value.cells]
  · intro i h1 h2
    rw [flat_len Swap.cells_len, List.length_replicate] at h2
    have h3 := flat_at Swap.cells_len (List.replicate c (⟨0, ⟨0, 0⟩, 0⟩ : Swap)) (i / 4) (by simp; omega) (i % 4) (by omega)
    rw [show i / 4 * 4 + i % 4 = i by omega, List.getElem?_eq_getElem (by rw [flat_len Swap.cells_len]; simpa using h2)] at h3
    have h4 : i % 4 < 4 := by omega
    rw [List.getElem_replicate] at h3
    have h5 : ∀ j, j < 4 → (Swap.cells ⟨0, ⟨0, 0⟩, 0⟩)[j]? = some (.int .i64 0) := by
      intro j hj
      match j with
      | 0 => rfl
      | 1 => rfl
      | 2 => rfl
      | 3 => rfl
      | j + 4 => omega
    rw [h5 _ h4] at h3
    simp only [Option.some.injEq] at h3
    rw [h3]
    have h6 : ∀ j, j < 4 → (#[Value.int .i64 0, .int .i64 0, .int .i64 0, .int .i64 0] : Array Value)[j]? = some (.int .i64 0) := by
      intro j hj
      match j with
      | 0 => rfl
      | 1 => rfl
      | 2 => rfl
      | 3 => rfl
      | j + 4 => omega
    have h7 := h6 _ h4
    simp [madeCells, Value.cells]
    simp at h7
    rw [h7]; rfl

theorem swaps_one (l : List Swap) : ∀ u ∈ l.flatMap Swap.cells, u.oneCell' = true := swap_one l
theorem row_some {α : Type} {cells : α → List Value} {sz : Nat} (hlen : ∀ x, (cells x).length = sz) {w : World} {g : Nat} {L : List α} (h : Row cells sz w g L) (hs : 0 < sz) (j : Nat) (hj : j < L.length * sz) : (w.cell? ⟨g, j, none⟩).isSome = true := by
  have hk : j / sz < L.length := (Nat.div_lt_iff_lt_mul hs).2 hj
  have hm : j % sz < sz := Nat.mod_lt _ hs
  have e : 0 + j / sz * sz + j % sz = j := by rw [Nat.zero_add, Nat.mul_comm]; exact Nat.div_add_mod j sz
  have := h.1 (j / sz) hk (j % sz) _ (List.getElem?_eq_getElem (by rw [hlen]; exact hm))
  rw [e] at this
  rw [this]; rfl
theorem grown_belowB2 {a b : World} (h : a.grownBy b none) : Below a.heap.size a b := ⟨h.os, h.tape, h.output, h.size, fun k hk => h.block k hk (by simp)⟩
theorem addr_at (b off i : Nat) : ((⟨b, off, none⟩ : Addr).add i) = ⟨b, off + i, none⟩ := by
  unfold Addr.add
  split
  · rename_i h; simp [h]
  · rfl
/-- the first n of the row are sw -/
def HeadSw (sw : Swap) (n : Nat) (L : List Swap) : Prop := L.take n = List.replicate n sw
set_option maxHeartbeats 4000000 in
set_option maxRecDepth 100000 in
theorem repeat_any (v : Value) (sw : Swap) (c : Nat) (w : World) (h : Arr Swap.cells 4 w [sw] v) (hc1 : 1 ≤ c) (hc2 : c ≤ 1000) : Calls Try.prog 110 #[v, .int .i64 c] w
    fun e w' => ∃ cap, e = .returned (.slice (some ⟨w.heap.size, 0, none⟩) c cap) ∧ Row Swap.cells 4 w' w.heap.size (List.replicate c sw) ∧ c ≤ cap ∧ cap ≤ maxLen ∧ Below w.heap.size w w' := by
  have hA := h
  obtain ⟨a, cap, rfl, hcap, hmax, hc⟩ := h
  obtain ⟨b, off, rfl, hb, -⟩ := hc 0 (by simp)
  unfold maxLen at hmax
  have hnews := hA.news Swap.cells_len
  have HN := Lib.hid hnews
  clear hnews hc hA
  obtain ⟨i0, hi, hz0, hz1, hz2⟩ := info_parts infoSwap
  go_enter Try.func110, Try.ntmps110
  go_wp2_with (first
    | (go_at_call 145; refine (Try.bits_Mul 1 c (by omega) (by omega) _).mono ?_; rintro e w' ⟨rfl, hw⟩; rw [hw]; clear hw; rw [show (1 * c / 18446744073709551616 : Nat) = 0 by omega, show (1 * c % 18446744073709551616 : Nat) = c by omega])
    | (at_make; refine wpList_make_full _ rfl _ _ _ rfl w.heap.size _ _ _ _ Try.underlying74 hi hz0 hz1 _ _ _ _ c rfl rfl rfl rfl ?b1 ?b2 ?b3 ?_; (case b1 => rw [hz2]; omega); (case b2 => unfold maxLen; omega); (case b3 => omega); intro w3 hown3 hg3))
  have hs3 := hg3.size
  have hr3 : Row Swap.cells 4 w3 w.heap.size (List.replicate c (⟨0, ⟨0, 0⟩, 0⟩ : Swap)) := Row.of_own Swap.cells_len (by rw [← made_swaps]; exact hown3) (by simp)
  have hgl := hr3.2.2
  have hB3 := grown_belowB2 hg3
  have H3 := Lib.hid (And.intro hr3 hB3)
  have hz := Row.splice Swap.cells_len [sw] w3 _ 0 hr3 (by simp; omega)
  have HZ := Lib.hid hz
  have hl4 : ([sw].flatMap Swap.cells).length = 4 := rfl
  have hcp : (Builtin.copy_ #[74, 74] 3 #[.slice (some ⟨w.heap.size, 0, none⟩) c c, .slice (some ⟨b, off, none⟩) 1 cap]).run Try.prog w3 = .ok (goInt 1) (w3.setCells w.heap.size 0 ([sw].flatMap Swap.cells)) := by
    refine run_copy_sz (P := Try.prog) w3 74 74 3 113 w.heap.size 0 c c ⟨b, off, none⟩ 1 cap 1 4 ([sw].flatMap Swap.cells) Try.underlying74 sizeSwap (by show min 1 c = 1; omega) rfl (fun j u hu => ?_) (fun j hj => ?_) (fun j _ => hr3.2.1 _) (swap_one _)
    · have := HN.out j u hu
      rw [addr_at] at this ⊢
      exact (hB3.cell (p := ⟨b, _, none⟩) hb).trans this
    · rw [hl4] at hj
      rw [Nat.zero_add]
      exact row_some Swap.cells_len hr3 (by omega) j (by simp; omega)
  clear hr3 hB3 hz hown3 hg3 hl4
  rw [hcp]
  go_wp2
  simp only [Nat.zero_mul] at HZ
  go_loopw [8] (fun i wr => ∃ (n : Nat) (L : List Swap), 1 ≤ n ∧ n ≤ c ∧ i = .int .i64 n ∧ L.length = c ∧ HeadSw sw n L ∧ Row Swap.cells 4 wr w.heap.size L ∧ Below w.heap.size w wr) (fun i _ => c - (intOf i).toNat)
  case atStart =>
    refine ⟨1, _, by omega, hc1, rfl, ?_, ?_, HZ.out, ?_⟩
    · simp; omega
    · unfold HeadSw; simp
    · exact below_at H3.out.2 (grown_row (grown_setCells w.heap.size _ 0 w3) (Nat.le_refl _) hs3) (Nat.le_refl _)
  case round =>
    obtain ⟨n, L, hn1, hn2, rfl, hL, hH, hR, hB⟩ := hrel
    have hsz := hB.size
    have hgw := hR.2.2
    have HR := Lib.hid (And.intro hH (And.intro hR hB))
    clear hH hR hB
    by_cases hlt : n < c
    · obtain ⟨m, hm⟩ : ∃ m, min n (c - n) = m := ⟨_, rfl⟩
      have hm1 : 1 ≤ m := by omega
      have hm2 : m ≤ n := by omega
      have hm3 : n + m ≤ c := by omega
      have hnm : Nat.min n (c - n) = m := hm
      have htk : L.take m = List.replicate m sw := by
        have h1 := HR.out.1
        unfold HeadSw at h1
        have h2 := congrArg (List.take m) h1
        rw [List.take_take, show min m n = m by omega, List.take_replicate, show min m n = m by omega] at h2
        exact h2
      have hRd : Row Swap.cells 4 wr.drew w.heap.size L := HR.out.2.1
      have hnw := (Row.arr (hRd.take m) (n := m) (cap := m) (by simp; omega) (Nat.le_refl _) (by unfold maxLen; omega)).news Swap.cells_len
      rw [htk] at hnw
      have hcl : ((List.replicate m sw).flatMap Swap.cells).length = m * 4 := by rw [flat_len Swap.cells_len]; simp
      have hcp2 : (Builtin.copy_ #[74, 74] 3 #[.slice (some ⟨w.heap.size, n * 4, none⟩) (c - n) (c - n), .slice (some ⟨w.heap.size, 0, none⟩) n c]).run Try.prog wr.drew = .ok (goInt m) (wr.drew.setCells w.heap.size (n * 4) ((List.replicate m sw).flatMap Swap.cells)) := by
        refine run_copy_sz (P := Try.prog) wr.drew _ _ _ 113 w.heap.size (n * 4) (c - n) (c - n) ⟨w.heap.size, 0, none⟩ n c m 4 _ Try.underlying74 sizeSwap hnm hcl hnw (fun j hj => ?_) (fun j _ => hRd.2.1 _) (swap_one _)
        rw [hcl] at hj
        exact row_some Swap.cells_len hRd (by omega) _ (by omega)
      have hsp := Row.splice Swap.cells_len (List.replicate m sw) wr.drew L n hRd (by simp; omega)
      rw [List.length_replicate] at hsp
      have hBd : Below w.heap.size w wr.drew := below_draws HR.out.2.2 1
      have hsd : w.heap.size ≤ wr.drew.heap.size := hBd.size
      have HX := Lib.hid (And.intro hsp (And.intro (below_at hBd (grown_row (grown_setCells w.heap.size ((List.replicate m sw).flatMap Swap.cells) (n * 4) wr.drew) (Nat.le_refl _) hsd) (Nat.le_refl _)) (And.intro htk hcp2)))
      have bb1 : (n : Int) ≤ (c : Int) := by omega
      have bb2 : n < c := hlt
      have hcn : ¬ c = n := by omega
      have z1 : IntKind.i64.wrap ((n : Int) + m) = (n : Int) + m := IntWalk.i64_in _ (by omega)
      clear hsp hBd htk hcp2 hnw hcl hRd hcp
      go_wp2
      refine WalkT.start (fun _ => True) [] (by kernel_rfl) ?_
      refine WalkT.quiet (i := 0) (v := ?_) rfl (by kernel_rfl) (by kernel_rfl) (by kernel_rfl) (fun _ _ _ h => h) (Or.inl ⟨by rfl, ?_⟩) ?_; rotate_left; (· (intro wS hSw; (try dsimp only at hSw); go_simp; try with_reducible rfl)); try simp only [Act.put, List.setIfInBounds_toArray, List.set_cons_zero, List.set_cons_succ, List.getElem_toArray, List.getElem_cons_succ, List.getElem_cons_zero]
      refine WalkT.quiet (i := 1) (v := ?_) rfl (by kernel_rfl) (by kernel_rfl) (by kernel_rfl) (fun _ _ _ h => h) (Or.inl ⟨by rfl, ?_⟩) ?_; rotate_left; (· (intro wS hSw; (try dsimp only at hSw); go_simp; try with_reducible rfl)); try simp only [Act.put, List.setIfInBounds_toArray, List.set_cons_zero, List.set_cons_succ, List.getElem_toArray, List.getElem_cons_succ, List.getElem_cons_zero]
      refine WalkT.quiet (i := 2) (v := ?_) rfl (by kernel_rfl) (by kernel_rfl) (by kernel_rfl) (fun _ _ _ h => h) (Or.inl ⟨by rfl, ?_⟩) ?_; rotate_left; (· (intro wS hSw; (try dsimp only at hSw); go_simp; try with_reducible rfl)); try simp only [Act.put, List.setIfInBounds_toArray, List.set_cons_zero, List.set_cons_succ, List.getElem_toArray, List.getElem_cons_succ, List.getElem_cons_zero]
      refine WalkT.quiet (i := 3) (v := ?_) rfl (by kernel_rfl) (by kernel_rfl) (by kernel_rfl) (fun _ _ _ h => h) (Or.inl ⟨by rfl, ?_⟩) ?_; rotate_left; (· (intro wS hSw; (try dsimp only at hSw); go_simp; try with_reducible rfl)); try simp only [Act.put, List.setIfInBounds_toArray, List.set_cons_zero, List.set_cons_succ, List.getElem_toArray, List.getElem_cons_succ, List.getElem_cons_zero]
      refine WalkT.quiet (i := 4) (v := ?_) rfl (by kernel_rfl) (by kernel_rfl) (by kernel_rfl) (fun _ _ _ h => h) (Or.inl ⟨by rfl, ?_⟩) ?_; rotate_left; (· (intro wS hSw; (try dsimp only at hSw); go_simp; try with_reducible rfl)); try simp only [Act.put, List.setIfInBounds_toArray, List.set_cons_zero, List.set_cons_succ, List.getElem_toArray, List.getElem_cons_succ, List.getElem_cons_zero]
      refine WalkT.quiet (i := 5) (v := ?_) rfl (by kernel_rfl) (by kernel_rfl) (by kernel_rfl) (fun _ _ _ h => h) (Or.inl ⟨by rfl, ?_⟩) ?_; rotate_left; (· (intro wS hSw; (try dsimp only at hSw); go_simp; try with_reducible rfl)); try simp only [Act.put, List.setIfInBounds_toArray, List.set_cons_zero, List.set_cons_succ, List.getElem_toArray, List.getElem_cons_succ, List.getElem_cons_zero]
      refine WalkT.quiet (i := 6) (v := ?_) rfl (by kernel_rfl) (by kernel_rfl) (by kernel_rfl) (fun _ _ _ h => h) (Or.inl ⟨by rfl, ?_⟩) ?_; rotate_left; (· (intro wS hSw; (try dsimp only at hSw); go_simp; try with_reducible rfl)); try simp only [Act.put, List.setIfInBounds_toArray, List.set_cons_zero, List.set_cons_succ, List.getElem_toArray, List.getElem_cons_succ, List.getElem_cons_zero]
      refine WalkT.ready (rs := [7]) (by kernel_rfl) (by simp) (AllT.cons rfl (fun K hK => ?_) AllT.nil)
      refine step_copy_runI (by rfl) _ _ _ _ rfl _ _ (by rfl) (by rfl) HX.out.2.2.2 ?_
      refine hK.out _ _ (fun _ _ => trivial) ?_; clear hK K; try simp only [Act.put, List.setIfInBounds_toArray, List.set_cons_zero, List.set_cons_succ, List.getElem_toArray, List.getElem_cons_succ, List.getElem_cons_zero]
      refine WalkT.quiet (i := 8) (v := ?_) rfl (by kernel_rfl) (by kernel_rfl) (by kernel_rfl) (fun _ _ _ h => h) (Or.inl ⟨by rfl, ?_⟩) ?_; rotate_left; (· (intro wS hSw; (try dsimp only at hSw); go_simp; try with_reducible rfl)); try simp only [Act.put, List.setIfInBounds_toArray, List.set_cons_zero, List.set_cons_succ, List.getElem_toArray, List.getElem_cons_succ, List.getElem_cons_zero]
      refine WalkT.quiet (i := 9) (v := ?_) rfl (by kernel_rfl) (by kernel_rfl) (by kernel_rfl) (fun _ _ _ h => h) (Or.inl ⟨by rfl, ?_⟩) ?_; rotate_left; (· (intro wS hSw; (try dsimp only at hSw); go_simp; try with_reducible rfl)); try simp only [Act.put, List.setIfInBounds_toArray, List.set_cons_zero, List.set_cons_succ, List.getElem_toArray, List.getElem_cons_succ, List.getElem_cons_zero]
      refine WalkT.done (by kernel_rfl) ?_
      go_wp2
      refine ⟨⟨n + m, _, by omega, hm3, by go_num, ?_, ?_, HX.out.1, HX.out.2.1⟩, by simp [intOf]; omega⟩
      · simp; omega
      · have h1 := HR.out.1
        unfold HeadSw at h1 ⊢
        rw [h1]
        rw [List.take_append_of_le_length (by simp), List.take_of_length_le (by simp)]
        rw [List.replicate_append_replicate]
    · go_wp2
      go_ret
      refine ⟨c, rfl, ?_, Nat.le_refl _, by unfold maxLen; omega, HR.out.2.2⟩
      have : L = List.replicate c sw := by have := HR.out.1; unfold HeadSw at this; rw [List.take_of_length_le (by omega)] at this; rw [this]; congr 1; omega
      rw [← this]; exact HR.out.2.1
end Go.Proofs.Ytagpcgnlbgndmaa
/- Walk of the stream: swaps of parts. -/
set_option linter.unusedVariables false
set_option linter.unusedSimpArgs false
namespace Go.Proofs.Ytagpcgnlbgndmaa
open Go Go.RowKit

/-- what has been drawn: swaps in memory of their own -/
structure SwSt (w : World) (s M : Nat) (V : Value) (l : List Swap) (W : World) : Prop where
  st : Strm W s M
  gr : w.grownBy W (some s)
  arr : Arr Swap.cells 4 W l V
  low : ∀ b off n cap, V = .slice (some ⟨b, off, none⟩) n cap → s < b
theorem SwSt.step {w W W' : World} {s M M' : Nat} {V : Value} {l : List Swap} (h : SwSt w s M V l W) (hs : Strm W' s M') (hg : W.grownBy W' (some s)) : SwSt w s M' V l W' :=
  ⟨hs, grown_trans h.gr hg, h.arr.grownBy hg h.low, h.low⟩
theorem sw_cells {s m : Nat} {w W : World} {g : Nat} {l : List Swap} (h : RowSt Swap.cells 4 s m w g W l) (k : Nat) (hk : k < l.length) :
    W.cell? ⟨g, k * 4, none⟩ = some (.int .i64 l[k].at_) ∧ W.cell? ⟨g, k * 4 + 3, none⟩ = some (.int .i64 l[k].price) := by
  have h0 := h.row.1 k hk 0 _ rfl
  have h3 := h.row.1 k hk 3 _ rfl
  simp only [Nat.zero_add, Nat.add_zero] at h0 h3
  exact ⟨h0, h3⟩
set_option maxHeartbeats 8000000 in
set_option maxRecDepth 100000 in
theorem swapList_any (s m : Nat) (vp : Value) (p : List Part) (w : World) (h : Strm w s m) (hm : m ≤ 900000) (hp : Arr Part.cells 2 w p vp) (hpl : p.length ≤ 1000) : Calls Try.prog 48 #[.pointer (some ⟨s, 0, none⟩), vp] w
    (Draw (NewArr Swap.cells 4 s) s m 80 w) := by
  have hl := h.lt
  obtain ⟨ap, capp, rfl, -, -, -⟩ := hp
  obtain ⟨i0, hi, hz0, hz1, hz2⟩ := info_parts infoSwap
  go_enter Try.func48, Try.ntmps48
  go_wp2_with fail
  refine (range_any s m _ _ _ h (by omega) (by omega) (by omega) (by omega)).mono ?_
  rintro e w1 ⟨v, rfl, ⟨r, rfl, r0, r1⟩, hs1, hg1⟩
  obtain ⟨n, rfl⟩ := Int.eq_ofNat_of_zero_le r0
  have hn : n ≤ 5 := by omega
  have HI := Lib.hid (And.intro hs1 hg1)
  clear hs1 hg1
  go_wp2
  go_loopw [5, 9] (fun v i wr => ∃ l : List Swap, l.length ≤ n ∧ i = .int .i64 l.length ∧ wr.ownsRow w.heap.size 113 4 v l.length (l.flatMap Swap.cells) ∧ Strm wr s (m + 1 + 11 * l.length) ∧ w.grownBy wr (some s)) (fun _ i _ => n - (intOf i).toNat)
  case atStart => exact ⟨[], by simp, rfl, World.ownsRow_nil _ _ _ _, HI.out.1, HI.out.2⟩
  case round =>
    obtain ⟨l, hk, rfl, hown, hs, hg⟩ := hrel
    have hsz : w.heap.size ≤ wr.heap.size := hg.size
    by_cases hlt : l.length < n
    · have HO := Lib.hid (And.intro hown hg)
      clear hown hg
      go_wp2_with fail
      refine (next_any s (m + 1 + 11 * l.length) _ _ hs (by omega) (by omega) (by omega)).mono ?_
      rintro e w2 ⟨v, rfl, ⟨ra, rfl, -⟩, hs2, hg2⟩
      go_wp2_with fail
      refine (apart_any s (m + 1 + 11 * l.length + 1) _ hs2 (by omega)).mono ?_
      rintro e w3 ⟨v, rfl, ⟨q, rfl, -⟩, hs3, hg3⟩
      go_wp2_with fail; refine (pick_lit s (m + 1 + 11 * l.length + 1 + 9) [0, 5, 10, 10, 70] _ (hs3) (by omega) (by simp) (by simp) (by first | rfl | simp) (by rfl) (by rfl)).mono ?_; rintro e w4 ⟨v, rfl, ⟨r4, rfl, hr4⟩, hs4, hg4⟩
      have l2 := hg2.size
      have l3 := hg3.size
      have l4 := hg4.size
      have HO2 := Lib.hid (own_grown (own_grown (own_grown HO.out.1 hg2 (by omega)) hg3 (by omega)) hg4 (by omega))
      have HG2 := Lib.hid (grown_trans HO.out.2 (grown_trans hg2 (grown_trans hg3 hg4)))
      clear hr4 hs hs2 hs3 hg2 hg3 hg4 HO
      go_wp2_with ((at_builtin; go_must (refine wpList_append_own _ rfl _ _ 74 rfl _ 113 _ (.agg #[.int .i64 0, .int .i64 0, .int .i64 0, .int .i64 0]) 4 32 Try.underlying74 hi hz0 hz1 hz2 rfl (by decide) _ _ _ rfl (own_below HO2.out (by (repeat (first | exact Below.refl _ _ | assumption | refine below_draws ?_ _ | refine Below.drew ?_ | refine below_alloc ?_ _ (by first | omega | (simp; done) | (simp; omega)) | refine Below.setCell ?_ (by first | omega | (simp; done) | (simp; omega)) _ | refine below_at ?_ (by assumption) (by first | omega | (simp; done) | (simp; omega)))))) ⟨w4.heap.size, 0, none⟩ 1 1 [.int .i64 ra, .int .i64 q.kind, .int .i64 q.amt, .int .i64 r4] rfl rfl (by exact news_at (by first | rfl | simp) (by rfl)) (by simp [Value.oneCell']) (by unfold maxLen; omega) (by omega) (by first | omega | (simp; done) | (simp; omega)) ?_)); intro v' w5 hown3 hgrow _)
      refine ⟨⟨l ++ [⟨ra, q, r4⟩], by simp only [List.length_append, List.length_cons, List.length_nil]; omega, by simp, ?_, ?_, ?_⟩, by simp [intOf]; omega⟩
      · simp only [List.length_append, List.length_cons, List.length_nil, List.flatMap_append, List.flatMap_cons, List.flatMap_nil, List.append_nil]; exact hown3
      · refine (strm_app (hs4.alloc _) (own_below HO2.out (by (repeat (first | exact Below.refl _ _ | assumption | refine below_draws ?_ _ | refine Below.drew ?_ | refine below_alloc ?_ _ (by first | omega | (simp; done) | (simp; omega)) | refine Below.setCell ?_ (by first | omega | (simp; done) | (simp; omega)) _ | refine below_at ?_ (by assumption) (by first | omega | (simp; done) | (simp; omega)))))) hgrow (by omega)).mono (by simp; omega)
      · exact grown_app (grown_alloc HG2.out _) (own_below HO2.out (by (repeat (first | exact Below.refl _ _ | assumption | refine below_draws ?_ _ | refine Below.drew ?_ | refine below_alloc ?_ _ (by first | omega | (simp; done) | (simp; omega)) | refine Below.setCell ?_ (by first | omega | (simp; done) | (simp; omega)) _ | refine below_at ?_ (by assumption) (by first | omega | (simp; done) | (simp; omega)))))) hgrow (by omega)
    · have hM : m + 1 + 11 * l.length ≤ m + 56 := by omega
      generalize m + 1 + 11 * l.length = M at *
      have hAr := Arr.of_own Swap.cells_len hown
      have hlow : ∀ b off n' cap, ∀ v, v.ownBlock = some b → v = Value.slice (some ⟨b, off, none⟩) n' cap → s < b ∨ True := fun _ _ _ _ _ _ _ => .inr trivial
      by_cases hl0 : 0 < l.length
      · obtain ⟨a, cap, rfl, hcap, hmax, hc⟩ := hAr
        obtain ⟨g, off, rfl, -, -⟩ := hc 0 hl0
        obtain rfl : off = 0 := own_off hown
        have hrow := Row.of_own Swap.cells_len hown rfl
        have hgl := (hown.lt g rfl).1
        have HSR : Hid (RowSt Swap.cells 4 s M w g wr l) := Lib.hid ⟨hs, hg, hrow, hl, by omega⟩
        have hlen : l.length ≤ 5 := by omega
        clear hown hg hc hrow hlow
        go_wp2_with fail
        refine (flip_any s M _ _ hs (by omega) (by omega) (by omega)).mono ?_
        rintro e wy ⟨v, rfl, ⟨fb, rfl⟩, hsy, hgy⟩
        have HSY := Lib.hid (HSR.out.step hsy hgy)
        clear HSR hgy hs
        cases fb
        · have HY := Lib.hid (show SwSt w s (M + 1) (.slice (some ⟨g, 0, none⟩) l.length cap) l wy from ⟨hsy, HSY.out.gr, HSY.out.row.arr rfl hcap hmax, slice_low (by omega)⟩)
          clear hsy
          go_wp2_with fail
          (refine (flip_any s (M + 1) _ _ HY.out.st (by omega) (by omega) (by omega)).mono ?_; rintro e wz ⟨v, rfl, ⟨fb2, rfl⟩, hsz2, hgz2⟩; have HZ := Lib.hid (HY.out.step hsz2 hgz2); clear hsz2 hgz2; cases fb2; exact (by (go_wp2; go_ret; exact ⟨_, rfl, ⟨_, HZ.out.arr, HZ.out.low⟩, HZ.out.st.mono (by omega), HZ.out.gr⟩)); (have hA1 : Arr Swap.cells 4 (wz.alloc (.cells #[.int .i64 0, .int .i64 2, .int .i64 0, .int .i64 0] 113)) [(⟨0, ⟨2, 0⟩, 0⟩ : Swap)] (.slice (some ⟨wz.heap.size, 0, none⟩) 1 1) := Arr.litAt Swap.cells_len rfl (by rfl) (by rfl) (by simp [maxLen]); have hzs := HZ.out.st.lt; have HA1 := Lib.hid hA1; clear hA1; go_wp2_with fail; refine (pick_lit s (M + 1 + 1) [12, 13] _ (HZ.out.st.alloc _) (by omega) (by simp) (by simp) (by first | rfl | simp) (by rfl) (by rfl)).mono ?_; rintro e wq ⟨v, rfl, ⟨rc, rfl, hrc⟩, hsq, hgq⟩; have hrc2 : 1 ≤ rc ∧ rc ≤ 13 := (by simp at hrc; omega); obtain ⟨hrc3, hrc4⟩ := hrc2; obtain ⟨c, rfl⟩ := Int.eq_ofNat_of_zero_le (show 0 ≤ rc by omega); have HQ := Lib.hid (And.intro hsq (grown_trans HZ.out.gr (grown_trans (World.grownBy_alloc _ _ _) hgq))); have hA2 := Arr.grown HA1.out hgq (by omega); clear hrc hsq hgq; go_wp2_with fail; refine (repeat_any _ ⟨0, ⟨2, 0⟩, 0⟩ c _ (by exact hA2) (by omega) (by omega)).mono ?_; rintro e wx ⟨cap9, rfl, hrow9, hc9, hm9, hb9⟩; have hqs := HQ.out.1.lt; have HX := Lib.hid (And.intro hrow9 (And.intro (HQ.out.1.below hb9 (Nat.le_refl _)) (grown_trans HQ.out.2 (grown_below (some s) hb9)))); clear hrow9 hb9; go_wp2; go_ret; exact ⟨_, rfl, ⟨_, HX.out.1.arr (by simp) hc9 hm9, slice_low (by omega)⟩, HX.out.2.1.mono (by omega), HX.out.2.2⟩))
        · go_wp2_with fail
          refine (next_any s (M + 1) _ _ hsy (by omega) (by omega) (by omega)).mono ?_
          rintro e wn ⟨v, rfl, ⟨r, rfl, z0, z1⟩, hsn, hgn⟩
          obtain ⟨k, rfl⟩ := Int.eq_ofNat_of_zero_le z0
          have hkl : k < l.length := by omega
          have SN := HSY.out.step hsn hgn
          have SWd : RowSt Swap.cells 4 s (M + 2) w g wn.drew l := ⟨SN.st.drew, grown_drew SN.gr, SN.row, SN.l1, SN.l2⟩
          clear HSY hsy hsn hgn
          have SWH := Lib.hid SWd
          clear SWd SN
          have bbk : (k : Int) < (l.length : Int) := by omega
          go_wp2
          refine WalkT.start (fun w' => w'.cell? ⟨g, k * 4, none⟩ = some (.int .i64 l[k].at_) ∧ w'.cell? ⟨g, k * 4 + 3, none⟩ = some (.int .i64 l[k].price)) [20, 23] (by kernel_rfl) ?_
          have SW0 := SWH.out
          clear SWH
          generalize wn.drew = W0 at *
          have hS1 := sw_cells SW0 k hkl
          refine WalkT.quiet (i := 0) (v := ?_) rfl (by kernel_rfl) (by kernel_rfl) (by kernel_rfl) (fun _ _ _ h => h) (Or.inl ⟨by rfl, ?_⟩) ?_; rotate_left; (· (intro wS hSw; (try dsimp only at hSw); go_simp; try with_reducible rfl)); try simp only [Act.put, List.setIfInBounds_toArray, List.set_cons_zero, List.set_cons_succ, List.getElem_toArray, List.getElem_cons_succ, List.getElem_cons_zero]
          refine WalkT.quiet (i := 1) (v := ?_) rfl (by kernel_rfl) (by kernel_rfl) (by kernel_rfl) (fun _ _ _ h => h) (Or.inl ⟨by rfl, ?_⟩) ?_; rotate_left; (· (intro wS hSw; (try dsimp only at hSw); go_simp; try with_reducible rfl)); try simp only [Act.put, List.setIfInBounds_toArray, List.set_cons_zero, List.set_cons_succ, List.getElem_toArray, List.getElem_cons_succ, List.getElem_cons_zero]
          refine WalkT.quiet (i := 2) (v := ?_) rfl (by kernel_rfl) (by kernel_rfl) (by kernel_rfl) (fun _ _ _ h => h) (Or.inl ⟨by rfl, ?_⟩) ?_; rotate_left; (· (intro wS hSw; (try dsimp only at hSw); go_simp; try with_reducible rfl)); try simp only [Act.put, List.setIfInBounds_toArray, List.set_cons_zero, List.set_cons_succ, List.getElem_toArray, List.getElem_cons_succ, List.getElem_cons_zero]
          refine WalkT.quiet (i := 3) (v := ?_) rfl (by kernel_rfl) (by kernel_rfl) (by kernel_rfl) (fun _ _ _ h => h) (Or.inl ⟨by rfl, ?_⟩) ?_; rotate_left; (· (intro wS hSw; (try dsimp only at hSw); go_simp; try with_reducible rfl)); try simp only [Act.put, List.setIfInBounds_toArray, List.set_cons_zero, List.set_cons_succ, List.getElem_toArray, List.getElem_cons_succ, List.getElem_cons_zero]
          refine WalkT.quiet (i := 4) (v := ?_) rfl (by kernel_rfl) (by kernel_rfl) (by kernel_rfl) (fun _ _ _ h => h) (Or.inl ⟨by rfl, ?_⟩) ?_; rotate_left; (· (intro wS hSw; (try dsimp only at hSw); go_simp; try with_reducible rfl)); try simp only [Act.put, List.setIfInBounds_toArray, List.set_cons_zero, List.set_cons_succ, List.getElem_toArray, List.getElem_cons_succ, List.getElem_cons_zero]
          refine WalkT.quiet (i := 5) (v := ?_) rfl (by kernel_rfl) (by kernel_rfl) (by kernel_rfl) (fun _ _ _ h => h) (Or.inl ⟨by rfl, ?_⟩) ?_; rotate_left; (· (intro wS hSw; (try dsimp only at hSw); go_simp; try with_reducible rfl)); try simp only [Act.put, List.setIfInBounds_toArray, List.set_cons_zero, List.set_cons_succ, List.getElem_toArray, List.getElem_cons_succ, List.getElem_cons_zero]
          refine WalkT.take (i := 6) (v := ?_) rfl (by kernel_rfl) (by kernel_rfl) (by kernel_rfl) (by kernel_rfl) (fun _ _ _ h => h) hS1 (Or.inl ⟨by rfl, ?_⟩) ?_; rotate_left; (· (intro wS hSw; (try dsimp only at hSw); obtain ⟨t0, t1⟩ := hSw; go_simp; try with_reducible rfl)); try simp only [Act.put, List.setIfInBounds_toArray, List.set_cons_zero, List.set_cons_succ, List.getElem_toArray, List.getElem_cons_succ, List.getElem_cons_zero]
          refine WalkT.quiet (i := 7) (v := ?_) rfl (by kernel_rfl) (by kernel_rfl) (by kernel_rfl) (fun _ _ _ h => h) (Or.inl ⟨by rfl, ?_⟩) ?_; rotate_left; (· (intro wS hSw; (try dsimp only at hSw); go_simp; try with_reducible rfl)); try simp only [Act.put, List.setIfInBounds_toArray, List.set_cons_zero, List.set_cons_succ, List.getElem_toArray, List.getElem_cons_succ, List.getElem_cons_zero]
          refine WalkT.quiet (i := 8) (v := ?_) rfl (by kernel_rfl) (by kernel_rfl) (by kernel_rfl) (fun _ _ _ h => h) (Or.inl ⟨by rfl, ?_⟩) ?_; rotate_left; (· (intro wS hSw; (try dsimp only at hSw); go_simp; try with_reducible rfl)); try simp only [Act.put, List.setIfInBounds_toArray, List.set_cons_zero, List.set_cons_succ, List.getElem_toArray, List.getElem_cons_succ, List.getElem_cons_zero]
          refine WalkT.quiet (i := 11) (v := ?_) rfl (by kernel_rfl) (by kernel_rfl) (by kernel_rfl) (fun _ _ _ h => h) (Or.inl ⟨by rfl, ?_⟩) ?_; rotate_left; (· (intro wS hSw; (try dsimp only at hSw); go_simp; try with_reducible rfl)); try simp only [Act.put, List.setIfInBounds_toArray, List.set_cons_zero, List.set_cons_succ, List.getElem_toArray, List.getElem_cons_succ, List.getElem_cons_zero]
          refine WalkT.quiet (i := 12) (v := ?_) rfl (by kernel_rfl) (by kernel_rfl) (by kernel_rfl) (fun _ _ _ h => h) (Or.inl ⟨by rfl, ?_⟩) ?_; rotate_left; (· (intro wS hSw; (try dsimp only at hSw); go_simp; try with_reducible rfl)); try simp only [Act.put, List.setIfInBounds_toArray, List.set_cons_zero, List.set_cons_succ, List.getElem_toArray, List.getElem_cons_succ, List.getElem_cons_zero]
          refine WalkT.quiet (i := 13) (v := ?_) rfl (by kernel_rfl) (by kernel_rfl) (by kernel_rfl) (fun _ _ _ h => h) (Or.inl ⟨by rfl, ?_⟩) ?_; rotate_left; (· (intro wS hSw; (try dsimp only at hSw); go_simp; try with_reducible rfl)); try simp only [Act.put, List.setIfInBounds_toArray, List.set_cons_zero, List.set_cons_succ, List.getElem_toArray, List.getElem_cons_succ, List.getElem_cons_zero]
          refine WalkT.quiet (i := 14) (v := ?_) rfl (by kernel_rfl) (by kernel_rfl) (by kernel_rfl) (fun _ _ _ h => h) (Or.inl ⟨by rfl, ?_⟩) ?_; rotate_left; (· (intro wS hSw; (try dsimp only at hSw); go_simp; try with_reducible rfl)); try simp only [Act.put, List.setIfInBounds_toArray, List.set_cons_zero, List.set_cons_succ, List.getElem_toArray, List.getElem_cons_succ, List.getElem_cons_zero]
          refine WalkT.take (i := 15) (v := ?_) rfl (by kernel_rfl) (by kernel_rfl) (by kernel_rfl) (by kernel_rfl) (fun _ _ _ h => h) hS1 (Or.inl ⟨by rfl, ?_⟩) ?_; rotate_left; (· (intro wS hSw; (try dsimp only at hSw); obtain ⟨t0, t1⟩ := hSw; go_simp; try with_reducible rfl)); try simp only [Act.put, List.setIfInBounds_toArray, List.set_cons_zero, List.set_cons_succ, List.getElem_toArray, List.getElem_cons_succ, List.getElem_cons_zero]
          clear hS1
          refine WalkT.ready (rs := [9, 16]) (by kernel_rfl) (by simp) ?_
          refine AllT.cons rfl (fun K hK => ?_) ?_
          · go_simp
            refine genLit (C := fun W' => K _ W') s 3 [l[k].at_, -1, (p.length : Int)] (by rfl) (by rfl) (by simp) ?_
            intro W1 gW1 tW1 AW1
            have SW1 := SW0.step (tW1 _ SW0.st) gW1
            have q1 : s < W0.heap.size := SW0.st.lt
            have hw1 := gW1.size
            refine hK.out _ _ (fun _ _ => sw_cells SW1 k hkl) ?_; clear hK K; try simp only [Act.put, List.setIfInBounds_toArray, List.set_cons_zero, List.set_cons_succ, List.getElem_toArray, List.getElem_cons_succ, List.getElem_cons_zero]
            refine WalkT.ready (rs := [10, 16]) (by kernel_rfl) (by simp) ?_
            refine AllT.cons rfl (fun K hK => ?_) ?_
            · go_simp
              refine (pick_any s (M + 2) _ [l[k].at_, -1, (p.length : Int)] _ SW1.st (by omega) AW1 (by simp) (by simp) (slice_ne q1)).mono ?_
              rintro e W2 ⟨v, rfl, ⟨rA, rfl, -⟩, tW2, gW2⟩
              have SW2 := SW1.step tW2 gW2
              refine hK.out _ _ (fun _ _ => sw_cells SW2 k hkl) ?_; clear hK K; try simp only [Act.put, List.setIfInBounds_toArray, List.set_cons_zero, List.set_cons_succ, List.getElem_toArray, List.getElem_cons_succ, List.getElem_cons_zero]
              refine WalkT.ready (rs := [16]) (by kernel_rfl) (by simp) (AllT.cons rfl (fun K hK => ?_) AllT.nil); go_simp
              refine genLit (C := fun W' => K _ W') s 3 [l[k].price, -1, 1000000001] (by rfl) (by rfl) (by simp) ?_
              intro W3 gW3 tW3 AW3
              have SW3 := SW2.step (tW3 _ SW2.st) gW3
              have q3 : s < W2.heap.size := SW2.st.lt
              refine hK.out _ _ (fun _ _ => sw_cells SW3 k hkl) ?_; clear hK K; try simp only [Act.put, List.setIfInBounds_toArray, List.set_cons_zero, List.set_cons_succ, List.getElem_toArray, List.getElem_cons_succ, List.getElem_cons_zero]
              refine WalkT.ready (rs := [17]) (by kernel_rfl) (by simp) (AllT.cons rfl (fun K hK => ?_) AllT.nil); go_simp
              refine (pick_any s (M + 3) _ [l[k].price, -1, 1000000001] _ SW3.st (by omega) AW3 (by simp) (by simp) (slice_ne q3)).mono ?_
              rintro e W4 ⟨v, rfl, ⟨rB, rfl, -⟩, tW4, gW4⟩
              have SW4 := SW3.step tW4 gW4
              refine hK.out _ _ (fun _ _ => sw_cells SW4 k hkl) ?_; clear hK K; try simp only [Act.put, List.setIfInBounds_toArray, List.set_cons_zero, List.set_cons_succ, List.getElem_toArray, List.getElem_cons_succ, List.getElem_cons_zero]
              clear SW0 SW1 SW2 SW3 gW1 tW1 AW1 gW2 tW2 gW3 tW3 AW3 gW4 tW4
              (obtain ⟨t0, t3⟩ := sw_cells SW4 k hkl; have u0 := SW4.row.2.1 (k * 4); have u3 := SW4.row.2.1 (k * 4 + 3); (refine WalkT.quiet (i := 18) (v := ?_) rfl (by kernel_rfl) (by kernel_rfl) (by kernel_rfl) (fun _ _ _ h => h) (Or.inl ⟨by rfl, ?_⟩) ?_; rotate_left; (· (intro wS hSw; (try dsimp only at hSw); go_simp; try with_reducible rfl)); try simp only [Act.put, List.setIfInBounds_toArray, List.set_cons_zero, List.set_cons_succ, List.getElem_toArray, List.getElem_cons_succ, List.getElem_cons_zero]); (refine WalkT.quiet (i := 19) (v := ?_) rfl (by kernel_rfl) (by kernel_rfl) (by kernel_rfl) (fun _ _ _ h => h) (Or.inl ⟨by rfl, ?_⟩) ?_; rotate_left; (· (intro wS hSw; (try dsimp only at hSw); go_simp; try with_reducible rfl)); try simp only [Act.put, List.setIfInBounds_toArray, List.set_cons_zero, List.set_cons_succ, List.getElem_toArray, List.getElem_cons_succ, List.getElem_cons_zero]); (refine WalkT.ready (rs := [20]) (by kernel_rfl) (by simp) (AllT.cons rfl (fun K hK => ?_) AllT.nil); go_simp); (refine hK.out _ _ (fun h => absurd h (by decide)) ?_; clear hK K; try simp only [Act.put, List.setIfInBounds_toArray, List.set_cons_zero, List.set_cons_succ, List.getElem_toArray, List.getElem_cons_succ, List.getElem_cons_zero]); (refine WalkT.quiet (i := 21) (v := ?_) rfl (by kernel_rfl) (by kernel_rfl) (by kernel_rfl) (fun _ _ _ h => h) (Or.inl ⟨by rfl, ?_⟩) ?_; rotate_left; (· (intro wS hSw; (try dsimp only at hSw); go_simp; try with_reducible rfl)); try simp only [Act.put, List.setIfInBounds_toArray, List.set_cons_zero, List.set_cons_succ, List.getElem_toArray, List.getElem_cons_succ, List.getElem_cons_zero]); (refine WalkT.quiet (i := 22) (v := ?_) rfl (by kernel_rfl) (by kernel_rfl) (by kernel_rfl) (fun _ _ _ h => h) (Or.inl ⟨by rfl, ?_⟩) ?_; rotate_left; (· (intro wS hSw; (try dsimp only at hSw); go_simp; try with_reducible rfl)); try simp only [Act.put, List.setIfInBounds_toArray, List.set_cons_zero, List.set_cons_succ, List.getElem_toArray, List.getElem_cons_succ, List.getElem_cons_zero]); (refine WalkT.ready (rs := [23]) (by kernel_rfl) (by simp) (AllT.cons rfl (fun K hK => ?_) AllT.nil); go_simp); (refine hK.out _ _ (fun h => absurd h (by decide)) ?_; clear hK K; try simp only [Act.put, List.setIfInBounds_toArray, List.set_cons_zero, List.set_cons_succ, List.getElem_toArray, List.getElem_cons_succ, List.getElem_cons_zero]); refine WalkT.done (by kernel_rfl) ?_; have hp1 := SW4.put Swap.cells_len k 0 hkl (by omega) ⟨rA, l[k].by_, l[k].price⟩ (.int .i64 rA) rfl (fun j hj => by rcases j with _ | _ | _ | _ | j <;> first | omega | rfl); have hkl2 : k < (l.set k ⟨rA, l[k].by_, l[k].price⟩).length := (by simpa using hkl); have hp2 := hp1.put Swap.cells_len k 3 hkl2 (by omega) ⟨rA, l[k].by_, rB⟩ (.int .i64 rB) rfl (fun j hj => by simp only [List.getElem_set_self]; rcases j with _ | _ | _ | _ | j <;> first | omega | rfl); have hcl : ((l.set k ⟨rA, l[k].by_, l[k].price⟩).set k ⟨rA, l[k].by_, rB⟩).length = l.length := (by simp); have HY := Lib.hid (show SwSt w s (M + 3 + 1) (.slice (some ⟨g, 0, none⟩) l.length cap) _ _ from ⟨hp2.st, hp2.gr, hp2.row.arr hcl hcap hmax, slice_low (Nat.lt_of_lt_of_le hp2.l1 hp2.l2)⟩); clear hp1 hp2 SW4 t0 t3 u0 u3; go_wp2_with fail; (refine (flip_any s (M + 3 + 1) _ _ HY.out.st (by omega) (by omega) (by omega)).mono ?_; rintro e wz ⟨v, rfl, ⟨fb2, rfl⟩, hsz2, hgz2⟩; have HZ := Lib.hid (HY.out.step hsz2 hgz2); clear hsz2 hgz2; cases fb2; exact (by (go_wp2; go_ret; exact ⟨_, rfl, ⟨_, HZ.out.arr, HZ.out.low⟩, HZ.out.st.mono (by omega), HZ.out.gr⟩)); (have hA1 : Arr Swap.cells 4 (wz.alloc (.cells #[.int .i64 0, .int .i64 2, .int .i64 0, .int .i64 0] 113)) [(⟨0, ⟨2, 0⟩, 0⟩ : Swap)] (.slice (some ⟨wz.heap.size, 0, none⟩) 1 1) := Arr.litAt Swap.cells_len rfl (by rfl) (by rfl) (by simp [maxLen]); have hzs := HZ.out.st.lt; have HA1 := Lib.hid hA1; clear hA1; go_wp2_with fail; refine (pick_lit s (M + 3 + 1 + 1) [12, 13] _ (HZ.out.st.alloc _) (by omega) (by simp) (by simp) (by first | rfl | simp) (by rfl) (by rfl)).mono ?_; rintro e wq ⟨v, rfl, ⟨rc, rfl, hrc⟩, hsq, hgq⟩; have hrc2 : 1 ≤ rc ∧ rc ≤ 13 := (by simp at hrc; omega); obtain ⟨hrc3, hrc4⟩ := hrc2; obtain ⟨c, rfl⟩ := Int.eq_ofNat_of_zero_le (show 0 ≤ rc by omega); have HQ := Lib.hid (And.intro hsq (grown_trans HZ.out.gr (grown_trans (World.grownBy_alloc _ _ _) hgq))); have hA2 := Arr.grown HA1.out hgq (by omega); clear hrc hsq hgq; go_wp2_with fail; refine (repeat_any _ ⟨0, ⟨2, 0⟩, 0⟩ c _ (by exact hA2) (by omega) (by omega)).mono ?_; rintro e wx ⟨cap9, rfl, hrow9, hc9, hm9, hb9⟩; have hqs := HQ.out.1.lt; have HX := Lib.hid (And.intro hrow9 (And.intro (HQ.out.1.below hb9 (Nat.le_refl _)) (grown_trans HQ.out.2 (grown_below (some s) hb9)))); clear hrow9 hb9; go_wp2; go_ret; exact ⟨_, rfl, ⟨_, HX.out.1.arr (by simp) hc9 hm9, slice_low (by omega)⟩, HX.out.2.1.mono (by omega), HX.out.2.2⟩)))
            refine AllT.cons rfl (fun K hK => ?_) AllT.nil
            · go_simp
              refine genLit (C := fun W' => K _ W') s 3 [l[k].price, -1, 1000000001] (by rfl) (by rfl) (by simp) ?_
              intro W2 gW2 tW2 AW2
              have SW2 := SW1.step (tW2 _ SW1.st) gW2
              have q2 : s < W1.heap.size := SW1.st.lt
              have AW1' := Arr.grown AW1 gW2 (by omega)
              refine hK.out _ _ (fun _ _ => sw_cells SW2 k hkl) ?_; clear hK K; try simp only [Act.put, List.setIfInBounds_toArray, List.set_cons_zero, List.set_cons_succ, List.getElem_toArray, List.getElem_cons_succ, List.getElem_cons_zero]
              refine WalkT.ready (rs := [10]) (by kernel_rfl) (by simp) (AllT.cons rfl (fun K hK => ?_) AllT.nil); go_simp
              refine (pick_any s (M + 2) _ [l[k].at_, -1, (p.length : Int)] _ SW2.st (by omega) AW1' (by simp) (by simp) (slice_ne q1)).mono ?_
              rintro e W3 ⟨v, rfl, ⟨rA, rfl, -⟩, tW3, gW3⟩
              have SW3 := SW2.step tW3 gW3
              have AW2' := Arr.grown AW2 gW3 (by omega)
              refine hK.out _ _ (fun _ _ => sw_cells SW3 k hkl) ?_; clear hK K; try simp only [Act.put, List.setIfInBounds_toArray, List.set_cons_zero, List.set_cons_succ, List.getElem_toArray, List.getElem_cons_succ, List.getElem_cons_zero]
              refine WalkT.ready (rs := [17]) (by kernel_rfl) (by simp) (AllT.cons rfl (fun K hK => ?_) AllT.nil); go_simp
              refine (pick_any s (M + 3) _ [l[k].price, -1, 1000000001] _ SW3.st (by omega) AW2' (by simp) (by simp) (slice_ne q2)).mono ?_
              rintro e W4 ⟨v, rfl, ⟨rB, rfl, -⟩, tW4, gW4⟩
              have SW4 := SW3.step tW4 gW4
              refine hK.out _ _ (fun _ _ => sw_cells SW4 k hkl) ?_; clear hK K; try simp only [Act.put, List.setIfInBounds_toArray, List.set_cons_zero, List.set_cons_succ, List.getElem_toArray, List.getElem_cons_succ, List.getElem_cons_zero]
              clear SW0 SW1 SW2 SW3 gW1 tW1 AW1 gW2 tW2 AW2 AW1' AW2' gW3 tW3 gW4 tW4
              (obtain ⟨t0, t3⟩ := sw_cells SW4 k hkl; have u0 := SW4.row.2.1 (k * 4); have u3 := SW4.row.2.1 (k * 4 + 3); (refine WalkT.quiet (i := 18) (v := ?_) rfl (by kernel_rfl) (by kernel_rfl) (by kernel_rfl) (fun _ _ _ h => h) (Or.inl ⟨by rfl, ?_⟩) ?_; rotate_left; (· (intro wS hSw; (try dsimp only at hSw); go_simp; try with_reducible rfl)); try simp only [Act.put, List.setIfInBounds_toArray, List.set_cons_zero, List.set_cons_succ, List.getElem_toArray, List.getElem_cons_succ, List.getElem_cons_zero]); (refine WalkT.quiet (i := 19) (v := ?_) rfl (by kernel_rfl) (by kernel_rfl) (by kernel_rfl) (fun _ _ _ h => h) (Or.inl ⟨by rfl, ?_⟩) ?_; rotate_left; (· (intro wS hSw; (try dsimp only at hSw); go_simp; try with_reducible rfl)); try simp only [Act.put, List.setIfInBounds_toArray, List.set_cons_zero, List.set_cons_succ, List.getElem_toArray, List.getElem_cons_succ, List.getElem_cons_zero]); (refine WalkT.ready (rs := [20]) (by kernel_rfl) (by simp) (AllT.cons rfl (fun K hK => ?_) AllT.nil); go_simp); (refine hK.out _ _ (fun h => absurd h (by decide)) ?_; clear hK K; try simp only [Act.put, List.setIfInBounds_toArray, List.set_cons_zero, List.set_cons_succ, List.getElem_toArray, List.getElem_cons_succ, List.getElem_cons_zero]); (refine WalkT.quiet (i := 21) (v := ?_) rfl (by kernel_rfl) (by kernel_rfl) (by kernel_rfl) (fun _ _ _ h => h) (Or.inl ⟨by rfl, ?_⟩) ?_; rotate_left; (· (intro wS hSw; (try dsimp only at hSw); go_simp; try with_reducible rfl)); try simp only [Act.put, List.setIfInBounds_toArray, List.set_cons_zero, List.set_cons_succ, List.getElem_toArray, List.getElem_cons_succ, List.getElem_cons_zero]); (refine WalkT.quiet (i := 22) (v := ?_) rfl (by kernel_rfl) (by kernel_rfl) (by kernel_rfl) (fun _ _ _ h => h) (Or.inl ⟨by rfl, ?_⟩) ?_; rotate_left; (· (intro wS hSw; (try dsimp only at hSw); go_simp; try with_reducible rfl)); try simp only [Act.put, List.setIfInBounds_toArray, List.set_cons_zero, List.set_cons_succ, List.getElem_toArray, List.getElem_cons_succ, List.getElem_cons_zero]); (refine WalkT.ready (rs := [23]) (by kernel_rfl) (by simp) (AllT.cons rfl (fun K hK => ?_) AllT.nil); go_simp); (refine hK.out _ _ (fun h => absurd h (by decide)) ?_; clear hK K; try simp only [Act.put, List.setIfInBounds_toArray, List.set_cons_zero, List.set_cons_succ, List.getElem_toArray, List.getElem_cons_succ, List.getElem_cons_zero]); refine WalkT.done (by kernel_rfl) ?_; have hp1 := SW4.put Swap.cells_len k 0 hkl (by omega) ⟨rA, l[k].by_, l[k].price⟩ (.int .i64 rA) rfl (fun j hj => by rcases j with _ | _ | _ | _ | j <;> first | omega | rfl); have hkl2 : k < (l.set k ⟨rA, l[k].by_, l[k].price⟩).length := (by simpa using hkl); have hp2 := hp1.put Swap.cells_len k 3 hkl2 (by omega) ⟨rA, l[k].by_, rB⟩ (.int .i64 rB) rfl (fun j hj => by simp only [List.getElem_set_self]; rcases j with _ | _ | _ | _ | j <;> first | omega | rfl); have hcl : ((l.set k ⟨rA, l[k].by_, l[k].price⟩).set k ⟨rA, l[k].by_, rB⟩).length = l.length := (by simp); have HY := Lib.hid (show SwSt w s (M + 3 + 1) (.slice (some ⟨g, 0, none⟩) l.length cap) _ _ from ⟨hp2.st, hp2.gr, hp2.row.arr hcl hcap hmax, slice_low (Nat.lt_of_lt_of_le hp2.l1 hp2.l2)⟩); clear hp1 hp2 SW4 t0 t3 u0 u3; go_wp2_with fail; (refine (flip_any s (M + 3 + 1) _ _ HY.out.st (by omega) (by omega) (by omega)).mono ?_; rintro e wz ⟨v, rfl, ⟨fb2, rfl⟩, hsz2, hgz2⟩; have HZ := Lib.hid (HY.out.step hsz2 hgz2); clear hsz2 hgz2; cases fb2; exact (by (go_wp2; go_ret; exact ⟨_, rfl, ⟨_, HZ.out.arr, HZ.out.low⟩, HZ.out.st.mono (by omega), HZ.out.gr⟩)); (have hA1 : Arr Swap.cells 4 (wz.alloc (.cells #[.int .i64 0, .int .i64 2, .int .i64 0, .int .i64 0] 113)) [(⟨0, ⟨2, 0⟩, 0⟩ : Swap)] (.slice (some ⟨wz.heap.size, 0, none⟩) 1 1) := Arr.litAt Swap.cells_len rfl (by rfl) (by rfl) (by simp [maxLen]); have hzs := HZ.out.st.lt; have HA1 := Lib.hid hA1; clear hA1; go_wp2_with fail; refine (pick_lit s (M + 3 + 1 + 1) [12, 13] _ (HZ.out.st.alloc _) (by omega) (by simp) (by simp) (by first | rfl | simp) (by rfl) (by rfl)).mono ?_; rintro e wq ⟨v, rfl, ⟨rc, rfl, hrc⟩, hsq, hgq⟩; have hrc2 : 1 ≤ rc ∧ rc ≤ 13 := (by simp at hrc; omega); obtain ⟨hrc3, hrc4⟩ := hrc2; obtain ⟨c, rfl⟩ := Int.eq_ofNat_of_zero_le (show 0 ≤ rc by omega); have HQ := Lib.hid (And.intro hsq (grown_trans HZ.out.gr (grown_trans (World.grownBy_alloc _ _ _) hgq))); have hA2 := Arr.grown HA1.out hgq (by omega); clear hrc hsq hgq; go_wp2_with fail; refine (repeat_any _ ⟨0, ⟨2, 0⟩, 0⟩ c _ (by exact hA2) (by omega) (by omega)).mono ?_; rintro e wx ⟨cap9, rfl, hrow9, hc9, hm9, hb9⟩; have hqs := HQ.out.1.lt; have HX := Lib.hid (And.intro hrow9 (And.intro (HQ.out.1.below hb9 (Nat.le_refl _)) (grown_trans HQ.out.2 (grown_below (some s) hb9)))); clear hrow9 hb9; go_wp2; go_ret; exact ⟨_, rfl, ⟨_, HX.out.1.arr (by simp) hc9 hm9, slice_low (by omega)⟩, HX.out.2.1.mono (by omega), HX.out.2.2⟩)))
          refine AllT.cons rfl (fun K hK => ?_) AllT.nil
          · go_simp
            refine genLit (C := fun W' => K _ W') s 3 [l[k].price, -1, 1000000001] (by rfl) (by rfl) (by simp) ?_
            intro W1 gW1 tW1 AW1
            have SW1 := SW0.step (tW1 _ SW0.st) gW1
            have q1 : s < W0.heap.size := SW0.st.lt
            have hw1 := gW1.size
            refine hK.out _ _ (fun _ _ => sw_cells SW1 k hkl) ?_; clear hK K; try simp only [Act.put, List.setIfInBounds_toArray, List.set_cons_zero, List.set_cons_succ, List.getElem_toArray, List.getElem_cons_succ, List.getElem_cons_zero]
            refine WalkT.ready (rs := [9]) (by kernel_rfl) (by simp) (AllT.cons rfl (fun K hK => ?_) AllT.nil); go_simp
            refine genLit (C := fun W' => K _ W') s 3 [l[k].at_, -1, (p.length : Int)] (by rfl) (by rfl) (by simp) ?_
            intro W2 gW2 tW2 AW2
            have SW2 := SW1.step (tW2 _ SW1.st) gW2
            have q2 : s < W1.heap.size := SW1.st.lt
            have AW1' := Arr.grown AW1 gW2 (by omega)
            refine hK.out _ _ (fun _ _ => sw_cells SW2 k hkl) ?_; clear hK K; try simp only [Act.put, List.setIfInBounds_toArray, List.set_cons_zero, List.set_cons_succ, List.getElem_toArray, List.getElem_cons_succ, List.getElem_cons_zero]
            refine WalkT.ready (rs := [10]) (by kernel_rfl) (by simp) (AllT.cons rfl (fun K hK => ?_) AllT.nil); go_simp
            refine (pick_any s (M + 2) _ [l[k].at_, -1, (p.length : Int)] _ SW2.st (by omega) AW2 (by simp) (by simp) (slice_ne q2)).mono ?_
            rintro e W3 ⟨v, rfl, ⟨rA, rfl, -⟩, tW3, gW3⟩
            have SW3 := SW2.step tW3 gW3
            have AW1'' := Arr.grown AW1' gW3 (by omega)
            refine hK.out _ _ (fun _ _ => sw_cells SW3 k hkl) ?_; clear hK K; try simp only [Act.put, List.setIfInBounds_toArray, List.set_cons_zero, List.set_cons_succ, List.getElem_toArray, List.getElem_cons_succ, List.getElem_cons_zero]
            refine WalkT.ready (rs := [17]) (by kernel_rfl) (by simp) (AllT.cons rfl (fun K hK => ?_) AllT.nil); go_simp
            refine (pick_any s (M + 3) _ [l[k].price, -1, 1000000001] _ SW3.st (by omega) AW1'' (by simp) (by simp) (slice_ne q1)).mono ?_
            rintro e W4 ⟨v, rfl, ⟨rB, rfl, -⟩, tW4, gW4⟩
            have SW4 := SW3.step tW4 gW4
            refine hK.out _ _ (fun _ _ => sw_cells SW4 k hkl) ?_; clear hK K; try simp only [Act.put, List.setIfInBounds_toArray, List.set_cons_zero, List.set_cons_succ, List.getElem_toArray, List.getElem_cons_succ, List.getElem_cons_zero]
            clear SW0 SW1 SW2 SW3 gW1 tW1 AW1 gW2 tW2 AW2 AW1' AW1'' gW3 tW3 gW4 tW4
            (obtain ⟨t0, t3⟩ := sw_cells SW4 k hkl; have u0 := SW4.row.2.1 (k * 4); have u3 := SW4.row.2.1 (k * 4 + 3); (refine WalkT.quiet (i := 18) (v := ?_) rfl (by kernel_rfl) (by kernel_rfl) (by kernel_rfl) (fun _ _ _ h => h) (Or.inl ⟨by rfl, ?_⟩) ?_; rotate_left; (· (intro wS hSw; (try dsimp only at hSw); go_simp; try with_reducible rfl)); try simp only [Act.put, List.setIfInBounds_toArray, List.set_cons_zero, List.set_cons_succ, List.getElem_toArray, List.getElem_cons_succ, List.getElem_cons_zero]); (refine WalkT.quiet (i := 19) (v := ?_) rfl (by kernel_rfl) (by kernel_rfl) (by kernel_rfl) (fun _ _ _ h => h) (Or.inl ⟨by rfl, ?_⟩) ?_; rotate_left; (· (intro wS hSw; (try dsimp only at hSw); go_simp; try with_reducible rfl)); try simp only [Act.put, List.setIfInBounds_toArray, List.set_cons_zero, List.set_cons_succ, List.getElem_toArray, List.getElem_cons_succ, List.getElem_cons_zero]); (refine WalkT.ready (rs := [20]) (by kernel_rfl) (by simp) (AllT.cons rfl (fun K hK => ?_) AllT.nil); go_simp); (refine hK.out _ _ (fun h => absurd h (by decide)) ?_; clear hK K; try simp only [Act.put, List.setIfInBounds_toArray, List.set_cons_zero, List.set_cons_succ, List.getElem_toArray, List.getElem_cons_succ, List.getElem_cons_zero]); (refine WalkT.quiet (i := 21) (v := ?_) rfl (by kernel_rfl) (by kernel_rfl) (by kernel_rfl) (fun _ _ _ h => h) (Or.inl ⟨by rfl, ?_⟩) ?_; rotate_left; (· (intro wS hSw; (try dsimp only at hSw); go_simp; try with_reducible rfl)); try simp only [Act.put, List.setIfInBounds_toArray, List.set_cons_zero, List.set_cons_succ, List.getElem_toArray, List.getElem_cons_succ, List.getElem_cons_zero]); (refine WalkT.quiet (i := 22) (v := ?_) rfl (by kernel_rfl) (by kernel_rfl) (by kernel_rfl) (fun _ _ _ h => h) (Or.inl ⟨by rfl, ?_⟩) ?_; rotate_left; (· (intro wS hSw; (try dsimp only at hSw); go_simp; try with_reducible rfl)); try simp only [Act.put, List.setIfInBounds_toArray, List.set_cons_zero, List.set_cons_succ, List.getElem_toArray, List.getElem_cons_succ, List.getElem_cons_zero]); (refine WalkT.ready (rs := [23]) (by kernel_rfl) (by simp) (AllT.cons rfl (fun K hK => ?_) AllT.nil); go_simp); (refine hK.out _ _ (fun h => absurd h (by decide)) ?_; clear hK K; try simp only [Act.put, List.setIfInBounds_toArray, List.set_cons_zero, List.set_cons_succ, List.getElem_toArray, List.getElem_cons_succ, List.getElem_cons_zero]); refine WalkT.done (by kernel_rfl) ?_; have hp1 := SW4.put Swap.cells_len k 0 hkl (by omega) ⟨rA, l[k].by_, l[k].price⟩ (.int .i64 rA) rfl (fun j hj => by rcases j with _ | _ | _ | _ | j <;> first | omega | rfl); have hkl2 : k < (l.set k ⟨rA, l[k].by_, l[k].price⟩).length := (by simpa using hkl); have hp2 := hp1.put Swap.cells_len k 3 hkl2 (by omega) ⟨rA, l[k].by_, rB⟩ (.int .i64 rB) rfl (fun j hj => by simp only [List.getElem_set_self]; rcases j with _ | _ | _ | _ | j <;> first | omega | rfl); have hcl : ((l.set k ⟨rA, l[k].by_, l[k].price⟩).set k ⟨rA, l[k].by_, rB⟩).length = l.length := (by simp); have HY := Lib.hid (show SwSt w s (M + 3 + 1) (.slice (some ⟨g, 0, none⟩) l.length cap) _ _ from ⟨hp2.st, hp2.gr, hp2.row.arr hcl hcap hmax, slice_low (Nat.lt_of_lt_of_le hp2.l1 hp2.l2)⟩); clear hp1 hp2 SW4 t0 t3 u0 u3; go_wp2_with fail; (refine (flip_any s (M + 3 + 1) _ _ HY.out.st (by omega) (by omega) (by omega)).mono ?_; rintro e wz ⟨v, rfl, ⟨fb2, rfl⟩, hsz2, hgz2⟩; have HZ := Lib.hid (HY.out.step hsz2 hgz2); clear hsz2 hgz2; cases fb2; exact (by (go_wp2; go_ret; exact ⟨_, rfl, ⟨_, HZ.out.arr, HZ.out.low⟩, HZ.out.st.mono (by omega), HZ.out.gr⟩)); (have hA1 : Arr Swap.cells 4 (wz.alloc (.cells #[.int .i64 0, .int .i64 2, .int .i64 0, .int .i64 0] 113)) [(⟨0, ⟨2, 0⟩, 0⟩ : Swap)] (.slice (some ⟨wz.heap.size, 0, none⟩) 1 1) := Arr.litAt Swap.cells_len rfl (by rfl) (by rfl) (by simp [maxLen]); have hzs := HZ.out.st.lt; have HA1 := Lib.hid hA1; clear hA1; go_wp2_with fail; refine (pick_lit s (M + 3 + 1 + 1) [12, 13] _ (HZ.out.st.alloc _) (by omega) (by simp) (by simp) (by first | rfl | simp) (by rfl) (by rfl)).mono ?_; rintro e wq ⟨v, rfl, ⟨rc, rfl, hrc⟩, hsq, hgq⟩; have hrc2 : 1 ≤ rc ∧ rc ≤ 13 := (by simp at hrc; omega); obtain ⟨hrc3, hrc4⟩ := hrc2; obtain ⟨c, rfl⟩ := Int.eq_ofNat_of_zero_le (show 0 ≤ rc by omega); have HQ := Lib.hid (And.intro hsq (grown_trans HZ.out.gr (grown_trans (World.grownBy_alloc _ _ _) hgq))); have hA2 := Arr.grown HA1.out hgq (by omega); clear hrc hsq hgq; go_wp2_with fail; refine (repeat_any _ ⟨0, ⟨2, 0⟩, 0⟩ c _ (by exact hA2) (by omega) (by omega)).mono ?_; rintro e wx ⟨cap9, rfl, hrow9, hc9, hm9, hb9⟩; have hqs := HQ.out.1.lt; have HX := Lib.hid (And.intro hrow9 (And.intro (HQ.out.1.below hb9 (Nat.le_refl _)) (grown_trans HQ.out.2 (grown_below (some s) hb9)))); clear hrow9 hb9; go_wp2; go_ret; exact ⟨_, rfl, ⟨_, HX.out.1.arr (by simp) hc9 hm9, slice_low (by omega)⟩, HX.out.2.1.mono (by omega), HX.out.2.2⟩)))
      · have h0 : l.length = 0 := by omega
        have hz : (decide ((0:Int) < (l.length : Int))) = false := decide_eq_false (by omega)
        have hlo := hown.lt
        obtain ⟨a, cap, rfl, hcap, hmax, hc⟩ := hAr
        have HY := Lib.hid (show SwSt w s M (.slice a l.length cap) l wr from ⟨hs, hg, Arr.of_own Swap.cells_len hown, fun b off n cap e => Nat.lt_of_lt_of_le hl (hlo b (congrArg Value.ownBlock e)).1⟩)
        clear hown hg hc hlow hlo hs h0
        go_wp2_with fail
        (refine (flip_any s (M) _ _ HY.out.st (by omega) (by omega) (by omega)).mono ?_; rintro e wz ⟨v, rfl, ⟨fb2, rfl⟩, hsz2, hgz2⟩; have HZ := Lib.hid (HY.out.step hsz2 hgz2); clear hsz2 hgz2; cases fb2; exact (by (go_wp2; go_ret; exact ⟨_, rfl, ⟨_, HZ.out.arr, HZ.out.low⟩, HZ.out.st.mono (by omega), HZ.out.gr⟩)); (have hA1 : Arr Swap.cells 4 (wz.alloc (.cells #[.int .i64 0, .int .i64 2, .int .i64 0, .int .i64 0] 113)) [(⟨0, ⟨2, 0⟩, 0⟩ : Swap)] (.slice (some ⟨wz.heap.size, 0, none⟩) 1 1) := Arr.litAt Swap.cells_len rfl (by rfl) (by rfl) (by simp [maxLen]); have hzs := HZ.out.st.lt; have HA1 := Lib.hid hA1; clear hA1; go_wp2_with fail; refine (pick_lit s (M + 1) [12, 13] _ (HZ.out.st.alloc _) (by omega) (by simp) (by simp) (by first | rfl | simp) (by rfl) (by rfl)).mono ?_; rintro e wq ⟨v, rfl, ⟨rc, rfl, hrc⟩, hsq, hgq⟩; have hrc2 : 1 ≤ rc ∧ rc ≤ 13 := (by simp at hrc; omega); obtain ⟨hrc3, hrc4⟩ := hrc2; obtain ⟨c, rfl⟩ := Int.eq_ofNat_of_zero_le (show 0 ≤ rc by omega); have HQ := Lib.hid (And.intro hsq (grown_trans HZ.out.gr (grown_trans (World.grownBy_alloc _ _ _) hgq))); have hA2 := Arr.grown HA1.out hgq (by omega); clear hrc hsq hgq; go_wp2_with fail; refine (repeat_any _ ⟨0, ⟨2, 0⟩, 0⟩ c _ (by exact hA2) (by omega) (by omega)).mono ?_; rintro e wx ⟨cap9, rfl, hrow9, hc9, hm9, hb9⟩; have hqs := HQ.out.1.lt; have HX := Lib.hid (And.intro hrow9 (And.intro (HQ.out.1.below hb9 (Nat.le_refl _)) (grown_trans HQ.out.2 (grown_below (some s) hb9)))); clear hrow9 hb9; go_wp2; go_ret; exact ⟨_, rfl, ⟨_, HX.out.1.arr (by simp) hc9 hm9, slice_low (by omega)⟩, HX.out.2.1.mono (by omega), HX.out.2.2⟩))
end Go.Proofs.Ytagpcgnlbgndmaa
