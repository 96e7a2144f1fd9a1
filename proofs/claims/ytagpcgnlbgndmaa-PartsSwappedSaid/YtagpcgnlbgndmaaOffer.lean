/- Offers of splitters, plain: their error. Walks: tree.buyFault, the reference's OffersFault. -/
import Derived.Test.YtagpcgnlbgndmaaWalkB1
import Derived.Test.YtagpcgnlbgndmaaRefB3
set_option linter.unusedVariables false
set_option linter.unusedSimpArgs false
namespace Go.Proofs.Ytagpcgnlbgndmaa
open Go Go.RowKit

structure Offer where
  ways : Int
  price : Int
deriving DecidableEq, Inhabited
def Offer.cells (o : Offer) : List Value := [.int .i64 o.ways, .int .i64 o.price]
theorem Offer.cells_len (o : Offer) : o.cells.length = 2 := rfl
theorem offer_at {w : World} {b off : Nat} {p : Offer} (h : ∀ j u, p.cells[j]? = some u → w.cell? ⟨b, off + j, none⟩ = some u) :
    w.cell? ⟨b, off, none⟩ = some (.int .i64 p.ways) ∧ w.cell? ⟨b, off + 1, none⟩ = some (.int .i64 p.price) := ⟨h 0 _ rfl, h 1 _ rfl⟩
def offerFault (o : Offer) : Int := if waysB o.ways then (if outB o.price 1 1000000 then 1 else 0) else 1
def offersFault (l : List Offer) (n : Int) : Int := if 8 < l.length then 2 else if firstF (l.map offerFault) = 0 then (if outB n 0 2000 then 1 else 0) else firstF (l.map offerFault)

set_option maxHeartbeats 4000000 in
set_option maxRecDepth 100000 in
theorem buyFault_any (v : Value) (l : List Offer) (n : Int) (w : World) (h : Arr Offer.cells 2 w l v) : Calls Try.prog 100 #[v, .int .i64 n] w
    fun e w' => e = .returned (.int .i64 (offersFault l n)) ∧ Below w.heap.size w w' := by
  obtain ⟨a, cap, rfl, hcap, hmax, hc⟩ := h
  have hlen : l.length ≤ maxLen := by omega
  unfold maxLen at hlen hmax
  by_cases hbig : 8 < l.length
  · go_enter Try.func100, Try.ntmps100
    go_wp2
    go_ret
    exact ⟨ret_int (by simp [offersFault, hbig]), by (repeat (first | exact Below.refl _ _ | assumption | refine below_draws ?_ _ | refine Below.drew ?_ | refine below_alloc ?_ _ (by first | omega | (simp; done) | (simp; omega)) | refine Below.setCell ?_ (by first | omega | (simp; done) | (simp; omega)) _ | refine below_at ?_ (by assumption) (by first | omega | (simp; done) | (simp; omega))))⟩
  go_enter Try.func100, Try.ntmps100
  go_wp2
  go_loopw [12] (fun i wr => ∃ k : Nat, k ≤ l.length ∧ i = .int .i64 k ∧ firstF ((l.map offerFault).take k) = 0 ∧ Below w.heap.size w wr) (fun i _ => l.length - (intOf i).toNat)
  case atStart => exact ⟨0, by omega, rfl, rfl, Below.refl _ _⟩
  case round =>
    obtain ⟨k, hk, rfl, hz, hB⟩ := hrel
    have HZ := Lib.hid hz
    clear hz
    have hsz := hB.size
    by_cases hlt : k < l.length
    · obtain ⟨b, off, rfl, hb, hcc⟩ := hc k hlt
      obtain ⟨c0, c1⟩ := offer_at hcc
      replace c0 := (hB.cell (p := ⟨b, _, none⟩) hb).trans c0
      replace c1 := (hB.cell (p := ⟨b, _, none⟩) hb).trans c1
      clear hc hcc
      have hlt' : k < (l.map offerFault).length := by simpa using hlt
      cases h1 : waysB l[k].ways
      · have HV : Hid (offerFault l[k] = 1) := by unfold Hid offerFault; rw [h1]; rfl
        go_wp2_with (first | (go_at_call 83; refine (out_any _ _ _ _).mono ?_; rintro e w' ⟨rfl, rfl⟩) | (go_at_call 134; refine (ways_any _ _).mono ?_; rintro e w' ⟨rfl, rfl⟩))
        (go_ret; exact ⟨ret_int (by unfold offersFault; rw [if_neg hbig, firstF_hit _ k hlt' HZ.out (by simp [HV.out])]; simp [HV.out]), by (repeat (first | exact Below.refl _ _ | assumption | refine below_draws ?_ _ | refine Below.drew ?_ | refine below_alloc ?_ _ (by first | omega | (simp; done) | (simp; omega)) | refine Below.setCell ?_ (by first | omega | (simp; done) | (simp; omega)) _ | refine below_at ?_ (by assumption) (by first | omega | (simp; done) | (simp; omega))))⟩)
      · cases h2 : outB l[k].price 1 1000000
        · have HV : Hid (offerFault l[k] = 0) := by unfold Hid offerFault; rw [h1, h2]; rfl
          go_wp2_with (first | (go_at_call 83; refine (out_any _ _ _ _).mono ?_; rintro e w' ⟨rfl, rfl⟩) | (go_at_call 134; refine (ways_any _ _).mono ?_; rintro e w' ⟨rfl, rfl⟩))
          go_roundw
          case rel => exact ⟨k + 1, by omega, by go_num, by rw [firstF_take_succ _ k hlt' HZ.out]; simpa using HV.out, by (repeat (first | exact Below.refl _ _ | assumption | refine below_draws ?_ _ | refine Below.drew ?_ | refine below_alloc ?_ _ (by first | omega | (simp; done) | (simp; omega)) | refine Below.setCell ?_ (by first | omega | (simp; done) | (simp; omega)) _ | refine below_at ?_ (by assumption) (by first | omega | (simp; done) | (simp; omega))))⟩
          case measure => simp [intOf]; omega
        · have HV : Hid (offerFault l[k] = 1) := by unfold Hid offerFault; rw [h1, h2]; rfl
          go_wp2_with (first | (go_at_call 83; refine (out_any _ _ _ _).mono ?_; rintro e w' ⟨rfl, rfl⟩) | (go_at_call 134; refine (ways_any _ _).mono ?_; rintro e w' ⟨rfl, rfl⟩))
          (go_ret; exact ⟨ret_int (by unfold offersFault; rw [if_neg hbig, firstF_hit _ k hlt' HZ.out (by simp [HV.out])]; simp [HV.out]), by (repeat (first | exact Below.refl _ _ | assumption | refine below_draws ?_ _ | refine Below.drew ?_ | refine below_alloc ?_ _ (by first | omega | (simp; done) | (simp; omega)) | refine Below.setCell ?_ (by first | omega | (simp; done) | (simp; omega)) _ | refine below_at ?_ (by assumption) (by first | omega | (simp; done) | (simp; omega))))⟩)
    · have hfz : firstF (l.map offerFault) = 0 := by have := HZ.out; rwa [List.take_of_length_le (by simp; omega)] at this
      have HFZ := Lib.hid hfz
      clear hfz
      cases hn : outB n 0 2000
      all_goals
        go_wp2_with (first | (go_at_call 83; refine (out_any _ _ _ _).mono ?_; rintro e w' ⟨rfl, rfl⟩) | (go_at_call 134; refine (ways_any _ _).mono ?_; rintro e w' ⟨rfl, rfl⟩))
        go_ret
        exact ⟨ret_int (by unfold offersFault; rw [if_neg hbig, if_pos HFZ.out, hn]; rfl), by (repeat (first | exact Below.refl _ _ | assumption | refine below_draws ?_ _ | refine Below.drew ?_ | refine below_alloc ?_ _ (by first | omega | (simp; done) | (simp; omega)) | refine Below.setCell ?_ (by first | omega | (simp; done) | (simp; omega)) _ | refine below_at ?_ (by assumption) (by first | omega | (simp; done) | (simp; omega))))⟩

theorem offer_first (o : Offer) : firstF [spanF (dbl o.ways) 1 7, spanF o.price 1 1000000] = offerFault o := by
  have h := (dbl_le o.ways).2
  unfold offerFault spanF waysB
  by_cases h1 : 1 ≤ dbl o.ways
  · have : outB (dbl o.ways) 1 7 = false := outB_false.2 ⟨h1, h⟩
    rw [this]; cases outB o.price 1 1000000 <;> simp [firstF, h1]
  · have : outB (dbl o.ways) 1 7 = true := outB_true.2 (.inl (by omega))
    rw [this]; simp [firstF, h1]
set_option maxHeartbeats 4000000 in
set_option maxRecDepth 100000 in
theorem roffersFault_any (v : Value) (l : List Offer) (n : Int) (w : World) (h : Arr Offer.cells 2 w l v) : Calls Try.prog 39 #[v, .int .i64 n] w
    fun e w' => e = .returned (.int .i64 (offersFault l n)) ∧ Below w.heap.size w w' := by
  obtain ⟨a, cap, rfl, hcap, hmax, hc⟩ := h
  have hlen : l.length ≤ maxLen := by omega
  unfold maxLen at hlen hmax
  by_cases hbig : 8 < l.length
  · go_enter Try.func39, Try.ntmps39
    go_wp2
    go_ret
    exact ⟨ret_int (by simp [offersFault, hbig]), by (repeat (first | exact Below.refl _ _ | assumption | refine below_draws ?_ _ | refine Below.drew ?_ | refine below_alloc ?_ _ (by first | omega | (simp; done) | (simp; omega)) | refine Below.setCell ?_ (by first | omega | (simp; done) | (simp; omega)) _ | refine below_at ?_ (by assumption) (by first | omega | (simp; done) | (simp; omega))))⟩
  go_enter Try.func39, Try.ntmps39
  go_wp2
  go_loopw [13] (fun i wr => ∃ k : Nat, k ≤ l.length ∧ i = .int .i64 k ∧ firstF ((l.map offerFault).take k) = 0 ∧ Below w.heap.size w wr) (fun i _ => l.length - (intOf i).toNat)
  case atStart => exact ⟨0, by omega, rfl, rfl, Below.refl _ _⟩
  case round =>
    obtain ⟨k, hk, rfl, hz, hB⟩ := hrel
    have HZ := Lib.hid hz
    clear hz
    have hsz := hB.size
    by_cases hlt : k < l.length
    · obtain ⟨b, off, rfl, hb, hcc⟩ := hc k hlt
      obtain ⟨c0, c1⟩ := offer_at hcc
      replace c0 := (hB.cell (p := ⟨b, _, none⟩) hb).trans c0
      replace c1 := (hB.cell (p := ⟨b, _, none⟩) hb).trans c1
      clear hc hcc
      have hlt' : k < (l.map offerFault).length := by simpa using hlt
      have HS := Lib.hid (offer_first l[k])
      by_cases hx : offerFault l[k] = 0
      · have hx' : (firstF [spanF (dbl l[k].ways) 1 7, spanF l[k].price 1 1000000] != 0) = false := by rw [HS.out, hx]; rfl
        have HX := Lib.hid hx
        clear hx
        go_wp2
        go_region_held3 (fun w' => w'.cell? ⟨wr.heap.size, 0, none⟩ = some (.int .i64 l[k].ways) ∧ w'.cell? ⟨wr.heap.size, 1, none⟩ = some (.int .i64 l[k].price)) (go_keep)
          (first
            | (go_at_call 31; refine (span_any _ _ _ _).mono ?_; rintro e w' ⟨rfl, rfl⟩)
            | (go_at_call 102; refine (doublings_any _ _).mono ?_; rintro e w2 ⟨rfl, hb2⟩; have s2 : wr.heap.size + 1 ≤ w2.heap.size := (by have := hb2.size; (try simp at this); omega); have hd2 := bcellAt hb2 wr.heap.size (by first | omega | (simp; done) | (simp; omega)))
            | (go_at_call 19; refine (or_any _ [spanF (dbl l[k].ways) 1 7, spanF l[k].price 1 1000000] _ (by (try refine Arr.drew ?_); exact Arr.litAt (cells := intCells) (sz := 1) (fun _ => rfl) (by first | rfl | simp) (by rfl) (by rfl) (by simp [maxLen]))).mono ?_; rintro e w4 ⟨rfl, rfl⟩))
        go_wp2
        go_roundw
        case rel => exact ⟨k + 1, by omega, by go_num, by rw [firstF_take_succ _ k hlt' HZ.out]; simpa using HX.out, by (repeat (first | exact Below.refl _ _ | assumption | refine below_draws ?_ _ | refine Below.drew ?_ | refine below_alloc ?_ _ (by first | omega | (simp; done) | (simp; omega)) | refine Below.setCell ?_ (by first | omega | (simp; done) | (simp; omega)) _ | refine below_at ?_ (by assumption) (by first | omega | (simp; done) | (simp; omega))))⟩
        case measure => simp [intOf]; omega
      · have hx' : (firstF [spanF (dbl l[k].ways) 1 7, spanF l[k].price 1 1000000] != 0) = true := by rw [HS.out]; simpa using hx
        have HX := Lib.hid hx
        clear hx
        go_wp2
        go_region_held3 (fun w' => w'.cell? ⟨wr.heap.size, 0, none⟩ = some (.int .i64 l[k].ways) ∧ w'.cell? ⟨wr.heap.size, 1, none⟩ = some (.int .i64 l[k].price)) (go_keep)
          (first
            | (go_at_call 31; refine (span_any _ _ _ _).mono ?_; rintro e w' ⟨rfl, rfl⟩)
            | (go_at_call 102; refine (doublings_any _ _).mono ?_; rintro e w2 ⟨rfl, hb2⟩; have s2 : wr.heap.size + 1 ≤ w2.heap.size := (by have := hb2.size; (try simp at this); omega); have hd2 := bcellAt hb2 wr.heap.size (by first | omega | (simp; done) | (simp; omega)))
            | (go_at_call 19; refine (or_any _ [spanF (dbl l[k].ways) 1 7, spanF l[k].price 1 1000000] _ (by (try refine Arr.drew ?_); exact Arr.litAt (cells := intCells) (sz := 1) (fun _ => rfl) (by first | rfl | simp) (by rfl) (by rfl) (by simp [maxLen]))).mono ?_; rintro e w4 ⟨rfl, rfl⟩))
        go_wp2
        go_ret
        exact ⟨ret_int (by rw [HS.out]; unfold offersFault; rw [if_neg hbig, firstF_hit _ k hlt' HZ.out (by rw [List.getElem_map]; exact HX.out)]; simp [HX.out]), by (repeat (first | exact Below.refl _ _ | assumption | refine below_draws ?_ _ | refine Below.drew ?_ | refine below_alloc ?_ _ (by first | omega | (simp; done) | (simp; omega)) | refine Below.setCell ?_ (by first | omega | (simp; done) | (simp; omega)) _ | refine below_at ?_ (by assumption) (by first | omega | (simp; done) | (simp; omega))))⟩
    · have hfz : firstF (l.map offerFault) = 0 := by have := HZ.out; rwa [List.take_of_length_le (by simp; omega)] at this
      have HFZ := Lib.hid hfz
      clear hfz
      go_wp2_with (go_at_call 31; refine (span_any _ _ _ _).mono ?_; rintro e w' ⟨rfl, rfl⟩)
      go_ret
      exact ⟨ret_int (by unfold offersFault spanF; rw [if_neg hbig, if_pos HFZ.out]), by (repeat (first | exact Below.refl _ _ | assumption | refine below_draws ?_ _ | refine Below.drew ?_ | refine below_alloc ?_ _ (by first | omega | (simp; done) | (simp; omega)) | refine Below.setCell ?_ (by first | omega | (simp; done) | (simp; omega)) _ | refine below_at ?_ (by assumption) (by first | omega | (simp; done) | (simp; omega))))⟩
end Go.Proofs.Ytagpcgnlbgndmaa
