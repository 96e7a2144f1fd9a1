/- Texts of one subject in one: PlainO, PlainP, BuyR, BuyS, BuyP, BuyQ; what each shows stands at its head. No condition. -/
import Derived.Test.YtagpcgnlbgndmaaOffer
import Derived.Test.YtagpcgnlbgndmaaMem
import Derived.Test.YtagpcgnlbgndmaaOrders
import Derived.RegionTactic
import Derived.OpenShut
import Derived.Deep.CutRange
import Derived.Test.YtagpcgnlbgndmaaLibB
import Derived.StillTailTactics
/- Plain: the least price of splitters that cover m more customers. No program. -/
set_option linter.unusedVariables false
set_option linter.unusedSimpArgs false
namespace Go.Proofs.Ytagpcgnlbgndmaa

def Offer.d (o : Offer) : Nat := (o.ways - 1).toNat
def inf : Int := 1152921504606846976
/-- the least price; inf where none covers -/
def cost : List Offer → Nat → Int
  | [], m => if m = 0 then 0 else inf
  | o :: os, m => if h : m = 0 ∨ o.d = 0 then (if m = 0 then 0 else cost os m) else min (cost os m) (cost (o :: os) (m - o.d) + o.price)
termination_by os m => (os.length, m)
decreasing_by
  · exact Prod.Lex.left _ _ (by simp)
  · exact Prod.Lex.left _ _ (by simp)
  · exact Prod.Lex.right _ (by omega)
theorem cost_zero (os : List Offer) : cost os 0 = 0 := by
  cases os <;> simp [cost]
theorem cost_nil {m : Nat} (h : 0 < m) : cost [] m = inf := by rw [cost, if_neg (by omega)]
theorem cost_cons {o : Offer} {os : List Offer} {m : Nat} (h : 0 < m) (hd : 0 < o.d) : cost (o :: os) m = min (cost os m) (cost (o :: os) (m - o.d) + o.price) := by
  rw [cost, dif_neg (by omega)]
/-- none does better than by one offer more -/
theorem cost_le {os : List Offer} (hd : ∀ o ∈ os, 0 < o.d) (hp : ∀ o ∈ os, 0 ≤ o.price) : ∀ (m : Nat), 0 < m → ∀ o ∈ os, cost os m ≤ cost os (m - o.d) + o.price := by
  induction os with
  | nil => intro m _ o h; simp at h
  | cons a os ih =>
    intro m
    induction m using Nat.strongRecOn with
    | ind m ihm =>
      intro hm o ho
      have hda := hd a (by simp)
      rcases List.mem_cons.1 ho with rfl | ho'
      · rw [cost_cons hm hda]; exact Int.min_le_right _ _
      · have h1 := ih (fun o h => hd o (by simp [h])) (fun o h => hp o (by simp [h])) m hm o ho'
        rw [cost_cons hm hda]
        by_cases hz : m - o.d = 0
        · rw [hz, cost_zero]
          rw [hz, cost_zero] at h1
          exact Int.le_trans (Int.min_le_left _ _) h1
        · rw [cost_cons (m := m - o.d) (by omega) hda]
          rcases Int.le_total (cost os (m - o.d)) (cost (a :: os) (m - o.d - a.d) + a.price) with h | h
          · rw [Int.min_eq_left h]
            exact Int.le_trans (Int.min_le_left _ _) h1
          · rw [Int.min_eq_right h]
            have hdo := hd o ho
            by_cases hz2 : m - a.d = 0
            · have : m - o.d - a.d = 0 := by omega
              rw [this, cost_zero]
              have h2 := Int.min_le_right (cost os m) (cost (a :: os) (m - a.d) + a.price)
              rw [hz2, cost_zero] at h2
              rw [hz2, cost_zero]
              have h4 := hp o ho
              omega
            · have h3 := ihm (m - a.d) (by omega) (by omega) o ho
              rw [show m - a.d - o.d = m - o.d - a.d by omega] at h3
              have h2 := Int.min_le_right (cost os m) (cost (a :: os) (m - a.d) + a.price)
              omega
theorem cost_nonneg {os : List Offer} (hp : ∀ o ∈ os, 0 ≤ o.price) : ∀ m, 0 ≤ cost os m := by
  induction os with
  | nil => intro m; unfold cost inf; split <;> omega
  | cons a os ih =>
    intro m
    induction m using Nat.strongRecOn with
    | ind m ihm =>
      have h1 := ih (fun o h => hp o (by simp [h])) m
      have h2 := hp a (by simp)
      by_cases hm : m = 0
      · subst hm; rw [cost_zero]; omega
      · by_cases hd : a.d = 0
        · rw [cost, dif_pos (.inr hd), if_neg hm]; exact h1
        · have h3 := ihm (m - a.d) (by omega)
          rw [cost_cons (by omega) (by omega)]
          omega
/-- with an offer that has more than one way, a price is found -/
theorem cost_bound {a : Offer} {os : List Offer} (hd : 0 < a.d) (h0 : 0 ≤ a.price) (hp : a.price ≤ 1000000) : ∀ m : Nat, cost (a :: os) m ≤ 1000000 * m := by
  intro m
  induction m using Nat.strongRecOn with
  | ind m ihm =>
    by_cases hm : m = 0
    · subst hm; rw [cost_zero]; omega
    · have h3 := ihm (m - a.d) (by omega)
      rw [cost_cons (by omega) hd]
      have : ((m - a.d : Nat) : Int) ≤ (m : Int) - 1 := by omega
      omega
/-- it is attained by one of the offers -/
theorem cost_hit {os : List Offer} (hd : ∀ o ∈ os, 0 < o.d) (hp : ∀ o ∈ os, 0 ≤ o.price ∧ o.price ≤ 1000000) (hne : os ≠ []) : ∀ m : Nat, 0 < m → m ≤ 100000 → ∃ o ∈ os, cost os m = cost os (m - o.d) + o.price := by
  induction os with
  | nil => exact absurd rfl hne
  | cons a os ih =>
    intro m hm hM
    have hda := hd a (by simp)
    have hpa := hp a (by simp)
    have he := cost_cons (os := os) hm hda
    rcases Int.le_total (cost (a :: os) (m - a.d) + a.price) (cost os m) with h | h
    · exact ⟨a, by simp, by rw [he, Int.min_eq_right h]⟩
    · rw [Int.min_eq_left h] at he
      by_cases hos : os = []
      · subst hos
        have h1 := cost_bound (os := []) hda hpa.1 hpa.2 (m - a.d)
        rw [cost_nil hm] at h
        unfold inf at h
        omega
      · obtain ⟨o, ho, h2⟩ := ih (fun o h => hd o (by simp [h])) (fun o h => hp o (by simp [h])) hos m hm hM
        refine ⟨o, by simp [ho], ?_⟩
        have h3 := cost_le hd (fun o h => (hp o h).1) m hm o (by simp [ho])
        have h4 : cost (a :: os) (m - o.d) ≤ cost os (m - o.d) := by
          by_cases hz : m - o.d = 0
          · rw [hz, cost_zero, cost_zero]; omega
          · rw [cost_cons (by omega) hda]; exact Int.min_le_left _ _
        omega
/-- how many of the first offer are taken -/
def taken (o : Offer) (os : List Offer) (m : Nat) : Nat := if cost os m = cost (o :: os) m then 0 else if h : m = 0 ∨ o.d = 0 then 0 else taken o os (m - o.d) + 1
termination_by m
decreasing_by omega
theorem taken_spec (o : Offer) (os : List Offer) (hd : 0 < o.d) : ∀ m : Nat,
    cost os (m - taken o os m * o.d) + taken o os m * o.price = cost (o :: os) m ∧ ∀ j : Nat, j < taken o os m → cost os (m - j * o.d) + j * o.price ≠ cost (o :: os) m := by
  intro m
  induction m using Nat.strongRecOn with
  | ind m ihm =>
    by_cases he : cost os m = cost (o :: os) m
    · have h0 : taken o os m = 0 := by rw [taken, if_pos he]
      rw [h0]
      exact ⟨by simp [he], fun j hj => by omega⟩
    · have hm : 0 < m := by
        rcases Nat.eq_zero_or_pos m with h | h
        · subst h; rw [cost_zero, cost_zero] at he; exact absurd rfl he
        · exact h
      have h0 : taken o os m = taken o os (m - o.d) + 1 := by rw [taken, if_neg he, dif_neg (by omega)]
      have hc := cost_cons (os := os) hm hd
      have hc2 : cost (o :: os) m = cost (o :: os) (m - o.d) + o.price := by omega
      obtain ⟨h1, h2⟩ := ihm (m - o.d) (by omega)
      rw [h0]
      generalize taken o os (m - o.d) = n at *
      have e1 : ∀ k : Nat, m - (k + 1) * o.d = m - o.d - k * o.d := fun k => by rw [Nat.succ_mul]; omega
      have e2 : ∀ k : Nat, ((k + 1 : Nat) : Int) * o.price = k * o.price + o.price := fun k => by push_cast; rw [Int.add_mul, Int.one_mul]
      refine ⟨by rw [e1, e2]; omega, fun j hj => ?_⟩
      rcases j with _ | j
      · simp; exact he
      · rw [e1, e2]
        have := h2 j (by omega)
        omega
end Go.Proofs.Ytagpcgnlbgndmaa
/- Plain: what is bought; least prices the other way. No program. -/
set_option linter.unusedVariables false
set_option linter.unusedSimpArgs false
namespace Go.Proofs.Ytagpcgnlbgndmaa

/-- the least price; -1 where none covers -/
def rp (os : List Offer) (m : Nat) : Int := if m = 0 then 0 else if os = [] then -1 else cost os m
/-- one more offer is looked at; the best so far is a, -1 for none -/
def better (f : Nat → Int) (n : Nat) (a : Int) (o : Offer) : Int := if 0 ≤ f (n - o.d) ∧ (a < 0 ∨ f (n - o.d) + o.price < a) then f (n - o.d) + o.price else a
theorem better_spec (f : Nat → Int) (n : Nat) (hf : ∀ m, 0 ≤ f m) (l : List Offer) (hp : ∀ o ∈ l, 0 ≤ o.price) (a : Int) (ha : -1 ≤ a) :
    (l.foldl (better f n) a = a ∨ ∃ o ∈ l, l.foldl (better f n) a = f (n - o.d) + o.price) ∧ (∀ o ∈ l, l.foldl (better f n) a ≤ f (n - o.d) + o.price) ∧ (0 ≤ a → l.foldl (better f n) a ≤ a) ∧ (l ≠ [] ∨ 0 ≤ a → 0 ≤ l.foldl (better f n) a) := by
  induction l generalizing a with
  | nil => simp
  | cons x l ih =>
    have hx := hp x (by simp)
    have hfx := hf (n - x.d)
    have hb : better f n a x = if a < 0 ∨ f (n - x.d) + x.price < a then f (n - x.d) + x.price else a := by unfold better; simp [hfx]
    have hb0 : 0 ≤ better f n a x := by rw [hb]; split <;> omega
    have hb1 : better f n a x ≤ f (n - x.d) + x.price := by rw [hb]; split <;> omega
    have hb2 : 0 ≤ a → better f n a x ≤ a := fun h => by rw [hb]; split <;> omega
    obtain ⟨h1, h2, h3, h4⟩ := ih (fun o h => hp o (by simp [h])) (better f n a x) (by omega)
    rw [List.foldl_cons]
    refine ⟨?_, ?_, fun h => ?_, fun _ => h4 (.inr hb0)⟩
    · rcases h1 with h1 | ⟨o, ho, h1⟩
      · rw [h1, hb]
        split
        · exact .inr ⟨x, by simp, rfl⟩
        · exact .inl rfl
      · exact .inr ⟨o, by simp [ho], h1⟩
    · intro o ho
      rcases List.mem_cons.1 ho with rfl | ho
      · have := h3 hb0; omega
      · exact h2 o ho
    · have := h3 hb0; have := hb2 h; omega
/-- offers that can be bought -/
def BuyOk (os : List Offer) : Prop := ∀ o ∈ os, 0 < o.d ∧ 1 ≤ o.price ∧ o.price ≤ 1000000
theorem BuyOk.tail {o : Offer} {os : List Offer} (h : BuyOk (o :: os)) : BuyOk os := fun x hx => h x (by simp [hx])
theorem BuyOk.drop {os : List Offer} (h : BuyOk os) (k : Nat) : BuyOk (os.drop k) := fun x hx => h x (List.mem_of_mem_drop hx)
theorem rp_round {os : List Offer} (h : BuyOk os) {n : Nat} (hn : 0 < n) (hn2 : n ≤ 100000) : os.foldl (better (fun m => cost os m) n) (-1) = rp os n := by
  unfold rp
  rw [if_neg (by omega)]
  by_cases he : os = []
  · subst he; simp
  · rw [if_neg he]
    have hd := fun o ho => (h o ho).1
    have hp : ∀ o ∈ os, 0 ≤ o.price := fun o ho => by have := (h o ho).2.1; omega
    obtain ⟨h1, h2, _, h4⟩ := better_spec (fun m => cost os m) n (cost_nonneg hp) os hp (-1) (by omega)
    obtain ⟨o, ho, h5⟩ := cost_hit hd (fun o ho => ⟨hp o ho, (h o ho).2.2⟩) he n hn hn2
    have h6 := h2 o ho
    have h7 := h4 (.inl he)
    rcases h1 with h1 | ⟨o2, ho2, h1⟩
    · omega
    · have h8 := cost_le hd hp n hn o2 ho2
      omega
theorem rp_cost {os : List Offer} {m : Nat} (h : os ≠ []) : rp os m = cost os m := by
  unfold rp
  by_cases hm : m = 0
  · subst hm; rw [if_pos rfl, cost_zero]
  · rw [if_neg hm, if_neg h]
theorem cost_top {os : List Offer} (h : BuyOk os) (hne : os ≠ []) (m : Nat) : 0 ≤ cost os m ∧ cost os m ≤ 1000000 * m := by
  refine ⟨cost_nonneg (fun o ho => by have := (h o ho).2.1; omega) m, ?_⟩
  cases os with
  | nil => exact absurd rfl hne
  | cons a os =>
    have h1 := h a (by simp)
    exact cost_bound h1.1 (by omega) h1.2.2 m
theorem foldl_better {os : List Offer} (f : Nat → Int) (n : Nat) (a : Int) (k : Nat) (h : k < os.length) : (os.take (k + 1)).foldl (better f n) a = better f n ((os.take k).foldl (better f n) a) os[k] := by
  rw [List.take_succ_eq_append_getElem h, List.foldl_append]; rfl
theorem rp_nil (m : Nat) : rp [] m = if m = 0 then 0 else -1 := by unfold rp; simp
/-- what is bought of each offer -/
def counts : List Offer → Nat → List Int
  | [], _ => []
  | o :: os, m => (taken o os m : Int) :: counts os (m - taken o os m * o.d)
theorem counts_len (os : List Offer) : ∀ m, (counts os m).length = os.length := by
  induction os with
  | nil => intro m; rfl
  | cons o os ih => intro m; simp [counts, ih]
def boughtL (os : List Offer) (m : Nat) : List Int := if os = [] then [] else counts os m
def boughtS (os : List Offer) (m : Nat) : Int := if os = [] then 0 else cost os m
def boughtB (os : List Offer) (m : Nat) : Bool := decide (os ≠ [] ∨ m = 0)
theorem taken_le (o : Offer) (os : List Offer) (hd : 0 < o.d) : ∀ m : Nat, taken o os m ≤ m := by
  intro m
  induction m using Nat.strongRecOn with
  | ind m ihm =>
    rw [taken]
    split
    · omega
    · split
      · omega
      · have := ihm (m - o.d) (by omega); omega
theorem taken_stop {o : Offer} {os : List Offer} {m : Nat} (h : cost os m = cost (o :: os) m) : taken o os m = 0 := by rw [taken, if_pos h]
theorem taken_more {o : Offer} {os : List Offer} {m : Nat} (hd : 0 < o.d) (h : cost os m ≠ cost (o :: os) m) : 0 < m ∧ taken o os m = taken o os (m - o.d) + 1 := by
  have hm : 0 < m := by
    rcases Nat.eq_zero_or_pos m with h0 | h0
    · subst h0; rw [cost_zero, cost_zero] at h; exact absurd rfl h
    · exact h0
  exact ⟨hm, by rw [taken, if_neg h, dif_neg (by omega)]⟩
theorem ways_range {n : Int} (h : waysB n = true) : 2 ≤ n ∧ n ≤ 128 := by
  unfold waysB at h
  have := dbl_cases n (by simpa using h)
  omega
/-- the offers' error, plain -/
theorem buyOk_of {os : List Offer} {n : Int} (h : offersFault os n = 0) : os.length ≤ 8 ∧ BuyOk os ∧ (∀ o ∈ os, 2 ≤ o.ways ∧ o.ways ≤ 128) ∧ 0 ≤ n ∧ n ≤ 2000 := by
  unfold offersFault at h
  split at h
  · omega
  split at h
  · rename_i h1 h2
    have h3 : ∀ o ∈ os, offerFault o = 0 := fun o ho => (firstF_zero.1 h2) _ (List.mem_map_of_mem ho)
    have h4 : ∀ o ∈ os, (2 ≤ o.ways ∧ o.ways ≤ 128) ∧ 1 ≤ o.price ∧ o.price ≤ 1000000 := by
      intro o ho
      have := h3 o ho
      unfold offerFault at this
      split at this
      · rename_i hw
        split at this
        · omega
        · rename_i hp
          have hp' := outB_false.1 (by simpa using hp)
          exact ⟨ways_range hw, hp'⟩
      · omega
    have h5 : outB n 0 2000 = false := by
      cases hn : outB n 0 2000
      · rfl
      · rw [hn] at h; simp at h
    have h6 := outB_false.1 h5
    refine ⟨by omega, fun o ho => ?_, fun o ho => (h4 o ho).1, h6.1, h6.2⟩
    have := h4 o ho
    unfold Offer.d
    omega
  · rename_i h1 h2; exact absurd h h2
end Go.Proofs.Ytagpcgnlbgndmaa
/- Walk: the reference's prices. -/
set_option linter.unusedVariables false
set_option linter.unusedSimpArgs false
namespace Go.Proofs.Ytagpcgnlbgndmaa
open Go Go.RowKit

theorem infoIntB : (Try.prog.info? 3).map (fun i => (i.zero, i.size, i.bytes)) = some (some (.int .i64 0), 1, 8) := by kernel_rfl
theorem made_zeroB (c : Nat) : (madeCells (Value.int .i64 0).cells (c * 1)).toList = (List.replicate c (0 : Int)).map (Value.int .i64) := by
  rw [Nat.mul_one]
  apply List.ext_getElem
  · simp [madeCells]
  · intro i h1 h2
    simp [madeCells, Value.cells, Nat.mod_one]
theorem grown_belowB {a b : World} (h : a.grownBy b none) : Below a.heap.size a b := ⟨h.os, h.tape, h.output, h.size, fun k hk => h.block k hk (by simp)⟩
theorem row_int {w : World} {g : Nat} {L : List Int} (h : Row intCells 1 w g L) {k : Nat} (hk : k < L.length) : w.cell? ⟨g, k, none⟩ = some (.int .i64 L[k]) := by
  have := h.1 k hk 0 _ rfl
  simpa using this
theorem row_setI {w : World} {g : Nat} {L : List Int} (h : Row intCells 1 w g L) {k : Nat} (hk : k < L.length) (x : Int) : Row intCells 1 (w.setCell ⟨g, k, none⟩ (.int .i64 x)) g (L.set k x) := by
  have := Row.set (cells := intCells) (sz := 1) (fun _ => rfl) h k hk x
  rw [Nat.mul_one] at this
  exact this
/-- max 0 (n - ways + 1) -/
theorem less_d {o : Offer} (h : 2 ≤ o.ways) (n : Nat) : max 0 ((n : Int) - o.ways + 1) = ((n - o.d : Nat) : Int) := by
  unfold Offer.d; omega

set_option maxHeartbeats 4000000 in
set_option maxRecDepth 100000 in
theorem prices_any (v : Value) (os : List Offer) (m : Nat) (w : World) (h : Arr Offer.cells 2 w os v) (hm : m ≤ 2000) (hok : BuyOk os) (hw : ∀ o ∈ os, 2 ≤ o.ways ∧ o.ways ≤ 128) (hlen : os.length ≤ 8) : Calls Try.prog 103 #[v, .int .i64 m] w
    fun e w' => ∃ c, e = .returned (.slice (some ⟨w.heap.size, 0, none⟩) (m + 1) c) ∧ Row intCells 1 w' w.heap.size ((List.range (m + 1)).map (rp os)) ∧ m + 1 ≤ c ∧ c ≤ maxLen ∧ Below w.heap.size w w' := by
  obtain ⟨a, cap, rfl, hcap, hmax, hc⟩ := h
  unfold maxLen at hmax
  obtain ⟨i0, hi, hz0, hz1, hz2⟩ := info_parts infoIntB
  have HK := Lib.hid (And.intro hok hw)
  clear hok hw
  go_enter Try.func103, Try.ntmps103
  go_wp2_with ((at_make; refine wpList_make_full _ rfl _ _ _ rfl w.heap.size _ _ _ _ Try.underlying22 hi hz0 hz1 _ _ _ _ (m + 1) rfl rfl rfl rfl ?b1 ?b2 ?b3 ?_; (case b1 => rw [hz2]; omega); (case b2 => unfold maxLen; omega); (case b3 => omega); intro w3 hown hg3))
  have hz3 := hg3.size
  have hown2 : w3.ownsRow w.heap.size 3 1 (.slice (some ⟨w.heap.size, 0, none⟩) (m + 1) (m + 1)) (m + 1) ((List.replicate (m + 1) (0 : Int)).flatMap intCells) := by
    have : (List.replicate (m + 1) (0 : Int)).flatMap intCells = (List.replicate (m + 1) (0 : Int)).map (Value.int .i64) := flat_one _ _
    rw [this, ← made_zeroB]; exact hown
  have hrow := Row.of_own (cells := intCells) (sz := 1) (fun _ => rfl) hown2 (by simp)
  have hgl := hrow.2.2
  have H0 := Lib.hid (And.intro hrow (grown_belowB hg3))
  clear hown hown2 hrow hg3
  go_loopw [6] (fun i wr => ∃ (n : Nat) (L : List Int), 1 ≤ n ∧ n ≤ m + 1 ∧ i = .int .i64 n ∧ L.length = m + 1 ∧ Row intCells 1 wr w.heap.size L ∧ (∀ j, j < n → L.getD j 0 = rp os j) ∧ Below w.heap.size w wr) (fun i _ => m + 1 - (intOf i).toNat)
  case atStart =>
    refine ⟨1, _, by omega, by omega, rfl, by simp, H0.out.1, ?_, H0.out.2⟩
    intro j hj
    obtain rfl : j = 0 := by omega
    simp [rp]
  case round =>
    obtain ⟨n, L, hn1, hn, rfl, hL, hR, hV, hB⟩ := hrel
    have hsz := hB.size
    have hwl := hR.2.2
    have HR := Lib.hid (And.intro hR (And.intro hV hB))
    clear hR hV hB
    by_cases hlt : n ≤ m
    · have c0 := row_int HR.out.1 (k := n) (by omega)
      have f0 := HR.out.1.2.1 n
      go_wp2
      go_loopw [23] (fun i ws => ∃ (k : Nat) (M : List Int), k ≤ os.length ∧ i = .int .i64 k ∧ M.length = m + 1 ∧ Row intCells 1 ws w.heap.size M ∧ (∀ j, j < n → M.getD j 0 = rp os j) ∧ M.getD n 0 = (os.take k).foldl (better (cost os) n) (-1) ∧ Below w.heap.size w ws) (fun i _ => os.length - (intOf i).toNat)
      case atStart =>
        refine ⟨0, _, by omega, rfl, by simp [hL], row_setI HR.out.1 (by omega) (-1), ?_, ?_, by have := HR.out.2.2; (repeat (first | exact Below.refl _ _ | assumption | refine below_draws ?_ _ | refine Below.drew ?_ | refine below_alloc ?_ _ (by first | omega | (simp; done) | (simp; omega)) | refine Below.setCell ?_ (by first | omega | (simp; done) | (simp; omega)) _ | refine below_at ?_ (by assumption) (by first | omega | (simp; done) | (simp; omega))))⟩
        · intro j hj
          rw [List.getD_eq_getElem?_getD, List.getElem?_set_ne (by omega), ← List.getD_eq_getElem?_getD]
          exact HR.out.2.1 j hj
        · rw [List.getD_eq_getElem?_getD, List.getElem?_set_self (by omega)]; rfl
      case round =>
        obtain ⟨k, M, hk, rfl, hM, hR, hV, hA, hB⟩ := hrel
        have hsz2 := hB.size
        have hwl2 := hR.2.2
        have HM := Lib.hid (And.intro hR (And.intro hV (And.intro hA hB)))
        clear hR hV hA hB
        by_cases hkt : k < os.length
        · obtain ⟨b, off, rfl, hb, hcc⟩ := hc k hkt
          obtain ⟨d0, d1⟩ := offer_at hcc
          replace d0 := (HM.out.2.2.2.cell (p := ⟨b, _, none⟩) hb).trans d0
          replace d1 := (HM.out.2.2.2.cell (p := ⟨b, _, none⟩) hb).trans d1
          obtain ⟨hw1, hw2⟩ := HK.out.2 os[k] (List.getElem_mem _)
          obtain ⟨ho1, ho2, ho3⟩ := HK.out.1 os[k] (List.getElem_mem _)
          have hidx := less_d hw1 n
          have hne : os ≠ [] := by intro e; simp [e] at hkt
          have hv := HM.out.2.1 (n - os[k].d) (by omega)
          rw [rp_cost hne, List.getD_eq_getElem?_getD, List.getElem?_eq_getElem (by omega), Option.getD_some] at hv
          have hA := HM.out.2.2.1
          rw [List.getD_eq_getElem?_getD, List.getElem?_eq_getElem (by omega), Option.getD_some] at hA
          have hct := cost_top HK.out.1 hne (n - os[k].d)
          rw [← hv] at hct
          have e1 := row_int HM.out.1 (k := n - os[k].d) (by omega)
          have e2 := row_int HM.out.1 (k := n) (by omega)
          have g2 := HM.out.1.2.1 n
          have HF : Hid ((os.take (k + 1)).foldl (better (cost os) n) (-1) = if 0 ≤ M[n - os[k].d] ∧ (M[n] < 0 ∨ M[n - os[k].d] + os[k].price < M[n]) then M[n - os[k].d] + os[k].price else M[n]) := by
            unfold Hid; rw [foldl_better _ _ _ _ hkt, ← hA, hv]; rfl
          have HV := Lib.hid hv
          clear hv hA
          generalize hp : M[n - os[k].d] = p at *
          generalize ha : M[n] = a at *
          have HA := Lib.hid ha
          clear hp ha
          obtain ⟨hp0, hp1⟩ := hct
          have hp2 : p ≤ 2000000000 := by omega
          have hge : decide (0 ≤ p) = true := by simp [hp0]
          have hor : (1 ≤ (n : Int) - os[k].ways + 1 ∧ wr.cell? ⟨w.heap.size, ((n : Int) - os[k].ways + 1).toNat, none⟩ = some (.int .i64 p)) ∨ ((n : Int) - os[k].ways + 1 ≤ 0 ∧ wr.cell? ⟨w.heap.size, 0, none⟩ = some (.int .i64 p)) := by
            by_cases hx : os[k].ways ≤ n
            · refine .inl ⟨by omega, ?_⟩
              rw [show ((n : Int) - os[k].ways + 1).toNat = n - os[k].d by unfold Offer.d; omega]; exact e1
            · refine .inr ⟨by omega, ?_⟩
              rw [show 0 = n - os[k].d by unfold Offer.d; omega]; exact e1
          clear hcc e1
          have HC := Lib.hid hc
          clear hc
          rcases hor with ⟨hx, e1⟩ | ⟨hx, e1⟩
          · cases h0 : decide (a < 0)
            · cases h3 : decide (p + os[k].price < a)
              · (go_wp2; go_region; go_wp2; go_roundw; (case rel => exact ⟨k + 1, M, by omega, by go_num, hM, HM.out.1.below (B := wr.heap.size) (by (repeat (first | exact Below.refl _ _ | assumption | refine below_draws ?_ _ | refine Below.drew ?_ | refine below_alloc ?_ _ (by first | omega | (simp; done) | (simp; omega)) | refine Below.setCell ?_ (by first | omega | (simp; done) | (simp; omega)) _ | refine below_at ?_ (by assumption) (by first | omega | (simp; done) | (simp; omega))))) hwl2, HM.out.2.1, by rw [HF.out, if_neg (by intro hh; have := hh.2; simp at h0 h3; omega)]; rw [List.getD_eq_getElem?_getD, List.getElem?_eq_getElem (by omega), Option.getD_some]; exact HA.out, by have := HM.out.2.2.2; (repeat (first | exact Below.refl _ _ | assumption | refine below_draws ?_ _ | refine Below.drew ?_ | refine below_alloc ?_ _ (by first | omega | (simp; done) | (simp; omega)) | refine Below.setCell ?_ (by first | omega | (simp; done) | (simp; omega)) _ | refine below_at ?_ (by assumption) (by first | omega | (simp; done) | (simp; omega))))⟩); (case measure => simp [intOf]; omega))
              · (go_wp2; go_region; go_wp2; go_roundw; (case rel => exact ⟨k + 1, M.set n (p + os[k].price), by omega, by go_num, by simp [hM], (by refine (row_setI (k := n) HM.out.1 (by omega) _).below (B := wr.heap.size) ?_ hwl2; (repeat (first | exact Below.refl _ _ | assumption | refine below_draws ?_ _ | refine Below.drew ?_ | refine below_alloc ?_ _ (by first | omega | (simp; done) | (simp; omega)) | refine Below.setCell ?_ (by first | omega | (simp; done) | (simp; omega)) _ | refine below_at ?_ (by assumption) (by first | omega | (simp; done) | (simp; omega))))), (by intro j hj; rw [List.getD_eq_getElem?_getD, List.getElem?_set_ne (by omega), ← List.getD_eq_getElem?_getD]; exact HM.out.2.1 j hj), (by rw [HF.out, if_pos (by simp at h0; first | omega | (simp at h3; omega))]; rw [List.getD_eq_getElem?_getD, List.getElem?_set_self (by omega)]; rfl), by have := HM.out.2.2.2; (repeat (first | exact Below.refl _ _ | assumption | refine below_draws ?_ _ | refine Below.drew ?_ | refine below_alloc ?_ _ (by first | omega | (simp; done) | (simp; omega)) | refine Below.setCell ?_ (by first | omega | (simp; done) | (simp; omega)) _ | refine below_at ?_ (by assumption) (by first | omega | (simp; done) | (simp; omega))))⟩); (case measure => simp [intOf]; omega))
            · (go_wp2; go_region; go_wp2; go_roundw; (case rel => exact ⟨k + 1, M.set n (p + os[k].price), by omega, by go_num, by simp [hM], (by refine (row_setI (k := n) HM.out.1 (by omega) _).below (B := wr.heap.size) ?_ hwl2; (repeat (first | exact Below.refl _ _ | assumption | refine below_draws ?_ _ | refine Below.drew ?_ | refine below_alloc ?_ _ (by first | omega | (simp; done) | (simp; omega)) | refine Below.setCell ?_ (by first | omega | (simp; done) | (simp; omega)) _ | refine below_at ?_ (by assumption) (by first | omega | (simp; done) | (simp; omega))))), (by intro j hj; rw [List.getD_eq_getElem?_getD, List.getElem?_set_ne (by omega), ← List.getD_eq_getElem?_getD]; exact HM.out.2.1 j hj), (by rw [HF.out, if_pos (by simp at h0; first | omega | (simp at h3; omega))]; rw [List.getD_eq_getElem?_getD, List.getElem?_set_self (by omega)]; rfl), by have := HM.out.2.2.2; (repeat (first | exact Below.refl _ _ | assumption | refine below_draws ?_ _ | refine Below.drew ?_ | refine below_alloc ?_ _ (by first | omega | (simp; done) | (simp; omega)) | refine Below.setCell ?_ (by first | omega | (simp; done) | (simp; omega)) _ | refine below_at ?_ (by assumption) (by first | omega | (simp; done) | (simp; omega))))⟩); (case measure => simp [intOf]; omega))
          · cases h0 : decide (a < 0)
            · cases h3 : decide (p + os[k].price < a)
              · (go_wp2; go_region; go_wp2; go_roundw; (case rel => exact ⟨k + 1, M, by omega, by go_num, hM, HM.out.1.below (B := wr.heap.size) (by (repeat (first | exact Below.refl _ _ | assumption | refine below_draws ?_ _ | refine Below.drew ?_ | refine below_alloc ?_ _ (by first | omega | (simp; done) | (simp; omega)) | refine Below.setCell ?_ (by first | omega | (simp; done) | (simp; omega)) _ | refine below_at ?_ (by assumption) (by first | omega | (simp; done) | (simp; omega))))) hwl2, HM.out.2.1, by rw [HF.out, if_neg (by intro hh; have := hh.2; simp at h0 h3; omega)]; rw [List.getD_eq_getElem?_getD, List.getElem?_eq_getElem (by omega), Option.getD_some]; exact HA.out, by have := HM.out.2.2.2; (repeat (first | exact Below.refl _ _ | assumption | refine below_draws ?_ _ | refine Below.drew ?_ | refine below_alloc ?_ _ (by first | omega | (simp; done) | (simp; omega)) | refine Below.setCell ?_ (by first | omega | (simp; done) | (simp; omega)) _ | refine below_at ?_ (by assumption) (by first | omega | (simp; done) | (simp; omega))))⟩); (case measure => simp [intOf]; omega))
              · (go_wp2; go_region; go_wp2; go_roundw; (case rel => exact ⟨k + 1, M.set n (p + os[k].price), by omega, by go_num, by simp [hM], (by refine (row_setI (k := n) HM.out.1 (by omega) _).below (B := wr.heap.size) ?_ hwl2; (repeat (first | exact Below.refl _ _ | assumption | refine below_draws ?_ _ | refine Below.drew ?_ | refine below_alloc ?_ _ (by first | omega | (simp; done) | (simp; omega)) | refine Below.setCell ?_ (by first | omega | (simp; done) | (simp; omega)) _ | refine below_at ?_ (by assumption) (by first | omega | (simp; done) | (simp; omega))))), (by intro j hj; rw [List.getD_eq_getElem?_getD, List.getElem?_set_ne (by omega), ← List.getD_eq_getElem?_getD]; exact HM.out.2.1 j hj), (by rw [HF.out, if_pos (by simp at h0; first | omega | (simp at h3; omega))]; rw [List.getD_eq_getElem?_getD, List.getElem?_set_self (by omega)]; rfl), by have := HM.out.2.2.2; (repeat (first | exact Below.refl _ _ | assumption | refine below_draws ?_ _ | refine Below.drew ?_ | refine below_alloc ?_ _ (by first | omega | (simp; done) | (simp; omega)) | refine Below.setCell ?_ (by first | omega | (simp; done) | (simp; omega)) _ | refine below_at ?_ (by assumption) (by first | omega | (simp; done) | (simp; omega))))⟩); (case measure => simp [intOf]; omega))
            · (go_wp2; go_region; go_wp2; go_roundw; (case rel => exact ⟨k + 1, M.set n (p + os[k].price), by omega, by go_num, by simp [hM], (by refine (row_setI (k := n) HM.out.1 (by omega) _).below (B := wr.heap.size) ?_ hwl2; (repeat (first | exact Below.refl _ _ | assumption | refine below_draws ?_ _ | refine Below.drew ?_ | refine below_alloc ?_ _ (by first | omega | (simp; done) | (simp; omega)) | refine Below.setCell ?_ (by first | omega | (simp; done) | (simp; omega)) _ | refine below_at ?_ (by assumption) (by first | omega | (simp; done) | (simp; omega))))), (by intro j hj; rw [List.getD_eq_getElem?_getD, List.getElem?_set_ne (by omega), ← List.getD_eq_getElem?_getD]; exact HM.out.2.1 j hj), (by rw [HF.out, if_pos (by simp at h0; first | omega | (simp at h3; omega))]; rw [List.getD_eq_getElem?_getD, List.getElem?_set_self (by omega)]; rfl), by have := HM.out.2.2.2; (repeat (first | exact Below.refl _ _ | assumption | refine below_draws ?_ _ | refine Below.drew ?_ | refine below_alloc ?_ _ (by first | omega | (simp; done) | (simp; omega)) | refine Below.setCell ?_ (by first | omega | (simp; done) | (simp; omega)) _ | refine below_at ?_ (by assumption) (by first | omega | (simp; done) | (simp; omega))))⟩); (case measure => simp [intOf]; omega))
        · go_wp2
          go_roundw
          case rel =>
            refine ⟨n + 1, M, by omega, by omega, by go_num, hM, HM.out.1, ?_, HM.out.2.2.2⟩
            intro j hj
            rcases Nat.lt_or_ge j n with h | h
            · exact HM.out.2.1 j h
            · obtain rfl : j = n := by omega
              have h1 := HM.out.2.2.1
              rw [List.take_of_length_le (by omega)] at h1
              rw [h1]; exact rp_round HK.out.1 (by omega) (by omega)
          case measure => simp [intOf]; omega
    · go_wp2
      go_ret
      refine ⟨_, rfl, ?_, Nat.le_refl _, by unfold maxLen; omega, HR.out.2.2⟩
      have hLL : L = (List.range (m + 1)).map (rp os) := by
        apply List.ext_getElem
        · simp [hL]
        · intro j h1 h2
          have := HR.out.2.1 j (by omega)
          rw [List.getD_eq_getElem?_getD, List.getElem?_eq_getElem h1, Option.getD_some] at this
          simp [this]
      rw [← hLL]; exact HR.out.1
end Go.Proofs.Ytagpcgnlbgndmaa
/- Walk: the reference's Bought. -/
set_option linter.unusedVariables false
set_option linter.unusedSimpArgs false
namespace Go.Proofs.Ytagpcgnlbgndmaa
open Go Go.RowKit

theorem Arr.dropAt {α : Type} {cells : α → List Value} {sz : Nat} {w : World} {l : List α} {b off n cap : Nat} (h : Arr cells sz w l (.slice (some ⟨b, off, none⟩) n cap)) (k : Nat) (hk : k ≤ l.length) : Arr cells sz w (l.drop k) (.slice (some ⟨b, off + k * sz, none⟩) (n - k) (cap - k)) := by
  obtain ⟨a, c, he, h2, h3, h4⟩ := h
  simp only [Value.slice.injEq] at he
  obtain ⟨rfl, rfl, rfl⟩ := he
  refine ⟨_, _, by rw [List.length_drop], by rw [List.length_drop]; omega, by omega, fun j hj => ?_⟩
  rw [List.length_drop] at hj
  obtain ⟨b', off', ha, hb, hcc⟩ := h4 (k + j) (by omega)
  simp only [Option.some.injEq, Addr.mk.injEq, and_true] at ha
  obtain ⟨rfl, rfl⟩ := ha
  refine ⟨b, _, rfl, hb, fun i u hu => ?_⟩
  rw [List.getElem_drop] at hu
  have := hcc i u hu
  rw [Nat.add_mul] at this
  rw [show off + k * sz + j * sz + i = off + (k * sz + j * sz) + i by omega]
  exact this
theorem counts_drop (os : List Offer) (k : Nat) (hk : k < os.length) (m : Nat) : counts (os.drop k) m = (taken os[k] (os.drop (k + 1)) m : Int) :: counts (os.drop (k + 1)) (m - taken os[k] (os.drop (k + 1)) m * os[k].d) := by
  rw [List.drop_eq_getElem_cons hk]; rfl

theorem boughtL_eq (os : List Offer) (m : Nat) : boughtL os m = counts os m := by
  unfold boughtL
  split
  · rename_i h; rw [h]; rfl
  · rfl
theorem rp_get {os : List Offer} {m j : Nat} (hj : j ≤ m) : ((List.range (m + 1)).map (rp os))[j]'(by simp; omega) = rp os j := by rw [List.getElem_map, List.getElem_range]
/-- where the reference stops -/
theorem rp_stop {o : Offer} {os : List Offer} (h : BuyOk (o :: os)) {l : Nat} (hl : l ≤ 2000) (j : Nat) (hj : j ≤ taken o os l) :
    (j < taken o os l → rp os (l - j * o.d) < 0 ∨ (0 ≤ rp os (l - j * o.d) ∧ rp os (l - j * o.d) + j * o.price ≠ cost (o :: os) l)) ∧
    (j = taken o os l → 0 ≤ rp os (l - j * o.d) ∧ rp os (l - j * o.d) + j * o.price = cost (o :: os) l ∧ rp os (l - j * o.d) = cost os (l - j * o.d)) := by
  have ho := h o (by simp)
  obtain ⟨h1, h2⟩ := taken_spec o os ho.1 l
  have h3 := cost_top h (by simp) l
  have hjp := Int.mul_nonneg (show (0 : Int) ≤ j by omega) (show 0 ≤ o.price by omega)
  by_cases hn : os = []
  · subst hn
    constructor
    · intro hlt
      rw [rp_nil]
      split
      · rename_i hz
        have := h2 j hlt
        rw [hz, cost_zero] at this
        exact .inr ⟨by omega, by omega⟩
      · exact .inl (by omega)
    · intro he
      subst he
      by_cases hz : l - taken o [] l * o.d = 0
      · rw [hz] at h1 ⊢
        rw [cost_zero] at h1
        rw [rp_nil, if_pos rfl, cost_zero]
        exact ⟨by omega, h1, rfl⟩
      · rw [cost_nil (by omega)] at h1
        unfold inf at h1
        omega
  · rw [rp_cost hn]
    have h4 := cost_top h.tail hn (l - j * o.d)
    exact ⟨fun hlt => .inr ⟨h4.1, h2 j hlt⟩, fun he => by subst he; exact ⟨h4.1, h1, rfl⟩⟩

theorem rp_top {os : List Offer} (h : BuyOk os) (m : Nat) : rp os m ≤ 1000000 * m := by
  by_cases he : os = []
  · subst he; rw [rp_nil]; split <;> omega
  · rw [rp_cost he]; exact (cost_top h he m).2

def BoughtPost (os : List Offer) (m : Nat) (w : World) (e : Ending) (w' : World) : Prop :=
  ∃ v, e = .returned (.tuple #[v, .int .i64 (boughtS os m), .bool (boughtB os m)]) ∧ Arr intCells 1 w' (boughtL os m) v ∧ Below w.heap.size w w'

set_option maxHeartbeats 4000000 in
set_option maxRecDepth 100000 in
theorem bought_any (v : Value) (os : List Offer) (n : Int) (m : Nat) (w : World) (h : Arr Offer.cells 2 w os v) (h0 : 0 ≤ n) (hn : n ≤ 2000) (hnm : (m : Int) = max 0 (n - 1)) (hok : BuyOk os) (hw : ∀ o ∈ os, 2 ≤ o.ways ∧ o.ways ≤ 128) (hlen : os.length ≤ 8) : Calls Try.prog 40 #[v, .int .i64 n] w
    (BoughtPost os m w) := by
  have HA := Lib.hid h
  obtain ⟨a, cap, rfl, hcap, hmax, hc⟩ := h
  unfold maxLen at hmax
  have HC := Lib.hid hc
  have HK := Lib.hid (And.intro hok hw)
  clear hok hw hc
  obtain ⟨i0, hi, hz0, hz1, hz2⟩ := info_parts infoIntB
  have hm : m ≤ 2000 := by omega
  have hcase : n ≤ 0 ∧ m = 0 ∨ (1 ≤ n ∧ (n - 1 = (m : Int))) := by omega
  have HCA := Lib.hid hcase
  clear hcase hnm
  go_enter Try.func40, Try.ntmps40
  go_upto_region 1 with fail
  go_cut [7] from 17 to 19 (fun z wc => z = .int .i64 m ∧ w = wc)
  case first =>
    rcases HCA.out with ⟨hn1, rfl⟩ | ⟨hn1, hn2⟩
    · go_wp2
      go_meet
      exact ⟨congrArg (Value.int .i64) (by omega), rfl⟩
    · go_wp2
      all_goals go_meet
      all_goals exact ⟨congrArg (Value.int .i64) (by omega), rfl⟩
  case rest =>
  obtain ⟨rfl, rfl⟩ := hcut
  go_wp2_with fail
  refine (prices_any _ os m _ (by exact HA.out) hm HK.out.1 HK.out.2 hlen).mono ?_
  rintro e w1 ⟨c, rfl, hR1, hc1, hc2, hb1⟩
  have e1 := row_int hR1 (k := m) (by simp)
  rw [List.getElem_map, List.getElem_range] at e1
  have hsz1 := hb1.size
  by_cases hs : os ≠ [] ∨ m = 0
  · have hrp : rp os m = cost os m := by
      rcases hs with h | rfl
      · exact rp_cost h
      · rw [cost_zero]; rfl
    rw [hrp] at e1
    have hcb : 0 ≤ cost os m ∧ cost os m ≤ 1000000 * m := by
      rcases hs with h | rfl
      · exact cost_top HK.out.1 h m
      · rw [cost_zero]; omega
    have HS := Lib.hid hs
    have H1 := Lib.hid hb1
    clear hs hrp hR1 hb1
    clear hc1 hc2
    have hlit : ¬ cost os m < 0 := by omega
    generalize hall : cost os m = all at *
    have HAll := Lib.hid hall
    clear hall
    go_wp2_with fail
    go_loopw [7, 9, 10, 31] (fun lv ov rv i wr => ∃ (k l : Nat) (O : List Int) (R : Int), k ≤ os.length ∧ i = .int .i64 k ∧ lv = .int .i64 l ∧ rv = .int .i64 R ∧ l ≤ 2000 ∧ O.length = k ∧ R = cost (os.drop k) l ∧ counts os m = O ++ counts (os.drop k) l ∧ wr.ownsRow w1.heap.size 3 1 ov O.length (O.map (Value.int .i64)) ∧ w1.heap.size ≤ wr.heap.size ∧ Below w.heap.size w wr) (fun _ _ _ i _ => os.length - (intOf i).toNat)
    case atStart => exact ⟨0, m, [], all, by omega, rfl, rfl, rfl, hm, rfl, by simp [HAll.out], by simp, World.ownsRow_nil _ _ _ _, Nat.le_refl _, H1.out⟩
    case round =>
      obtain ⟨k, l, O, R, hk, rfl, rfl, rfl, hl, hO, hR, hcnt, hown, hbs, hB⟩ := hrel
      have hsz := hB.size
      have HR := Lib.hid (And.intro hR (And.intro hcnt (And.intro hown hB)))
      clear hR hcnt hown hB
      by_cases hlt : k < os.length
      · obtain ⟨b, off, rfl, hb, hcc⟩ := HC.out k hlt
        obtain ⟨d0, d1⟩ := offer_at hcc
        replace d0 := (HR.out.2.2.2.cell (p := ⟨b, _, none⟩) hb).trans d0
        replace d1 := (HR.out.2.2.2.cell (p := ⟨b, _, none⟩) hb).trans d1
        obtain ⟨hw1, hw2⟩ := HK.out.2 os[k] (List.getElem_mem _)
        obtain ⟨ho1, ho2, ho3⟩ := HK.out.1 os[k] (List.getElem_mem _)
        have htails : (cap = k + 1 ∧ Arr Offer.cells 2 w (os.drop (k + 1)) (.slice (some ⟨b, off, none⟩) (os.length - (k + 1)) 0)) ∨ (k + 1 < cap ∧ Arr Offer.cells 2 w (os.drop (k + 1)) (.slice (some ⟨b, off + (k + 1) * 2, none⟩) (os.length - (k + 1)) (cap - (k + 1)))) := by
          by_cases hz : cap = k + 1
          · refine .inl ⟨hz, _, 0, by rw [List.length_drop], by rw [List.length_drop]; omega, by simp [maxLen], fun j hj => ?_⟩
            rw [List.length_drop] at hj; omega
          · exact .inr ⟨by omega, HA.out.dropAt (k + 1) (by omega)⟩
        have hst := fun j => rp_stop (o := os[k]) (os := os.drop (k + 1)) (l := l) (by rw [← List.drop_eq_getElem_cons hlt]; exact HK.out.1.drop k) hl j
        have hcd := counts_drop os k hlt l
        have htl := taken_le os[k] (os.drop (k + 1)) ho1 l
        have hRR := HR.out.1
        rw [List.drop_eq_getElem_cons hlt] at hRR
        rw [← hRR] at hst
        have hct := cost_top (HK.out.1.drop k) (by intro e; have := congrArg List.length e; simp at this; omega) l
        rw [← HR.out.1] at hct
        obtain ⟨hR0, hR1⟩ := hct
        generalize ht : taken os[k] (os.drop (k + 1)) l = t at *
        have HX := Lib.hid (And.intro hst (And.intro hcd hRR))
        clear hst hcd hcc ht hRR
        rcases htails with ⟨hcz, htail⟩ | ⟨hcz, htail⟩
        all_goals (
          have HT := Lib.hid htail
          clear htail
          go_wp2_with fail
          refine (prices_any _ (os.drop (k + 1)) l _ (by exact HT.out.below (by have := HR.out.2.2.2; (repeat (first | exact Below.refl _ _ | assumption | refine below_draws ?_ _ | refine Below.drew ?_ | refine below_alloc ?_ _ (by first | omega | (simp; done) | (simp; omega)) | refine Below.setCell ?_ (by first | omega | (simp; done) | (simp; omega)) _ | refine below_at ?_ (by assumption) (by first | omega | (simp; done) | (simp; omega)))))) hl (HK.out.1.drop _) (fun o ho => HK.out.2 o (List.mem_of_mem_drop ho)) (by simp; omega)).mono ?_
          rintro e w2 ⟨c2, rfl, hR2, hc1', hc2', hb2⟩
          have hBx : Blk w2 wr.heap.size #[.int .i64 os[k].ways, .int .i64 os[k].price] 103 := (Blk.new wr _ _).below hb2 (by simp)
          have hz2' := hb2.size
          simp only [World.size_alloc] at hz2'
          have hown2 := own_below (HR.out.2.2.1.alloc (.cells #[.int .i64 os[k].ways, .int .i64 os[k].price] 103)) hb2
          have hB2 : Below w.heap.size w w2 := by have := HR.out.2.2.2; (repeat (first | exact Below.refl _ _ | assumption | refine below_draws ?_ _ | refine Below.drew ?_ | refine below_alloc ?_ _ (by first | omega | (simp; done) | (simp; omega)) | refine Below.setCell ?_ (by first | omega | (simp; done) | (simp; omega)) _ | refine below_at ?_ (by assumption) (by first | omega | (simp; done) | (simp; omega))))
          have x0 := hBx.cell 0 _ rfl
          have x1 := hBx.cell 1 _ rfl
          simp only [World.size_alloc] at hR2
          have H2 := Lib.hid (And.intro hR2 (And.intro hBx (And.intro hown2 hB2)))
          clear hR2 hb2 hBx hown2 hB2 d0 d1
          clear e1
          have hmx0 : (if 0 < l then (l : Int) else 0) = l := by split <;> omega
          go_wp2_with fail
          go_loop [14, 15] (fun nv mv => ∃ j : Nat, j ≤ t ∧ nv = .int .i64 j ∧ mv = .int .i64 ((l - j * os[k].d : Nat) : Int)) (fun nv _ => t - (intOf nv).toNat)
          case atStart => exact ⟨0, by omega, rfl, by simp⟩
          case round =>
            clear hmx0
            obtain ⟨j, hj, rfl, rfl⟩ := hrel
            have hs := HX.out.1 j hj
            have e2 := row_int H2.out.1 (k := l - j * os[k].d) (by simp; omega)
            rw [List.getElem_map, List.getElem_range] at e2
            have hql : l - j * os[k].d ≤ l := by omega
            have hPt := rp_top (HK.out.1.drop (k + 1)) (l - j * os[k].d)
            have hmx : (if 0 < ((l - j * os[k].d : Nat) : Int) - os[k].ways + 1 then ((l - j * os[k].d : Nat) : Int) - os[k].ways + 1 else 0) = ((l - (j + 1) * os[k].d : Nat) : Int) := by
              rw [Nat.succ_mul]
              have : os[k].d = (os[k].ways - 1).toNat := rfl
              split <;> omega
            have hjp : 0 ≤ (j : Int) * os[k].price ∧ (j : Int) * os[k].price ≤ 2000 * 1000000 := ⟨Int.mul_nonneg (by omega) (by omega), Int.mul_le_mul (by omega) (by omega) (by omega) (by omega)⟩
            obtain ⟨hjp1, hjp2⟩ := hjp
            have HQ : Hid (∃ q, l - j * os[k].d = q) := ⟨_, rfl⟩
            obtain ⟨q, hq⟩ := HQ.out
            rw [hq] at hs e2 hql hmx hPt ⊢
            have HQ2 := Lib.hid hq
            clear hq HQ
            generalize rp (os.drop (k + 1)) q = P at *
            rcases Nat.lt_or_ge j t with hjt | hjt
            · rcases hs.1 hjt with hneg | ⟨hge, hne⟩
              · have t1 : decide (0 ≤ P) = false := by simp; omega
                clear hs
                go_wp2
                go_round
                case rel => exact ⟨j + 1, by omega, by go_num, rfl⟩
                case measure => simp [intOf]; omega
              · have t1 : decide (0 ≤ P) = true := by simp; omega
                have t2 : (P + (j : Int) * os[k].price == R) = false := by rw [beq_eq_false_iff_ne]; exact hne
                clear hs
                go_wp2
                go_round
                case rel => exact ⟨j + 1, by omega, by go_num, rfl⟩
                case measure => simp [intOf]; omega
            · obtain rfl : j = t := by omega
              obtain ⟨hge, heq, hPc⟩ := hs.2 rfl
              have t1 : decide (0 ≤ P) = true := by simp; omega
              have t2 : (P + (j : Int) * os[k].price == R) = true := by simp [heq]
              have hD : (j : Int) * (os[k].ways - 1) = ((j * os[k].d : Nat) : Int) := by
                rw [show os[k].ways - 1 = (os[k].d : Int) by unfold Offer.d; omega]; push_cast; rfl
              have hDb : j * os[k].d ≤ 2000 * 127 := Nat.mul_le_mul (by omega) (by unfold Offer.d; omega)
              have v1 : IntKind.i64.wrap (os[k].ways - 1) = os[k].ways - 1 := IntWalk.i64_in _ (by omega)
              have v2 : IntKind.i64.wrap ((j : Int) * (os[k].ways - 1)) = ((j * os[k].d : Nat) : Int) := by rw [hD]; exact IntWalk.i64_in _ (by omega)
              have v3 : IntKind.i64.wrap ((l : Int) - ((j * os[k].d : Nat) : Int)) = (l : Int) - ((j * os[k].d : Nat) : Int) := IntWalk.i64_in _ (by omega)
              have v4 : IntKind.i64.wrap ((j : Int) * os[k].price) = (j : Int) * os[k].price := IntWalk.i64_in _ (by omega)
              have v5 : IntKind.i64.wrap (R - (j : Int) * os[k].price) = R - (j : Int) * os[k].price := IntWalk.i64_in _ (by omega)
              have HP := Lib.hid (And.intro heq hPc)
              clear hs hPc hmx hD
              have hOb : O.length ≤ 8 := by omega
              go_wp2_with ((at_builtin; go_must (refine wpList_append_own _ rfl _ _ 22 rfl _ 3 _ (.int .i64 0) 1 8 Try.underlying22 hi hz0 hz1 hz2 rfl (by decide) _ _ _ rfl (H2.out.2.2.1.alloc _) ⟨w2.heap.size, 0, none⟩ 1 1 [.int .i64 (j : Int)] rfl rfl (by exact news_at (by first | rfl | simp) (by rfl)) (by simp [Value.oneCell']) (by unfold maxLen; omega) (by omega) (by first | omega | (simp; done) | (simp; omega)) ?_)); intro v' w4 hown4 hg4 _)
              have hz4 := hg4.size
              simp at hz4
              have hBx4 := (H2.out.2.1.alloc (.cells #[.int .i64 (j : Int)] 3)).grown hg4 (by intro e; have := (HR.out.2.2.1.lt _ e.symm).2; omega)
              have y0 := hBx4.cell 0 _ rfl
              have y1 := hBx4.cell 1 _ rfl
              have hB4 : Below w.heap.size w w4 := below_grown (by have := H2.out.2.2.2; (repeat (first | exact Below.refl _ _ | assumption | refine below_draws ?_ _ | refine Below.drew ?_ | refine below_alloc ?_ _ (by first | omega | (simp; done) | (simp; omega)) | refine Below.setCell ?_ (by first | omega | (simp; done) | (simp; omega)) _ | refine below_at ?_ (by assumption) (by first | omega | (simp; done) | (simp; omega))))) (H2.out.2.2.1.alloc (.cells #[.int .i64 (j : Int)] 3)) hg4 (by omega) (by simp; omega)
              have H4 := Lib.hid (And.intro hown4 hB4)
              clear hown4 hg4 hBx4 hB4 x0 x1
              go_region
              all_goals go_wp2
              all_goals (
                first
                  | refine ⟨⟨k + 1, l - j * os[k].d, O ++ [(j : Int)], R - (j : Int) * os[k].price, by omega, by go_num, congrArg (Value.int .i64) (by omega), rfl, by omega, by simp [hO], ?_, ?_, ?_, by show w1.heap.size ≤ w4.heap.size; omega, below_draws H4.out.2 1⟩, by simp [intOf]; omega⟩
                  | refine ⟨⟨_, _, _, _, _, _, _, _, _, _, ⟨k + 1, by omega, by go_num, l - j * os[k].d, congrArg (Value.int .i64) (by omega), O ++ [(j : Int)], R - (j : Int) * os[k].price, rfl, by omega, by simp [hO], ?_, ?_, ?_, by omega, below_draws H4.out.2 1⟩, rfl, rfl, rfl, rfl, rfl, rfl, rfl, rfl, rfl, rfl⟩, by simp [intOf]; omega⟩
                · have := HP.out; rw [HQ2.out, ← this.2]; omega
                · rw [HR.out.2.1, HX.out.2.1]; simp
                · rw [List.length_append, List.map_append]; exact H4.out.1))
      · have HE := Lib.hid (show O = boughtL os m by have := HR.out.2.1; rw [List.drop_of_length_le (by omega)] at this; rw [boughtL_eq, this]; simp [counts])
        go_wp2
        go_ret3
        refine ⟨_, ?_, Arr.of_ints (by have := HR.out.2.2.1; rw [HE.out] at this; exact this), HR.out.2.2.2⟩
        have hb : boughtB os m = true := by unfold boughtB; simpa using HS.out
        have hs : boughtS os m = all := by
          unfold boughtS
          split
          · rename_i h
            rcases HS.out with h2 | h2
            · exact absurd h h2
            · have := HAll.out; rw [h2, cost_zero] at this; exact this
          · exact HAll.out
        rw [hb, hs]; exact rfl
  · have hos : os = [] := by rcases Classical.em (os = []) with h | h
                             · exact h
                             · exact absurd (.inl h) hs
    have hm0 : m ≠ 0 := fun h => hs (.inr h)
    have hrp : rp os m = -1 := by rw [hos, rp_nil, if_neg hm0]
    rw [hrp] at e1
    clear hs
    have HO := Lib.hid (And.intro hos hm0)
    clear hos hm0 hrp
    go_wp2_with fail
    go_ret3
    obtain ⟨rfl, hm0⟩ := HO.out
    exact ⟨_, by unfold boughtS boughtB; simp [hm0], Arr.nil _ _ _, by (repeat (first | exact Below.refl _ _ | assumption | refine below_draws ?_ _ | refine Below.drew ?_ | refine below_alloc ?_ _ (by first | omega | (simp; done) | (simp; omega)) | refine Below.setCell ?_ (by first | omega | (simp; done) | (simp; omega)) _ | refine below_at ?_ (by assumption) (by first | omega | (simp; done) | (simp; omega))))⟩
end Go.Proofs.Ytagpcgnlbgndmaa
/- The table of least prices in memory: a row of rows, one of which is being written. -/
set_option linter.unusedVariables false
set_option linter.unusedSimpArgs false
namespace Go.Proofs.Ytagpcgnlbgndmaa
open Go Go.RowKit

theorem int_one (l : List Int) : ∀ u ∈ l.flatMap intCells, u.oneCell' = true := by
  intro u hu
  obtain ⟨c, _, hc⟩ := List.mem_flatMap.1 hu
  simp [intCells] at hc
  rw [hc]; rfl
theorem intCells_len (n : Int) : (intCells n).length = 1 := rfl
set_option maxHeartbeats 1000000 in
set_option maxRecDepth 100000 in
theorem clone_int (v : Value) (l : List Int) (w : World) (h : Arr intCells 1 w l v) (hl : l.length ≤ 100000000) : Calls Try.prog 101 #[v] w
    (Ret (fun v' w' => Cloned intCells 1 3 w.heap.size l v' w') w) := by
  have h' := h
  obtain ⟨a, cap, rfl, hcap, hmax, hc⟩ := h
  obtain ⟨i0, hi, hz0, hz1, hz2⟩ := info_parts infoIntB
  have heq := fun (w : World) (a : Option Addr) (n c n' c' : Nat) => Lib.run_eql_slice_nil (P := Try.prog) w 22 3 a n c n' c' Try.underlying22
  cases a with
  | none =>
    have h0 : l = [] := by
      rcases Nat.eq_zero_or_pos l.length with h | h
      · exact List.length_eq_zero_iff.1 h
      · obtain ⟨_, _, e, _⟩ := hc 0 h; cases e
    subst h0
    go_enter Try.func101, Try.ntmps101
    go_wp2
    go_ret
    exact ⟨_, rfl, ⟨World.ownsRow_nil _ _ _ _, .inl ⟨rfl, rfl⟩⟩, by (repeat (first | exact Below.refl _ _ | assumption | refine below_draws ?_ _ | refine Below.drew ?_ | refine below_alloc ?_ _ (by first | omega | (simp; done) | (simp; omega)) | refine Below.setCell ?_ (by first | omega | (simp; done) | (simp; omega)) _ | refine below_at ?_ (by assumption) (by first | omega | (simp; done) | (simp; omega))))⟩
  | some ad =>
    have hnews := h'.news intCells_len
    have HN := Lib.hid hnews
    clear hnews hc h'
    have hsl : (l.flatMap intCells).length = l.length * 1 := flat_len intCells_len l
    have HSL := Lib.hid hsl
    clear hsl
    go_enter Try.func101, Try.ntmps101
    go_wp2_with (at_builtin; go_must (refine wpList_append_own _ rfl _ _ 22 rfl w.heap.size 3 _ _ 1 8 Try.underlying22 hi hz0 hz1 hz2 rfl (by decide) _ 0 [] rfl (World.ownsRow_lit w #[] 0 (Nat.le_refl _) (by simp [maxLen]) rfl) ad l.length cap (l.flatMap intCells) rfl HSL.out (fun j u hu => Lib.cell?_alloc_some _ (HN.out j u hu)) (int_one l) (by unfold maxLen; omega) (by omega) (by first | omega | (simp; done) | (simp; omega)) ?_); intro v' w1 hown1 hgrow hnil)
    go_ret
    refine ⟨_, rfl, ⟨?_, .inr ?_⟩, ?_⟩
    · have := hown1; rw [Nat.zero_add, List.nil_append] at this; exact this
    · exact own_form hown1 (fun e => by have := (hnil.1 e).1; cases this)
    · exact below_grown (by (repeat (first | exact Below.refl _ _ | assumption | refine below_draws ?_ _ | refine Below.drew ?_ | refine below_alloc ?_ _ (by first | omega | (simp; done) | (simp; omega)) | refine Below.setCell ?_ (by first | omega | (simp; done) | (simp; omega)) _ | refine below_at ?_ (by assumption) (by first | omega | (simp; done) | (simp; omega))))) (World.ownsRow_lit (e := 3) (size := 1) w #[] 0 (Nat.le_refl _) (by simp [maxLen]) rfl) hgrow (Nat.le_refl _) (by first | omega | (simp; done) | (simp; omega))

def vCells (v : Value) : List Value := [v]
theorem infoIntRow : (Try.prog.info? 22).map (fun i => (i.zero, i.size, i.bytes)) = some (some (.slice none 0 0), 1, 24) := by kernel_rfl
theorem made_rows (c : Nat) : (madeCells (Value.slice none 0 0).cells (c * 1)).toList = (List.replicate c (Value.slice none 0 0)).flatMap vCells := by
  rw [Nat.mul_one, show (List.replicate c (Value.slice none 0 0)).flatMap vCells = (List.replicate c (Value.slice none 0 0)).map id from flat_one id _, List.map_id]
  apply List.ext_getElem
  · simp [madeCells]
  · intro i h1 h2
    simp [madeCells, Value.cells, Nat.mod_one]
def costRow (os : List Offer) (m : Nat) : List Int := (List.range (m + 1)).map (cost os)
theorem costRow_len (os : List Offer) (m : Nat) : (costRow os m).length = m + 1 := by simp [costRow]
theorem costRow_get (os : List Offer) (m : Nat) {j : Nat} (h : j ≤ m) : (costRow os m)[j]'(by rw [costRow_len]; omega) = cost os j := by simp [costRow]
theorem row_val {w : World} {g : Nat} {V : List Value} (h : Row vCells 1 w g V) {k : Nat} {v : Value} (hk : V[k]? = some v) : w.cell? ⟨g, k, none⟩ = some v := by
  obtain ⟨hlt, e⟩ := List.getElem?_eq_some_iff.1 hk
  have := h.1 k hlt 0 v (by rw [e]; rfl)
  simpa using this

/-- a row of the table -/
def TRow (w0 : World) (g m : Nat) (V : List Value) (i b cap : Nat) (L : List Int) (W : World) : Prop :=
  V[i]? = some (.slice (some ⟨b, 0, none⟩) (m + 1) cap) ∧ m + 1 ≤ cap ∧ cap ≤ maxLen ∧ w0.heap.size ≤ b ∧ b ≠ g ∧ Row intCells 1 W b L ∧ L.length = m + 1
/-- the table, row k of which is written -/
structure PRow (w0 : World) (os : List Offer) (g m : Nat) (V : List Value) (k b cap : Nat) (L : List Int) (W : World) : Prop where
  bel : Below w0.heap.size w0 W
  gb : w0.heap.size ≤ g
  outer : Row vCells 1 W g V
  vlen : V.length = os.length + 1
  row : TRow w0 g m V k b cap L W
  rest : ∀ i, k < i → i ≤ os.length → ∃ b' cap', b' ≠ b ∧ TRow w0 g m V i b' cap' (costRow (os.drop i) m) W

theorem TRow.below {w0 : World} {g m : Nat} {V : List Value} {i b cap : Nat} {L : List Int} {W W' : World} (h : TRow w0 g m V i b cap L W) (hB : Below W.heap.size W W') : TRow w0 g m V i b cap L W' :=
  ⟨h.1, h.2.1, h.2.2.1, h.2.2.2.1, h.2.2.2.2.1, h.2.2.2.2.2.1.below hB h.2.2.2.2.2.1.2.2, h.2.2.2.2.2.2⟩
theorem TRow.other {w0 : World} {g m : Nat} {V : List Value} {i b cap : Nat} {L : List Int} {W : World} (h : TRow w0 g m V i b cap L W) {c : Nat} (hc : b ≠ c) (o : Nat) (x : Value) : TRow w0 g m V i b cap L (W.setCell ⟨c, o, none⟩ x) :=
  ⟨h.1, h.2.1, h.2.2.1, h.2.2.2.1, h.2.2.2.2.1, h.2.2.2.2.2.1.kept (Below.heap_setCell _ _ _ _ hc) (by simp [World.setCell]), h.2.2.2.2.2.2⟩
theorem TRow.outer {w0 : World} {g m : Nat} {V V' : List Value} {i b cap : Nat} {L : List Int} {W : World} (h : TRow w0 g m V i b cap L W) (hV : V'[i]? = V[i]?) : TRow w0 g m V' i b cap L W :=
  ⟨hV.trans h.1, h.2⟩
theorem PRow.below {w0 : World} {os : List Offer} {g m : Nat} {V : List Value} {k b cap : Nat} {L : List Int} {W W' : World} (h : PRow w0 os g m V k b cap L W) (hB : Below W.heap.size W W') : PRow w0 os g m V k b cap L W' :=
  ⟨below_at h.bel hB h.bel.size, h.gb, h.outer.below hB h.outer.2.2, h.vlen, h.row.below hB, fun i h1 h2 => by obtain ⟨b', c', h3, h4⟩ := h.rest i h1 h2; exact ⟨b', c', h3, h4.below hB⟩⟩
/-- an element of row k is written -/
theorem PRow.set {w0 : World} {os : List Offer} {g m : Nat} {V : List Value} {k b cap : Nat} {L : List Int} {W : World} (h : PRow w0 os g m V k b cap L W) {n : Nat} (hn : n ≤ m) (x : Int) : PRow w0 os g m V k b cap (L.set n x) (W.setCell ⟨b, n, none⟩ (.int .i64 x)) := by
  obtain ⟨h1, h2, h3, h4, h5, h6, h7⟩ := h.row
  refine ⟨Below.setCell h.bel (by simpa using h4) _, h.gb, h.outer.kept (Below.heap_setCell _ _ _ _ (Ne.symm h5)) (by simp [World.setCell]), h.vlen, ⟨h1, h2, h3, h4, h5, row_setI h6 (by omega) x, by simpa using h7⟩, fun i hi1 hi2 => ?_⟩
  obtain ⟨b', c', h8, h9⟩ := h.rest i hi1 hi2
  exact ⟨b', c', h8, h9.other h8 _ _⟩
/-- a new row is put ahead -/
theorem PRow.next {w0 : World} {os : List Offer} {g m : Nat} {V : List Value} {k b cap : Nat} {W W2 : World} (h : PRow w0 os g m V (k + 1) b cap (costRow (os.drop (k + 1)) m) W) (hk : k < os.length) {b2 cap2 : Nat} {L : List Int} (hB : Below W.heap.size W W2) (hb : W.heap.size ≤ b2) (hr : Row intCells 1 W2 b2 L) (hL : L.length = m + 1) (hc : m + 1 ≤ cap2) (hc2 : cap2 ≤ maxLen) :
    PRow w0 os g m (V.set k (.slice (some ⟨b2, 0, none⟩) (m + 1) cap2)) k b2 cap2 L (W2.setCell ⟨g, k, none⟩ (.slice (some ⟨b2, 0, none⟩) (m + 1) cap2)) := by
  have hg := h.outer.2.2
  have hgl := h.vlen
  have hw := h.bel.size
  have h2 := h.below hB
  have hb0 : b2 ≠ g := by omega
  have hset := Row.set (cells := vCells) (sz := 1) (fun _ => rfl) h2.outer k (by omega) (.slice (some ⟨b2, 0, none⟩) (m + 1) cap2)
  rw [Nat.mul_one] at hset
  refine ⟨Below.setCell h2.bel (by simpa using h.gb) _, h.gb, hset, by simpa using h.vlen, ⟨by rw [List.getElem?_set_self (by omega)], hc, hc2, by omega, hb0, hr.kept (Below.heap_setCell _ _ _ _ hb0) (by simp [World.setCell]), hL⟩, fun i h3 h4 => ?_⟩
  have hv : (V.set k (.slice (some ⟨b2, 0, none⟩) (m + 1) cap2))[i]? = V[i]? := List.getElem?_set_ne (by omega)
  by_cases hi : i = k + 1
  · subst hi
    have h5 := h.row.2.2.2.2.2.1.2.2
    exact ⟨b, cap, by omega, (h2.row.other (by have := h.row.2.2.2.2.1; exact this) _ _).outer hv⟩
  · obtain ⟨b', c', h5, h6⟩ := h.rest i (by omega) h4
    obtain ⟨b'', c'', h7, h8⟩ := h2.rest i (by omega) h4
    have h9 := h6.2.2.2.2.2.1.2.2
    refine ⟨b', c', by omega, ((h6.below hB).other h6.2.2.2.2.1 _ _).outer hv⟩
theorem PRow.get {w0 : World} {os : List Offer} {g m : Nat} {V : List Value} {b cap : Nat} {W : World} (h : PRow w0 os g m V 0 b cap (costRow (os.drop 0) m) W) (i : Nat) (hi : i ≤ os.length) : ∃ b' cap', TRow w0 g m V i b' cap' (costRow (os.drop i) m) W := by
  rcases i with _ | i
  · exact ⟨b, cap, h.row⟩
  · obtain ⟨b', c', _, h2⟩ := h.rest (i + 1) (by omega) hi
    exact ⟨b', c', h2⟩
theorem results_tmp4 {fn : Func} {t u v x : Tmp} (h : fn.results = #[.tmp t, .tmp u, .tmp v, .tmp x]) (tmps : Array Value) (P : Program) (w : World) :
    (results fn tmps).run P w = .ok (.tuple #[tmps.getD t undef, tmps.getD u undef, tmps.getD v undef, tmps.getD x undef]) w := by
  simp [results, h]
/-- the loop that counts: at j of them the two prices are the same just at the end -/
theorem taken_shift {o : Offer} {os : List Offer} (hd : 0 < o.d) (l : Nat) : ∀ j : Nat, j ≤ taken o os l → taken o os (l - j * o.d) = taken o os l - j := by
  intro j
  induction j with
  | zero => intro _; simp
  | succ j ih =>
    intro h
    have h1 := ih (by omega)
    have hne : cost os (l - j * o.d) ≠ cost (o :: os) (l - j * o.d) := by
      intro e
      have := taken_stop e
      omega
    obtain ⟨h2, h3⟩ := taken_more hd hne
    rw [Nat.succ_mul, show l - (j * o.d + o.d) = l - j * o.d - o.d by omega]
    omega
theorem taken_same {o : Offer} {os : List Offer} (hd : 0 < o.d) (l j : Nat) (hj : j ≤ taken o os l) : (cost os (l - j * o.d) = cost (o :: os) (l - j * o.d)) ↔ j = taken o os l := by
  have h1 := taken_shift hd l j hj
  constructor
  · intro e
    have := taken_stop e
    omega
  · intro e
    refine Classical.byContradiction fun hne => ?_
    have := (taken_more hd hne).2
    omega
end Go.Proofs.Ytagpcgnlbgndmaa
/- Walk: tree.Buy. -/
set_option linter.unusedVariables false
set_option linter.unusedSimpArgs false
namespace Go.Proofs.Ytagpcgnlbgndmaa
open Go Go.RowKit

def needN (n : Int) : Nat := (n - 1).toNat
def BuyPost (os : List Offer) (n : Int) (w : World) (e : Ending) (w' : World) : Prop :=
  ∃ v, e = .returned (.tuple #[v, .int .i64 (if offersFault os n = 0 then boughtS os (needN n) else 0), .bool (decide (offersFault os n = 0 ∧ boughtB os (needN n) = true)), .int .i64 (offersFault os n)]) ∧
    Arr intCells 1 w' (if offersFault os n = 0 then boughtL os (needN n) else []) v ∧ Below w.heap.size w w'

set_option maxHeartbeats 4000000 in
set_option maxRecDepth 100000 in
theorem buy_any (v : Value) (os : List Offer) (n : Int) (w : World) (h : Arr Offer.cells 2 w os v) : Calls Try.prog 38 #[v, .int .i64 n] w (BuyPost os n w) := by
  have HA := Lib.hid h
  obtain ⟨a, cap, rfl, hcap, hmax, hc⟩ := h
  unfold maxLen at hmax
  have HC := Lib.hid hc
  clear hc
  obtain ⟨i0, hi, hz0, hz1, hz2⟩ := info_parts infoIntB
  obtain ⟨j0, hj, hy0, hy1, hy2⟩ := info_parts infoIntRow
  by_cases hf : offersFault os n = 0
  · have hok := buyOk_of hf
    obtain ⟨ok1, ok2, ok3, ok4, ok5⟩ := hok
    have HK := Lib.hid (And.intro ok2 (And.intro ok3 hf))
    have hf1 : (offersFault os n != 0) = false := by simp [hf]
    clear ok2 ok3
    obtain ⟨m, hm⟩ : ∃ m, needN n = m := ⟨_, rfl⟩
    have hcase : n ≤ 0 ∧ m = 0 ∨ (1 ≤ n ∧ (n - 1 = (m : Int))) := by unfold needN at hm; omega
    have hm2 : m ≤ 2000 := by unfold needN at hm; omega
    have HCA := Lib.hid (And.intro hcase hm)
    clear hcase hm hf
    go_enter Try.func38, Try.ntmps38
    go_upto_region 4 with (go_at_call 100; refine (buyFault_any _ os n _ (by exact HA.out)).mono ?_; rintro e w1 ⟨rfl, hb1⟩)
    have hs1 := hb1.size
    have H1 := Lib.hid hb1
    clear hb1
    go_cut [9] from 26 to 28 (fun z wc => z = .int .i64 m ∧ w1 = wc)
    case first =>
      rcases HCA.out.1 with ⟨hn1, rfl⟩ | ⟨hn1, hn2⟩
      · go_wp2
        go_meet
        exact ⟨congrArg (Value.int .i64) (by omega), rfl⟩
      · go_wp2
        all_goals go_meet
        all_goals exact ⟨congrArg (Value.int .i64) (by omega), rfl⟩
    case rest =>
    obtain ⟨rfl, rfl⟩ := hcut
    by_cases hs : os = []
    · subst hs
      go_wp2_with fail
      ((try simp only [Exit.inBlock, Exit.then]); refine bodyPost_ret (results_tmp4 rfl _ _ _) rfl ?_)
      have hno := HCA.out.2
      refine ⟨_, ?_, by rw [if_pos HK.out.2.2]; exact Arr.nil _ _ _, H1.out⟩
      have h1 : decide (offersFault [] n = 0 ∧ boughtB [] (needN n) = true) = ((m : Int) == 0) := by
        rw [hno]; simp [HK.out.2.2, boughtB]
        rcases Nat.eq_zero_or_pos m with h | h
        · subst h; simp
        · rw [decide_eq_false (by omega)]; symm; rw [beq_eq_false_iff_ne]; omega
      rw [h1, if_pos HK.out.2.2, HK.out.2.2]; exact rfl
    · have hlp : 1 ≤ os.length := by
        rcases Nat.eq_zero_or_pos os.length with h | h
        · exact absurd (List.length_eq_zero_iff.1 h) hs
        · exact h
      have hl0 : ((os.length : Int) == 0) = false := by rw [beq_eq_false_iff_ne]; omega
      have HS := Lib.hid hs
      clear hs
      go_wp2_with (at_make; first | (refine wpList_make_full _ rfl _ _ _ rfl w.heap.size _ _ _ _ Try.underlying22 hi hz0 hz1 _ _ _ _ (m + 1) rfl rfl rfl rfl ?b1 ?b2 ?b3 ?_; (case b1 => rw [hz2]; omega); (case b2 => unfold maxLen; omega); (case b3 => omega); intro w3 hown3 hg3; have hs3 := hg3.size; have ho3 := ho2.below (grown_belowB hg3) ho2.2.2; have cc := row_val ho3 (k := os.length) (v := .slice none 0 0) (by simp); have ff := ho3.2.1 os.length) | (refine wpList_make_full _ rfl _ _ _ rfl w.heap.size _ _ _ _ Try.underlying67 hj hy0 hy1 _ _ _ _ (os.length + 1) rfl rfl rfl rfl ?b1 ?b2 ?b3 ?_; (case b1 => rw [hy2]; omega); (case b2 => unfold maxLen; omega); (case b3 => omega); intro w2 hown2 hg2; have hs2 := hg2.size; have ho2 : Row vCells 1 w2 w1.heap.size (List.replicate (os.length + 1) (.slice none 0 0)) := Row.of_own (cells := vCells) (sz := 1) (fun _ => rfl) (by rw [← made_rows]; exact hown2) (by simp)))
      have hgl := ho2.2.2
      have hrow3 : Row intCells 1 w3 w2.heap.size (List.replicate (m + 1) 0) := Row.of_own (cells := intCells) (sz := 1) (fun _ => rfl) (n := m + 1) (by rw [show (List.replicate (m + 1) (0 : Int)).flatMap intCells = (List.replicate (m + 1) (0 : Int)).map (Value.int .i64) from flat_one _ _, ← made_zeroB]; exact hown3) (by simp)
      have hset := Row.set (cells := vCells) (sz := 1) (fun _ => rfl) ho3 os.length (by simp) (.slice (some ⟨w2.heap.size, 0, none⟩) (m + 1) (m + 1))
      rw [Nat.mul_one] at hset
      have hP0 : PRow w os w1.heap.size m ((List.replicate (os.length + 1) (.slice none 0 0)).set os.length (.slice (some ⟨w2.heap.size, 0, none⟩) (m + 1) (m + 1))) os.length w2.heap.size (m + 1) (List.replicate (m + 1) 0) (w3.setCell ⟨w1.heap.size, os.length, none⟩ (.slice (some ⟨w2.heap.size, 0, none⟩) (m + 1) (m + 1))) := by
        refine ⟨Below.setCell (below_at (below_at H1.out (grown_belowB hg2) hs1) (grown_belowB hg3) (by omega)) (by simpa using hs1) _, hs1, hset, by simp, ⟨by rw [List.getElem?_set_self (by simp)], Nat.le_refl _, by unfold maxLen; omega, by omega, by omega, hrow3.kept (Below.heap_setCell _ _ _ _ (by show w2.heap.size ≠ w1.heap.size; omega)) (by simp [World.setCell]), by simp⟩, fun i h1 h2 => by omega⟩
      have hgb := hs1
      have HP0 := Lib.hid hP0
      clear hP0 hset hrow3 ho2 ho3 cc ff hown2 hown3 hg2 hg3
      generalize (List.replicate (os.length + 1) (Value.slice none 0 0)).set os.length (.slice (some ⟨w2.heap.size, 0, none⟩) (m + 1) (m + 1)) = V0 at *
      generalize w3.setCell ⟨w1.heap.size, os.length, none⟩ (.slice (some ⟨w2.heap.size, 0, none⟩) (m + 1) (m + 1)) = W0 at *
      generalize w2.heap.size = b0 at *
      generalize w1.heap.size = g at *
      go_loopw [11] (fun i wr => ∃ (q : Nat) (L : List Int), 1 ≤ q ∧ q ≤ m + 1 ∧ i = .int .i64 q ∧ PRow w os g m V0 os.length b0 (m + 1) L wr ∧ (∀ j, j < q → L.getD j 0 = cost [] j)) (fun i _ => m + 1 - (intOf i).toNat)
      case atStart =>
        refine ⟨1, _, by omega, by omega, rfl, HP0.out, fun j hj => ?_⟩
        obtain rfl : j = 0 := by omega
        simp [cost_zero]
      case round =>
        obtain ⟨q, L, hq1, hq2, rfl, hP, hV⟩ := hrel
        have hLl := hP.row.2.2.2.2.2.2
        have HP := Lib.hid (And.intro hP hV)
        clear hP hV
        by_cases hlt : q ≤ m
        · have c0 := row_val HP.out.1.outer HP.out.1.row.1
          have c1 := row_int HP.out.1.row.2.2.2.2.2.1 (k := q) (by omega)
          have f1 := HP.out.1.row.2.2.2.2.2.1.2.1 q
          go_wp2
          go_roundw
          case rel =>
            refine ⟨q + 1, _, by omega, by omega, by go_num, HP.out.1.set hlt 1152921504606846976, fun j hj => ?_⟩
            by_cases hjq : j = q
            · subst hjq
              rw [List.getD_eq_getElem?_getD, List.getElem?_set_self (by omega), cost_nil (by omega)]; rfl
            · rw [List.getD_eq_getElem?_getD, List.getElem?_set_ne (by omega), ← List.getD_eq_getElem?_getD]
              exact HP.out.2 j (by omega)
          case measure => simp [intOf]; omega
        · have hLc : L = costRow (os.drop os.length) m := by
            apply List.ext_getElem
            · rw [costRow_len, hLl]
            · intro j h1 h2
              have := HP.out.2 j (by omega)
              rw [List.getD_eq_getElem?_getD, List.getElem?_eq_getElem h1, Option.getD_some] at this
              rw [this, costRow_get _ _ (by omega), List.drop_length]
          have HP1 := Lib.hid (hLc ▸ HP.out.1)
          clear HP hLc hLl
          go_wp2
          have hgbw : w.heap.size ≤ g := HP1.out.gb
          go_loopw [12] (fun i ws => ∃ (k : Nat) (V : List Value) (b cap' : Nat) (i' : Int), k ≤ os.length ∧ i = .int .i64 i' ∧ i' = (k : Int) - 1 ∧ PRow w os g m V k b cap' (costRow (os.drop k) m) ws) (fun i _ => (intOf i + 1).toNat)
          case atStart => exact ⟨os.length, V0, b0, m + 1, _, Nat.le_refl _, rfl, rfl, HP1.out⟩
          case round =>
            obtain ⟨k, V, b, cap', i', hk, rfl, hik, hP⟩ := hrel
            have HP := Lib.hid hP
            have hVl := hP.vlen
            clear hP
            rcases k with _ | k
            · have hneg : i' < 0 := by omega
              have hneg2 : ¬ 0 ≤ i' := by omega
              clear hik
              have c0 := row_val HP.out.outer HP.out.row.1
              have c1 := row_int HP.out.row.2.2.2.2.2.1 (k := m) (by rw [costRow_len]; omega)
              rw [costRow_get _ _ (Nat.le_refl m), List.drop_zero] at c1
              go_wp2
              go_region
              have HP7 : Hid (PRow w os g m V 0 b cap' (costRow (os.drop 0) m) wr.drew) := Lib.hid (HP.out.below (below_draws (Below.refl _ _) 1))
              generalize wr.drew = W7 at *
              clear c0 c1
              go_wp2
              go_loopw [14, 15, 122] (fun ov lv i ws => ∃ (k l : Nat) (O : List Int), k ≤ os.length ∧ i = .int .i64 k ∧ lv = .int .i64 l ∧ l ≤ m ∧ O.length = k ∧ counts os m = O ++ counts (os.drop k) l ∧ ws.ownsRow W7.heap.size 3 1 ov O.length (O.map (Value.int .i64)) ∧ W7.heap.size ≤ ws.heap.size ∧ Below W7.heap.size W7 ws) (fun _ _ i _ => os.length - (intOf i).toNat)
              case atStart => exact ⟨0, m, [], by omega, rfl, rfl, by omega, rfl, by simp, World.ownsRow_nil _ _ _ _, Nat.le_refl _, Below.refl _ _⟩
              case round =>
                obtain ⟨k, l, O, hk, rfl, rfl, hl, hO, hcnt, hown, hbs, hB⟩ := hrel
                have HR := Lib.hid (And.intro hcnt (And.intro hown hB))
                clear hcnt hown hB
                by_cases hlt : k < os.length
                · obtain ⟨bo, off, rfl, hbo, hcc⟩ := HC.out k (by omega)
                  obtain ⟨d0, d1⟩ := offer_at hcc
                  have hW7 := HP7.out.bel.size
                  have hBw : Below w.heap.size w wr := below_at HP7.out.bel HR.out.2.2 hW7
                  replace d0 := (hBw.cell (p := ⟨bo, _, none⟩) hbo).trans d0
                  replace d1 := (hBw.cell (p := ⟨bo, _, none⟩) hbo).trans d1
                  obtain ⟨hw1, hw2⟩ := HK.out.2.1 os[k] (List.getElem_mem _)
                  obtain ⟨ho1, ho2, ho3⟩ := HK.out.1 os[k] (List.getElem_mem _)
                  obtain ⟨b1, cap1, hT1⟩ := HP7.out.get (k + 1) (by omega)
                  obtain ⟨b2, cap2, hT2⟩ := HP7.out.get k (by omega)
                  have hcd := counts_drop os k hlt l
                  have hsame := fun j => taken_same (o := os[k]) (os := os.drop (k + 1)) ho1 l j
                  have htl := taken_le os[k] (os.drop (k + 1)) ho1 l
                  rw [← List.drop_eq_getElem_cons hlt] at hsame
                  generalize ht : taken os[k] (os.drop (k + 1)) l = t at *
                  have HX := Lib.hid (And.intro hcd (And.intro hsame (And.intro hT1 hT2)))
                  clear hcd hsame hT1 hT2 ht hcc hBw
                  go_wp2_with fail
                  have hBx : Blk (wr.alloc (.cells #[.int .i64 os[k].ways, .int .i64 os[k].price] 103)) wr.heap.size #[.int .i64 os[k].ways, .int .i64 os[k].price] 103 := Blk.new wr _ _
                  have hown8 := HR.out.2.1.alloc (.cells #[.int .i64 os[k].ways, .int .i64 os[k].price] 103)
                  have hB8 : Below W7.heap.size W7 (wr.alloc (.cells #[.int .i64 os[k].ways, .int .i64 os[k].price] 103)) := below_alloc HR.out.2.2 _ hbs
                  have hz8 : wr.heap.size + 1 = (wr.alloc (.cells #[.int .i64 os[k].ways, .int .i64 os[k].price] 103)).heap.size := by simp
                  have H8 := Lib.hid (And.intro hBx (And.intro hown8 hB8))
                  clear hBx hown8 hB8 d0 d1
                  generalize wr.alloc (.cells #[.int .i64 os[k].ways, .int .i64 os[k].price] 103) = W8 at *
                  go_loopw [15, 19] (fun lv nv ws => ∃ j : Nat, j ≤ t ∧ lv = .int .i64 ((l - j * os[k].d : Nat) : Int) ∧ nv = .int .i64 j ∧ Below W8.heap.size W8 ws) (fun _ nv _ => t - (intOf nv).toNat)
                  case atStart => exact ⟨0, by omega, by simp, rfl, Below.refl _ _⟩
                  case round =>
                    obtain ⟨j, hj, rfl, rfl, hBj⟩ := hrel
                    have hszj := hBj.size
                    have hs := HX.out.2.1 j hj
                    have hBj7 : Below W7.heap.size W7 wr := by have h8 := H8.out.2.2; exact below_at h8 hBj h8.size
                    have hqm : l - j * os[k].d ≤ m := by omega
                    have c0 := (hBj7.cell (p := ⟨g, k + 1, none⟩) HP7.out.outer.2.2).trans (row_val HP7.out.outer HX.out.2.2.1.1)
                    have c1 := (hBj7.cell (p := ⟨g, k, none⟩) HP7.out.outer.2.2).trans (row_val HP7.out.outer HX.out.2.2.2.1)
                    have c2 := (hBj7.cell (p := ⟨b1, l - j * os[k].d, none⟩) HX.out.2.2.1.2.2.2.2.2.1.2.2).trans (row_int HX.out.2.2.1.2.2.2.2.2.1 (by rw [costRow_len]; omega))
                    have c3 := (hBj7.cell (p := ⟨b2, l - j * os[k].d, none⟩) HX.out.2.2.2.2.2.2.2.2.1.2.2).trans (row_int HX.out.2.2.2.2.2.2.2.2.1 (by rw [costRow_len]; omega))
                    rw [costRow_get _ _ hqm] at c2 c3
                    have hBxj := H8.out.1.below hBj (by omega)
                    have x0 := hBxj.cell 0 _ rfl
                    have x1 := hBxj.cell 1 _ rfl
                    have hmx : (if 0 < ((l - j * os[k].d : Nat) : Int) - os[k].ways + 1 then ((l - j * os[k].d : Nat) : Int) - os[k].ways + 1 else 0) = ((l - (j + 1) * os[k].d : Nat) : Int) := by
                      rw [Nat.succ_mul]
                      have : os[k].d = (os[k].ways - 1).toNat := rfl
                      split <;> omega
                    have HB := Lib.hid (And.intro hBj hBj7)
                    clear hBj hBj7 hBxj
                    have HQ : Hid (∃ q, l - j * os[k].d = q) := ⟨_, rfl⟩
                    obtain ⟨q, hq⟩ := HQ.out
                    rw [hq] at hs c2 c3 hqm hmx ⊢
                    have HQ2 := Lib.hid hq
                    clear hq HQ
                    generalize cost (os.drop (k + 1)) q = A at *
                    generalize cost (os.drop k) q = B at *
                    rcases Nat.lt_or_ge j t with hjt | hjt
                    · have hne : ¬ A = B := fun e => by have := hs.1 e; omega
                      clear hs
                      go_wp2
                      go_region
                      go_wp2
                      go_roundw
                      case rel => exact ⟨j + 1, by omega, rfl, by go_num, by have := HB.out.1; (repeat (first | exact Below.refl _ _ | assumption | refine below_draws ?_ _ | refine Below.drew ?_ | refine below_alloc ?_ _ (by first | omega | (simp; done) | (simp; omega)) | refine Below.setCell ?_ (by first | omega | (simp; done) | (simp; omega)) _ | refine below_at ?_ (by assumption) (by first | omega | (simp; done) | (simp; omega))))⟩
                      case measure => simp [intOf]; omega
                    · obtain rfl : j = t := by omega
                      have heq : A = B := hs.2 rfl
                      subst heq
                      clear hs
                      have hOb : O.length ≤ 8 := by omega
                      have hown9 := own_below H8.out.2.1 HB.out.1
                      have HO9 := Lib.hid hown9
                      clear hown9
                      go_wp2
                      go_region
                      have hown10 : (wr.drew).ownsRow W7.heap.size 3 1 _ O.length _ := HO9.out
                      have hB10 : Below W7.heap.size W7 wr.drew := below_draws HB.out.2 1
                      have hs10 : W7.heap.size ≤ wr.drew.heap.size := hB10.size
                      have H10 := Lib.hid (And.intro hown10 hB10)
                      clear hown10 hB10
                      generalize wr.drew = W10 at *
                      go_wp2_with ((at_builtin; go_must (refine wpList_append_own _ rfl _ _ 22 rfl _ 3 _ (.int .i64 0) 1 8 Try.underlying22 hi hz0 hz1 hz2 rfl (by decide) _ _ _ rfl (H10.out.1.alloc _) ⟨W10.heap.size, 0, none⟩ 1 1 [.int .i64 (j : Int)] rfl rfl (by exact news_at (by first | rfl | simp) (by rfl)) (by simp [Value.oneCell']) (by unfold maxLen; omega) (by omega) (by first | omega | (simp; done) | (simp; omega)) ?_)); intro v' w4 hown4 hg4 _)
                      have hz4 := hg4.size
                      simp at hz4
                      go_roundw
                      case rel =>
                        refine ⟨k + 1, q, O ++ [(j : Int)], by omega, by go_num, rfl, hqm, by simp [hO], ?_, ?_, by omega, ?_⟩
                        · rw [HR.out.1, HX.out.1, HQ2.out]; simp
                        · rw [List.length_append, List.map_append]; exact hown4
                        · exact below_grown (by have := H10.out.2; (repeat (first | exact Below.refl _ _ | assumption | refine below_draws ?_ _ | refine Below.drew ?_ | refine below_alloc ?_ _ (by first | omega | (simp; done) | (simp; omega)) | refine Below.setCell ?_ (by first | omega | (simp; done) | (simp; omega)) _ | refine below_at ?_ (by assumption) (by first | omega | (simp; done) | (simp; omega))))) (H10.out.1.alloc (.cells #[.int .i64 (j : Int)] 3)) hg4 (Nat.le_refl _) (by simp; omega)
                      case measure => simp [intOf]; omega
                · have hOl : O = boughtL os m := by have := HR.out.1; rw [List.drop_of_length_le (by omega)] at this; rw [boughtL_eq, this]; simp [counts]
                  have HE := Lib.hid (And.intro hOl hO)
                  go_wp2
                  ((try simp only [Exit.inBlock, Exit.then]); refine bodyPost_ret (results_tmp4 rfl _ _ _) rfl ?_)
                  have hno := HCA.out.2
                  have h1 : decide (offersFault os n = 0 ∧ boughtB os (needN n) = true) = true := by
                    rw [hno]; simp [HK.out.2.2, boughtB, HS.out]
                  have h2 : boughtS os m = cost os m := by unfold boughtS; rw [if_neg HS.out]
                  refine ⟨_, ?_, by rw [if_pos HK.out.2.2, hno, ← hOl]; exact Arr.of_ints HR.out.2.1, below_at HP7.out.bel HR.out.2.2 HP7.out.bel.size⟩
                  rw [h1, if_pos HK.out.2.2, HK.out.2.2, hno, h2]; exact rfl
            · obtain rfl : i' = (k : Int) := by omega
              clear hik
              have hrl := HP.out.row
              have c0 := row_val HP.out.outer HP.out.row.1
              have hArr := Row.arr HP.out.row.2.2.2.2.2.1 (n := m + 1) (by rw [costRow_len]) HP.out.row.2.1 HP.out.row.2.2.1
              have HAR := Lib.hid hArr
              clear hArr hrl
              go_wp2_with fail
              refine (clone_int _ (costRow (os.drop (k + 1)) m) _ (by exact HAR.out) (by rw [costRow_len]; omega)).mono ?_
              rintro e w5 ⟨v', rfl, ⟨hown5, hform⟩, hb5⟩
              obtain ⟨b5, cap5, rfl⟩ : ∃ b5 cap5, v' = .slice (some ⟨b5, 0, none⟩) (m + 1) cap5 := by
                rcases hform with ⟨_, h2⟩ | ⟨b5, cap5, h2⟩
                · have := congrArg List.length h2; rw [costRow_len] at this; simp at this
                · exact ⟨b5, cap5, by rw [h2, costRow_len]⟩
              rw [costRow_len] at hown5
              have hlt5 := hown5.lt b5 rfl
              have hr5 : Row intCells 1 w5 b5 (costRow (os.drop (k + 1)) m) := Row.of_own (cells := intCells) (sz := 1) (fun _ => rfl) hown5 (by rw [costRow_len])
              have hcaps : m + 1 ≤ cap5 ∧ cap5 ≤ maxLen := by
                obtain ⟨_, c, he, h2, h3, _⟩ := Arr.of_own (cells := intCells) (sz := 1) (l := costRow (os.drop (k + 1)) m) (fun _ => rfl) (by rw [costRow_len]; exact hown5)
                rw [costRow_len] at h2
                simp only [Value.slice.injEq] at he
                omega
              have hwl := HP.out.bel.size
              have ho5 := (HP.out.below hb5).outer
              have hPn := HP.out.next (by omega) hb5 hlt5.1 hr5 (costRow_len _ _) hcaps.1 hcaps.2
              have cc := row_val ho5 (k := k) (List.getElem?_eq_getElem (by omega))
              have ff := ho5.2.1 k
              have HN := Lib.hid hPn
              clear hPn hr5 hcaps ho5 hown5 hform hb5 c0 HAR
              go_wp2_with fail
              generalize w5.setCell ⟨g, k, none⟩ (.slice (some ⟨b5, 0, none⟩) (m + 1) cap5) = W5 at *
              generalize V.set k (.slice (some ⟨b5, 0, none⟩) (m + 1) cap5) = V5 at *
              clear cc ff
              go_loopw [13] (fun i ws => ∃ (q : Nat) (L : List Int), 1 ≤ q ∧ q ≤ m + 1 ∧ i = .int .i64 q ∧ PRow w os g m V5 k b5 cap5 L ws ∧ (∀ j, j < q → L.getD j 0 = cost (os.drop k) j) ∧ (∀ j, q ≤ j → j ≤ m → L.getD j 0 = cost (os.drop (k + 1)) j)) (fun i _ => m + 1 - (intOf i).toNat)
              case atStart =>
                refine ⟨1, _, by omega, by omega, rfl, HN.out, fun j hj => ?_, fun j h1 h2 => ?_⟩
                · obtain rfl : j = 0 := by omega
                  rw [List.getD_eq_getElem?_getD, List.getElem?_eq_getElem (by rw [costRow_len]; omega), Option.getD_some, costRow_get _ _ (by omega), cost_zero, cost_zero]
                · rw [List.getD_eq_getElem?_getD, List.getElem?_eq_getElem (by rw [costRow_len]; omega), Option.getD_some, costRow_get _ _ (by omega)]
              case round =>
                obtain ⟨q, L, hq1, hq2, rfl, hP, hV, hV2⟩ := hrel
                have hLl := hP.row.2.2.2.2.2.2
                have HQ := Lib.hid (And.intro hP (And.intro hV hV2))
                clear hP hV hV2
                by_cases hqt : q ≤ m
                · obtain ⟨bo, off, rfl, hbo, hcc⟩ := HC.out k (by omega)
                  obtain ⟨d0, d1⟩ := offer_at hcc
                  replace d0 := (HQ.out.1.bel.cell (p := ⟨bo, _, none⟩) hbo).trans d0
                  replace d1 := (HQ.out.1.bel.cell (p := ⟨bo, _, none⟩) hbo).trans d1
                  obtain ⟨hw1, hw2⟩ := HK.out.2.1 os[k] (List.getElem_mem _)
                  obtain ⟨ho1, ho2, ho3⟩ := HK.out.1 os[k] (List.getElem_mem _)
                  have hmx : (if 0 < (q : Int) - os[k].ways + 1 then (q : Int) - os[k].ways + 1 else 0) = ((q - os[k].d : Nat) : Int) := by
                    have : os[k].d = (os[k].ways - 1).toNat := rfl
                    split <;> omega
                  have c0 := row_val HQ.out.1.outer HQ.out.1.row.1
                  have c1 := row_int HQ.out.1.row.2.2.2.2.2.1 (k := q) (by omega)
                  have c2 := row_int HQ.out.1.row.2.2.2.2.2.1 (k := q - os[k].d) (by omega)
                  have f1 := HQ.out.1.row.2.2.2.2.2.1.2.1 q
                  have v1 := HQ.out.2.1 (q - os[k].d) (by omega)
                  have v2 := HQ.out.2.2 q (by omega) hqt
                  rw [List.getD_eq_getElem?_getD, List.getElem?_eq_getElem (by omega), Option.getD_some] at v1 v2
                  rw [v1] at c2
                  rw [v2] at c1
                  have htop := cost_top (HK.out.1.drop k) (by intro e; have := congrArg List.length e; simp at this; omega) (q - os[k].d)
                  have hmin : (if cost (os.drop k) (q - os[k].d) + os[k].price < cost (os.drop (k + 1)) q then cost (os.drop k) (q - os[k].d) + os[k].price else cost (os.drop (k + 1)) q) = cost (os.drop k) q := by
                    have h1 : cost (os.drop k) q = min (cost (os.drop (k + 1)) q) (cost (os.drop k) (q - os[k].d) + os[k].price) := by
                      rw [List.drop_eq_getElem_cons (show k < os.length by omega)]; exact cost_cons (by omega) ho1
                    rw [h1]; split <;> omega
                  have HL := Lib.hid (And.intro v1 v2)
                  clear v1 v2 hcc
                  obtain ⟨hX0, hX1⟩ := htop
                  have hX2 : cost (os.drop k) (q - os[k].d) ≤ 2000000000 := by omega
                  clear hX1
                  have HZ : Hid (∃ z, cost (os.drop k) q = z) := ⟨_, rfl⟩
                  obtain ⟨z, hz⟩ := HZ.out
                  rw [hz] at hmin
                  have HZ2 := Lib.hid hz
                  clear hz HZ
                  generalize cost (os.drop k) (q - os[k].d) = X at *
                  generalize cost (os.drop (k + 1)) q = Y at *
                  have x1 : IntKind.i64.wrap ((q : Int) - os[k].ways) = (q : Int) - os[k].ways := IntWalk.i64_in _ (by omega)
                  have x2 : IntKind.i64.wrap ((q : Int) - os[k].ways + 1) = (q : Int) - os[k].ways + 1 := IntWalk.i64_in _ (by omega)
                  have x3 : IntKind.i64.wrap (X + os[k].price) = X + os[k].price := IntWalk.i64_in _ (by omega)
                  go_wp2_with fail
                  have hS0 : wr.drew.cell? ⟨g, k, none⟩ = some (.slice (some ⟨b5, 0, none⟩) (m + 1) cap5) ∧ wr.drew.cell? ⟨b5, q, none⟩ = some (.int .i64 Y) ∧ wr.drew.cell? ⟨b5, q - os[k].d, none⟩ = some (.int .i64 X) ∧ wr.drew.cell? ⟨bo, off + k * 2, none⟩ = some (.int .i64 os[k].ways) ∧ wr.drew.cell? ⟨bo, off + k * 2 + 1, none⟩ = some (.int .i64 os[k].price) := ⟨c0, c1, c2, d0, d1⟩
                  have bb1 : (k : Int) < (os.length : Int) + 1 := by omega
                  have bb2 : (q : Int) < (m : Int) + 1 := by omega
                  have bb3 : ((q - os[k].d : Nat) : Int) < (m : Int) + 1 := by omega
                  have bb4 : (k : Int) < (os.length : Int) := by omega
                  have bb5 : k < os.length := by omega
                  have e1 : wr.drew.frozen? ⟨b5, q, none⟩ = false := f1
                  have HQ3 : Hid (PRow w os g m V5 k b5 cap5 L wr.drew) := Lib.hid (HQ.out.1.below (below_draws (Below.refl _ _) 1))
                  refine WalkT.start (fun w' => w'.cell? ⟨g, k, none⟩ = some (.slice (some ⟨b5, 0, none⟩) (m + 1) cap5) ∧ w'.cell? ⟨b5, q, none⟩ = some (.int .i64 Y) ∧ w'.cell? ⟨b5, q - os[k].d, none⟩ = some (.int .i64 X) ∧ w'.cell? ⟨bo, off + k * 2, none⟩ = some (.int .i64 os[k].ways) ∧ w'.cell? ⟨bo, off + k * 2 + 1, none⟩ = some (.int .i64 os[k].price)) [35] (by kernel_rfl) ?_
                  generalize wr.drew = W6 at *
                  clear c0 c1 c2 d0 d1 f1
                  refine WalkT.quiet (i := 0) (v := ?_) rfl (by kernel_rfl) (by kernel_rfl) (by kernel_rfl) (fun _ _ _ h => h) (Or.inl ⟨by rfl, ?_⟩) ?_; rotate_left; (· (intro wS hSw; (try dsimp only at hSw); go_simp; try with_reducible rfl)); try simp only [Act.put, List.setIfInBounds_toArray, List.set_cons_zero, List.set_cons_succ, List.getElem_toArray, List.getElem_cons_succ, List.getElem_cons_zero]
                  refine WalkT.quiet (i := 1) (v := ?_) rfl (by kernel_rfl) (by kernel_rfl) (by kernel_rfl) (fun _ _ _ h => h) (Or.inl ⟨by rfl, ?_⟩) ?_; rotate_left; (· (intro wS hSw; (try dsimp only at hSw); go_simp; try with_reducible rfl)); try simp only [Act.put, List.setIfInBounds_toArray, List.set_cons_zero, List.set_cons_succ, List.getElem_toArray, List.getElem_cons_succ, List.getElem_cons_zero]
                  refine WalkT.quiet (i := 2) (v := ?_) rfl (by kernel_rfl) (by kernel_rfl) (by kernel_rfl) (fun _ _ _ h => h) (Or.inl ⟨by rfl, ?_⟩) ?_; rotate_left; (· (intro wS hSw; (try dsimp only at hSw); go_simp; try with_reducible rfl)); try simp only [Act.put, List.setIfInBounds_toArray, List.set_cons_zero, List.set_cons_succ, List.getElem_toArray, List.getElem_cons_succ, List.getElem_cons_zero]
                  refine WalkT.take (i := 3) (v := ?_) rfl (by kernel_rfl) (by kernel_rfl) (by kernel_rfl) (by kernel_rfl) (fun _ _ _ h => h) hS0 (Or.inl ⟨by rfl, ?_⟩) ?_; rotate_left; (· (intro wS hSw; (try dsimp only at hSw); obtain ⟨s0, s1, s2, s3, s4⟩ := hSw; go_simp; try with_reducible rfl)); try simp only [Act.put, List.setIfInBounds_toArray, List.set_cons_zero, List.set_cons_succ, List.getElem_toArray, List.getElem_cons_succ, List.getElem_cons_zero]
                  refine WalkT.quiet (i := 4) (v := ?_) rfl (by kernel_rfl) (by kernel_rfl) (by kernel_rfl) (fun _ _ _ h => h) (Or.inl ⟨by rfl, ?_⟩) ?_; rotate_left; (· (intro wS hSw; (try dsimp only at hSw); go_simp; try with_reducible rfl)); try simp only [Act.put, List.setIfInBounds_toArray, List.set_cons_zero, List.set_cons_succ, List.getElem_toArray, List.getElem_cons_succ, List.getElem_cons_zero]
                  refine WalkT.quiet (i := 5) (v := ?_) rfl (by kernel_rfl) (by kernel_rfl) (by kernel_rfl) (fun _ _ _ h => h) (Or.inl ⟨by rfl, ?_⟩) ?_; rotate_left; (· (intro wS hSw; (try dsimp only at hSw); go_simp; try with_reducible rfl)); try simp only [Act.put, List.setIfInBounds_toArray, List.set_cons_zero, List.set_cons_succ, List.getElem_toArray, List.getElem_cons_succ, List.getElem_cons_zero]
                  refine WalkT.quiet (i := 6) (v := ?_) rfl (by kernel_rfl) (by kernel_rfl) (by kernel_rfl) (fun _ _ _ h => h) (Or.inl ⟨by rfl, ?_⟩) ?_; rotate_left; (· (intro wS hSw; (try dsimp only at hSw); go_simp; try with_reducible rfl)); try simp only [Act.put, List.setIfInBounds_toArray, List.set_cons_zero, List.set_cons_succ, List.getElem_toArray, List.getElem_cons_succ, List.getElem_cons_zero]
                  refine WalkT.quiet (i := 7) (v := ?_) rfl (by kernel_rfl) (by kernel_rfl) (by kernel_rfl) (fun _ _ _ h => h) (Or.inl ⟨by rfl, ?_⟩) ?_; rotate_left; (· (intro wS hSw; (try dsimp only at hSw); go_simp; try with_reducible rfl)); try simp only [Act.put, List.setIfInBounds_toArray, List.set_cons_zero, List.set_cons_succ, List.getElem_toArray, List.getElem_cons_succ, List.getElem_cons_zero]
                  refine WalkT.take (i := 8) (v := ?_) rfl (by kernel_rfl) (by kernel_rfl) (by kernel_rfl) (by kernel_rfl) (fun _ _ _ h => h) hS0 (Or.inl ⟨by rfl, ?_⟩) ?_; rotate_left; (· (intro wS hSw; (try dsimp only at hSw); obtain ⟨s0, s1, s2, s3, s4⟩ := hSw; go_simp; try with_reducible rfl)); try simp only [Act.put, List.setIfInBounds_toArray, List.set_cons_zero, List.set_cons_succ, List.getElem_toArray, List.getElem_cons_succ, List.getElem_cons_zero]
                  refine WalkT.quiet (i := 9) (v := ?_) rfl (by kernel_rfl) (by kernel_rfl) (by kernel_rfl) (fun _ _ _ h => h) (Or.inl ⟨by rfl, ?_⟩) ?_; rotate_left; (· (intro wS hSw; (try dsimp only at hSw); go_simp; try with_reducible rfl)); try simp only [Act.put, List.setIfInBounds_toArray, List.set_cons_zero, List.set_cons_succ, List.getElem_toArray, List.getElem_cons_succ, List.getElem_cons_zero]
                  refine WalkT.quiet (i := 10) (v := ?_) rfl (by kernel_rfl) (by kernel_rfl) (by kernel_rfl) (fun _ _ _ h => h) (Or.inl ⟨by rfl, ?_⟩) ?_; rotate_left; (· (intro wS hSw; (try dsimp only at hSw); go_simp; try with_reducible rfl)); try simp only [Act.put, List.setIfInBounds_toArray, List.set_cons_zero, List.set_cons_succ, List.getElem_toArray, List.getElem_cons_succ, List.getElem_cons_zero]
                  refine WalkT.take (i := 11) (v := ?_) rfl (by kernel_rfl) (by kernel_rfl) (by kernel_rfl) (by kernel_rfl) (fun _ _ _ h => h) hS0 (Or.inl ⟨by rfl, ?_⟩) ?_; rotate_left; (· (intro wS hSw; (try dsimp only at hSw); obtain ⟨s0, s1, s2, s3, s4⟩ := hSw; go_simp; try with_reducible rfl)); try simp only [Act.put, List.setIfInBounds_toArray, List.set_cons_zero, List.set_cons_succ, List.getElem_toArray, List.getElem_cons_succ, List.getElem_cons_zero]
                  refine WalkT.quiet (i := 12) (v := ?_) rfl (by kernel_rfl) (by kernel_rfl) (by kernel_rfl) (fun _ _ _ h => h) (Or.inl ⟨by rfl, ?_⟩) ?_; rotate_left; (· (intro wS hSw; (try dsimp only at hSw); go_simp; try with_reducible rfl)); try simp only [Act.put, List.setIfInBounds_toArray, List.set_cons_zero, List.set_cons_succ, List.getElem_toArray, List.getElem_cons_succ, List.getElem_cons_zero]
                  refine WalkT.quiet (i := 13) (v := ?_) rfl (by kernel_rfl) (by kernel_rfl) (by kernel_rfl) (fun _ _ _ h => h) (Or.inl ⟨by rfl, ?_⟩) ?_; rotate_left; (· (intro wS hSw; (try dsimp only at hSw); go_simp; try with_reducible rfl)); try simp only [Act.put, List.setIfInBounds_toArray, List.set_cons_zero, List.set_cons_succ, List.getElem_toArray, List.getElem_cons_succ, List.getElem_cons_zero]
                  refine WalkT.quiet (i := 14) (v := ?_) rfl (by kernel_rfl) (by kernel_rfl) (by kernel_rfl) (fun _ _ _ h => h) (Or.inl ⟨by rfl, ?_⟩) ?_; rotate_left; (· (intro wS hSw; (try dsimp only at hSw); go_simp; try with_reducible rfl)); try simp only [Act.put, List.setIfInBounds_toArray, List.set_cons_zero, List.set_cons_succ, List.getElem_toArray, List.getElem_cons_succ, List.getElem_cons_zero]
                  refine WalkT.take (i := 15) (v := ?_) rfl (by kernel_rfl) (by kernel_rfl) (by kernel_rfl) (by kernel_rfl) (fun _ _ _ h => h) hS0 (Or.inl ⟨by rfl, ?_⟩) ?_; rotate_left; (· (intro wS hSw; (try dsimp only at hSw); obtain ⟨s0, s1, s2, s3, s4⟩ := hSw; go_simp; try with_reducible rfl)); try simp only [Act.put, List.setIfInBounds_toArray, List.set_cons_zero, List.set_cons_succ, List.getElem_toArray, List.getElem_cons_succ, List.getElem_cons_zero]
                  refine WalkT.quiet (i := 16) (v := ?_) rfl (by kernel_rfl) (by kernel_rfl) (by kernel_rfl) (fun _ _ _ h => h) (Or.inl ⟨by rfl, ?_⟩) ?_; rotate_left; (· (intro wS hSw; (try dsimp only at hSw); go_simp; try with_reducible rfl)); try simp only [Act.put, List.setIfInBounds_toArray, List.set_cons_zero, List.set_cons_succ, List.getElem_toArray, List.getElem_cons_succ, List.getElem_cons_zero]
                  refine WalkT.quiet (i := 17) (v := ?_) rfl (by kernel_rfl) (by kernel_rfl) (by kernel_rfl) (fun _ _ _ h => h) (Or.inl ⟨by rfl, ?_⟩) ?_; rotate_left; (· (intro wS hSw; (try dsimp only at hSw); go_simp; try with_reducible rfl)); try simp only [Act.put, List.setIfInBounds_toArray, List.set_cons_zero, List.set_cons_succ, List.getElem_toArray, List.getElem_cons_succ, List.getElem_cons_zero]
                  refine WalkT.quiet (i := 18) (v := ?_) rfl (by kernel_rfl) (by kernel_rfl) (by kernel_rfl) (fun _ _ _ h => h) (Or.inl ⟨by rfl, ?_⟩) ?_; rotate_left; (· (intro wS hSw; (try dsimp only at hSw); go_simp; try with_reducible rfl)); try simp only [Act.put, List.setIfInBounds_toArray, List.set_cons_zero, List.set_cons_succ, List.getElem_toArray, List.getElem_cons_succ, List.getElem_cons_zero]
                  refine WalkT.quiet (i := 19) (v := ?_) rfl (by kernel_rfl) (by kernel_rfl) (by kernel_rfl) (fun _ _ _ h => h) (Or.inl ⟨by rfl, ?_⟩) ?_; rotate_left; (· (intro wS hSw; (try dsimp only at hSw); go_simp; try with_reducible rfl)); try simp only [Act.put, List.setIfInBounds_toArray, List.set_cons_zero, List.set_cons_succ, List.getElem_toArray, List.getElem_cons_succ, List.getElem_cons_zero]
                  refine WalkT.quiet (i := 20) (v := ?_) rfl (by kernel_rfl) (by kernel_rfl) (by kernel_rfl) (fun _ _ _ h => h) (Or.inl ⟨by rfl, ?_⟩) ?_; rotate_left; (· (intro wS hSw; (try dsimp only at hSw); go_simp; try with_reducible rfl)); try simp only [Act.put, List.setIfInBounds_toArray, List.set_cons_zero, List.set_cons_succ, List.getElem_toArray, List.getElem_cons_succ, List.getElem_cons_zero]
                  refine WalkT.take (i := 21) (v := ?_) rfl (by kernel_rfl) (by kernel_rfl) (by kernel_rfl) (by kernel_rfl) (fun _ _ _ h => h) hS0 (Or.inl ⟨by rfl, ?_⟩) ?_; rotate_left; (· (intro wS hSw; (try dsimp only at hSw); obtain ⟨s0, s1, s2, s3, s4⟩ := hSw; go_simp; try with_reducible rfl)); try simp only [Act.put, List.setIfInBounds_toArray, List.set_cons_zero, List.set_cons_succ, List.getElem_toArray, List.getElem_cons_succ, List.getElem_cons_zero]
                  refine WalkT.quiet (i := 22) (v := ?_) rfl (by kernel_rfl) (by kernel_rfl) (by kernel_rfl) (fun _ _ _ h => h) (Or.inl ⟨by rfl, ?_⟩) ?_; rotate_left; (· (intro wS hSw; (try dsimp only at hSw); go_simp; try with_reducible rfl)); try simp only [Act.put, List.setIfInBounds_toArray, List.set_cons_zero, List.set_cons_succ, List.getElem_toArray, List.getElem_cons_succ, List.getElem_cons_zero]
                  refine WalkT.quiet (i := 23) (v := ?_) rfl (by kernel_rfl) (by kernel_rfl) (by kernel_rfl) (fun _ _ _ h => h) (Or.inl ⟨by rfl, ?_⟩) ?_; rotate_left; (· (intro wS hSw; (try dsimp only at hSw); go_simp; try with_reducible rfl)); try simp only [Act.put, List.setIfInBounds_toArray, List.set_cons_zero, List.set_cons_succ, List.getElem_toArray, List.getElem_cons_succ, List.getElem_cons_zero]
                  refine WalkT.quiet (i := 24) (v := ?_) rfl (by kernel_rfl) (by kernel_rfl) (by kernel_rfl) (fun _ _ _ h => h) (Or.inl ⟨by rfl, ?_⟩) ?_; rotate_left; (· (intro wS hSw; (try dsimp only at hSw); go_simp; try with_reducible rfl)); try simp only [Act.put, List.setIfInBounds_toArray, List.set_cons_zero, List.set_cons_succ, List.getElem_toArray, List.getElem_cons_succ, List.getElem_cons_zero]
                  refine WalkT.quiet (i := 25) (v := ?_) rfl (by kernel_rfl) (by kernel_rfl) (by kernel_rfl) (fun _ _ _ h => h) (Or.inl ⟨by rfl, ?_⟩) ?_; rotate_left; (· (intro wS hSw; (try dsimp only at hSw); go_simp; try with_reducible rfl)); try simp only [Act.put, List.setIfInBounds_toArray, List.set_cons_zero, List.set_cons_succ, List.getElem_toArray, List.getElem_cons_succ, List.getElem_cons_zero]
                  refine WalkT.take (i := 26) (v := ?_) rfl (by kernel_rfl) (by kernel_rfl) (by kernel_rfl) (by kernel_rfl) (fun _ _ _ h => h) hS0 (Or.inl ⟨by rfl, ?_⟩) ?_; rotate_left; (· (intro wS hSw; (try dsimp only at hSw); obtain ⟨s0, s1, s2, s3, s4⟩ := hSw; go_simp; try with_reducible rfl)); try simp only [Act.put, List.setIfInBounds_toArray, List.set_cons_zero, List.set_cons_succ, List.getElem_toArray, List.getElem_cons_succ, List.getElem_cons_zero]
                  refine WalkT.quiet (i := 27) (v := ?_) rfl (by kernel_rfl) (by kernel_rfl) (by kernel_rfl) (fun _ _ _ h => h) (Or.inl ⟨by rfl, ?_⟩) ?_; rotate_left; (· (intro wS hSw; (try dsimp only at hSw); go_simp; try with_reducible rfl)); try simp only [Act.put, List.setIfInBounds_toArray, List.set_cons_zero, List.set_cons_succ, List.getElem_toArray, List.getElem_cons_succ, List.getElem_cons_zero]
                  refine WalkT.quiet (i := 28) (v := ?_) rfl (by kernel_rfl) (by kernel_rfl) (by kernel_rfl) (fun _ _ _ h => h) (Or.inl ⟨by rfl, ?_⟩) ?_; rotate_left; (· (intro wS hSw; (try dsimp only at hSw); go_simp; try with_reducible rfl)); try simp only [Act.put, List.setIfInBounds_toArray, List.set_cons_zero, List.set_cons_succ, List.getElem_toArray, List.getElem_cons_succ, List.getElem_cons_zero]
                  refine WalkT.quiet (i := 29) (v := ?_) rfl (by kernel_rfl) (by kernel_rfl) (by kernel_rfl) (fun _ _ _ h => h) (Or.inl ⟨by rfl, ?_⟩) ?_; rotate_left; (· (intro wS hSw; (try dsimp only at hSw); go_simp; try with_reducible rfl)); try simp only [Act.put, List.setIfInBounds_toArray, List.set_cons_zero, List.set_cons_succ, List.getElem_toArray, List.getElem_cons_succ, List.getElem_cons_zero]
                  refine WalkT.quiet (i := 30) (v := ?_) rfl (by kernel_rfl) (by kernel_rfl) (by kernel_rfl) (fun _ _ _ h => h) (Or.inl ⟨by rfl, ?_⟩) ?_; rotate_left; (· (intro wS hSw; (try dsimp only at hSw); go_simp; try with_reducible rfl)); try simp only [Act.put, List.setIfInBounds_toArray, List.set_cons_zero, List.set_cons_succ, List.getElem_toArray, List.getElem_cons_succ, List.getElem_cons_zero]
                  refine WalkT.take (i := 31) (v := ?_) rfl (by kernel_rfl) (by kernel_rfl) (by kernel_rfl) (by kernel_rfl) (fun _ _ _ h => h) hS0 (Or.inl ⟨by rfl, ?_⟩) ?_; rotate_left; (· (intro wS hSw; (try dsimp only at hSw); obtain ⟨s0, s1, s2, s3, s4⟩ := hSw; go_simp; try with_reducible rfl)); try simp only [Act.put, List.setIfInBounds_toArray, List.set_cons_zero, List.set_cons_succ, List.getElem_toArray, List.getElem_cons_succ, List.getElem_cons_zero]
                  refine WalkT.quiet (i := 32) (v := ?_) rfl (by kernel_rfl) (by kernel_rfl) (by kernel_rfl) (fun _ _ _ h => h) (Or.inl ⟨by rfl, ?_⟩) ?_; rotate_left; (· (intro wS hSw; (try dsimp only at hSw); go_simp; try with_reducible rfl)); try simp only [Act.put, List.setIfInBounds_toArray, List.set_cons_zero, List.set_cons_succ, List.getElem_toArray, List.getElem_cons_succ, List.getElem_cons_zero]
                  refine WalkT.quiet (i := 33) (v := ?_) rfl (by kernel_rfl) (by kernel_rfl) (by kernel_rfl) (fun _ _ _ h => h) (Or.inl ⟨by rfl, ?_⟩) ?_; rotate_left; (· (intro wS hSw; (try dsimp only at hSw); go_simp; try with_reducible rfl)); try simp only [Act.put, List.setIfInBounds_toArray, List.set_cons_zero, List.set_cons_succ, List.getElem_toArray, List.getElem_cons_succ, List.getElem_cons_zero]
                  refine WalkT.quiet (i := 34) (v := ?_) rfl (by kernel_rfl) (by kernel_rfl) (by kernel_rfl) (fun _ _ _ h => h) (Or.inl ⟨by rfl, ?_⟩) ?_; rotate_left; (· (intro wS hSw; (try dsimp only at hSw); go_simp; try with_reducible rfl)); try simp only [Act.put, List.setIfInBounds_toArray, List.set_cons_zero, List.set_cons_succ, List.getElem_toArray, List.getElem_cons_succ, List.getElem_cons_zero]
                  obtain ⟨s0, s1, s2, s3, s4⟩ := hS0
                  refine WalkT.ready (rs := [35]) (by kernel_rfl) (by simp) (AllT.cons rfl (fun K hK => ?_) AllT.nil)
                  go_simp
                  refine hK.out _ _ (fun h => absurd h (by decide)) ?_
                  clear hK K
                  refine WalkT.done (by kernel_rfl) ?_
                  go_wp2
                  refine ⟨⟨q + 1, L.set q z, by omega, by omega, by go_num, HQ3.out.set hqt z, fun j hj => ?_, fun j h1 h2 => ?_⟩, by simp [intOf]; omega⟩
                  · by_cases hjq : j = q
                    · subst hjq
                      rw [List.getD_eq_getElem?_getD, List.getElem?_set_self (by omega), Option.getD_some]; exact HZ2.out.symm
                    · rw [List.getD_eq_getElem?_getD, List.getElem?_set_ne (by omega), ← List.getD_eq_getElem?_getD]
                      exact HQ.out.2.1 j (by omega)
                  · rw [List.getD_eq_getElem?_getD, List.getElem?_set_ne (by omega), ← List.getD_eq_getElem?_getD]
                    exact HQ.out.2.2 j (by omega) h2
                · have hLc : L = costRow (os.drop k) m := by
                    apply List.ext_getElem
                    · rw [costRow_len, hLl]
                    · intro j h1 h2
                      have := HQ.out.2.1 j (by omega)
                      rw [List.getD_eq_getElem?_getD, List.getElem?_eq_getElem h1, Option.getD_some] at this
                      rw [this, costRow_get _ _ (by omega)]
                  have HP2 := Lib.hid (hLc ▸ HQ.out.1)
                  clear HQ hLc hLl
                  go_wp2
                  go_roundw
                  case rel => exact ⟨k, V5, b5, cap5, _, by omega, rfl, rfl, HP2.out⟩
                  case measure => simp [intOf]
  · have hf1 : (offersFault os n != 0) = true := by simp [hf]
    have HF := Lib.hid hf
    clear hf
    go_enter Try.func38, Try.ntmps38
    go_wp2_with (go_at_call 100; refine (buyFault_any _ os n _ (by exact HA.out)).mono ?_; rintro e w1 ⟨rfl, hb1⟩)
    ((try simp only [Exit.inBlock, Exit.then]); refine bodyPost_ret (results_tmp4 rfl _ _ _) rfl ?_)
    exact ⟨_, by rw [if_neg HF.out, decide_eq_false (fun h => HF.out h.1)]; exact rfl, by rw [if_neg HF.out]; exact Arr.nil _ _ _, by (repeat (first | exact Below.refl _ _ | assumption | refine below_draws ?_ _ | refine Below.drew ?_ | refine below_alloc ?_ _ (by first | omega | (simp; done) | (simp; omega)) | refine Below.setCell ?_ (by first | omega | (simp; done) | (simp; omega)) _ | refine below_at ?_ (by assumption) (by first | omega | (simp; done) | (simp; omega))))⟩
end Go.Proofs.Ytagpcgnlbgndmaa
