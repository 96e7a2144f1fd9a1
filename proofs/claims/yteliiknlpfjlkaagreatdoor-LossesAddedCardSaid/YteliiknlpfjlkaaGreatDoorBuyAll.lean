/- Texts of one subject in one: PlainO, PlainP, BuyR, BuyS, BuyP, BuyQ; what each shows stands at its head. No condition. -/
import Derived.Test.YteliiknlpfjlkaaGreatDoorOffer
import Derived.Test.YteliiknlpfjlkaaGreatDoorMemAll
import Derived.Test.YteliiknlpfjlkaaGreatDoorOrders
import Derived.RegionTactic
import Derived.OpenShut
import Derived.Deep.CutRange
import Derived.Test.YteliiknlpfjlkaaGreatDoorLibB
import Derived.StillTailTactics
/- Plain: the least price of splitters that cover m more customers. No program. -/
set_option linter.unusedVariables false
set_option linter.unusedSimpArgs false
namespace Go.Proofs.YteliiknlpfjlkaaGreatDoor

def Offer.d (o : Offer) : Nat := (o.ways - 1).toNat
def inf : Int := 1152921504606846976
/-- the least price; inf where none covers -/
def cost : List Offer → Nat → Int
  | [], m => if m = 0 then 0 else inf
  | o :: os, m => if h : m = 0 ∨ o.d = 0 then (if m = 0 then 0 else cost os m) else min (cost os m) (cost (o :: os) (m - o.d) + o.price)
termination_by os m => (os.length, m)
decreasing_by
  · exact Prod.Lex.left _ _ (by simp)
  · exact Prod.Lex.left _ _ (by simp)
  · exact Prod.Lex.right _ (by omega)
theorem cost_zero (os : List Offer) : cost os 0 = 0 := by
  cases os <;> simp [cost]
theorem cost_nil {m : Nat} (h : 0 < m) : cost [] m = inf := by rw [cost, if_neg (by omega)]
theorem cost_cons {o : Offer} {os : List Offer} {m : Nat} (h : 0 < m) (hd : 0 < o.d) : cost (o :: os) m = min (cost os m) (cost (o :: os) (m - o.d) + o.price) := by
  rw [cost, dif_neg (by omega)]
/-- none does better than by one offer more -/
theorem cost_le {os : List Offer} (hd : ∀ o ∈ os, 0 < o.d) (hp : ∀ o ∈ os, 0 ≤ o.price) : ∀ (m : Nat), 0 < m → ∀ o ∈ os, cost os m ≤ cost os (m - o.d) + o.price := by
  induction os with
  | nil => intro m _ o h; simp at h
  | cons a os ih =>
    intro m
    induction m using Nat.strongRecOn with
    | ind m ihm =>
      intro hm o ho
      have hda := hd a (by simp)
      rcases List.mem_cons.1 ho with rfl | ho'
      · rw [cost_cons hm hda]; exact Int.min_le_right _ _
      · have h1 := ih (fun o h => hd o (by simp [h])) (fun o h => hp o (by simp [h])) m hm o ho'
        rw [cost_cons hm hda]
        by_cases hz : m - o.d = 0
        · rw [hz, cost_zero]
          rw [hz, cost_zero] at h1
          exact Int.le_trans (Int.min_le_left _ _) h1
        · rw [cost_cons (m := m - o.d) (by omega) hda]
          rcases Int.le_total (cost os (m - o.d)) (cost (a :: os) (m - o.d - a.d) + a.price) with h | h
          · rw [Int.min_eq_left h]
            exact Int.le_trans (Int.min_le_left _ _) h1
          · rw [Int.min_eq_right h]
            have hdo := hd o ho
            by_cases hz2 : m - a.d = 0
            · have : m - o.d - a.d = 0 := by omega
              rw [this, cost_zero]
              have h2 := Int.min_le_right (cost os m) (cost (a :: os) (m - a.d) + a.price)
              rw [hz2, cost_zero] at h2
              rw [hz2, cost_zero]
              have h4 := hp o ho
              omega
            · have h3 := ihm (m - a.d) (by omega) (by omega) o ho
              rw [show m - a.d - o.d = m - o.d - a.d by omega] at h3
              have h2 := Int.min_le_right (cost os m) (cost (a :: os) (m - a.d) + a.price)
              omega
theorem cost_nonneg {os : List Offer} (hp : ∀ o ∈ os, 0 ≤ o.price) : ∀ m, 0 ≤ cost os m := by
  induction os with
  | nil => intro m; unfold cost inf; split <;> omega
  | cons a os ih =>
    intro m
    induction m using Nat.strongRecOn with
    | ind m ihm =>
      have h1 := ih (fun o h => hp o (by simp [h])) m
      have h2 := hp a (by simp)
      by_cases hm : m = 0
      · subst hm; rw [cost_zero]; omega
      · by_cases hd : a.d = 0
        · rw [cost, dif_pos (.inr hd), if_neg hm]; exact h1
        · have h3 := ihm (m - a.d) (by omega)
          rw [cost_cons (by omega) (by omega)]
          omega
/-- with an offer that has more than one way, a price is found -/
theorem cost_bound {a : Offer} {os : List Offer} (hd : 0 < a.d) (h0 : 0 ≤ a.price) (hp : a.price ≤ 1000000) : ∀ m : Nat, cost (a :: os) m ≤ 1000000 * m := by
  intro m
  induction m using Nat.strongRecOn with
  | ind m ihm =>
    by_cases hm : m = 0
    · subst hm; rw [cost_zero]; omega
    · have h3 := ihm (m - a.d) (by omega)
      rw [cost_cons (by omega) hd]
      have : ((m - a.d : Nat) : Int) ≤ (m : Int) - 1 := by omega
      omega
/-- it is attained by one of the offers -/
theorem cost_hit {os : List Offer} (hd : ∀ o ∈ os, 0 < o.d) (hp : ∀ o ∈ os, 0 ≤ o.price ∧ o.price ≤ 1000000) (hne : os ≠ []) : ∀ m : Nat, 0 < m → m ≤ 100000 → ∃ o ∈ os, cost os m = cost os (m - o.d) + o.price := by
  induction os with
  | nil => exact absurd rfl hne
  | cons a os ih =>
    intro m hm hM
    have hda := hd a (by simp)
    have hpa := hp a (by simp)
    have he := cost_cons (os := os) hm hda
    rcases Int.le_total (cost (a :: os) (m - a.d) + a.price) (cost os m) with h | h
    · exact ⟨a, by simp, by rw [he, Int.min_eq_right h]⟩
    · rw [Int.min_eq_left h] at he
      by_cases hos : os = []
      · subst hos
        have h1 := cost_bound (os := []) hda hpa.1 hpa.2 (m - a.d)
        rw [cost_nil hm] at h
        unfold inf at h
        omega
      · obtain ⟨o, ho, h2⟩ := ih (fun o h => hd o (by simp [h])) (fun o h => hp o (by simp [h])) hos m hm hM
        refine ⟨o, by simp [ho], ?_⟩
        have h3 := cost_le hd (fun o h => (hp o h).1) m hm o (by simp [ho])
        have h4 : cost (a :: os) (m - o.d) ≤ cost os (m - o.d) := by
          by_cases hz : m - o.d = 0
          · rw [hz, cost_zero, cost_zero]; omega
          · rw [cost_cons (by omega) hda]; exact Int.min_le_left _ _
        omega
/-- how many of the first offer are taken -/
def taken (o : Offer) (os : List Offer) (m : Nat) : Nat := if cost os m = cost (o :: os) m then 0 else if h : m = 0 ∨ o.d = 0 then 0 else taken o os (m - o.d) + 1
termination_by m
decreasing_by omega
theorem taken_spec (o : Offer) (os : List Offer) (hd : 0 < o.d) : ∀ m : Nat,
    cost os (m - taken o os m * o.d) + taken o os m * o.price = cost (o :: os) m ∧ ∀ j : Nat, j < taken o os m → cost os (m - j * o.d) + j * o.price ≠ cost (o :: os) m := by
  intro m
  induction m using Nat.strongRecOn with
  | ind m ihm =>
    by_cases he : cost os m = cost (o :: os) m
    · have h0 : taken o os m = 0 := by rw [taken, if_pos he]
      rw [h0]
      exact ⟨by simp [he], fun j hj => by omega⟩
    · have hm : 0 < m := by
        rcases Nat.eq_zero_or_pos m with h | h
        · subst h; rw [cost_zero, cost_zero] at he; exact absurd rfl he
        · exact h
      have h0 : taken o os m = taken o os (m - o.d) + 1 := by rw [taken, if_neg he, dif_neg (by omega)]
      have hc := cost_cons (os := os) hm hd
      have hc2 : cost (o :: os) m = cost (o :: os) (m - o.d) + o.price := by omega
      obtain ⟨h1, h2⟩ := ihm (m - o.d) (by omega)
      rw [h0]
      generalize taken o os (m - o.d) = n at *
      have e1 : ∀ k : Nat, m - (k + 1) * o.d = m - o.d - k * o.d := fun k => by rw [Nat.succ_mul]; omega
      have e2 : ∀ k : Nat, ((k + 1 : Nat) : Int) * o.price = k * o.price + o.price := fun k => by push_cast; rw [Int.add_mul, Int.one_mul]
      refine ⟨by rw [e1, e2]; omega, fun j hj => ?_⟩
      rcases j with _ | j
      · simp; exact he
      · rw [e1, e2]
        have := h2 j (by omega)
        omega
end Go.Proofs.YteliiknlpfjlkaaGreatDoor
/- Plain: what is bought; least prices the other way. No program. -/
set_option linter.unusedVariables false
set_option linter.unusedSimpArgs false
namespace Go.Proofs.YteliiknlpfjlkaaGreatDoor

/-- the least price; -1 where none covers -/
def rp (os : List Offer) (m : Nat) : Int := if m = 0 then 0 else if os = [] then -1 else cost os m
/-- one more offer is looked at; the best so far is a, -1 for none -/
def better (f : Nat → Int) (n : Nat) (a : Int) (o : Offer) : Int := if 0 ≤ f (n - o.d) ∧ (a < 0 ∨ f (n - o.d) + o.price < a) then f (n - o.d) + o.price else a
theorem better_spec (f : Nat → Int) (n : Nat) (hf : ∀ m, 0 ≤ f m) (l : List Offer) (hp : ∀ o ∈ l, 0 ≤ o.price) (a : Int) (ha : -1 ≤ a) :
    (l.foldl (better f n) a = a ∨ ∃ o ∈ l, l.foldl (better f n) a = f (n - o.d) + o.price) ∧ (∀ o ∈ l, l.foldl (better f n) a ≤ f (n - o.d) + o.price) ∧ (0 ≤ a → l.foldl (better f n) a ≤ a) ∧ (l ≠ [] ∨ 0 ≤ a → 0 ≤ l.foldl (better f n) a) := by
  induction l generalizing a with
  | nil => simp
  | cons x l ih =>
    have hx := hp x (by simp)
    have hfx := hf (n - x.d)
    have hb : better f n a x = if a < 0 ∨ f (n - x.d) + x.price < a then f (n - x.d) + x.price else a := by unfold better; simp [hfx]
    have hb0 : 0 ≤ better f n a x := by rw [hb]; split <;> omega
    have hb1 : better f n a x ≤ f (n - x.d) + x.price := by rw [hb]; split <;> omega
    have hb2 : 0 ≤ a → better f n a x ≤ a := fun h => by rw [hb]; split <;> omega
    obtain ⟨h1, h2, h3, h4⟩ := ih (fun o h => hp o (by simp [h])) (better f n a x) (by omega)
    rw [List.foldl_cons]
    refine ⟨?_, ?_, fun h => ?_, fun _ => h4 (.inr hb0)⟩
    · rcases h1 with h1 | ⟨o, ho, h1⟩
      · rw [h1, hb]
        split
        · exact .inr ⟨x, by simp, rfl⟩
        · exact .inl rfl
      · exact .inr ⟨o, by simp [ho], h1⟩
    · intro o ho
      rcases List.mem_cons.1 ho with rfl | ho
      · have := h3 hb0; omega
      · exact h2 o ho
    · have := h3 hb0; have := hb2 h; omega
/-- offers that can be bought -/
def BuyOk (os : List Offer) : Prop := ∀ o ∈ os, 0 < o.d ∧ 1 ≤ o.price ∧ o.price ≤ 1000000
theorem BuyOk.tail {o : Offer} {os : List Offer} (h : BuyOk (o :: os)) : BuyOk os := fun x hx => h x (by simp [hx])
theorem BuyOk.drop {os : List Offer} (h : BuyOk os) (k : Nat) : BuyOk (os.drop k) := fun x hx => h x (List.mem_of_mem_drop hx)
theorem rp_round {os : List Offer} (h : BuyOk os) {n : Nat} (hn : 0 < n) (hn2 : n ≤ 100000) : os.foldl (better (fun m => cost os m) n) (-1) = rp os n := by
  unfold rp
  rw [if_neg (by omega)]
  by_cases he : os = []
  · subst he; simp
  · rw [if_neg he]
    have hd := fun o ho => (h o ho).1
    have hp : ∀ o ∈ os, 0 ≤ o.price := fun o ho => by have := (h o ho).2.1; omega
    obtain ⟨h1, h2, _, h4⟩ := better_spec (fun m => cost os m) n (cost_nonneg hp) os hp (-1) (by omega)
    obtain ⟨o, ho, h5⟩ := cost_hit hd (fun o ho => ⟨hp o ho, (h o ho).2.2⟩) he n hn hn2
    have h6 := h2 o ho
    have h7 := h4 (.inl he)
    rcases h1 with h1 | ⟨o2, ho2, h1⟩
    · omega
    · have h8 := cost_le hd hp n hn o2 ho2
      omega
theorem rp_cost {os : List Offer} {m : Nat} (h : os ≠ []) : rp os m = cost os m := by
  unfold rp
  by_cases hm : m = 0
  · subst hm; rw [if_pos rfl, cost_zero]
  · rw [if_neg hm, if_neg h]
theorem cost_top {os : List Offer} (h : BuyOk os) (hne : os ≠ []) (m : Nat) : 0 ≤ cost os m ∧ cost os m ≤ 1000000 * m := by
  refine ⟨cost_nonneg (fun o ho => by have := (h o ho).2.1; omega) m, ?_⟩
  cases os with
  | nil => exact absurd rfl hne
  | cons a os =>
    have h1 := h a (by simp)
    exact cost_bound h1.1 (by omega) h1.2.2 m
theorem foldl_better {os : List Offer} (f : Nat → Int) (n : Nat) (a : Int) (k : Nat) (h : k < os.length) : (os.take (k + 1)).foldl (better f n) a = better f n ((os.take k).foldl (better f n) a) os[k] := by
  rw [List.take_succ_eq_append_getElem h, List.foldl_append]; rfl
theorem rp_nil (m : Nat) : rp [] m = if m = 0 then 0 else -1 := by unfold rp; simp
/-- what is bought of each offer -/
def counts : List Offer → Nat → List Int
  | [], _ => []
  | o :: os, m => (taken o os m : Int) :: counts os (m - taken o os m * o.d)
theorem counts_len (os : List Offer) : ∀ m, (counts os m).length = os.length := by
  induction os with
  | nil => intro m; rfl
  | cons o os ih => intro m; simp [counts, ih]
def boughtL (os : List Offer) (m : Nat) : List Int := if os = [] then [] else counts os m
def boughtS (os : List Offer) (m : Nat) : Int := if os = [] then 0 else cost os m
def boughtB (os : List Offer) (m : Nat) : Bool := decide (os ≠ [] ∨ m = 0)
theorem taken_le (o : Offer) (os : List Offer) (hd : 0 < o.d) : ∀ m : Nat, taken o os m ≤ m := by
  intro m
  induction m using Nat.strongRecOn with
  | ind m ihm =>
    rw [taken]
    split
    · omega
    · split
      · omega
      · have := ihm (m - o.d) (by omega); omega
theorem taken_stop {o : Offer} {os : List Offer} {m : Nat} (h : cost os m = cost (o :: os) m) : taken o os m = 0 := by rw [taken, if_pos h]
theorem taken_more {o : Offer} {os : List Offer} {m : Nat} (hd : 0 < o.d) (h : cost os m ≠ cost (o :: os) m) : 0 < m ∧ taken o os m = taken o os (m - o.d) + 1 := by
  have hm : 0 < m := by
    rcases Nat.eq_zero_or_pos m with h0 | h0
    · subst h0; rw [cost_zero, cost_zero] at h; exact absurd rfl h
    · exact h0
  exact ⟨hm, by rw [taken, if_neg h, dif_neg (by omega)]⟩
theorem ways_range {n : Int} (h : waysB n = true) : 2 ≤ n ∧ n ≤ 128 := by
  unfold waysB at h
  have := dbl_cases n (by simpa using h)
  omega
/-- the offers' error, plain -/
theorem buyOk_of {os : List Offer} {n : Int} (h : offersFault os n = 0) : os.length ≤ 8 ∧ BuyOk os ∧ (∀ o ∈ os, 2 ≤ o.ways ∧ o.ways ≤ 128) ∧ 0 ≤ n ∧ n ≤ 2000 := by
  unfold offersFault at h
  split at h
  · omega
  split at h
  · rename_i h1 h2
    have h3 : ∀ o ∈ os, offerFault o = 0 := fun o ho => (firstF_zero.1 h2) _ (List.mem_map_of_mem ho)
    have h4 : ∀ o ∈ os, (2 ≤ o.ways ∧ o.ways ≤ 128) ∧ 1 ≤ o.price ∧ o.price ≤ 1000000 := by
      intro o ho
      have := h3 o ho
      unfold offerFault at this
      split at this
      · rename_i hw
        split at this
        · omega
        · rename_i hp
          have hp' := outB_false.1 (by simpa using hp)
          exact ⟨ways_range hw, hp'⟩
      · omega
    have h5 : outB n 0 2000 = false := by
      cases hn : outB n 0 2000
      · rfl
      · rw [hn] at h; simp at h
    have h6 := outB_false.1 h5
    refine ⟨by omega, fun o ho => ?_, fun o ho => (h4 o ho).1, h6.1, h6.2⟩
    have := h4 o ho
    unfold Offer.d
    omega
  · rename_i h1 h2; exact absurd h h2
end Go.Proofs.YteliiknlpfjlkaaGreatDoor
/- Walk: the reference's prices. -/
set_option linter.unusedVariables false
set_option linter.unusedSimpArgs false
namespace Go.Proofs.YteliiknlpfjlkaaGreatDoor
open Go Go.RowKit

theorem infoIntB : (Tryz.prog.info? 3).map (fun i => (i.zero, i.size, i.bytes)) = some (some (.int .i64 0), 1, 8) := by kernel_rfl
theorem made_zeroB (c : Nat) : (madeCells (Value.int .i64 0).cells (c * 1)).toList = (List.replicate c (0 : Int)).map (Value.int .i64) := by
  rw [Nat.mul_one]
  apply List.ext_getElem
  · simp [madeCells]
  · intro i h1 h2
    simp [madeCells, Value.cells, Nat.mod_one]
theorem grown_belowB {a b : World} (h : a.grownBy b none) : Below a.heap.size a b := ⟨h.os, h.tape, h.output, h.size, fun k hk => h.block k hk (by simp)⟩
theorem row_int {w : World} {g : Nat} {L : List Int} (h : Row intCells 1 w g L) {k : Nat} (hk : k < L.length) : w.cell? ⟨g, k, none⟩ = some (.int .i64 L[k]) := by
  have := h.1 k hk 0 _ rfl
  simpa using this
theorem row_setI {w : World} {g : Nat} {L : List Int} (h : Row intCells 1 w g L) {k : Nat} (hk : k < L.length) (x : Int) : Row intCells 1 (w.setCell ⟨g, k, none⟩ (.int .i64 x)) g (L.set k x) := by
  have := Row.set (cells := intCells) (sz := 1) (fun _ => rfl) h k hk x
  rw [Nat.mul_one] at this
  exact this
/-- max 0 (n - ways + 1) -/
theorem less_d {o : Offer} (h : 2 ≤ o.ways) (n : Nat) : max 0 ((n : Int) - o.ways + 1) = ((n - o.d : Nat) : Int) := by
  unfold Offer.d; omega

end Go.Proofs.YteliiknlpfjlkaaGreatDoor
/- Walk: the reference's Bought. -/
set_option linter.unusedVariables false
set_option linter.unusedSimpArgs false
namespace Go.Proofs.YteliiknlpfjlkaaGreatDoor
open Go Go.RowKit

theorem Arr.dropAt {α : Type} {cells : α → List Value} {sz : Nat} {w : World} {l : List α} {b off n cap : Nat} (h : Arr cells sz w l (.slice (some ⟨b, off, none⟩) n cap)) (k : Nat) (hk : k ≤ l.length) : Arr cells sz w (l.drop k) (.slice (some ⟨b, off + k * sz, none⟩) (n - k) (cap - k)) := by
  obtain ⟨a, c, he, h2, h3, h4⟩ := h
  simp only [Value.slice.injEq] at he
  obtain ⟨rfl, rfl, rfl⟩ := he
  refine ⟨_, _, by rw [List.length_drop], by rw [List.length_drop]; omega, by omega, fun j hj => ?_⟩
  rw [List.length_drop] at hj
  obtain ⟨b', off', ha, hb, hcc⟩ := h4 (k + j) (by omega)
  simp only [Option.some.injEq, Addr.mk.injEq, and_true] at ha
  obtain ⟨rfl, rfl⟩ := ha
  refine ⟨b, _, rfl, hb, fun i u hu => ?_⟩
  rw [List.getElem_drop] at hu
  have := hcc i u hu
  rw [Nat.add_mul] at this
  rw [show off + k * sz + j * sz + i = off + (k * sz + j * sz) + i by omega]
  exact this
theorem counts_drop (os : List Offer) (k : Nat) (hk : k < os.length) (m : Nat) : counts (os.drop k) m = (taken os[k] (os.drop (k + 1)) m : Int) :: counts (os.drop (k + 1)) (m - taken os[k] (os.drop (k + 1)) m * os[k].d) := by
  rw [List.drop_eq_getElem_cons hk]; rfl

theorem boughtL_eq (os : List Offer) (m : Nat) : boughtL os m = counts os m := by
  unfold boughtL
  split
  · rename_i h; rw [h]; rfl
  · rfl
theorem rp_get {os : List Offer} {m j : Nat} (hj : j ≤ m) : ((List.range (m + 1)).map (rp os))[j]'(by simp; omega) = rp os j := by rw [List.getElem_map, List.getElem_range]
/-- where the reference stops -/
theorem rp_stop {o : Offer} {os : List Offer} (h : BuyOk (o :: os)) {l : Nat} (hl : l ≤ 2000) (j : Nat) (hj : j ≤ taken o os l) :
    (j < taken o os l → rp os (l - j * o.d) < 0 ∨ (0 ≤ rp os (l - j * o.d) ∧ rp os (l - j * o.d) + j * o.price ≠ cost (o :: os) l)) ∧
    (j = taken o os l → 0 ≤ rp os (l - j * o.d) ∧ rp os (l - j * o.d) + j * o.price = cost (o :: os) l ∧ rp os (l - j * o.d) = cost os (l - j * o.d)) := by
  have ho := h o (by simp)
  obtain ⟨h1, h2⟩ := taken_spec o os ho.1 l
  have h3 := cost_top h (by simp) l
  have hjp := Int.mul_nonneg (show (0 : Int) ≤ j by omega) (show 0 ≤ o.price by omega)
  by_cases hn : os = []
  · subst hn
    constructor
    · intro hlt
      rw [rp_nil]
      split
      · rename_i hz
        have := h2 j hlt
        rw [hz, cost_zero] at this
        exact .inr ⟨by omega, by omega⟩
      · exact .inl (by omega)
    · intro he
      subst he
      by_cases hz : l - taken o [] l * o.d = 0
      · rw [hz] at h1 ⊢
        rw [cost_zero] at h1
        rw [rp_nil, if_pos rfl, cost_zero]
        exact ⟨by omega, h1, rfl⟩
      · rw [cost_nil (by omega)] at h1
        unfold inf at h1
        omega
  · rw [rp_cost hn]
    have h4 := cost_top h.tail hn (l - j * o.d)
    exact ⟨fun hlt => .inr ⟨h4.1, h2 j hlt⟩, fun he => by subst he; exact ⟨h4.1, h1, rfl⟩⟩

theorem rp_top {os : List Offer} (h : BuyOk os) (m : Nat) : rp os m ≤ 1000000 * m := by
  by_cases he : os = []
  · subst he; rw [rp_nil]; split <;> omega
  · rw [rp_cost he]; exact (cost_top h he m).2

def BoughtPost (os : List Offer) (m : Nat) (w : World) (e : Ending) (w' : World) : Prop :=
  ∃ v, e = .returned (.tuple #[v, .int .i64 (boughtS os m), .bool (boughtB os m)]) ∧ Arr intCells 1 w' (boughtL os m) v ∧ Below w.heap.size w w'

end Go.Proofs.YteliiknlpfjlkaaGreatDoor
/- The table of least prices in memory: a row of rows, one of which is being written. -/
set_option linter.unusedVariables false
set_option linter.unusedSimpArgs false
namespace Go.Proofs.YteliiknlpfjlkaaGreatDoor
open Go Go.RowKit

theorem int_one (l : List Int) : ∀ u ∈ l.flatMap intCells, u.oneCell' = true := by
  intro u hu
  obtain ⟨c, _, hc⟩ := List.mem_flatMap.1 hu
  simp [intCells] at hc
  rw [hc]; rfl
theorem intCells_len (n : Int) : (intCells n).length = 1 := rfl
def vCells (v : Value) : List Value := [v]
theorem infoIntRow : (Tryz.prog.info? 22).map (fun i => (i.zero, i.size, i.bytes)) = some (some (.slice none 0 0), 1, 24) := by kernel_rfl
theorem made_rows (c : Nat) : (madeCells (Value.slice none 0 0).cells (c * 1)).toList = (List.replicate c (Value.slice none 0 0)).flatMap vCells := by
  rw [Nat.mul_one, show (List.replicate c (Value.slice none 0 0)).flatMap vCells = (List.replicate c (Value.slice none 0 0)).map id from flat_one id _, List.map_id]
  apply List.ext_getElem
  · simp [madeCells]
  · intro i h1 h2
    simp [madeCells, Value.cells, Nat.mod_one]
def costRow (os : List Offer) (m : Nat) : List Int := (List.range (m + 1)).map (cost os)
theorem costRow_len (os : List Offer) (m : Nat) : (costRow os m).length = m + 1 := by simp [costRow]
theorem costRow_get (os : List Offer) (m : Nat) {j : Nat} (h : j ≤ m) : (costRow os m)[j]'(by rw [costRow_len]; omega) = cost os j := by simp [costRow]
theorem row_val {w : World} {g : Nat} {V : List Value} (h : Row vCells 1 w g V) {k : Nat} {v : Value} (hk : V[k]? = some v) : w.cell? ⟨g, k, none⟩ = some v := by
  obtain ⟨hlt, e⟩ := List.getElem?_eq_some_iff.1 hk
  have := h.1 k hlt 0 v (by rw [e]; rfl)
  simpa using this

/-- a row of the table -/
def TRow (w0 : World) (g m : Nat) (V : List Value) (i b cap : Nat) (L : List Int) (W : World) : Prop :=
  V[i]? = some (.slice (some ⟨b, 0, none⟩) (m + 1) cap) ∧ m + 1 ≤ cap ∧ cap ≤ maxLen ∧ w0.heap.size ≤ b ∧ b ≠ g ∧ Row intCells 1 W b L ∧ L.length = m + 1
/-- the table, row k of which is written -/
structure PRow (w0 : World) (os : List Offer) (g m : Nat) (V : List Value) (k b cap : Nat) (L : List Int) (W : World) : Prop where
  bel : Below w0.heap.size w0 W
  gb : w0.heap.size ≤ g
  outer : Row vCells 1 W g V
  vlen : V.length = os.length + 1
  row : TRow w0 g m V k b cap L W
  rest : ∀ i, k < i → i ≤ os.length → ∃ b' cap', b' ≠ b ∧ TRow w0 g m V i b' cap' (costRow (os.drop i) m) W

theorem TRow.below {w0 : World} {g m : Nat} {V : List Value} {i b cap : Nat} {L : List Int} {W W' : World} (h : TRow w0 g m V i b cap L W) (hB : Below W.heap.size W W') : TRow w0 g m V i b cap L W' :=
  ⟨h.1, h.2.1, h.2.2.1, h.2.2.2.1, h.2.2.2.2.1, h.2.2.2.2.2.1.below hB h.2.2.2.2.2.1.2.2, h.2.2.2.2.2.2⟩
theorem TRow.other {w0 : World} {g m : Nat} {V : List Value} {i b cap : Nat} {L : List Int} {W : World} (h : TRow w0 g m V i b cap L W) {c : Nat} (hc : b ≠ c) (o : Nat) (x : Value) : TRow w0 g m V i b cap L (W.setCell ⟨c, o, none⟩ x) :=
  ⟨h.1, h.2.1, h.2.2.1, h.2.2.2.1, h.2.2.2.2.1, h.2.2.2.2.2.1.kept (Below.heap_setCell _ _ _ _ hc) (by simp [World.setCell]), h.2.2.2.2.2.2⟩
theorem TRow.outer {w0 : World} {g m : Nat} {V V' : List Value} {i b cap : Nat} {L : List Int} {W : World} (h : TRow w0 g m V i b cap L W) (hV : V'[i]? = V[i]?) : TRow w0 g m V' i b cap L W :=
  ⟨hV.trans h.1, h.2⟩
theorem PRow.below {w0 : World} {os : List Offer} {g m : Nat} {V : List Value} {k b cap : Nat} {L : List Int} {W W' : World} (h : PRow w0 os g m V k b cap L W) (hB : Below W.heap.size W W') : PRow w0 os g m V k b cap L W' :=
  ⟨below_at h.bel hB h.bel.size, h.gb, h.outer.below hB h.outer.2.2, h.vlen, h.row.below hB, fun i h1 h2 => by obtain ⟨b', c', h3, h4⟩ := h.rest i h1 h2; exact ⟨b', c', h3, h4.below hB⟩⟩
/-- an element of row k is written -/
theorem PRow.set {w0 : World} {os : List Offer} {g m : Nat} {V : List Value} {k b cap : Nat} {L : List Int} {W : World} (h : PRow w0 os g m V k b cap L W) {n : Nat} (hn : n ≤ m) (x : Int) : PRow w0 os g m V k b cap (L.set n x) (W.setCell ⟨b, n, none⟩ (.int .i64 x)) := by
  obtain ⟨h1, h2, h3, h4, h5, h6, h7⟩ := h.row
  refine ⟨Below.setCell h.bel (by simpa using h4) _, h.gb, h.outer.kept (Below.heap_setCell _ _ _ _ (Ne.symm h5)) (by simp [World.setCell]), h.vlen, ⟨h1, h2, h3, h4, h5, row_setI h6 (by omega) x, by simpa using h7⟩, fun i hi1 hi2 => ?_⟩
  obtain ⟨b', c', h8, h9⟩ := h.rest i hi1 hi2
  exact ⟨b', c', h8, h9.other h8 _ _⟩
/-- a new row is put ahead -/
theorem PRow.next {w0 : World} {os : List Offer} {g m : Nat} {V : List Value} {k b cap : Nat} {W W2 : World} (h : PRow w0 os g m V (k + 1) b cap (costRow (os.drop (k + 1)) m) W) (hk : k < os.length) {b2 cap2 : Nat} {L : List Int} (hB : Below W.heap.size W W2) (hb : W.heap.size ≤ b2) (hr : Row intCells 1 W2 b2 L) (hL : L.length = m + 1) (hc : m + 1 ≤ cap2) (hc2 : cap2 ≤ maxLen) :
    PRow w0 os g m (V.set k (.slice (some ⟨b2, 0, none⟩) (m + 1) cap2)) k b2 cap2 L (W2.setCell ⟨g, k, none⟩ (.slice (some ⟨b2, 0, none⟩) (m + 1) cap2)) := by
  have hg := h.outer.2.2
  have hgl := h.vlen
  have hw := h.bel.size
  have h2 := h.below hB
  have hb0 : b2 ≠ g := by omega
  have hset := Row.set (cells := vCells) (sz := 1) (fun _ => rfl) h2.outer k (by omega) (.slice (some ⟨b2, 0, none⟩) (m + 1) cap2)
  rw [Nat.mul_one] at hset
  refine ⟨Below.setCell h2.bel (by simpa using h.gb) _, h.gb, hset, by simpa using h.vlen, ⟨by rw [List.getElem?_set_self (by omega)], hc, hc2, by omega, hb0, hr.kept (Below.heap_setCell _ _ _ _ hb0) (by simp [World.setCell]), hL⟩, fun i h3 h4 => ?_⟩
  have hv : (V.set k (.slice (some ⟨b2, 0, none⟩) (m + 1) cap2))[i]? = V[i]? := List.getElem?_set_ne (by omega)
  by_cases hi : i = k + 1
  · subst hi
    have h5 := h.row.2.2.2.2.2.1.2.2
    exact ⟨b, cap, by omega, (h2.row.other (by have := h.row.2.2.2.2.1; exact this) _ _).outer hv⟩
  · obtain ⟨b', c', h5, h6⟩ := h.rest i (by omega) h4
    obtain ⟨b'', c'', h7, h8⟩ := h2.rest i (by omega) h4
    have h9 := h6.2.2.2.2.2.1.2.2
    refine ⟨b', c', by omega, ((h6.below hB).other h6.2.2.2.2.1 _ _).outer hv⟩
theorem PRow.get {w0 : World} {os : List Offer} {g m : Nat} {V : List Value} {b cap : Nat} {W : World} (h : PRow w0 os g m V 0 b cap (costRow (os.drop 0) m) W) (i : Nat) (hi : i ≤ os.length) : ∃ b' cap', TRow w0 g m V i b' cap' (costRow (os.drop i) m) W := by
  rcases i with _ | i
  · exact ⟨b, cap, h.row⟩
  · obtain ⟨b', c', _, h2⟩ := h.rest (i + 1) (by omega) hi
    exact ⟨b', c', h2⟩
theorem results_tmp4 {fn : Func} {t u v x : Tmp} (h : fn.results = #[.tmp t, .tmp u, .tmp v, .tmp x]) (tmps : Array Value) (P : Program) (w : World) :
    (results fn tmps).run P w = .ok (.tuple #[tmps.getD t undef, tmps.getD u undef, tmps.getD v undef, tmps.getD x undef]) w := by
  simp [results, h]
/-- the loop that counts: at j of them the two prices are the same just at the end -/
theorem taken_shift {o : Offer} {os : List Offer} (hd : 0 < o.d) (l : Nat) : ∀ j : Nat, j ≤ taken o os l → taken o os (l - j * o.d) = taken o os l - j := by
  intro j
  induction j with
  | zero => intro _; simp
  | succ j ih =>
    intro h
    have h1 := ih (by omega)
    have hne : cost os (l - j * o.d) ≠ cost (o :: os) (l - j * o.d) := by
      intro e
      have := taken_stop e
      omega
    obtain ⟨h2, h3⟩ := taken_more hd hne
    rw [Nat.succ_mul, show l - (j * o.d + o.d) = l - j * o.d - o.d by omega]
    omega
theorem taken_same {o : Offer} {os : List Offer} (hd : 0 < o.d) (l j : Nat) (hj : j ≤ taken o os l) : (cost os (l - j * o.d) = cost (o :: os) (l - j * o.d)) ↔ j = taken o os l := by
  have h1 := taken_shift hd l j hj
  constructor
  · intro e
    have := taken_stop e
    omega
  · intro e
    refine Classical.byContradiction fun hne => ?_
    have := (taken_more hd hne).2
    omega
end Go.Proofs.YteliiknlpfjlkaaGreatDoor
/- Walk: tree.Buy. -/
set_option linter.unusedVariables false
set_option linter.unusedSimpArgs false
namespace Go.Proofs.YteliiknlpfjlkaaGreatDoor
open Go Go.RowKit

def needN (n : Int) : Nat := (n - 1).toNat
def BuyPost (os : List Offer) (n : Int) (w : World) (e : Ending) (w' : World) : Prop :=
  ∃ v, e = .returned (.tuple #[v, .int .i64 (if offersFault os n = 0 then boughtS os (needN n) else 0), .bool (decide (offersFault os n = 0 ∧ boughtB os (needN n) = true)), .int .i64 (offersFault os n)]) ∧
    Arr intCells 1 w' (if offersFault os n = 0 then boughtL os (needN n) else []) v ∧ Below w.heap.size w w'

end Go.Proofs.YteliiknlpfjlkaaGreatDoor
