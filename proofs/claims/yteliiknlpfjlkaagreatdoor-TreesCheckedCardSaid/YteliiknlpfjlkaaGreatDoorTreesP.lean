/- Texts of one subject in one: PlainU, PlainV, PlainR, PlainM, PlainN, PlainD, PlainE; what each shows stands at its head. No condition. -/
import Derived.Test.YteliiknlpfjlkaaGreatDoorPlainT
/- Plain: chains of splitters from one up to the office. No program. -/
set_option linter.unusedVariables false
set_option linter.unusedSimpArgs false
namespace Go.Proofs.YteliiknlpfjlkaaGreatDoor

/-- the splitters from one up to the office, at most n -/
def upC (l : List Splt) : Nat → ByteArray → List Splt
  | 0, _ => []
  | n + 1, k => if k.size = 0 then [] else match getS l k with
    | none => []
    | some s => s :: upC l n s.par
/-- the way up ends within n splitters -/
def endsB (l : List Splt) : Nat → ByteArray → Bool
  | 0, k => decide (k.size = 0)
  | n + 1, k => decide (k.size = 0) || (match getS l k with | none => false | some s => endsB l n s.par)
theorem upC_empty (l : List Splt) (n : Nat) {k : ByteArray} (h : k.size = 0) : upC l n k = [] := by
  cases n
  · rfl
  · rw [upC, if_pos h]
theorem upC_cons {l : List Splt} {n : Nat} {k : ByteArray} {s : Splt} (h : k.size ≠ 0) (hg : getS l k = some s) : upC l (n + 1) k = s :: upC l n s.par := by
  rw [upC, if_neg h, hg]
theorem upC_len (l : List Splt) : ∀ n k, (upC l n k).length ≤ n
  | 0, _ => by simp [upC]
  | n + 1, k => by
    rw [upC]
    split
    · simp
    · split
      · simp
      · have := upC_len l n
        rename_i s _
        have := this s.par
        simp; omega
theorem endsB_cases {l : List Splt} {n : Nat} {k : ByteArray} (h : endsB l n k = true) : k.size = 0 ∨ ∃ s m, n = m + 1 ∧ k.size ≠ 0 ∧ getS l k = some s ∧ endsB l m s.par = true := by
  by_cases hk : k.size = 0
  · exact .inl hk
  · right
    cases n with
    | zero => simp [endsB, hk] at h
    | succ n =>
      simp only [endsB, hk, decide_false, Bool.false_or] at h
      cases hg : getS l k with
      | none => rw [hg] at h; cases h
      | some s => rw [hg] at h; exact ⟨s, n, rfl, hk, rfl, h⟩
theorem endsB_of {l : List Splt} {n : Nat} {k : ByteArray} {s : Splt} (hg : getS l k = some s) (h : endsB l n s.par = true) : endsB l (n + 1) k = true := by
  simp only [endsB, hg, h, Bool.or_true]
theorem endsB_more {l : List Splt} : ∀ {n : Nat} {k : ByteArray}, endsB l n k = true → ∀ j, endsB l (n + j) k = true ∧ upC l (n + j) k = upC l n k := by
  intro n
  induction n with
  | zero =>
    intro k h j
    have hk : k.size = 0 := by simpa [endsB] using h
    refine ⟨?_, by rw [upC_empty l _ hk, upC_empty l _ hk]⟩
    cases j <;> simp [endsB, hk]
  | succ n ih =>
    intro k h j
    rcases endsB_cases h with hk | ⟨s, m, hm, hk, hg, he⟩
    · refine ⟨?_, by rw [upC_empty l _ hk, upC_empty l _ hk]⟩
      rw [show n + 1 + j = (n + j) + 1 by omega]
      simp [endsB, hk]
    · obtain rfl : n = m := by omega
      obtain ⟨h1, h2⟩ := ih he j
      rw [show n + 1 + j = (n + j) + 1 by omega]
      exact ⟨endsB_of hg h1, by rw [upC_cons hk hg, upC_cons hk hg, h2]⟩
theorem upC_two {l : List Splt} {n m : Nat} {k : ByteArray} (h1 : endsB l n k = true) (h2 : endsB l m k = true) : upC l n k = upC l m k := by
  have a := (endsB_more h1 m).2
  have b := (endsB_more h2 n).2
  rw [← a, ← b, Nat.add_comm]
theorem upN_succ' (l : List Splt) : ∀ n s, upN l (n + 1) s = upN l n (upS l s)
  | 0, _ => rfl
  | n + 1, s => by
    show upS l (upN l (n + 1) s) = upS l (upN l n (upS l s))
    rw [upN_succ' l n s]
theorem ends_of_up {l : List Splt} (hp : ParOk l) : ∀ n (s : Splt), s ∈ l → (upN l n s).par.size = 0 → endsB l n s.par = true := by
  intro n
  induction n with
  | zero => intro s _ h; simpa [endsB, upN] using h
  | succ n ih =>
    intro s hs h
    by_cases hk : s.par.size = 0
    · simp [endsB, hk]
    · obtain ⟨x, hx, hg⟩ := hp s hs hk
      rw [upN_succ'] at h
      have hu : upS l s = x := by unfold upS; rw [if_neg hk, hg]; rfl
      rw [hu] at h
      exact endsB_of hg (ih x hx h)
theorem up_of_ends {l : List Splt} : ∀ n (s : Splt), endsB l n s.par = true → (upN l n s).par.size = 0 := by
  intro n
  induction n with
  | zero => intro s h; have h' : s.par.size = 0 := by simpa [endsB] using h
            exact h'
  | succ n ih =>
    intro s h
    rcases endsB_cases h with hk | ⟨x, m, hm, hk, hg, he⟩
    · have := upN_stay (l := l) (s := s) (k := 0) hk (n + 1)
      rw [Nat.zero_add] at this
      rw [this]; exact hk
    · obtain rfl : n = m := by omega
      rw [upN_succ']
      have hu : upS l s = x := by unfold upS; rw [if_neg hk, hg]; rfl
      rw [hu]; exact ih x he
/-- the elements of a way up are found by their keys; behind each the way goes on -/
theorem upC_at {l : List Splt} : ∀ {n : Nat} {k : ByteArray}, endsB l n k = true → ∀ i (hi : i < (upC l n k).length), ∃ m, m + i + 1 = n ∧ getS l (upC l n k)[i].key = some (upC l n k)[i] ∧ (upC l n k)[i].key.size ≠ 0 ∧ endsB l (m + 1) (upC l n k)[i].key = true ∧ (upC l n k).drop i = upC l (m + 1) (upC l n k)[i].key := by
  intro n
  induction n with
  | zero => intro k h i hi; simp [upC] at hi
  | succ n ih =>
    intro k h i hi
    rcases endsB_cases h with hk | ⟨s, m, hm, hk, hg, he⟩
    · rw [upC_empty l _ hk] at hi; simp at hi
    · obtain rfl : n = m := by omega
      have hkey : s.key = k := by
        rcases findS_get l k with ⟨_, h2⟩ | ⟨j, hj, _, h2, h3⟩
        · rw [h2] at hg; cases hg
        · rw [h2] at hg; cases hg; exact h3
      have hc := upC_cons (n := n) hk hg
      simp only [hc] at hi ⊢
      cases i with
      | zero =>
        simp only [List.getElem_cons_zero, List.drop_zero]
        rw [hkey]
        exact ⟨n, rfl, hg, hk, h, hc.symm⟩
      | succ i =>
        obtain ⟨q, h1, h2, h3, h4, h5⟩ := ih he i (by simpa using hi)
        simp only [List.getElem_cons_succ, List.drop_succ_cons]
        exact ⟨q, by omega, h2, h3, h4, h5⟩
theorem upC_nodup {l : List Splt} {n : Nat} {k : ByteArray} (h : endsB l n k = true) : ((upC l n k).map (·.key)).Nodup := by
  unfold List.Nodup
  rw [List.pairwise_iff_getElem]
  intro i j hi hj hij e
  rw [List.length_map] at hi hj
  simp only [List.getElem_map] at e
  obtain ⟨m1, a1, _, _, a4, a5⟩ := upC_at h i hi
  obtain ⟨m2, b1, _, _, b4, b5⟩ := upC_at h j hj
  rw [← e] at b4 b5
  rw [upC_two b4 a4] at b5
  have := congrArg List.length (a5.trans b5.symm)
  simp only [List.length_drop] at this
  omega
theorem upC_mem {l : List Splt} {n : Nat} {k : ByteArray} (h : endsB l n k = true) : ∀ s ∈ upC l n k, s ∈ l := by
  intro s hs
  obtain ⟨i, hi, rfl⟩ := List.mem_iff_getElem.1 hs
  obtain ⟨m, _, h2, _⟩ := upC_at h i hi
  unfold getS at h2
  exact List.mem_of_find?_eq_some h2
theorem nodup_le {α : Type} [DecidableEq α] : ∀ (a b : List α), a.Nodup → (∀ x ∈ a, x ∈ b) → a.length ≤ b.length
  | [], _, _, _ => by simp
  | x :: a, b, hn, hs => by
    have hn' := List.nodup_cons.1 hn
    have hx := hs x (by simp)
    have ih := nodup_le a (b.erase x) hn'.2 (fun y hy => (List.mem_erase_of_ne (fun e => hn'.1 (by rw [← e]; exact hy))).2 (hs y (by simp [hy])))
    rw [List.length_erase_of_mem hx] at ih
    have : 0 < b.length := List.length_pos_of_mem hx
    simp; omega
theorem upC_le {l : List Splt} {n : Nat} {k : ByteArray} (h : endsB l n k = true) : (upC l n k).length ≤ l.length := by
  have := nodup_le ((upC l n k).map (·.key)) (l.map (·.key)) (upC_nodup h) (fun x hx => by
    obtain ⟨s, hs, rfl⟩ := List.mem_map.1 hx
    exact List.mem_map_of_mem (upC_mem h s hs))
  simpa using this
/-- what ends at all, ends within as many steps as there are elements on the way -/
theorem endsB_len {l : List Splt} : ∀ {n : Nat} {k : ByteArray}, endsB l n k = true → endsB l (upC l n k).length k = true := by
  intro n
  induction n with
  | zero => intro k h; have hk : k.size = 0 := by simpa [endsB] using h
            simp [upC, endsB, hk]
  | succ n ih =>
    intro k h
    rcases endsB_cases h with hk | ⟨s, m, hm, hk, hg, he⟩
    · rw [upC_empty l _ hk]; simp [endsB, hk]
    · obtain rfl : n = m := by omega
      rw [upC_cons hk hg, List.length_cons]
      exact endsB_of hg (ih he)

/-- a tree that is right: the way up from each splitter ends -/
theorem TOk.ends {l : List Splt} {d : List Drp} (h : TOk l d) {k : ByteArray} {s : Splt} (hg : getS l k = some s) : endsB l l.length k = true := by
  have hs : s ∈ l := by unfold getS at hg; exact List.mem_of_find?_eq_some hg
  have h1 : loopAt l s = false := by
    have := h.lp
    rw [List.any_eq_false] at this
    simpa using this s hs
  unfold loopAt at h1
  have h2 : (upN l l.length s).par.size = 0 := by simpa using h1
  have h3 := endsB_of hg (ends_of_up (parOk_of h.par) _ s hs h2)
  have h4 := endsB_len h3
  have h5 := upC_le h3
  have := (endsB_more h4 (l.length - (upC l (l.length + 1) k).length)).1
  rwa [Nat.add_sub_cancel' h5] at this
/-- the splitters from the office to one -/
def chainV (l : List Splt) (k : ByteArray) : List Splt := (upC l l.length k).reverse
theorem getS_key {l : List Splt} {k : ByteArray} {s : Splt} (hg : getS l k = some s) : s.key = k ∧ s ∈ l := by
  rcases findS_get l k with ⟨_, h2⟩ | ⟨j, hj, _, h2, h3⟩
  · rw [h2] at hg; cases hg
  · rw [h2] at hg; cases hg; exact ⟨h3, List.getElem_mem _⟩

/-- the product of ways -/
def ratioF : List Splt → Int → Int × Int
  | [], n => (n, 0)
  | s :: r, n => if 1000000000 < n * s.ways then (0, 12) else ratioF r (n * s.ways)
def powS (c : List Splt) : Int := (c.map fun s => dbl s.ways).sum
theorem dbl_pow {n : Int} (h : 1 ≤ dbl n) : n = 2 ^ (dbl n).toNat := by
  rcases dbl_cases n h with rfl | rfl | rfl | rfl | rfl | rfl | rfl <;> decide
theorem powS_nonneg {c : List Splt} (h : ∀ s ∈ c, waysB s.ways = true) : 0 ≤ powS c ∧ powS c ≤ 7 * c.length := by
  induction c with
  | nil => simp [powS]
  | cons s c ih =>
    have h1 := ih (fun x hx => h x (by simp [hx]))
    have h2 := h s (by simp)
    have h3 := dbl_le s.ways
    unfold waysB at h2
    have h4 : 1 ≤ dbl s.ways := by simpa using h2
    have h5 : powS (s :: c) = dbl s.ways + powS c := by simp [powS]
    rw [h5, List.length_cons]
    push_cast
    omega
theorem ratioF_pow : ∀ (c : List Splt) (a : Nat), a ≤ 29 → (∀ s ∈ c, waysB s.ways = true) → ratioF c (2 ^ a) = if 29 < a + powS c then (0, 12) else (2 ^ (a + (powS c).toNat), 0) := by
  intro c
  induction c with
  | nil =>
    intro a ha _
    have : powS [] = 0 := rfl
    rw [this, ratioF, if_neg (by omega)]; rfl
  | cons s c ih =>
    intro a ha h
    have h2 := h s (by simp)
    unfold waysB at h2
    have h4 : 1 ≤ dbl s.ways := by simpa using h2
    obtain ⟨b, hb⟩ := Int.eq_ofNat_of_zero_le (show 0 ≤ dbl s.ways by omega)
    have h6 := dbl_pow h4
    have h7 := dbl_le s.ways
    have h5 : powS (s :: c) = dbl s.ways + powS c := by simp [powS]
    obtain ⟨p1, p2⟩ := powS_nonneg (c := c) (fun x hx => h x (by simp [hx]))
    have hm : (2 : Int) ^ a * s.ways = 2 ^ (a + b) := by
      rw [h6, hb, Int.toNat_natCast]
      exact (Int.pow_add ..).symm
    rw [ratioF, hm, h5, hb]
    by_cases hc : a + b ≤ 29
    · have hle : (2 : Int) ^ (a + b) ≤ 1000000000 := by
        have h8 : 2 ^ (a + b) ≤ 2 ^ 29 := Nat.pow_le_pow_right (by omega) hc
        have h9 : ((2 : Int) ^ (a + b)) = ((2 ^ (a + b) : Nat) : Int) := by push_cast; rfl
        rw [h9]
        have : (2 : Nat) ^ 29 = 536870912 := by decide
        omega
      rw [if_neg (by omega), ih (a + b) hc (fun x hx => h x (by simp [hx]))]
      have e1 : ((a + b : Nat) : Int) + powS c = (a : Int) + ((b : Int) + powS c) := by push_cast; omega
      rw [e1]
      have e2 : a + b + (powS c).toNat = a + ((b : Int) + powS c).toNat := by omega
      rw [e2]
    · have hgt : 1000000000 < (2 : Int) ^ (a + b) := by
        have h8 : 2 ^ 30 ≤ 2 ^ (a + b) := Nat.pow_le_pow_right (by omega) (by omega)
        have h9 : ((2 : Int) ^ (a + b)) = ((2 ^ (a + b) : Nat) : Int) := by push_cast; rfl
        rw [h9]
        have : (2 : Nat) ^ 30 = 1073741824 := by decide
        omega
      rw [if_pos hgt, if_pos (by omega)]
def ratioV (l : List Splt) (k : ByteArray) : Int × Int := ratioF (chainV l k) 1
theorem ratioV_pow {l : List Splt} {d : List Drp} (h : TOk l d) {k : ByteArray} {s : Splt} (hg : getS l k = some s) : ratioV l k = if 29 < powS (chainV l k) then (0, 12) else (2 ^ (powS (chainV l k)).toNat, 0) := by
  have hw : ∀ x ∈ chainV l k, waysB x.ways = true := fun x hx => by
    unfold chainV at hx
    exact (h.s.keys x (upC_mem (h.ends hg) x (List.mem_reverse.1 hx))).2
  have := ratioF_pow (chainV l k) 0 (by omega) hw
  simp only [Nat.zero_add, Int.pow_zero] at this
  unfold ratioV
  rw [this]
  simp

/-- the free ports of a splitter -/
def freeL (l : List Splt) (d : List Drp) (s : Splt) : List Int := ((List.range s.ways.toNat).filter fun (i : Nat) => decide ((atPort l d (s.key, (i : Int) + 1)).size = 0)).map fun (i : Nat) => (i : Int) + 1
def freeN (l : List Splt) (d : List Drp) (s : Splt) : Nat := (freeL l d s).length
def freeV (l : List Splt) (d : List Drp) : List (ByteArray × Nat) := (l.filter fun s => decide (0 < freeN l d s)).map fun s => (s.key, freeN l d s)
def freeSum (l : List Splt) (d : List Drp) : Int := (l.map fun s => (freeN l d s : Int)).sum
/-- the customers at a splitter or below it -/
def isUp (l : List Splt) (k : ByteArray) (x : Drp) : Bool := (upC l l.length x.spl).any fun s => decide (s.key = k)
def belowL (l : List Splt) (d : List Drp) (k : ByteArray) : List ByteArray := (d.filter (isUp l k)).map (·.cust)
def idleL (l : List Splt) (d : List Drp) : List ByteArray := (l.filter fun s => (belowL l d s.key).isEmpty).map (·.key)
end Go.Proofs.YteliiknlpfjlkaaGreatDoor
/- Plain: what stands at the ports of a splitter, laid into a row port by port; it is what the map says. No program. -/
set_option linter.unusedVariables false
set_option linter.unusedSimpArgs false
namespace Go.Proofs.YteliiknlpfjlkaaGreatDoor

theorem foldl_keep {α β : Type} (c : α → Bool) (g : α → β) : ∀ (l : List α) (a : β), (∀ x ∈ l, c x = false) → l.foldl (fun m x => if c x = true then g x else m) a = a
  | [], _, _ => rfl
  | x :: l, a, h => by
    rw [List.foldl_cons, h x (by simp), if_neg (by decide)]
    exact foldl_keep c g l a (fun y hy => h y (by simp [hy]))
theorem foldl_same {α β : Type} (c c' : α → Bool) (g : α → β) : ∀ (l : List α) (a : β), (∀ x ∈ l, c x = c' x) → l.foldl (fun m x => if c x = true then g x else m) a = l.foldl (fun m x => if c' x = true then g x else m) a
  | [], _, _ => rfl
  | x :: l, a, h => by
    rw [List.foldl_cons, List.foldl_cons, h x (by simp)]
    exact foldl_same c c' g l _ (fun y hy => h y (by simp [hy]))
theorem foldl_some {α β : Type} (c : α → Bool) (g : α → β) (z : β) : ∀ (l : List α) (a : Option β), (l.foldl (fun m x => if c x = true then some (g x) else m) a).getD z = l.foldl (fun m x => if c x = true then g x else m) (a.getD z)
  | [], _ => rfl
  | x :: l, a => by
    rw [List.foldl_cons, List.foldl_cons, foldl_some c g z l]
    congr 1
    by_cases h : c x = true
    · rw [if_pos h, if_pos h]; rfl
    · rw [if_neg h, if_neg h]
/-- stores into a row, read at one place -/
theorem foldl_set {α β : Type} (c : α → Bool) (f : α → Nat) (g : α → β) (i : Nat) (z : β) : ∀ (l : List α) (o : List β), i < o.length →
    (l.foldl (fun o x => if c x = true then o.set (f x) (g x) else o) o).getD i z = l.foldl (fun m x => if (c x && decide (f x = i)) = true then g x else m) (o.getD i z)
  | [], _, _ => rfl
  | x :: l, o, h => by
    rw [List.foldl_cons, List.foldl_cons]
    by_cases hc : c x = true
    · rw [if_pos hc, foldl_set c f g i z l _ (by rw [List.length_set]; exact h)]
      congr 1
      by_cases hf : f x = i
      · subst hf
        simp [hc, List.getD_eq_getElem?_getD, h]
      · simp [hc, hf, List.getD_eq_getElem?_getD, List.getElem?_set_ne hf]
    · rw [if_neg hc, foldl_set c f g i z l _ h]
      have : (c x && decide (f x = i)) = false := by simp [hc]
      rw [this]; simp
theorem foldl_set_len {α β : Type} (c : α → Bool) (f : α → Nat) (g : α → β) : ∀ (l : List α) (o : List β), (l.foldl (fun o x => if c x = true then o.set (f x) (g x) else o) o).length = o.length
  | [], _ => rfl
  | x :: l, o => by
    rw [List.foldl_cons, foldl_set_len c f g l]
    split <;> simp

/-- laid from the drops .. -/
def portsD (d : List Drp) (key : ByteArray) (o : List ByteArray) : List ByteArray := d.foldl (fun o x => if decide (x.spl = key) = true then o.set (x.port - 1).toNat x.cust else o) o
/-- .. and from the splitters -/
def portsP (l : List Splt) (key : ByteArray) (o : List ByteArray) : List ByteArray := l.foldl (fun o s => if decide (s.par = key) = true then o.set (s.port - 1).toNat (⟨#[47]⟩ ++ s.key) else o) o
def wayN (l : List Splt) (key : ByteArray) : Nat := ((getS l key).map (·.ways.toNat)).getD 0
def refPorts (l : List Splt) (d : List Drp) (key : ByteArray) : List ByteArray := portsP l key (portsD d key (List.replicate (wayN l key) ⟨#[]⟩))
theorem TOk.apart {l : List Splt} {d : List Drp} (h : TOk l d) {x : Drp} (hx : x ∈ d) : seenP l l.length (x.spl, x.port) = false := by
  have h0 := h.dr
  unfold dropsF at h0
  split at h0
  · omega
  · split at h0
    · rename_i h1; exact absurd h0 h1
    · split at h0
      · omega
      · rename_i h2
        obtain ⟨k, hk, rfl⟩ := List.mem_iff_getElem.1 hx
        have h3 : twiceD l d d.length = false := by simpa using h2
        unfold twiceD at h3
        rw [List.any_eq_false] at h3
        have h4 := h3 k (by simpa using hk)
        rw [dupD_in l d k hk] at h4
        unfold seenD at h4
        cases hs : seenP l l.length (d[k].spl, d[k].port)
        · rfl
        · rw [hs] at h4; simp at h4
theorem refPorts_eq {l : List Splt} {d : List Drp} (h : TOk l d) {key : ByteArray} {s : Splt} (hg : getS l key = some s) : refPorts l d key = portsV l d key := by
  obtain ⟨g1, g2, g3, g4⟩ := h.s.get hg
  have hks : key.size ≠ 0 := by
    have := keyB_size (h.s.keys s g4).1
    rw [(getS_key hg).1] at this
    omega
  have hn : wayN l key = s.ways.toNat := by unfold wayN; rw [hg]; rfl
  have hl1 : (refPorts l d key).length = s.ways.toNat := by
    unfold refPorts portsP portsD
    rw [foldl_set_len, foldl_set_len, List.length_replicate, hn]
  have hl2 : (portsV l d key).length = s.ways.toNat := by unfold portsV; rw [hg]; simp
  refine List.ext_getElem (hl1.trans hl2.symm) (fun i h1 h2 => ?_)
  have hi : i < s.ways.toNat := by omega
  have e1 : (refPorts l d key)[i] = (refPorts l d key).getD i ⟨#[]⟩ := by rw [List.getD_eq_getElem?_getD, List.getElem?_eq_getElem h1]; rfl
  have e2 : (portsV l d key)[i] = atPort l d (key, (i : Int) + 1) := by
    simp only [portsV, List.getElem_map, List.getElem_range]
  rw [e1, e2]
  unfold refPorts portsP
  rw [foldl_set (fun s : Splt => decide (s.par = key)) (fun s => (s.port - 1).toNat) (fun s => ⟨#[47]⟩ ++ s.key) i ⟨#[]⟩ l _ (by unfold portsD; rw [foldl_set_len, List.length_replicate, hn]; exact hi)]
  unfold portsD
  rw [foldl_set (fun x : Drp => decide (x.spl = key)) (fun x => (x.port - 1).toNat) (fun x => x.cust) i ⟨#[]⟩ d _ (by rw [List.length_replicate, hn]; exact hi)]
  have e3 : (List.replicate (wayN l key) (⟨#[]⟩ : ByteArray)).getD i ⟨#[]⟩ = ⟨#[]⟩ := by
    rw [List.getD_eq_getElem?_getD, List.getElem?_replicate]; split <;> rfl
  rw [e3]
  unfold atPort takenV takenS
  rw [List.take_length, List.take_length]
  have e4 : d.foldl (fun m x => if (x.spl, x.port) = (key, (i : Int) + 1) then some x.cust else m) (l.foldl (fun m s => if s.par.size ≠ 0 ∧ (s.par, s.port) = (key, (i : Int) + 1) then some (⟨#[47]⟩ ++ s.key) else m) none)
      = d.foldl (fun m x => if decide ((x.spl, x.port) = (key, (i : Int) + 1)) = true then some x.cust else m) (l.foldl (fun m s => if decide (s.par.size ≠ 0 ∧ (s.par, s.port) = (key, (i : Int) + 1)) = true then some (⟨#[47]⟩ ++ s.key) else m) none) := by
    simp only [decide_eq_true_eq]
  rw [e4, foldl_some, foldl_some]
  have hD : ∀ x ∈ d, (decide (x.spl = key) && decide ((x.port - 1).toNat = i)) = decide ((x.spl, x.port) = (key, (i : Int) + 1)) := fun x hx => by
    obtain ⟨k, hk, rfl⟩ := List.mem_iff_getElem.1 hx
    have := h.drop hk
    rw [← Bool.decide_and]
    apply decide_eq_decide.2
    rw [Prod.mk.injEq]
    constructor
    · rintro ⟨a, b⟩; exact ⟨a, by omega⟩
    · rintro ⟨a, b⟩; exact ⟨a, by omega⟩
  have hS : ∀ x ∈ l, (decide (x.par = key) && decide ((x.port - 1).toNat = i)) = decide (x.par.size ≠ 0 ∧ (x.par, x.port) = (key, (i : Int) + 1)) := fun x hx => by
    rw [← Bool.decide_and]
    apply decide_eq_decide.2
    rw [Prod.mk.injEq]
    constructor
    · rintro ⟨a, b⟩
      have hp : x.par.size ≠ 0 := by rw [a]; exact hks
      have := h.s.par h.par hx hp
      exact ⟨hp, a, by omega⟩
    · rintro ⟨_, a, b⟩
      have hp : x.par.size ≠ 0 := by rw [a]; exact hks
      have := h.s.par h.par hx hp
      exact ⟨a, by omega⟩
  rw [foldl_same _ _ _ d _ hD, foldl_same _ _ _ l _ hS]
  by_cases hx : ∃ x ∈ d, (x.spl, x.port) = (key, (i : Int) + 1)
  · obtain ⟨x, hx, he⟩ := hx
    have ha := h.apart hx
    rw [he] at ha
    unfold seenP at ha
    rw [List.take_length, List.any_eq_false] at ha
    have hno : ∀ y ∈ l, decide (y.par.size ≠ 0 ∧ (y.par, y.port) = (key, (i : Int) + 1)) = false := fun y hy => by
      have := ha y hy
      simpa using this
    rw [foldl_keep _ _ l _ hno, foldl_keep _ _ l _ hno]
    rfl
  · have hno : ∀ y ∈ d, decide ((y.spl, y.port) = (key, (i : Int) + 1)) = false := fun y hy => by
      have := fun e => hx ⟨y, hy, e⟩
      simpa using this
    rw [foldl_keep _ _ d _ hno, foldl_keep _ _ d _ hno]
    rfl
/-- how many strings are empty -/
def emptyN (o : List ByteArray) : Nat := (o.filter fun b => decide (b.size = 0)).length
theorem emptyN_ports {l : List Splt} {d : List Drp} {s : Splt} (hg : getS l s.key = some s) : emptyN (portsV l d s.key) = freeN l d s := by
  unfold emptyN portsV freeN freeL
  rw [hg, List.filter_map, List.length_map, List.length_map]
  rfl
end Go.Proofs.YteliiknlpfjlkaaGreatDoor
/- Plain: the reference's test of trees is the program's. No program. -/
set_option linter.unusedVariables false
set_option linter.unusedSimpArgs false
namespace Go.Proofs.YteliiknlpfjlkaaGreatDoor

def eSplt : Splt := ⟨⟨#[]⟩, 0, ⟨#[]⟩, 0⟩
def upR (l : List Splt) (s : Splt) : Splt := (getS l s.par).getD eSplt
def upRN (l : List Splt) : Nat → Splt → Splt
  | 0, s => s
  | n + 1, s => upR l (upRN l n s)
theorem upRN_succ' (l : List Splt) : ∀ n s, upRN l (n + 1) s = upRN l n (upR l s)
  | 0, _ => rfl
  | n + 1, s => by
    show upR l (upRN l (n + 1) s) = upR l (upRN l n (upR l s))
    rw [upRN_succ' l n s]
def rloopAt (l : List Splt) (s : Splt) : Bool := decide ((upRN l l.length s).key.size ≠ 0)
theorem SOk.none {l : List Splt} (h : SOk l) {k : ByteArray} (hk : k.size = 0) : getS l k = none := by
  rcases findS_get l k with ⟨_, h2⟩ | ⟨j, hj, _, h2, h3⟩
  · exact h2
  · have := keyB_size (h.keys _ (List.getElem_mem hj)).1
    rw [h3] at this; omega
theorem upRN_empty {l : List Splt} (h : SOk l) : ∀ n, upRN l n eSplt = eSplt
  | 0 => rfl
  | n + 1 => by
    show upR l (upRN l n eSplt) = eSplt
    rw [upRN_empty h n]
    unfold upR
    rw [h.none (k := eSplt.par) rfl]; rfl
theorem upRN_ends {l : List Splt} (h : SOk l) (hp : ParOk l) : ∀ n (s : Splt), s ∈ l → ((upRN l n s).key.size = 0 ↔ ∃ m, m + 1 = n ∧ endsB l m s.par = true) := by
  intro n
  induction n with
  | zero =>
    intro s hs
    have := keyB_size (h.keys s hs).1
    constructor
    · intro h0
      have h0' : s.key.size = 0 := h0
      omega
    · rintro ⟨m, hm, _⟩; omega
  | succ n ih =>
    intro s hs
    rw [upRN_succ']
    by_cases hk : s.par.size = 0
    · have hu : upR l s = eSplt := by unfold upR; rw [h.none hk]; rfl
      rw [hu, upRN_empty h]
      constructor
      · intro _
        refine ⟨n, rfl, ?_⟩
        cases n <;> simp [endsB, hk]
      · intro _; rfl
    · obtain ⟨x, hx, hg⟩ := hp s hs hk
      have hu : upR l s = x := by unfold upR; rw [hg]; rfl
      rw [hu, ih x hx]
      constructor
      · rintro ⟨m, rfl, he⟩; exact ⟨m + 1, rfl, endsB_of hg he⟩
      · rintro ⟨m, hm, he⟩
        obtain rfl : m = n := by omega
        rcases endsB_cases he with h0 | ⟨y, q, hq, _, hg', he'⟩
        · exact absurd h0 hk
        · rw [hg] at hg'; cases hg'
          exact ⟨q, by omega, he'⟩
theorem rloop_eq {l : List Splt} (h : SOk l) (hp : ParOk l) {s : Splt} (hs : s ∈ l) (hgs : getS l s.key = some s) : rloopAt l s = loopAt l s := by
  have h1 := upRN_ends h hp l.length s hs
  have hpos : 0 < l.length := List.length_pos_of_mem hs
  have hk := keyB_size (h.keys s hs).1
  unfold rloopAt loopAt
  apply decide_eq_decide.2
  apply not_congr
  rw [h1]
  constructor
  · rintro ⟨m, hm, he⟩
    refine up_of_ends _ s ?_
    have := (endsB_more he 1).1
    rwa [hm] at this
  · intro h0
    have h2 := ends_of_up hp _ s hs h0
    have h3 := endsB_of hgs h2
    have h4 := endsB_len h3
    have h5 := upC_le h3
    have h6 := (endsB_more h4 (l.length - (upC l (l.length + 1) s.key).length)).1
    rw [Nat.add_sub_cancel' h5] at h6
    rcases endsB_cases h6 with h7 | ⟨y, q, hq, _, hg', he'⟩
    · omega
    · rw [hgs] at hg'; cases hg'
      exact ⟨q, by omega, he'⟩
theorem getS_own {l : List Splt} (h : SOk l) {s : Splt} (hs : s ∈ l) : getS l s.key = some s := by
  rcases findS_get l s.key with ⟨h1, _⟩ | ⟨j, hj, _, h2, h3⟩
  · unfold findS at h1
    have h4 : l.any (fun x => decide (x.key = s.key)) = true := List.any_eq_true.2 ⟨s, hs, by simp⟩
    have := (idxF_nonneg (fun x => decide (x.key = s.key)) l).2 h4
    omega
  · rw [h2]
    obtain ⟨i, hi, rfl⟩ := List.mem_iff_getElem.1 hs
    have hr := h.rise
    unfold Rising at hr
    rw [List.pairwise_map, List.pairwise_iff_getElem] at hr
    rcases Nat.lt_trichotomy i j with h5 | h5 | h5
    · have := hr i j hi hj h5
      rw [h3, lessB_irrefl] at this; cases this
    · subst h5; rfl
    · have := hr j i hj hi h5
      rw [h3, lessB_irrefl] at this; cases this

def rdupAt (l : List Splt) (k : Nat) : Bool := match l[k]? with | some s => decide (s.par.size ≠ 0) && (l.take k).any (fun x => decide (x.par = s.par) && decide (x.port = s.port)) | none => false
theorem rdupAt_eq (l : List Splt) (k : Nat) : rdupAt l k = dupAt l k := by
  unfold rdupAt dupAt seenP
  cases l[k]? with
  | none => rfl
  | some s =>
    simp only
    by_cases hp : s.par.size = 0
    · simp [hp]
    · congr 1
      congr 1
      funext x
      by_cases h1 : x.par = s.par
      · rw [h1]; simp [hp]
      · simp [h1]
/-- the reference's test of splitters -/
def rsplF (l : List Splt) : Int := if 500 < l.length then 2 else if faultAt (spltFault l) l.length ≠ 0 then faultAt (spltFault l) l.length else if faultAt (parFault l) l.length ≠ 0 then faultAt (parFault l) l.length else if (List.range l.length).any (rdupAt l) then 6 else if l.any (rloopAt l) then 14 else 0
def rdupD (l : List Splt) (d : List Drp) (k : Nat) : Bool := match d[k]? with | some x => (d.take k).any (fun y => decide (y.spl = x.spl) && decide (y.port = x.port)) || l.any (fun s => decide (s.par = x.spl) && decide (s.port = x.port)) | none => false
def rdropsF (l : List Splt) (d : List Drp) : Int := if 5000 < d.length then 2 else if faultAt (dropFault l d) d.length ≠ 0 then faultAt (dropFault l d) d.length else if (List.range d.length).any (rdupD l d) then 6 else 0
def rtreeF (l : List Splt) (d : List Drp) : Int := if rsplF l ≠ 0 then rsplF l else rdropsF l d
theorem any_same {α : Type} {p q : α → Bool} : ∀ {l : List α}, (∀ x ∈ l, p x = q x) → l.any p = l.any q
  | [], _ => rfl
  | x :: l, h => by rw [List.any_cons, List.any_cons, h x (by simp), any_same (fun y hy => h y (by simp [hy]))]
theorem rsplF_eq (l : List Splt) : rsplF l = if spltsFault l ≠ 0 then spltsFault l else parentsF l := by
  unfold rsplF spltsFault parentsF
  by_cases h1 : 500 < l.length
  · simp [h1]
  · by_cases h2 : faultAt (spltFault l) l.length = 0
    · by_cases h3 : faultAt (parFault l) l.length = 0
      · have h4 : (List.range l.length).any (rdupAt l) = twiceB l l.length := by
          unfold twiceB; exact any_same (fun k _ => rdupAt_eq l k)
        have hs := sok_of (by omega) h2
        have h5 : l.any (rloopAt l) = l.any (loopAt l) := any_same (fun s hs' => rloop_eq hs (parOk_of h3) hs' (getS_own hs hs'))
        rw [h4, h5, h2, h3]
        simp only [if_neg h1, ne_eq, not_true_eq_false, if_false]
      · rw [h2]
        simp only [if_neg h1, ne_eq, not_true_eq_false, if_false, if_pos h3]
    · simp only [if_neg h1, ne_eq]
      rw [if_pos h2, if_pos h2]
theorem rdropsF_eq {l : List Splt} (h : SOk l) (d : List Drp) : rdropsF l d = dropsF l d := by
  unfold rdropsF dropsF
  by_cases h1 : 5000 < d.length
  · rw [if_pos h1, if_pos h1]
  · rw [if_neg h1, if_neg h1]
    by_cases h2 : faultAt (dropFault l d) d.length = 0
    · rw [h2]
      simp only [ne_eq, not_true_eq_false, if_false]
      have h3 : (List.range d.length).any (rdupD l d) = twiceD l d d.length := by
        unfold twiceD
        refine any_same (fun k hk => ?_)
        have hk' : k < d.length := by simpa using hk
        unfold rdupD dupD seenD seenP
        rw [List.getElem?_eq_getElem hk']
        simp only
        have h4 := faultAt_zero.1 h2 k hk'
        unfold dropFault at h4
        rw [List.getElem?_eq_getElem hk'] at h4
        simp only at h4
        have hne : d[k].spl.size ≠ 0 := by
          intro e
          rw [h.none e] at h4
          split at h4 <;> simp at h4
        rw [Bool.or_comm, List.take_length]
        congr 1
        · refine any_same (fun s _ => ?_)
          by_cases e : s.par = d[k].spl
          · simp [e, hne]
          · simp [e]
        · refine any_same (fun y _ => ?_)
          by_cases e : y.spl = d[k].spl
          · simp [e]
          · simp [e]
      rw [h3]
    · rw [if_pos h2, if_pos h2]
theorem rtreeF_eq (l : List Splt) (d : List Drp) : rtreeF l d = treeF l d := by
  unfold rtreeF treeF
  rw [rsplF_eq]
  by_cases h1 : spltsFault l = 0
  · rw [if_neg (show ¬ spltsFault l ≠ 0 by omega), if_neg (show ¬ spltsFault l ≠ 0 by omega)]
    by_cases h2 : parentsF l = 0
    · rw [h2]
      simp only [ne_eq, not_true_eq_false, if_false]
      unfold spltsFault at h1
      split at h1
      · omega
      · exact rdropsF_eq (sok_of (by omega) h1) d
    · rw [if_pos h2, if_pos h2]
  · rw [if_pos h1, if_pos h1, if_pos h1]
end Go.Proofs.YteliiknlpfjlkaaGreatDoor
/- Plain: a splitter is put at another port. No program. -/
set_option linter.unusedVariables false
set_option linter.unusedSimpArgs false
namespace Go.Proofs.YteliiknlpfjlkaaGreatDoor

def movedS (s : Splt) (par : ByteArray) (port : Int) : Splt := ⟨s.key, s.ways, par, port⟩
def moveL (l : List Splt) (key par : ByteArray) (port : Int) : List Splt := l.set (findS l key).toNat (movedS (l.getD (findS l key).toNat default) par port)
def moveF (l : List Splt) (d : List Drp) (key par : ByteArray) (port : Int) : Int := if splitterF l d key ≠ 0 then splitterF l d key else treeF (moveL l key par port) d
theorem splitterF_zero {l : List Splt} {d : List Drp} {key : ByteArray} (h : splitterF l d key = 0) : treeF l d = 0 ∧ ∃ j, ∃ hj : j < l.length, findS l key = j ∧ getS l key = some l[j] ∧ l[j].key = key := by
  unfold splitterF at h
  split at h
  · rename_i h1; exact absurd h h1
  · rename_i h1
    refine ⟨by omega, ?_⟩
    rcases findS_get l key with ⟨_, hn⟩ | ⟨j, hj, h2, h3, h4⟩
    · rw [hn] at h; simp at h
    · exact ⟨j, hj, h2, h3, h4⟩
theorem moveL_at {l : List Splt} {key par : ByteArray} {port : Int} {j : Nat} (hj : j < l.length) (hf : findS l key = j) : moveL l key par port = l.set j (movedS l[j] par port) := by
  unfold moveL
  rw [hf, Int.toNat_natCast, List.getD_eq_getElem?_getD, List.getElem?_eq_getElem hj]; rfl
theorem moveL_len (l : List Splt) (key par : ByteArray) (port : Int) : (moveL l key par port).length = l.length := by unfold moveL; simp
/-- keys and ways stay -/
theorem findS_set {l : List Splt} {j : Nat} (hj : j < l.length) {y : Splt} (hk : y.key = l[j].key) (k : ByteArray) : findS (l.set j y) k = findS l k := by
  unfold findS
  have : ∀ (l : List Splt) (j : Nat) (hj : j < l.length), y.key = l[j].key → idxF (fun s : Splt => decide (s.key = k)) (l.set j y) = idxF (fun s : Splt => decide (s.key = k)) l := by
    intro l
    induction l with
    | nil => intro j hj; simp at hj
    | cons x l ih =>
      intro j hj hk
      cases j with
      | zero =>
        simp only [List.getElem_cons_zero] at hk
        simp only [List.set_cons_zero, idxF, hk]
      | succ j =>
        have := ih j (by simpa using hj) (by simpa using hk)
        simp only [List.set_cons_succ, idxF, this]
  exact this l j hj hk
theorem getS_set {l : List Splt} {j : Nat} (hj : j < l.length) {y : Splt} (hk : y.key = l[j].key) (k : ByteArray) (hr : Rising (l.map (·.key))) : getS (l.set j y) k = if k = y.key then some y else getS l k := by
  have h1 := findS_set hj hk k
  rcases findS_get l k with ⟨h2, h3⟩ | ⟨i, hi, h2, h3, h4⟩
  · rcases findS_get (l.set j y) k with ⟨h5, h6⟩ | ⟨i', hi', h5, h6, h7⟩
    · rw [h6, h3]
      have hne : k ≠ y.key := by
        intro e
        have : l.any (fun s => decide (s.key = k)) = true := List.any_eq_true.2 ⟨l[j], List.getElem_mem _, by rw [e, hk]; simp⟩
        have h8 := (idxF_nonneg (fun s : Splt => decide (s.key = k)) l).2 this
        unfold findS at h2; omega
      rw [if_neg hne]
    · omega
  · rcases findS_get (l.set j y) k with ⟨h5, h6⟩ | ⟨i', hi', h5, h6, h7⟩
    · omega
    · obtain rfl : i' = i := by omega
      rw [h6, h3]
      by_cases hij : j = i'
      · subst hij
        rw [List.getElem_set_self] at h7 ⊢
        rw [if_pos h7.symm]
      · rw [List.getElem_set_ne hij] at h7 ⊢
        have hne : k ≠ y.key := by
          intro e
          unfold Rising at hr
          rw [List.pairwise_map, List.pairwise_iff_getElem] at hr
          have h8 : l[i'].key = l[j].key := by rw [h4, e, hk]
          rcases Nat.lt_or_gt_of_ne hij with h9 | h9
          · have := hr j i' hj hi h9
            rw [h8, lessB_irrefl] at this; cases this
          · have := hr i' j hi hj h9
            rw [h8, lessB_irrefl] at this; cases this
        rw [if_neg hne]
end Go.Proofs.YteliiknlpfjlkaaGreatDoor
/- Plain: a splitter cannot be put below itself; one that is put away and back leaves the tree as it was. No program. -/
set_option linter.unusedVariables false
set_option linter.unusedSimpArgs false
namespace Go.Proofs.YteliiknlpfjlkaaGreatDoor

theorem foldl_pick {α β : Type} (c : α → Bool) (g : α → β) : ∀ (l : List α) (a : β), (l.foldl (fun m x => if c x = true then g x else m) a = a ∧ ∀ x ∈ l, c x = false) ∨ ∃ x ∈ l, c x = true ∧ l.foldl (fun m x => if c x = true then g x else m) a = g x
  | [], a => .inl ⟨rfl, by simp⟩
  | x :: l, a => by
    rw [List.foldl_cons]
    rcases foldl_pick c g l (if c x = true then g x else a) with ⟨h1, h2⟩ | ⟨y, hy, hc, he⟩
    · cases hx : c x
      · refine .inl ⟨by rw [hx] at h1; simpa using h1, fun y hy => ?_⟩
        rcases List.mem_cons.1 hy with rfl | hy
        · exact hx
        · exact h2 y hy
      · exact .inr ⟨x, by simp, hx, by rw [hx] at h1; simpa using h1⟩
    · exact .inr ⟨y, by simp [hy], hc, he⟩
/-- at a free port there is no splitter -/
theorem free_port {l : List Splt} {d : List Drp} (ok : TOk l d) {q : PortK} (h : (atPort l d q).size = 0) : ∀ s ∈ l, ¬ (s.par.size ≠ 0 ∧ (s.par, s.port) = q) := by
  intro s hs hq
  unfold atPort takenV takenS at h
  rw [List.take_length, List.take_length] at h
  have e4 : d.foldl (fun m x => if (x.spl, x.port) = q then some x.cust else m) (l.foldl (fun m s => if s.par.size ≠ 0 ∧ (s.par, s.port) = q then some (⟨#[47]⟩ ++ s.key) else m) none)
      = d.foldl (fun m x => if decide ((x.spl, x.port) = q) = true then some x.cust else m) (l.foldl (fun m s => if decide (s.par.size ≠ 0 ∧ (s.par, s.port) = q) = true then some (⟨#[47]⟩ ++ s.key) else m) none) := by
    simp only [decide_eq_true_eq]
  rw [e4, foldl_some, foldl_some] at h
  rcases foldl_pick (fun x : Drp => decide ((x.spl, x.port) = q)) (fun x => x.cust) d (l.foldl (fun (m : ByteArray) (s : Splt) => if decide (s.par.size ≠ 0 ∧ (s.par, s.port) = q) = true then ((⟨#[47]⟩ : ByteArray) ++ s.key) else m) ((none : Option ByteArray).getD ⟨#[]⟩)) with ⟨h1, _⟩ | ⟨x, hx, _, he⟩
  · rw [h1] at h
    rcases foldl_pick (fun s : Splt => decide (s.par.size ≠ 0 ∧ (s.par, s.port) = q)) (fun s => (⟨#[47]⟩ ++ s.key : ByteArray)) l ((none : Option ByteArray).getD ⟨#[]⟩) with ⟨_, h2⟩ | ⟨y, hy, _, he⟩
    · have := h2 s hs
      rw [decide_eq_false_iff_not] at this
      exact this hq
    · rw [he, ByteArray.size_append] at h
      have : (⟨#[47]⟩ : ByteArray).size = 1 := rfl
      omega
  · rw [he] at h
    obtain ⟨k, hk, rfl⟩ := List.mem_iff_getElem.1 hx
    have := ok.drop hk
    omega

section
variable {l : List Splt} {d : List Drp} {j : Nat} {y : Splt}

theorem set_rise (hj : j < l.length) (hk : y.key = l[j].key) : (l.set j y).map (·.key) = l.map (·.key) := by
  rw [List.map_set]
  refine List.ext_getElem (by simp) (fun i h1 h2 => ?_)
  by_cases hij : j = i
  · subst hij; rw [List.getElem_set_self, List.getElem_map, hk]
  · rw [List.getElem_set_ne hij]
theorem set_getD (hj : j < l.length) (hk : y.key = l[j].key) (i : Nat) (hi : i < l.length) : ((l.set j y)[i]?.getD default).key = (l[i]?.getD default).key := by
  rw [List.getElem?_eq_getElem (show i < (l.set j y).length by simpa using hi), List.getElem?_eq_getElem hi]
  simp only [Option.getD_some]
  by_cases hij : j = i
  · subst hij; rw [List.getElem_set_self, hk]
  · rw [List.getElem_set_ne hij]
/-- the splitters themselves stay right -/
theorem set_splts (hj : j < l.length) (hk : y.key = l[j].key) (hw : y.ways = l[j].ways) (hy : ¬ (y.par.size = 0 ∧ y.port ≠ 0)) (h : spltsFault l = 0) : spltsFault (l.set j y) = 0 := by
  unfold spltsFault at h ⊢
  rw [List.length_set]
  split at h
  · omega
  · rename_i hb
    rw [if_neg hb]
    refine faultAt_zero.2 (fun i hi => ?_)
    have h1 := faultAt_zero.1 h i hi
    have hi' : i < (l.set j y).length := by simpa using hi
    rw [spltFault_in hi] at h1
    rw [spltFault_in hi']
    have e1 : ((l.set j y)[i - 1]?.getD default).key = (l[i - 1]?.getD default).key := set_getD hj hk (i - 1) (by omega)
    rw [e1]
    by_cases hij : j = i
    · subst hij
      rw [List.getElem_set_self, hk, hw, if_neg hy]
      split at h1
      · omega
      · rename_i g1
        rw [if_neg g1]
        split at h1
        · omega
        · rename_i g2
          rw [if_neg g2]
          split at h1
          · omega
          · exact h1
    · rw [List.getElem_set_ne hij]; exact h1
/-- the parents stay right -/
theorem set_par (ok : SOk l) (hj : j < l.length) (hk : y.key = l[j].key) (hw : y.ways = l[j].ways) (h : faultAt (parFault l) l.length = 0) (hy : parFault (l.set j y) j = 0) : faultAt (parFault (l.set j y)) (l.set j y).length = 0 := by
  refine faultAt_zero.2 (fun i hi => ?_)
  by_cases hij : j = i
  · subst hij; exact hy
  · have hi' : i < l.length := by simpa using hi
    have h1 := faultAt_zero.1 h i hi'
    unfold parFault at h1 ⊢
    rw [List.getElem?_set_ne hij]
    rw [List.getElem?_eq_getElem hi'] at h1 ⊢
    simp only at h1 ⊢
    split at h1
    · rename_i g1; rw [if_pos g1]
    · rename_i g1
      rw [if_neg g1, getS_set hj hk _ ok.rise]
      by_cases g2 : l[i].par = y.key
      · have g3 : getS l l[i].par = some l[j] := by
          rw [g2, hk]; exact getS_own ok (List.getElem_mem _)
        rw [g3] at h1
        rw [if_pos g2]
        simp only at h1 ⊢
        rw [hw]; exact h1
      · rw [if_neg g2]; exact h1
/-- no port is taken twice if the new one is free -/
theorem set_seen (hj : j < l.length) (hy : y.par.size ≠ 0 → ∀ s ∈ l, ¬ (s.par.size ≠ 0 ∧ (s.par, s.port) = (y.par, y.port))) (k : Nat) (q : PortK) (hq : q ≠ (y.par, y.port) ∨ y.par.size = 0) (h : seenP (l.set j y) k q = true) : seenP l k q = true := by
  unfold seenP at h ⊢
  obtain ⟨s, hs, h2⟩ := List.any_eq_true.1 h
  obtain ⟨i, hi, rfl⟩ := List.mem_iff_getElem.1 hs
  rw [List.getElem_take] at h2
  have hik : i < k ∧ i < l.length := by rw [List.length_take, List.length_set] at hi; omega
  by_cases hij : j = i
  · subst hij
    rw [List.getElem_set_self] at h2
    simp only [Bool.and_eq_true, decide_eq_true_eq] at h2
    rcases hq with hq | hq
    · exact absurd h2.2.symm hq
    · exact absurd hq h2.1
  · rw [List.getElem_set_ne hij] at h2
    refine List.any_eq_true.2 ⟨l[i], ?_, h2⟩
    refine List.mem_iff_getElem.2 ⟨i, by rw [List.length_take]; omega, by rw [List.getElem_take]⟩
theorem set_seenY (hj : j < l.length) (hy : y.par.size ≠ 0 → ∀ s ∈ l, ¬ (s.par.size ≠ 0 ∧ (s.par, s.port) = (y.par, y.port))) (k : Nat) (hkj : k ≤ j) (hp : y.par.size ≠ 0) : seenP (l.set j y) k (y.par, y.port) = false := by
  cases h : seenP (l.set j y) k (y.par, y.port)
  · rfl
  · exfalso
    unfold seenP at h
    obtain ⟨s, hs, h2⟩ := List.any_eq_true.1 h
    obtain ⟨i, hi, rfl⟩ := List.mem_iff_getElem.1 hs
    rw [List.getElem_take] at h2
    have hik : i < k ∧ i < l.length := by rw [List.length_take, List.length_set] at hi; omega
    rw [List.getElem_set_ne (by omega)] at h2
    simp only [Bool.and_eq_true, decide_eq_true_eq] at h2
    exact hy hp _ (List.getElem_mem hik.2) h2
theorem set_twice (hj : j < l.length) (hy : y.par.size ≠ 0 → ∀ s ∈ l, ¬ (s.par.size ≠ 0 ∧ (s.par, s.port) = (y.par, y.port))) (h : twiceB l l.length = false) : twiceB (l.set j y) (l.set j y).length = false := by
  unfold twiceB at h ⊢
  rw [List.any_eq_false] at h ⊢
  intro i hi
  have hi' : i < l.length := by simpa using hi
  have h1 := h i (by simpa using hi')
  unfold dupAt at h1 ⊢
  by_cases hij : j = i
  · subst hij
    rw [List.getElem?_set_self hi']
    simp only
    by_cases hp : y.par.size = 0
    · simp [hp]
    · rw [set_seenY hj hy _ (Nat.le_refl _) hp]; simp
  · rw [List.getElem?_set_ne hij]
    rw [List.getElem?_eq_getElem hi'] at h1 ⊢
    simp only [Bool.and_eq_true, decide_eq_true_eq, not_and, Bool.not_eq_true] at h1 ⊢
    intro hp
    have h2 := h1 hp
    cases h3 : seenP (l.set j y) i (l[i].par, l[i].port)
    · rfl
    · have hq : (l[i].par, l[i].port) ≠ (y.par, y.port) ∨ y.par.size = 0 := by
        by_cases hyp : y.par.size = 0
        · exact .inr hyp
        · exact .inl (fun e => hy hyp _ (List.getElem_mem hi') ⟨hp, e⟩)
      rw [set_seen hj hy i _ hq h3] at h2; cases h2
/-- the drops stay right if nothing new is put in their way -/
theorem set_drops (ok : SOk l) (hj : j < l.length) (hk : y.key = l[j].key) (hw : y.ways = l[j].ways) (hp : y.par.size = 0) (h : dropsF l d = 0) : dropsF (l.set j y) d = 0 := by
  have hy : y.par.size ≠ 0 → ∀ s ∈ l, ¬ (s.par.size ≠ 0 ∧ (s.par, s.port) = (y.par, y.port)) := fun h => absurd hp h
  have e1 : ∀ k, dropFault (l.set j y) d k = dropFault l d k := by
    intro k
    unfold dropFault
    cases hd : d[k]? with
    | none => rfl
    | some x =>
      simp only
      rw [getS_set hj hk _ ok.rise]
      by_cases g2 : x.spl = y.key
      · have g3 : getS l x.spl = some l[j] := by rw [g2, hk]; exact getS_own ok (List.getElem_mem _)
        rw [g3, if_pos g2]
        simp only
        rw [hw]
      · rw [if_neg g2]
  have e2 : dropFault (l.set j y) d = dropFault l d := funext e1
  have e3 : twiceD l d d.length = false → twiceD (l.set j y) d d.length = false := by
    intro h1
    unfold twiceD at h1 ⊢
    rw [List.any_eq_false] at h1 ⊢
    intro k hk'
    have h2 := h1 k hk'
    have hkd : k < d.length := by simpa using hk'
    rw [dupD_in l d k hkd] at h2
    rw [dupD_in _ d k hkd]
    unfold seenD at h2 ⊢
    simp only [Bool.or_eq_true, not_or, Bool.not_eq_true] at h2 ⊢
    refine ⟨?_, h2.2⟩
    cases h3 : seenP (l.set j y) (l.set j y).length (d[k].spl, d[k].port)
    · rfl
    · have h4 := set_seen hj hy _ _ (.inr hp) h3
      rw [List.length_set] at h4
      rw [h4] at h2; cases h2.1
  unfold dropsF at h ⊢
  rw [e2]
  split at h
  · omega
  · rename_i g1
    rw [if_neg g1]
    split at h
    · rename_i g2; exact absurd h g2
    · rename_i g2
      rw [if_neg g2]
      split at h
      · omega
      · rename_i g3
        rw [if_neg (by rw [e3 (by simpa using g3)]; simp)]
theorem set_ends (ok : SOk l) (hj : j < l.length) (hk : y.key = l[j].key) (hp : y.par.size = 0) : ∀ (m : Nat) (k : ByteArray), endsB l m k = true → endsB (l.set j y) m k = true := by
  intro m
  induction m with
  | zero => intro k h; exact h
  | succ m ih =>
    intro k h
    rcases endsB_cases h with h0 | ⟨s, m', hm, h0, hg, he⟩
    · simp [endsB, h0]
    · obtain rfl : m = m' := by omega
      have hg' := getS_set hj hk k ok.rise
      by_cases hky : k = y.key
      · rw [if_pos hky] at hg'
        refine endsB_of hg' ?_
        cases m <;> simp [endsB, hp]
      · rw [if_neg hky, hg] at hg'
        exact endsB_of hg' (ih _ he)
end

/-- put away -/
theorem away_right {l : List Splt} {d : List Drp} (ok : TOk l d) {j : Nat} (hj : j < l.length) (hs : spltsFault l = 0) : treeF (l.set j (movedS l[j] ⟨#[]⟩ 0)) d = 0 := by
  have hk : (movedS l[j] ⟨#[]⟩ 0).key = l[j].key := rfl
  have hw : (movedS l[j] ⟨#[]⟩ 0).ways = l[j].ways := rfl
  have hp : (movedS l[j] ⟨#[]⟩ 0).par.size = 0 := rfl
  have hq : (movedS l[j] ⟨#[]⟩ 0).port = 0 := rfl
  have h1 := set_splts hj hk hw (fun h => h.2 hq) hs
  have h2 := set_par ok.s hj hk hw ok.par (by unfold parFault; rw [List.getElem?_set_self hj]; simp only; rw [if_pos hp])
  have h3 := set_twice (y := movedS l[j] ⟨#[]⟩ 0) hj (fun h => absurd hp h) ok.tw
  have h4 : (l.set j (movedS l[j] ⟨#[]⟩ 0)).any (loopAt (l.set j (movedS l[j] ⟨#[]⟩ 0))) = false := by
    rw [List.any_eq_false]
    intro s hs'
    unfold loopAt
    simp only [decide_eq_true_eq]
    intro hne
    apply hne
    refine up_of_ends _ s ?_
    rw [List.length_set]
    rcases List.mem_or_eq_of_mem_set hs' with h5 | rfl
    · have h6 := ok.lp
      rw [List.any_eq_false] at h6
      have h7 := h6 s h5
      unfold loopAt at h7
      have h8 : (upN l l.length s).par.size = 0 := by simpa using h7
      exact set_ends ok.s hj hk hp _ _ (ends_of_up (parOk_of ok.par) _ s h5 h8)
    · cases l.length <;> simp [endsB, hp]
  have h5 := set_drops ok.s hj hk hw hp ok.dr
  unfold treeF parentsF
  rw [h1, h2, h3, h4]
  simpa using h5
theorem movedS_back (s : Splt) (p : ByteArray) (n : Int) : movedS (movedS s p n) s.par s.port = s := rfl
/-- and back -/
theorem back_same {l : List Splt} {j : Nat} (hj : j < l.length) (p : ByteArray) (n : Int) (hf : findS l l[j].key = j) : moveL (l.set j (movedS l[j] p n)) l[j].key l[j].par l[j].port = l := by
  have hj' : j < (l.set j (movedS l[j] p n)).length := by simpa using hj
  have h1 : findS (l.set j (movedS l[j] p n)) l[j].key = j := by rw [findS_set (y := movedS l[j] p n) hj rfl]; exact hf
  rw [moveL_at hj' h1, List.getElem_set_self, movedS_back, List.set_set]
  exact List.set_getElem_self hj
theorem findS_own {l : List Splt} (ok : SOk l) {j : Nat} (hj : j < l.length) : findS l l[j].key = j := by
  rcases findS_get l l[j].key with ⟨_, h2⟩ | ⟨i, hi, h1, h2, h3⟩
  · rw [getS_own ok (List.getElem_mem hj)] at h2; cases h2
  · have hr := ok.rise
    unfold Rising at hr
    rw [List.pairwise_map, List.pairwise_iff_getElem] at hr
    rcases Nat.lt_trichotomy i j with h4 | h4 | h4
    · have := hr i j hi hj h4
      rw [h3, lessB_irrefl] at this; cases this
    · subst h4; exact h1
    · have := hr j i hj hi h4
      rw [h3, lessB_irrefl] at this; cases this
theorem treeF_splts {l : List Splt} {d : List Drp} (h : treeF l d = 0) : spltsFault l = 0 := by
  unfold treeF at h
  split at h
  · rename_i h1; exact absurd h h1
  · rename_i h1; omega
theorem splitterF_own {l : List Splt} {d : List Drp} (h : treeF l d = 0) {j : Nat} (hj : j < l.length) : splitterF l d l[j].key = 0 := by
  unfold splitterF
  rw [if_neg (by omega), getS_own (tok_of h).s (List.getElem_mem hj)]; rfl
theorem away_F {l : List Splt} {d : List Drp} (h : treeF l d = 0) {j : Nat} (hj : j < l.length) : moveF l d l[j].key ⟨#[]⟩ 0 = 0 ∧ moveL l l[j].key ⟨#[]⟩ 0 = l.set j (movedS l[j] ⟨#[]⟩ 0) := by
  have ok := tok_of h
  have h1 := moveL_at (par := ⟨#[]⟩) (port := 0) hj (findS_own ok.s hj)
  refine ⟨?_, h1⟩
  unfold moveF
  rw [splitterF_own h hj, h1]
  simp only [ne_eq, not_true_eq_false, if_false]
  exact away_right ok hj (treeF_splts h)
theorem back_F {l : List Splt} {d : List Drp} (h : treeF l d = 0) {j : Nat} (hj : j < l.length) : moveF (l.set j (movedS l[j] ⟨#[]⟩ 0)) d l[j].key l[j].par l[j].port = 0 ∧ moveL (l.set j (movedS l[j] ⟨#[]⟩ 0)) l[j].key l[j].par l[j].port = l := by
  have ok := tok_of h
  have h1 := back_same hj ⟨#[]⟩ 0 (findS_own ok.s hj)
  refine ⟨?_, h1⟩
  have h2 := away_right ok hj (treeF_splts h)
  have hj' : j < (l.set j (movedS l[j] ⟨#[]⟩ 0)).length := by simpa using hj
  have h3 := splitterF_own h2 hj'
  rw [List.getElem_set_self] at h3
  unfold moveF
  have h4 : splitterF (l.set j (movedS l[j] ⟨#[]⟩ 0)) d l[j].key = 0 := h3
  rw [h4, h1]
  simp only [ne_eq, not_true_eq_false, if_false]
  exact h
/-- below itself: at a free port -/
theorem below_F {l : List Splt} {d : List Drp} (h : treeF l d = 0) {j : Nat} (hj : j < l.length) {k : Nat} (hk : (k : Int) < l[j].ways) (hf : (atPort l d (l[j].key, (k : Int) + 1)).size = 0) : moveF l d l[j].key l[j].key ((k : Int) + 1) = 14 := by
  have ok := tok_of h
  have h1 := moveL_at (par := l[j].key) (port := (k : Int) + 1) hj (findS_own ok.s hj)
  have hks := keyB_size (ok.s.keys _ (List.getElem_mem hj)).1
  have hy := free_port ok hf
  have hkk : (movedS l[j] l[j].key ((k : Int) + 1)).key = l[j].key := rfl
  have hp : (movedS l[j] l[j].key ((k : Int) + 1)).par.size ≠ 0 := by show l[j].key.size ≠ 0; omega
  have g0 : getS (l.set j (movedS l[j] l[j].key ((k : Int) + 1))) l[j].key = some (movedS l[j] l[j].key ((k : Int) + 1)) := by
    rw [getS_set (y := movedS l[j] l[j].key ((k : Int) + 1)) hj rfl _ ok.s.rise, if_pos (show l[j].key = (movedS l[j] l[j].key ((k : Int) + 1)).key from rfl)]
  have h2 := set_splts hj hkk rfl (fun h => hp h.1) (treeF_splts h)
  have h3 := set_par ok.s hj hkk rfl ok.par (by
    unfold parFault
    rw [List.getElem?_set_self hj]
    simp only
    rw [if_neg hp]
    have e : (movedS l[j] l[j].key ((k : Int) + 1)).par = l[j].key := rfl
    rw [e, g0]
    simp only
    have ho : outB (movedS l[j] l[j].key ((k : Int) + 1)).port 1 (movedS l[j] l[j].key ((k : Int) + 1)).ways = false := outB_false.2 ⟨by show (1 : Int) ≤ (k : Int) + 1; omega, by show (k : Int) + 1 ≤ l[j].ways; omega⟩
    rw [ho]; rfl)
  have h4 := set_twice (y := movedS l[j] l[j].key ((k : Int) + 1)) hj (fun _ => hy) ok.tw
  have h5 : (l.set j (movedS l[j] l[j].key ((k : Int) + 1))).any (loopAt (l.set j (movedS l[j] l[j].key ((k : Int) + 1)))) = true := by
    refine List.any_eq_true.2 ⟨movedS l[j] l[j].key ((k : Int) + 1), List.mem_iff_getElem.2 ⟨j, by simpa using hj, by rw [List.getElem_set_self]⟩, ?_⟩
    have hu : ∀ n, upN (l.set j (movedS l[j] l[j].key ((k : Int) + 1))) n (movedS l[j] l[j].key ((k : Int) + 1)) = movedS l[j] l[j].key ((k : Int) + 1) := by
      intro n
      induction n with
      | zero => rfl
      | succ n ih =>
        show upS _ (upN _ n _) = _
        rw [ih]
        unfold upS
        rw [if_neg hp]
        have e : (movedS l[j] l[j].key ((k : Int) + 1)).par = l[j].key := rfl
        rw [e, g0]; rfl
    unfold loopAt
    rw [hu]
    exact decide_eq_true hp
  unfold moveF
  rw [splitterF_own h hj, h1]
  simp only [ne_eq, not_true_eq_false, if_false]
  unfold treeF parentsF
  rw [h2, h3, h4, h5]
  simp
end Go.Proofs.YteliiknlpfjlkaaGreatDoor
/- Plain: what is asked of a tree: the drop of a customer, the chain to it, its ratio. No program. -/
set_option linter.unusedVariables false
set_option linter.unusedSimpArgs false
namespace Go.Proofs.YteliiknlpfjlkaaGreatDoor

/-- where a customer's drop stands, and the drop -/
def findD (d : List Drp) (c : ByteArray) : Int := idxF (fun x => strB x.cust c) d
def dropW (d : List Drp) (c : ByteArray) : Option Drp := d.find? (fun x => strB x.cust c)
theorem findD_get (d : List Drp) (c : ByteArray) : (findD d c < 0 ∧ dropW d c = none) ∨ ∃ k : Nat, ∃ h : k < d.length, findD d c = k ∧ dropW d c = some d[k] ∧ d[k].cust = c := by
  rcases idxF_find (fun x : Drp => strB x.cust c) d with h | ⟨k, h, h1, h2, h3⟩
  · exact .inl h
  · exact .inr ⟨k, h, h1, h2, strB_iff.1 h3⟩
/-- the error of a question about a customer -/
def askF (l : List Splt) (d : List Drp) (c : ByteArray) : Int := if treeF l d ≠ 0 then treeF l d else if findD d c < 0 then 8 else 0
/-- the splitters from the office to a customer -/
def askC (l : List Splt) (d : List Drp) (c : ByteArray) : List Splt := if askF l d c ≠ 0 then [] else match dropW d c with | none => [] | some x => chainV l x.spl
def askK (l : List Splt) (d : List Drp) (c : ByteArray) : List ByteArray := (askC l d c).map (·.key)
def askR (l : List Splt) (d : List Drp) (c : ByteArray) : Int × Int := if askF l d c ≠ 0 then (0, askF l d c) else ratioF (askC l d c) 1
theorem askF_zero {l : List Splt} {d : List Drp} {c : ByteArray} (h : askF l d c = 0) : treeF l d = 0 ∧ ∃ k : Nat, ∃ hk : k < d.length, findD d c = k ∧ dropW d c = some d[k] ∧ askC l d c = chainV l d[k].spl ∧ d[k].cust = c := by
  have h0 := h
  unfold askF at h
  split at h
  · rename_i h1; exact absurd h h1
  · rename_i h1
    split at h
    · omega
    · rename_i h2
      rcases findD_get d c with ⟨h3, _⟩ | ⟨k, hk, h3, h4, h5⟩
      · exact absurd h3 h2
      · refine ⟨by omega, k, hk, h3, h4, ?_, h5⟩
        unfold askC
        rw [if_neg (by omega), h4]
end Go.Proofs.YteliiknlpfjlkaaGreatDoor
/- Plain: what the reference answers of a tree, in the words of the program's functions. No program. -/
set_option linter.unusedVariables false
set_option linter.unusedSimpArgs false
namespace Go.Proofs.YteliiknlpfjlkaaGreatDoor

def eDrp : Drp := ⟨⟨#[]⟩, ⟨#[]⟩, 0⟩
/-- the keys from the office to a splitter -/
def keysC (l : List Splt) (k : ByteArray) : List ByteArray := (chainV l k).map (·.key)
theorem keysC_has (l : List Splt) (k : ByteArray) (x : Drp) : (keysC l x.spl).any (fun b => strB k b) = isUp l k x := by
  unfold keysC isUp chainV
  rw [List.map_reverse, List.any_reverse, List.any_map]
  congr 1
  funext s
  cases h : strB k s.key
  · simp only [Function.comp]
    rw [h]; symm
    simp only [decide_eq_false_iff_not]
    intro e
    rw [strB_iff.2 e.symm] at h; cases h
  · simp only [Function.comp]
    rw [h]; symm
    simp [strB_iff.1 h]
theorem keysC_len {l : List Splt} {d : List Drp} (h : TOk l d) {k : ByteArray} (he : endsB l l.length k = true) : (keysC l k).length ≤ 500 := by
  have := upC_le he
  have := h.s.len
  unfold keysC chainV
  rw [List.length_map, List.length_reverse]; omega

/-- which splitters have free ports, and how many, among the first k -/
def freeK (l : List Splt) (d : List Drp) (k : Nat) : List (ByteArray × Nat) := ((l.take k).filter fun s => decide (0 < freeN l d s)).map fun s => (s.key, freeN l d s)
def sumK (l : List Splt) (d : List Drp) (k : Nat) : Nat := ((l.take k).map fun s => freeN l d s).sum
theorem freeK_succ {l : List Splt} {d : List Drp} {k : Nat} (hk : k < l.length) : freeK l d (k + 1) = freeK l d k ++ (if 0 < freeN l d l[k] then [(l[k].key, freeN l d l[k])] else []) := by
  unfold freeK
  rw [List.take_succ_eq_append_getElem hk, List.filter_append, List.map_append]
  congr 1
  by_cases h : 0 < freeN l d l[k]
  · simp [h]
  · simp [h]
theorem sumK_succ {l : List Splt} {d : List Drp} {k : Nat} (hk : k < l.length) : sumK l d (k + 1) = sumK l d k + freeN l d l[k] := by
  unfold sumK
  rw [List.take_succ_eq_append_getElem hk, List.map_append, List.sum_append]; simp
theorem freeK_len (l : List Splt) (d : List Drp) (k : Nat) : (freeK l d k).length ≤ k := by
  unfold freeK
  rw [List.length_map]
  have h1 := List.length_filter_le (fun s => decide (0 < freeN l d s)) (l.take k)
  rw [List.length_take] at h1; omega
theorem freeN_le {l : List Splt} {d : List Drp} (h : ∀ s ∈ l, waysB s.ways = true) : ∀ s ∈ l, freeN l d s ≤ 128 := by
  intro s hs
  have := waysB_le (h s hs)
  unfold freeN freeL
  rw [List.length_map]
  have h1 := List.length_filter_le (fun (i : Nat) => decide ((atPort l d (s.key, (i : Int) + 1)).size = 0)) (List.range s.ways.toNat)
  rw [List.length_range] at h1; omega
theorem sumK_le {l : List Splt} {d : List Drp} (h : ∀ s ∈ l, waysB s.ways = true) : ∀ k, k ≤ l.length → sumK l d k ≤ 128 * k
  | 0, _ => by simp [sumK]
  | k + 1, hk => by
    have ih := sumK_le (d := d) h k (by omega)
    have := freeN_le (d := d) h l[k] (List.getElem_mem _)
    rw [sumK_succ (by omega)]; omega
/-- the free ports among the first i of a splitter -/
def freeI (l : List Splt) (d : List Drp) (key : ByteArray) (i : Nat) : List Int := ((List.range i).filter fun (i : Nat) => decide ((atPort l d (key, (i : Int) + 1)).size = 0)).map fun (i : Nat) => (i : Int) + 1
theorem freeI_succ (l : List Splt) (d : List Drp) (key : ByteArray) (i : Nat) : freeI l d key (i + 1) = freeI l d key i ++ (if (atPort l d (key, (i : Int) + 1)).size = 0 then [(i : Int) + 1] else []) := by
  unfold freeI
  rw [List.range_succ, List.filter_append, List.map_append]
  congr 1
  by_cases h : (atPort l d (key, (i : Int) + 1)).size = 0
  · rw [if_pos h, List.filter_cons_of_pos (by simpa using h)]; rfl
  · rw [if_neg h, List.filter_cons_of_neg (by simpa using h)]; rfl
theorem freeI_len (l : List Splt) (d : List Drp) (key : ByteArray) (i : Nat) : (freeI l d key i).length ≤ i := by
  unfold freeI
  rw [List.length_map]
  have h1 := List.length_filter_le (fun (i : Nat) => decide ((atPort l d (key, (i : Int) + 1)).size = 0)) (List.range i)
  rw [List.length_range] at h1; omega

/-- what is asked of a tree -/
def freeP (l : List Splt) (d : List Drp) : List (ByteArray × Nat) := if treeF l d = 0 then freeK l d l.length else []
def sumP (l : List Splt) (d : List Drp) : Nat := if treeF l d = 0 then sumK l d l.length else 0
def belowP (l : List Splt) (d : List Drp) (k : ByteArray) : List ByteArray := if splitterF l d k = 0 then belowL l d k else []
def idleP (l : List Splt) (d : List Drp) : List ByteArray := if treeF l d = 0 then idleL l d else []
/-- the product of ways, step by step -/
theorem ratioF_step {s : Splt} {r : List Splt} {n : Int} (h : ¬ 1000000000 < n * s.ways) : ratioF (s :: r) n = ratioF r (n * s.ways) := by rw [ratioF, if_neg h]
theorem ratioF_over {s : Splt} {r : List Splt} {n : Int} (h : 1000000000 < n * s.ways) : ratioF (s :: r) n = (0, 12) := by rw [ratioF, if_pos h]
theorem askC_ways {l : List Splt} {d : List Drp} {c : ByteArray} (h : askF l d c = 0) : ∀ s ∈ askC l d c, 1 ≤ s.ways ∧ s.ways ≤ 128 := by
  obtain ⟨ht, k, hk, _, _, he, _⟩ := askF_zero h
  rw [he]
  have ok := tok_of ht
  intro s hs
  obtain ⟨_, _, _, _, _, x, _, hg, _⟩ := ok.drop hk
  have hm := upC_mem (ok.ends hg) s (by unfold chainV at hs; simpa using hs)
  exact waysB_le (ok.s.keys s hm).2
/-- the product of ways by the doublings -/
def ratioC (p : Int) : Int × Int := if 29 < p then (0, 12) else (2 ^ p.toNat, 0)
theorem askC_len {l : List Splt} {d : List Drp} {c : ByteArray} (h : askF l d c = 0) : (askC l d c).length ≤ 500 := by
  obtain ⟨ht, k, hk, _, _, he, _⟩ := askF_zero h
  rw [he]
  have ok := tok_of ht
  obtain ⟨_, _, _, _, _, x, _, hg, _⟩ := ok.drop hk
  have := upC_le (ok.ends hg)
  have := ok.s.len
  unfold chainV
  rw [List.length_reverse]; omega
theorem askF_good' {l : List Splt} {d : List Drp} (h : treeF l d = 0) : freeP l d = freeK l d l.length ∧ sumP l d = sumK l d l.length := by
  refine ⟨?_, ?_⟩
  · unfold freeP; rw [if_pos h]
  · unfold sumP; rw [if_pos h]
end Go.Proofs.YteliiknlpfjlkaaGreatDoor
