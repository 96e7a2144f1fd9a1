/- Texts of one subject in one: PlainU, PlainV, PlainR, PlainM, PlainN, PlainD, PlainE; what each shows stands at its head. No condition. -/
import Derived.Test.YtcecpodbmjghhaaGreatPlainT
/- Plain: chains of splitters from one up to the office. No program. -/
set_option linter.unusedVariables false
set_option linter.unusedSimpArgs false
namespace Go.Proofs.YtcecpodbmjghhaaGreat
/-- the splitters from one up to the office, at most n -/
def upC (l : List Splt) : Nat → ByteArray → List Splt
  | 0, _ => []
  | n + 1, k => if k.size = 0 then [] else match getS l k with
    | none => []
    | some s => s :: upC l n s.par
/-- the way up ends within n splitters -/
def endsB (l : List Splt) : Nat → ByteArray → Bool
  | 0, k => decide (k.size = 0)
  | n + 1, k => decide (k.size = 0) || (match getS l k with | none => false | some s => endsB l n s.par)
theorem upC_empty (l : List Splt) (n : Nat) {k : ByteArray} (h : k.size = 0) : upC l n k = [] := by
  cases n
  · rfl
  · rw [upC, if_pos h]
theorem upC_cons {l : List Splt} {n : Nat} {k : ByteArray} {s : Splt} (h : k.size ≠ 0) (hg : getS l k = some s) : upC l (n + 1) k = s :: upC l n s.par := by
  rw [upC, if_neg h, hg]
theorem endsB_cases {l : List Splt} {n : Nat} {k : ByteArray} (h : endsB l n k = true) : k.size = 0 ∨ ∃ s m, n = m + 1 ∧ k.size ≠ 0 ∧ getS l k = some s ∧ endsB l m s.par = true := by
  by_cases hk : k.size = 0
  · exact .inl hk
  · right
    cases n with
    | zero => simp [endsB, hk] at h
    | succ n =>
      simp only [endsB, hk, decide_false, Bool.false_or] at h
      cases hg : getS l k with
      | none => rw [hg] at h; cases h
      | some s => rw [hg] at h; exact ⟨s, n, rfl, hk, rfl, h⟩
theorem endsB_of {l : List Splt} {n : Nat} {k : ByteArray} {s : Splt} (hg : getS l k = some s) (h : endsB l n s.par = true) : endsB l (n + 1) k = true := by
  simp only [endsB, hg, h, Bool.or_true]
theorem endsB_more {l : List Splt} : ∀ {n : Nat} {k : ByteArray}, endsB l n k = true → ∀ j, endsB l (n + j) k = true ∧ upC l (n + j) k = upC l n k := by
  intro n
  induction n with
  | zero =>
    intro k h j
    have hk : k.size = 0 := by simpa [endsB] using h
    refine ⟨?_, by rw [upC_empty l _ hk, upC_empty l _ hk]⟩
    cases j <;> simp [endsB, hk]
  | succ n ih =>
    intro k h j
    rcases endsB_cases h with hk | ⟨s, m, hm, hk, hg, he⟩
    · refine ⟨?_, by rw [upC_empty l _ hk, upC_empty l _ hk]⟩
      rw [show n + 1 + j = (n + j) + 1 by omega]
      simp [endsB, hk]
    · obtain rfl : n = m := by omega
      obtain ⟨h1, h2⟩ := ih he j
      rw [show n + 1 + j = (n + j) + 1 by omega]
      exact ⟨endsB_of hg h1, by rw [upC_cons hk hg, upC_cons hk hg, h2]⟩
theorem upC_two {l : List Splt} {n m : Nat} {k : ByteArray} (h1 : endsB l n k = true) (h2 : endsB l m k = true) : upC l n k = upC l m k := by
  have a := (endsB_more h1 m).2
  have b := (endsB_more h2 n).2
  rw [← a, ← b, Nat.add_comm]
theorem upN_succ' (l : List Splt) : ∀ n s, upN l (n + 1) s = upN l n (upS l s)
  | 0, _ => rfl
  | n + 1, s => by
    show upS l (upN l (n + 1) s) = upS l (upN l n (upS l s))
    rw [upN_succ' l n s]
theorem ends_of_up {l : List Splt} (hp : ParOk l) : ∀ n (s : Splt), s ∈ l → (upN l n s).par.size = 0 → endsB l n s.par = true := by
  intro n
  induction n with
  | zero => intro s _ h; simpa [endsB, upN] using h
  | succ n ih =>
    intro s hs h
    by_cases hk : s.par.size = 0
    · simp [endsB, hk]
    · obtain ⟨x, hx, hg⟩ := hp s hs hk
      rw [upN_succ'] at h
      have hu : upS l s = x := by unfold upS; rw [if_neg hk, hg]; rfl
      rw [hu] at h
      exact endsB_of hg (ih x hx h)
theorem up_of_ends {l : List Splt} : ∀ n (s : Splt), endsB l n s.par = true → (upN l n s).par.size = 0 := by
  intro n
  induction n with
  | zero => intro s h; have h' : s.par.size = 0 := by simpa [endsB] using h
            exact h'
  | succ n ih =>
    intro s h
    rcases endsB_cases h with hk | ⟨x, m, hm, hk, hg, he⟩
    · have := upN_stay (l := l) (s := s) (k := 0) hk (n + 1)
      rw [Nat.zero_add] at this
      rw [this]; exact hk
    · obtain rfl : n = m := by omega
      rw [upN_succ']
      have hu : upS l s = x := by unfold upS; rw [if_neg hk, hg]; rfl
      rw [hu]; exact ih x he
/-- the elements of a way up are found by their keys; behind each the way goes on -/
theorem upC_at {l : List Splt} : ∀ {n : Nat} {k : ByteArray}, endsB l n k = true → ∀ i (hi : i < (upC l n k).length), ∃ m, m + i + 1 = n ∧ getS l (upC l n k)[i].key = some (upC l n k)[i] ∧ (upC l n k)[i].key.size ≠ 0 ∧ endsB l (m + 1) (upC l n k)[i].key = true ∧ (upC l n k).drop i = upC l (m + 1) (upC l n k)[i].key := by
  intro n
  induction n with
  | zero => intro k h i hi; simp [upC] at hi
  | succ n ih =>
    intro k h i hi
    rcases endsB_cases h with hk | ⟨s, m, hm, hk, hg, he⟩
    · rw [upC_empty l _ hk] at hi; simp at hi
    · obtain rfl : n = m := by omega
      have hkey : s.key = k := by
        rcases findS_get l k with ⟨_, h2⟩ | ⟨j, hj, _, h2, h3⟩
        · rw [h2] at hg; cases hg
        · rw [h2] at hg; cases hg; exact h3
      have hc := upC_cons (n := n) hk hg
      simp only [hc] at hi ⊢
      cases i with
      | zero =>
        simp only [List.getElem_cons_zero, List.drop_zero]
        rw [hkey]
        exact ⟨n, rfl, hg, hk, h, hc.symm⟩
      | succ i =>
        obtain ⟨q, h1, h2, h3, h4, h5⟩ := ih he i (by simpa using hi)
        simp only [List.getElem_cons_succ, List.drop_succ_cons]
        exact ⟨q, by omega, h2, h3, h4, h5⟩
theorem upC_nodup {l : List Splt} {n : Nat} {k : ByteArray} (h : endsB l n k = true) : ((upC l n k).map (·.key)).Nodup := by
  unfold List.Nodup
  rw [List.pairwise_iff_getElem]
  intro i j hi hj hij e
  rw [List.length_map] at hi hj
  simp only [List.getElem_map] at e
  obtain ⟨m1, a1, _, _, a4, a5⟩ := upC_at h i hi
  obtain ⟨m2, b1, _, _, b4, b5⟩ := upC_at h j hj
  rw [← e] at b4 b5
  rw [upC_two b4 a4] at b5
  have := congrArg List.length (a5.trans b5.symm)
  simp only [List.length_drop] at this
  omega
theorem upC_mem {l : List Splt} {n : Nat} {k : ByteArray} (h : endsB l n k = true) : ∀ s ∈ upC l n k, s ∈ l := by
  intro s hs
  obtain ⟨i, hi, rfl⟩ := List.mem_iff_getElem.1 hs
  obtain ⟨m, _, h2, _⟩ := upC_at h i hi
  unfold getS at h2
  exact List.mem_of_find?_eq_some h2
theorem nodup_le {α : Type} [DecidableEq α] : ∀ (a b : List α), a.Nodup → (∀ x ∈ a, x ∈ b) → a.length ≤ b.length
  | [], _, _, _ => by simp
  | x :: a, b, hn, hs => by
    have hn' := List.nodup_cons.1 hn
    have hx := hs x (by simp)
    have ih := nodup_le a (b.erase x) hn'.2 (fun y hy => (List.mem_erase_of_ne (fun e => hn'.1 (by rw [← e]; exact hy))).2 (hs y (by simp [hy])))
    rw [List.length_erase_of_mem hx] at ih
    have : 0 < b.length := List.length_pos_of_mem hx
    simp; omega
theorem upC_le {l : List Splt} {n : Nat} {k : ByteArray} (h : endsB l n k = true) : (upC l n k).length ≤ l.length := by
  have := nodup_le ((upC l n k).map (·.key)) (l.map (·.key)) (upC_nodup h) (fun x hx => by
    obtain ⟨s, hs, rfl⟩ := List.mem_map.1 hx
    exact List.mem_map_of_mem (upC_mem h s hs))
  simpa using this
/-- what ends at all, ends within as many steps as there are elements on the way -/
theorem endsB_len {l : List Splt} : ∀ {n : Nat} {k : ByteArray}, endsB l n k = true → endsB l (upC l n k).length k = true := by
  intro n
  induction n with
  | zero => intro k h; have hk : k.size = 0 := by simpa [endsB] using h
            simp [upC, endsB, hk]
  | succ n ih =>
    intro k h
    rcases endsB_cases h with hk | ⟨s, m, hm, hk, hg, he⟩
    · rw [upC_empty l _ hk]; simp [endsB, hk]
    · obtain rfl : n = m := by omega
      rw [upC_cons hk hg, List.length_cons]
      exact endsB_of hg (ih he)
/-- a tree that is right: the way up from each splitter ends -/
theorem TOk.ends {l : List Splt} {d : List Drp} (h : TOk l d) {k : ByteArray} {s : Splt} (hg : getS l k = some s) : endsB l l.length k = true := by
  have hs : s ∈ l := by unfold getS at hg; exact List.mem_of_find?_eq_some hg
  have h1 : loopAt l s = false := by
    have := h.lp
    rw [List.any_eq_false] at this
    simpa using this s hs
  unfold loopAt at h1
  have h2 : (upN l l.length s).par.size = 0 := by simpa using h1
  have h3 := endsB_of hg (ends_of_up (parOk_of h.par) _ s hs h2)
  have h4 := endsB_len h3
  have h5 := upC_le h3
  have := (endsB_more h4 (l.length - (upC l (l.length + 1) k).length)).1
  rwa [Nat.add_sub_cancel' h5] at this
/-- the splitters from the office to one -/
def chainV (l : List Splt) (k : ByteArray) : List Splt := (upC l l.length k).reverse
theorem getS_key {l : List Splt} {k : ByteArray} {s : Splt} (hg : getS l k = some s) : s.key = k ∧ s ∈ l := by
  rcases findS_get l k with ⟨_, h2⟩ | ⟨j, hj, _, h2, h3⟩
  · rw [h2] at hg; cases hg
  · rw [h2] at hg; cases hg; exact ⟨h3, List.getElem_mem _⟩
def powS (c : List Splt) : Int := (c.map fun s => dbl s.ways).sum
theorem dbl_pow {n : Int} (h : 1 ≤ dbl n) : n = 2 ^ (dbl n).toNat := by
  rcases dbl_cases n h with rfl | rfl | rfl | rfl | rfl | rfl | rfl <;> decide
theorem powS_nonneg {c : List Splt} (h : ∀ s ∈ c, waysB s.ways = true) : 0 ≤ powS c ∧ powS c ≤ 7 * c.length := by
  induction c with
  | nil => simp [powS]
  | cons s c ih =>
    have h1 := ih (fun x hx => h x (by simp [hx]))
    have h2 := h s (by simp)
    have h3 := dbl_le s.ways
    unfold waysB at h2
    have h4 : 1 ≤ dbl s.ways := by simpa using h2
    have h5 : powS (s :: c) = dbl s.ways + powS c := by simp [powS]
    rw [h5, List.length_cons]
    push_cast
    omega
/-- the free ports of a splitter -/
def freeL (l : List Splt) (d : List Drp) (s : Splt) : List Int := ((List.range s.ways.toNat).filter fun (i : Nat) => decide ((atPort l d (s.key, (i : Int) + 1)).size = 0)).map fun (i : Nat) => (i : Int) + 1
/-- the customers at a splitter or below it -/
def isUp (l : List Splt) (k : ByteArray) (x : Drp) : Bool := (upC l l.length x.spl).any fun s => decide (s.key = k)
def belowL (l : List Splt) (d : List Drp) (k : ByteArray) : List ByteArray := (d.filter (isUp l k)).map (·.cust)
def idleL (l : List Splt) (d : List Drp) : List ByteArray := (l.filter fun s => (belowL l d s.key).isEmpty).map (·.key)
end Go.Proofs.YtcecpodbmjghhaaGreat
/- Plain: what stands at the ports of a splitter, laid into a row port by port; it is what the map says. No program. -/
namespace Go.Proofs.YtcecpodbmjghhaaGreat
theorem foldl_keep {α β : Type} (c : α → Bool) (g : α → β) : ∀ (l : List α) (a : β), (∀ x ∈ l, c x = false) → l.foldl (fun m x => if c x = true then g x else m) a = a
  | [], _, _ => rfl
  | x :: l, a, h => by
    rw [List.foldl_cons, h x (by simp), if_neg (by decide)]
    exact foldl_keep c g l a (fun y hy => h y (by simp [hy]))
theorem foldl_same {α β : Type} (c c' : α → Bool) (g : α → β) : ∀ (l : List α) (a : β), (∀ x ∈ l, c x = c' x) → l.foldl (fun m x => if c x = true then g x else m) a = l.foldl (fun m x => if c' x = true then g x else m) a
  | [], _, _ => rfl
  | x :: l, a, h => by
    rw [List.foldl_cons, List.foldl_cons, h x (by simp)]
    exact foldl_same c c' g l _ (fun y hy => h y (by simp [hy]))
theorem foldl_some {α β : Type} (c : α → Bool) (g : α → β) (z : β) : ∀ (l : List α) (a : Option β), (l.foldl (fun m x => if c x = true then some (g x) else m) a).getD z = l.foldl (fun m x => if c x = true then g x else m) (a.getD z)
  | [], _ => rfl
  | x :: l, a => by
    rw [List.foldl_cons, List.foldl_cons, foldl_some c g z l]
    congr 1
    by_cases h : c x = true
    · rw [if_pos h, if_pos h]; rfl
    · rw [if_neg h, if_neg h]
/-- stores into a row, read at one place -/
theorem foldl_set {α β : Type} (c : α → Bool) (f : α → Nat) (g : α → β) (i : Nat) (z : β) : ∀ (l : List α) (o : List β), i < o.length →
    (l.foldl (fun o x => if c x = true then o.set (f x) (g x) else o) o).getD i z = l.foldl (fun m x => if (c x && decide (f x = i)) = true then g x else m) (o.getD i z)
  | [], _, _ => rfl
  | x :: l, o, h => by
    rw [List.foldl_cons, List.foldl_cons]
    by_cases hc : c x = true
    · rw [if_pos hc, foldl_set c f g i z l _ (by rw [List.length_set]; exact h)]
      congr 1
      by_cases hf : f x = i
      · subst hf
        simp [hc, List.getD_eq_getElem?_getD, h]
      · simp [hc, hf, List.getD_eq_getElem?_getD, List.getElem?_set_ne hf]
    · rw [if_neg hc, foldl_set c f g i z l _ h]
      have : (c x && decide (f x = i)) = false := by simp [hc]
      rw [this]; simp
theorem foldl_set_len {α β : Type} (c : α → Bool) (f : α → Nat) (g : α → β) : ∀ (l : List α) (o : List β), (l.foldl (fun o x => if c x = true then o.set (f x) (g x) else o) o).length = o.length
  | [], _ => rfl
  | x :: l, o => by
    rw [List.foldl_cons, foldl_set_len c f g l]
    split <;> simp
/-- laid from the drops .. -/
def portsD (d : List Drp) (key : ByteArray) (o : List ByteArray) : List ByteArray := d.foldl (fun o x => if decide (x.spl = key) = true then o.set (x.port - 1).toNat x.cust else o) o
/-- .. and from the splitters -/
def portsP (l : List Splt) (key : ByteArray) (o : List ByteArray) : List ByteArray := l.foldl (fun o s => if decide (s.par = key) = true then o.set (s.port - 1).toNat (⟨#[47]⟩ ++ s.key) else o) o
def wayN (l : List Splt) (key : ByteArray) : Nat := ((getS l key).map (·.ways.toNat)).getD 0
def refPorts (l : List Splt) (d : List Drp) (key : ByteArray) : List ByteArray := portsP l key (portsD d key (List.replicate (wayN l key) ⟨#[]⟩))
theorem TOk.apart {l : List Splt} {d : List Drp} (h : TOk l d) {x : Drp} (hx : x ∈ d) : seenP l l.length (x.spl, x.port) = false := by
  have h0 := h.dr
  unfold dropsF at h0
  split at h0
  · omega
  · split at h0
    · rename_i h1; exact absurd h0 h1
    · split at h0
      · omega
      · rename_i h2
        obtain ⟨k, hk, rfl⟩ := List.mem_iff_getElem.1 hx
        have h3 : twiceD l d d.length = false := by simpa using h2
        unfold twiceD at h3
        rw [List.any_eq_false] at h3
        have h4 := h3 k (by simpa using hk)
        rw [dupD_in l d k hk] at h4
        unfold seenD at h4
        cases hs : seenP l l.length (d[k].spl, d[k].port)
        · rfl
        · rw [hs] at h4; simp at h4
theorem refPorts_eq {l : List Splt} {d : List Drp} (h : TOk l d) {key : ByteArray} {s : Splt} (hg : getS l key = some s) : refPorts l d key = portsV l d key := by
  obtain ⟨g1, g2, g3, g4⟩ := h.s.get hg
  have hks : key.size ≠ 0 := by
    have := keyB_size (h.s.keys s g4).1
    rw [(getS_key hg).1] at this
    omega
  have hn : wayN l key = s.ways.toNat := by unfold wayN; rw [hg]; rfl
  have hl1 : (refPorts l d key).length = s.ways.toNat := by
    unfold refPorts portsP portsD
    rw [foldl_set_len, foldl_set_len, List.length_replicate, hn]
  have hl2 : (portsV l d key).length = s.ways.toNat := by unfold portsV; rw [hg]; simp
  refine List.ext_getElem (hl1.trans hl2.symm) (fun i h1 h2 => ?_)
  have hi : i < s.ways.toNat := by omega
  have e1 : (refPorts l d key)[i] = (refPorts l d key).getD i ⟨#[]⟩ := by rw [List.getD_eq_getElem?_getD, List.getElem?_eq_getElem h1]; rfl
  have e2 : (portsV l d key)[i] = atPort l d (key, (i : Int) + 1) := by
    simp only [portsV, List.getElem_map, List.getElem_range]
  rw [e1, e2]
  unfold refPorts portsP
  rw [foldl_set (fun s : Splt => decide (s.par = key)) (fun s => (s.port - 1).toNat) (fun s => ⟨#[47]⟩ ++ s.key) i ⟨#[]⟩ l _ (by unfold portsD; rw [foldl_set_len, List.length_replicate, hn]; exact hi)]
  unfold portsD
  rw [foldl_set (fun x : Drp => decide (x.spl = key)) (fun x => (x.port - 1).toNat) (fun x => x.cust) i ⟨#[]⟩ d _ (by rw [List.length_replicate, hn]; exact hi)]
  have e3 : (List.replicate (wayN l key) (⟨#[]⟩ : ByteArray)).getD i ⟨#[]⟩ = ⟨#[]⟩ := by
    rw [List.getD_eq_getElem?_getD, List.getElem?_replicate]; split <;> rfl
  rw [e3]
  unfold atPort takenV takenS
  rw [List.take_length, List.take_length]
  have e4 : d.foldl (fun m x => if (x.spl, x.port) = (key, (i : Int) + 1) then some x.cust else m) (l.foldl (fun m s => if s.par.size ≠ 0 ∧ (s.par, s.port) = (key, (i : Int) + 1) then some (⟨#[47]⟩ ++ s.key) else m) none)
      = d.foldl (fun m x => if decide ((x.spl, x.port) = (key, (i : Int) + 1)) = true then some x.cust else m) (l.foldl (fun m s => if decide (s.par.size ≠ 0 ∧ (s.par, s.port) = (key, (i : Int) + 1)) = true then some (⟨#[47]⟩ ++ s.key) else m) none) := by
    simp only [decide_eq_true_eq]
  rw [e4, foldl_some, foldl_some]
  have hD : ∀ x ∈ d, (decide (x.spl = key) && decide ((x.port - 1).toNat = i)) = decide ((x.spl, x.port) = (key, (i : Int) + 1)) := fun x hx => by
    obtain ⟨k, hk, rfl⟩ := List.mem_iff_getElem.1 hx
    have := h.drop hk
    rw [← Bool.decide_and]
    apply decide_eq_decide.2
    rw [Prod.mk.injEq]
    constructor
    · rintro ⟨a, b⟩; exact ⟨a, by omega⟩
    · rintro ⟨a, b⟩; exact ⟨a, by omega⟩
  have hS : ∀ x ∈ l, (decide (x.par = key) && decide ((x.port - 1).toNat = i)) = decide (x.par.size ≠ 0 ∧ (x.par, x.port) = (key, (i : Int) + 1)) := fun x hx => by
    rw [← Bool.decide_and]
    apply decide_eq_decide.2
    rw [Prod.mk.injEq]
    constructor
    · rintro ⟨a, b⟩
      have hp : x.par.size ≠ 0 := by rw [a]; exact hks
      have := h.s.par h.par hx hp
      exact ⟨hp, a, by omega⟩
    · rintro ⟨_, a, b⟩
      have hp : x.par.size ≠ 0 := by rw [a]; exact hks
      have := h.s.par h.par hx hp
      exact ⟨a, by omega⟩
  rw [foldl_same _ _ _ d _ hD, foldl_same _ _ _ l _ hS]
  by_cases hx : ∃ x ∈ d, (x.spl, x.port) = (key, (i : Int) + 1)
  · obtain ⟨x, hx, he⟩ := hx
    have ha := h.apart hx
    rw [he] at ha
    unfold seenP at ha
    rw [List.take_length, List.any_eq_false] at ha
    have hno : ∀ y ∈ l, decide (y.par.size ≠ 0 ∧ (y.par, y.port) = (key, (i : Int) + 1)) = false := fun y hy => by
      have := ha y hy
      simpa using this
    rw [foldl_keep _ _ l _ hno, foldl_keep _ _ l _ hno]
    rfl
  · have hno : ∀ y ∈ d, decide ((y.spl, y.port) = (key, (i : Int) + 1)) = false := fun y hy => by
      have := fun e => hx ⟨y, hy, e⟩
      simpa using this
    rw [foldl_keep _ _ d _ hno, foldl_keep _ _ d _ hno]
    rfl
end Go.Proofs.YtcecpodbmjghhaaGreat
/- Plain: the reference's test of trees is the program's. No program. -/
namespace Go.Proofs.YtcecpodbmjghhaaGreat
def eSplt : Splt := ⟨⟨#[]⟩, 0, ⟨#[]⟩, 0⟩
def upR (l : List Splt) (s : Splt) : Splt := (getS l s.par).getD eSplt
def upRN (l : List Splt) : Nat → Splt → Splt
  | 0, s => s
  | n + 1, s => upR l (upRN l n s)
theorem upRN_succ' (l : List Splt) : ∀ n s, upRN l (n + 1) s = upRN l n (upR l s)
  | 0, _ => rfl
  | n + 1, s => by
    show upR l (upRN l (n + 1) s) = upR l (upRN l n (upR l s))
    rw [upRN_succ' l n s]
def rloopAt (l : List Splt) (s : Splt) : Bool := decide ((upRN l l.length s).key.size ≠ 0)
theorem SOk.none {l : List Splt} (h : SOk l) {k : ByteArray} (hk : k.size = 0) : getS l k = none := by
  rcases findS_get l k with ⟨_, h2⟩ | ⟨j, hj, _, h2, h3⟩
  · exact h2
  · have := keyB_size (h.keys _ (List.getElem_mem hj)).1
    rw [h3] at this; omega
theorem upRN_empty {l : List Splt} (h : SOk l) : ∀ n, upRN l n eSplt = eSplt
  | 0 => rfl
  | n + 1 => by
    show upR l (upRN l n eSplt) = eSplt
    rw [upRN_empty h n]
    unfold upR
    rw [h.none (k := eSplt.par) rfl]; rfl
theorem upRN_ends {l : List Splt} (h : SOk l) (hp : ParOk l) : ∀ n (s : Splt), s ∈ l → ((upRN l n s).key.size = 0 ↔ ∃ m, m + 1 = n ∧ endsB l m s.par = true) := by
  intro n
  induction n with
  | zero =>
    intro s hs
    have := keyB_size (h.keys s hs).1
    constructor
    · intro h0
      have h0' : s.key.size = 0 := h0
      omega
    · rintro ⟨m, hm, _⟩; omega
  | succ n ih =>
    intro s hs
    rw [upRN_succ']
    by_cases hk : s.par.size = 0
    · have hu : upR l s = eSplt := by unfold upR; rw [h.none hk]; rfl
      rw [hu, upRN_empty h]
      constructor
      · intro _
        refine ⟨n, rfl, ?_⟩
        cases n <;> simp [endsB, hk]
      · intro _; rfl
    · obtain ⟨x, hx, hg⟩ := hp s hs hk
      have hu : upR l s = x := by unfold upR; rw [hg]; rfl
      rw [hu, ih x hx]
      constructor
      · rintro ⟨m, rfl, he⟩; exact ⟨m + 1, rfl, endsB_of hg he⟩
      · rintro ⟨m, hm, he⟩
        obtain rfl : m = n := by omega
        rcases endsB_cases he with h0 | ⟨y, q, hq, _, hg', he'⟩
        · exact absurd h0 hk
        · rw [hg] at hg'; cases hg'
          exact ⟨q, by omega, he'⟩
theorem rloop_eq {l : List Splt} (h : SOk l) (hp : ParOk l) {s : Splt} (hs : s ∈ l) (hgs : getS l s.key = some s) : rloopAt l s = loopAt l s := by
  have h1 := upRN_ends h hp l.length s hs
  have hpos : 0 < l.length := List.length_pos_of_mem hs
  have hk := keyB_size (h.keys s hs).1
  unfold rloopAt loopAt
  apply decide_eq_decide.2
  apply not_congr
  rw [h1]
  constructor
  · rintro ⟨m, hm, he⟩
    refine up_of_ends _ s ?_
    have := (endsB_more he 1).1
    rwa [hm] at this
  · intro h0
    have h2 := ends_of_up hp _ s hs h0
    have h3 := endsB_of hgs h2
    have h4 := endsB_len h3
    have h5 := upC_le h3
    have h6 := (endsB_more h4 (l.length - (upC l (l.length + 1) s.key).length)).1
    rw [Nat.add_sub_cancel' h5] at h6
    rcases endsB_cases h6 with h7 | ⟨y, q, hq, _, hg', he'⟩
    · omega
    · rw [hgs] at hg'; cases hg'
      exact ⟨q, by omega, he'⟩
theorem getS_own {l : List Splt} (h : SOk l) {s : Splt} (hs : s ∈ l) : getS l s.key = some s := by
  rcases findS_get l s.key with ⟨h1, _⟩ | ⟨j, hj, _, h2, h3⟩
  · unfold findS at h1
    have h4 : l.any (fun x => decide (x.key = s.key)) = true := List.any_eq_true.2 ⟨s, hs, by simp⟩
    have := (idxF_nonneg (fun x => decide (x.key = s.key)) l).2 h4
    omega
  · rw [h2]
    obtain ⟨i, hi, rfl⟩ := List.mem_iff_getElem.1 hs
    have hr := h.rise
    unfold Rising at hr
    rw [List.pairwise_map, List.pairwise_iff_getElem] at hr
    rcases Nat.lt_trichotomy i j with h5 | h5 | h5
    · have := hr i j hi hj h5
      rw [h3, lessB_irrefl] at this; cases this
    · subst h5; rfl
    · have := hr j i hj hi h5
      rw [h3, lessB_irrefl] at this; cases this
def rdupAt (l : List Splt) (k : Nat) : Bool := match l[k]? with | some s => decide (s.par.size ≠ 0) && (l.take k).any (fun x => decide (x.par = s.par) && decide (x.port = s.port)) | none => false
theorem rdupAt_eq (l : List Splt) (k : Nat) : rdupAt l k = dupAt l k := by
  unfold rdupAt dupAt seenP
  cases l[k]? with
  | none => rfl
  | some s =>
    simp only
    by_cases hp : s.par.size = 0
    · simp [hp]
    · congr 1
      congr 1
      funext x
      by_cases h1 : x.par = s.par
      · rw [h1]; simp [hp]
      · simp [h1]
/-- the reference's test of splitters -/
def rsplF (l : List Splt) : Int := if 500 < l.length then 2 else if faultAt (spltFault l) l.length ≠ 0 then faultAt (spltFault l) l.length else if faultAt (parFault l) l.length ≠ 0 then faultAt (parFault l) l.length else if (List.range l.length).any (rdupAt l) then 6 else if l.any (rloopAt l) then 14 else 0
def rdupD (l : List Splt) (d : List Drp) (k : Nat) : Bool := match d[k]? with | some x => (d.take k).any (fun y => decide (y.spl = x.spl) && decide (y.port = x.port)) || l.any (fun s => decide (s.par = x.spl) && decide (s.port = x.port)) | none => false
def rdropsF (l : List Splt) (d : List Drp) : Int := if 5000 < d.length then 2 else if faultAt (dropFault l d) d.length ≠ 0 then faultAt (dropFault l d) d.length else if (List.range d.length).any (rdupD l d) then 6 else 0
def rtreeF (l : List Splt) (d : List Drp) : Int := if rsplF l ≠ 0 then rsplF l else rdropsF l d
theorem any_same {α : Type} {p q : α → Bool} : ∀ {l : List α}, (∀ x ∈ l, p x = q x) → l.any p = l.any q
  | [], _ => rfl
  | x :: l, h => by rw [List.any_cons, List.any_cons, h x (by simp), any_same (fun y hy => h y (by simp [hy]))]
theorem rsplF_eq (l : List Splt) : rsplF l = if spltsFault l ≠ 0 then spltsFault l else parentsF l := by
  unfold rsplF spltsFault parentsF
  by_cases h1 : 500 < l.length
  · simp [h1]
  · by_cases h2 : faultAt (spltFault l) l.length = 0
    · by_cases h3 : faultAt (parFault l) l.length = 0
      · have h4 : (List.range l.length).any (rdupAt l) = twiceB l l.length := by
          unfold twiceB; exact any_same (fun k _ => rdupAt_eq l k)
        have hs := sok_of (by omega) h2
        have h5 : l.any (rloopAt l) = l.any (loopAt l) := any_same (fun s hs' => rloop_eq hs (parOk_of h3) hs' (getS_own hs hs'))
        rw [h4, h5, h2, h3]
        simp only [if_neg h1, ne_eq, not_true_eq_false, if_false]
      · rw [h2]
        simp only [if_neg h1, ne_eq, not_true_eq_false, if_false, if_pos h3]
    · simp only [if_neg h1, ne_eq]
      rw [if_pos h2, if_pos h2]
theorem rdropsF_eq {l : List Splt} (h : SOk l) (d : List Drp) : rdropsF l d = dropsF l d := by
  unfold rdropsF dropsF
  by_cases h1 : 5000 < d.length
  · rw [if_pos h1, if_pos h1]
  · rw [if_neg h1, if_neg h1]
    by_cases h2 : faultAt (dropFault l d) d.length = 0
    · rw [h2]
      simp only [ne_eq, not_true_eq_false, if_false]
      have h3 : (List.range d.length).any (rdupD l d) = twiceD l d d.length := by
        unfold twiceD
        refine any_same (fun k hk => ?_)
        have hk' : k < d.length := by simpa using hk
        unfold rdupD dupD seenD seenP
        rw [List.getElem?_eq_getElem hk']
        simp only
        have h4 := faultAt_zero.1 h2 k hk'
        unfold dropFault at h4
        rw [List.getElem?_eq_getElem hk'] at h4
        simp only at h4
        have hne : d[k].spl.size ≠ 0 := by
          intro e
          rw [h.none e] at h4
          split at h4 <;> simp at h4
        rw [Bool.or_comm, List.take_length]
        congr 1
        · refine any_same (fun s _ => ?_)
          by_cases e : s.par = d[k].spl
          · simp [e, hne]
          · simp [e]
        · refine any_same (fun y _ => ?_)
          by_cases e : y.spl = d[k].spl
          · simp [e]
          · simp [e]
      rw [h3]
    · rw [if_pos h2, if_pos h2]
theorem rtreeF_eq (l : List Splt) (d : List Drp) : rtreeF l d = treeF l d := by
  unfold rtreeF treeF
  rw [rsplF_eq]
  by_cases h1 : spltsFault l = 0
  · rw [if_neg (show ¬ spltsFault l ≠ 0 by omega), if_neg (show ¬ spltsFault l ≠ 0 by omega)]
    by_cases h2 : parentsF l = 0
    · rw [h2]
      simp only [ne_eq, not_true_eq_false, if_false]
      unfold spltsFault at h1
      split at h1
      · omega
      · exact rdropsF_eq (sok_of (by omega) h1) d
    · rw [if_pos h2, if_pos h2]
  · rw [if_pos h1, if_pos h1, if_pos h1]
end Go.Proofs.YtcecpodbmjghhaaGreat
/- Plain: a splitter is put at another port. No program. -/
namespace Go.Proofs.YtcecpodbmjghhaaGreat
def movedS (s : Splt) (par : ByteArray) (port : Int) : Splt := ⟨s.key, s.ways, par, port⟩
def moveL (l : List Splt) (key par : ByteArray) (port : Int) : List Splt := l.set (findS l key).toNat (movedS (l.getD (findS l key).toNat default) par port)
def moveF (l : List Splt) (d : List Drp) (key par : ByteArray) (port : Int) : Int := if splitterF l d key ≠ 0 then splitterF l d key else treeF (moveL l key par port) d
theorem splitterF_zero {l : List Splt} {d : List Drp} {key : ByteArray} (h : splitterF l d key = 0) : treeF l d = 0 ∧ ∃ j, ∃ hj : j < l.length, findS l key = j ∧ getS l key = some l[j] ∧ l[j].key = key := by
  unfold splitterF at h
  split at h
  · rename_i h1; exact absurd h h1
  · rename_i h1
    refine ⟨by omega, ?_⟩
    rcases findS_get l key with ⟨_, hn⟩ | ⟨j, hj, h2, h3, h4⟩
    · rw [hn] at h; simp at h
    · exact ⟨j, hj, h2, h3, h4⟩
theorem moveL_at {l : List Splt} {key par : ByteArray} {port : Int} {j : Nat} (hj : j < l.length) (hf : findS l key = j) : moveL l key par port = l.set j (movedS l[j] par port) := by
  unfold moveL
  rw [hf, Int.toNat_natCast, List.getD_eq_getElem?_getD, List.getElem?_eq_getElem hj]; rfl
end Go.Proofs.YtcecpodbmjghhaaGreat
/- Plain: a splitter cannot be put below itself; one that is put away and back leaves the tree as it was. No program. -/
namespace Go.Proofs.YtcecpodbmjghhaaGreat
section
variable {l : List Splt} {d : List Drp} {j : Nat} {y : Splt}
end
end Go.Proofs.YtcecpodbmjghhaaGreat
/- Plain: what is asked of a tree: the drop of a customer, the chain to it, its ratio. No program. -/
namespace Go.Proofs.YtcecpodbmjghhaaGreat
/-- where a customer's drop stands, and the drop -/
def findD (d : List Drp) (c : ByteArray) : Int := idxF (fun x => strB x.cust c) d
def dropW (d : List Drp) (c : ByteArray) : Option Drp := d.find? (fun x => strB x.cust c)
theorem findD_get (d : List Drp) (c : ByteArray) : (findD d c < 0 ∧ dropW d c = none) ∨ ∃ k : Nat, ∃ h : k < d.length, findD d c = k ∧ dropW d c = some d[k] ∧ d[k].cust = c := by
  rcases idxF_find (fun x : Drp => strB x.cust c) d with h | ⟨k, h, h1, h2, h3⟩
  · exact .inl h
  · exact .inr ⟨k, h, h1, h2, strB_iff.1 h3⟩
end Go.Proofs.YtcecpodbmjghhaaGreat
/- Plain: what the reference answers of a tree, in the words of the program's functions. No program. -/
namespace Go.Proofs.YtcecpodbmjghhaaGreat
def eDrp : Drp := ⟨⟨#[]⟩, ⟨#[]⟩, 0⟩
/-- the keys from the office to a splitter -/
def keysC (l : List Splt) (k : ByteArray) : List ByteArray := (chainV l k).map (·.key)
theorem keysC_has (l : List Splt) (k : ByteArray) (x : Drp) : (keysC l x.spl).any (fun b => strB k b) = isUp l k x := by
  unfold keysC isUp chainV
  rw [List.map_reverse, List.any_reverse, List.any_map]
  congr 1
  funext s
  cases h : strB k s.key
  · simp only [Function.comp]
    rw [h]; symm
    simp only [decide_eq_false_iff_not]
    intro e
    rw [strB_iff.2 e.symm] at h; cases h
  · simp only [Function.comp]
    rw [h]; symm
    simp [strB_iff.1 h]
/-- the free ports among the first i of a splitter -/
def freeI (l : List Splt) (d : List Drp) (key : ByteArray) (i : Nat) : List Int := ((List.range i).filter fun (i : Nat) => decide ((atPort l d (key, (i : Int) + 1)).size = 0)).map fun (i : Nat) => (i : Int) + 1
theorem freeI_succ (l : List Splt) (d : List Drp) (key : ByteArray) (i : Nat) : freeI l d key (i + 1) = freeI l d key i ++ (if (atPort l d (key, (i : Int) + 1)).size = 0 then [(i : Int) + 1] else []) := by
  unfold freeI
  rw [List.range_succ, List.filter_append, List.map_append]
  congr 1
  by_cases h : (atPort l d (key, (i : Int) + 1)).size = 0
  · rw [if_pos h, List.filter_cons_of_pos (by simpa using h)]; rfl
  · rw [if_neg h, List.filter_cons_of_neg (by simpa using h)]; rfl
theorem freeI_len (l : List Splt) (d : List Drp) (key : ByteArray) (i : Nat) : (freeI l d key i).length ≤ i := by
  unfold freeI
  rw [List.length_map]
  have h1 := List.length_filter_le (fun (i : Nat) => decide ((atPort l d (key, (i : Int) + 1)).size = 0)) (List.range i)
  rw [List.length_range] at h1; omega
end Go.Proofs.YtcecpodbmjghhaaGreat
