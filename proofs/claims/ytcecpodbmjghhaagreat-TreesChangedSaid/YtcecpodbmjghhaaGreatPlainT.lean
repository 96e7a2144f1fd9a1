/- The plain mathematics of trees (chapter 4): what is computed, over integers, strings and lists; no program. No condition. -/
import Derived.Test.YtcecpodbmjghhaaGreatPlainC
import Derived.Lib.Bytealg
set_option linter.unusedVariables false
set_option linter.unusedSimpArgs false
namespace Go.Proofs.YtcecpodbmjghhaaGreat
open Go Go.RowKit
structure Splt where
  key : ByteArray
  ways : Int
  par : ByteArray
  port : Int
deriving DecidableEq, Inhabited
def Splt.cells (s : Splt) : List Value := [.string s.key, .int .i64 s.ways, .string s.par, .int .i64 s.port]
theorem Splt.cells_len (s : Splt) : s.cells.length = 4 := rfl
structure Drp where
  cust : ByteArray
  spl : ByteArray
  port : Int
deriving DecidableEq, Inhabited
def Drp.cells (s : Drp) : List Value := [.string s.cust, .string s.spl, .int .i64 s.port]
theorem Drp.cells_len (s : Drp) : s.cells.length = 3 := rfl
/-- strings compared -/
def cmpB (a b : ByteArray) : Int := Lib.compareBytes a.data.toList b.data.toList
def lessB (a b : ByteArray) : Bool := Op.bytesLess a.toList b.toList
def leB (a b : ByteArray) : Bool := Op.bytesLess a.toList b.toList || a.toList == b.toList
theorem cmp_less : ∀ a b : List UInt8, (Lib.compareBytes a b < 0 ↔ Op.bytesLess a b = true)
  | [], [] => by simp [Lib.compareBytes, Op.bytesLess]
  | [], _ :: _ => by simp [Lib.compareBytes, Op.bytesLess]
  | _ :: _, [] => by simp [Lib.compareBytes, Op.bytesLess]
  | a :: x, b :: y => by
    have ih := cmp_less x y
    simp only [Lib.compareBytes, Op.bytesLess]
    by_cases h : a < b
    · simp [h]
    · by_cases h2 : b < a
      · have hne : a ≠ b := fun e => by subst e; exact h h2
        simp [h, h2, hne]
      · have he : a = b := UInt8.le_antisymm (UInt8.not_lt.1 h2) (UInt8.not_lt.1 h)
        subst he
        simp [h, ih]
theorem cmp_eq0 : ∀ a b : List UInt8, (Lib.compareBytes a b = 0 ↔ a = b)
  | [], [] => by simp [Lib.compareBytes]
  | [], _ :: _ => by simp [Lib.compareBytes]
  | _ :: _, [] => by simp [Lib.compareBytes]
  | a :: x, b :: y => by
    have ih := cmp_eq0 x y
    simp only [Lib.compareBytes]
    by_cases h : a < b
    · have hne : a ≠ b := fun e => by subst e; exact UInt8.lt_irrefl _ h
      simp [h, hne]
    · by_cases h2 : b < a
      · have hne : a ≠ b := fun e => by subst e; exact h h2
        simp [h, h2, hne]
      · have he : a = b := UInt8.le_antisymm (UInt8.not_lt.1 h2) (UInt8.not_lt.1 h)
        subst he
        simp [h, ih]
theorem bytesLess_trans : ∀ {a b c : List UInt8}, Op.bytesLess a b = true → Op.bytesLess b c = true → Op.bytesLess a c = true
  | [], _ :: _, _ :: _, _, _ => rfl
  | [], [], _, h, _ => by cases h
  | _, _ :: _, [], _, h => by cases h
  | _ :: _, [], _, h, _ => by cases h
  | a :: x, b :: y, c :: z, h1, h2 => by
    simp only [Op.bytesLess, Bool.or_eq_true, decide_eq_true_eq, Bool.and_eq_true, beq_iff_eq] at *
    rcases h1 with h1 | ⟨rfl, h1⟩
    · rcases h2 with h2 | ⟨rfl, h2⟩
      · exact .inl (UInt8.lt_trans h1 h2)
      · exact .inl h1
    · rcases h2 with h2 | ⟨rfl, h2⟩
      · exact .inl h2
      · exact .inr ⟨rfl, bytesLess_trans h1 h2⟩
theorem bytesLess_irrefl : ∀ a : List UInt8, Op.bytesLess a a = false
  | [] => rfl
  | a :: x => by simp [Op.bytesLess, bytesLess_irrefl x, UInt8.lt_irrefl]
theorem bytesLess_total : ∀ a b : List UInt8, Op.bytesLess a b = true ∨ a = b ∨ Op.bytesLess b a = true
  | [], [] => .inr (.inl rfl)
  | [], _ :: _ => .inl rfl
  | _ :: _, [] => .inr (.inr rfl)
  | a :: x, b :: y => by
    simp only [Op.bytesLess, Bool.or_eq_true, decide_eq_true_eq, Bool.and_eq_true, beq_iff_eq, List.cons.injEq]
    by_cases h : a < b
    · exact .inl (.inl h)
    · by_cases h2 : b < a
      · exact .inr (.inr (.inl h2))
      · have he : a = b := UInt8.le_antisymm (UInt8.not_lt.1 h2) (UInt8.not_lt.1 h)
        subst he
        rcases bytesLess_total x y with h3 | h3 | h3
        · exact .inl (.inr ⟨rfl, h3⟩)
        · exact .inr (.inl ⟨rfl, h3⟩)
        · exact .inr (.inr (.inr ⟨rfl, h3⟩))
theorem cmpB_less (a b : ByteArray) : cmpB a b < 0 ↔ lessB a b = true := by unfold cmpB lessB; rw [ByteArray.toList_eq, ByteArray.toList_eq]; exact cmp_less _ _
theorem data_inj {a b : ByteArray} (h : a.data.toList = b.data.toList) : a = b := by
  cases a; cases b; simp only [ByteArray.mk.injEq]; exact Array.toList_inj.1 h
theorem cmpB_eq0 (a b : ByteArray) : cmpB a b = 0 ↔ a = b := by unfold cmpB; rw [cmp_eq0]; exact ⟨data_inj, fun h => by rw [h]⟩
theorem lessB_trans {a b c : ByteArray} (h1 : lessB a b = true) (h2 : lessB b c = true) : lessB a c = true := bytesLess_trans h1 h2
theorem lessB_irrefl (a : ByteArray) : lessB a a = false := bytesLess_irrefl _
theorem lessB_total (a b : ByteArray) : lessB a b = true ∨ a = b ∨ lessB b a = true := by
  unfold lessB
  rw [ByteArray.toList_eq, ByteArray.toList_eq]
  rcases bytesLess_total a.data.toList b.data.toList with h | h | h
  · exact .inl h
  · exact .inr (.inl (data_inj h))
  · exact .inr (.inr h)
theorem leB_not (a b : ByteArray) : leB a b = !lessB b a := by
  unfold leB lessB
  rcases bytesLess_total a.toList b.toList with h | h | h
  · have h2 : Op.bytesLess b.toList a.toList = false := by
      cases h3 : Op.bytesLess b.toList a.toList
      · rfl
      · have := bytesLess_trans h h3; rw [bytesLess_irrefl] at this; cases this
    simp [h, h2]
  · simp [h, bytesLess_irrefl]
  · have h2 : Op.bytesLess a.toList b.toList = false := by
      cases h3 : Op.bytesLess a.toList b.toList
      · rfl
      · have := bytesLess_trans h h3; rw [bytesLess_irrefl] at this; cases this
    have h3 : a.toList ≠ b.toList := fun e => by rw [e, bytesLess_irrefl] at h; cases h
    simp [h, h2, h3]
/-- keys that rise -/
def Rising (l : List ByteArray) : Prop := l.Pairwise (fun a b => lessB a b = true)
/-- the first error of n places -/
def faultAt (f : Nat → Int) (n : Nat) : Int := firstF ((List.range n).map f)
theorem faultAt_zero {f : Nat → Int} {n : Nat} : faultAt f n = 0 ↔ ∀ k, k < n → f k = 0 := by
  unfold faultAt
  rw [firstF_zero]
  simp
theorem range_map_take (f : Nat → Int) (n k : Nat) (h : k ≤ n) : ((List.range n).map f).take k = (List.range k).map f := by
  rw [← List.map_take, List.take_range]; congr 2; omega
theorem faultAt_succ {f : Nat → Int} {k : Nat} (h : faultAt f k = 0) : faultAt f (k + 1) = f k := by
  unfold faultAt at *
  rw [List.range_succ, List.map_append, firstF_append, if_pos h]
  simp only [List.map_cons, List.map_nil, firstF]; split <;> simp_all
theorem faultAt_hit {f : Nat → Int} {n k : Nat} (hk : k < n) (h : faultAt f k = 0) (h1 : f k ≠ 0) : faultAt f n = f k := by
  unfold faultAt at *
  have hl : k < ((List.range n).map f).length := by simpa using hk
  rw [firstF_hit _ k hl (by rw [range_map_take f n k (by omega)]; exact h) (by simpa using h1)]
  simp
def findS (l : List Splt) (k : ByteArray) : Int := idxF (fun s => decide (s.key = k)) l
def getS (l : List Splt) (k : ByteArray) : Option Splt := l.find? (fun s => decide (s.key = k))
def spltFault (l : List Splt) (k : Nat) : Int :=
  match l[k]? with
  | none => 0
  | some s => if !keyB s.key then 5 else if !waysB s.ways then 1 else if s.par.size = 0 ∧ s.port ≠ 0 then 3 else if 0 < k ∧ leB s.key (l[k - 1]?.getD default).key = true then 7 else 0
def parFault (l : List Splt) (k : Nat) : Int :=
  match l[k]? with
  | none => 0
  | some s => if s.par.size = 0 then 0 else match getS l s.par with
    | none => 8
    | some x => if outB s.port 1 x.ways then 1 else 0
def spltsFault (l : List Splt) : Int := if 500 < l.length then 2 else faultAt (spltFault l) l.length
theorem idxF_find {α : Type} (p : α → Bool) : ∀ l : List α, (idxF p l < 0 ∧ l.find? p = none) ∨ ∃ k : Nat, ∃ h : k < l.length, idxF p l = k ∧ l.find? p = some l[k] ∧ p l[k] = true
  | [] => .inl (by simp [idxF])
  | x :: l => by
    rcases idxF_find p l with ⟨h1, h2⟩ | ⟨k, h, h1, h2, h3⟩
    · cases hx : p x
      · exact .inl (by simp [idxF, hx, h1, h2])
      · exact .inr ⟨0, by simp, by simp [idxF, hx], by simp [hx], by simpa using hx⟩
    · cases hx : p x
      · refine .inr ⟨k + 1, by simpa using h, ?_, by simp [hx, h2], by simpa using h3⟩
        simp only [idxF, hx, Bool.false_eq_true, if_false]
        rw [if_neg (by omega), h1]; push_cast; rfl
      · exact .inr ⟨0, by simp, by simp [idxF, hx], by simp [hx], by simpa using hx⟩
theorem findS_get (l : List Splt) (key : ByteArray) : (findS l key < 0 ∧ getS l key = none) ∨ ∃ k : Nat, ∃ h : k < l.length, findS l key = k ∧ getS l key = some l[k] ∧ l[k].key = key := by
  rcases idxF_find (fun s : Splt => decide (s.key = key)) l with h | ⟨k, h, h1, h2, h3⟩
  · exact .inl h
  · exact .inr ⟨k, h, h1, h2, by simpa using h3⟩
abbrev PortK : Type := ByteArray × Int
def seenP (l : List Splt) (k : Nat) (q : PortK) : Bool := (l.take k).any fun s => decide (s.par.size ≠ 0) && decide ((s.par, s.port) = q)
def dupAt (l : List Splt) (k : Nat) : Bool := match l[k]? with | some s => decide (s.par.size ≠ 0) && seenP l k (s.par, s.port) | none => false
def twiceB (l : List Splt) (n : Nat) : Bool := (List.range n).any (dupAt l)
theorem twiceB_succ (l : List Splt) (n : Nat) : twiceB l (n + 1) = (twiceB l n || dupAt l n) := by
  unfold twiceB; rw [List.range_succ, List.any_append]; simp
def upS (l : List Splt) (s : Splt) : Splt := if s.par.size = 0 then s else (getS l s.par).getD s
def upN (l : List Splt) : Nat → Splt → Splt
  | 0, s => s
  | n + 1, s => upS l (upN l n s)
theorem upN_stay {l : List Splt} {s : Splt} {k : Nat} (h : (upN l k s).par.size = 0) : ∀ n, upN l (k + n) s = upN l k s
  | 0 => rfl
  | n + 1 => by
    show upS l (upN l (k + n) s) = _
    rw [upN_stay h n]
    unfold upS; rw [if_pos h]
def loopAt (l : List Splt) (s : Splt) : Bool := decide ((upN l l.length s).par.size ≠ 0)
def parentsF (l : List Splt) : Int := if faultAt (parFault l) l.length ≠ 0 then faultAt (parFault l) l.length else if twiceB l l.length then 6 else if l.any (loopAt l) then 14 else 0
/-- every parent is there -/
def ParOk (l : List Splt) : Prop := ∀ s ∈ l, s.par.size ≠ 0 → ∃ x ∈ l, getS l s.par = some x
theorem parOk_of {l : List Splt} (h : faultAt (parFault l) l.length = 0) : ParOk l := by
  intro s hs hp
  obtain ⟨k, hk, rfl⟩ := List.mem_iff_getElem.1 hs
  have h1 := faultAt_zero.1 h k hk
  unfold parFault at h1
  rw [List.getElem?_eq_getElem hk] at h1
  simp only [if_neg hp] at h1
  rcases findS_get l l[k].par with ⟨_, h2⟩ | ⟨j, hj, _, h2, _⟩
  · rw [h2] at h1; simp at h1
  · exact ⟨_, List.getElem_mem _, h2⟩
theorem upN_mem {l : List Splt} (h : ParOk l) {s : Splt} (hs : s ∈ l) : ∀ n, upN l n s ∈ l
  | 0 => hs
  | n + 1 => by
    have ih := upN_mem h hs n
    show upS l (upN l n s) ∈ l
    unfold upS
    split
    · exact ih
    · rename_i hp
      obtain ⟨x, hx, he⟩ := h _ ih hp
      rw [he]; exact hx
def dropFault (l : List Splt) (d : List Drp) (k : Nat) : Int :=
  match d[k]? with
  | none => 0
  | some x => if keyB x.cust = false then 5 else match getS l x.spl with
    | none => 8
    | some s => if outB x.port 1 s.ways then 1 else if 0 < k ∧ leB x.cust (d[k - 1]?.getD default).cust = true then 7 else 0
def seenD (l : List Splt) (d : List Drp) (k : Nat) (q : PortK) : Bool := seenP l l.length q || (d.take k).any fun x => decide ((x.spl, x.port) = q)
def dupD (l : List Splt) (d : List Drp) (k : Nat) : Bool := match d[k]? with | some x => seenD l d k (x.spl, x.port) | none => false
def twiceD (l : List Splt) (d : List Drp) (n : Nat) : Bool := (List.range n).any (dupD l d)
theorem twiceD_succ (l : List Splt) (d : List Drp) (n : Nat) : twiceD l d (n + 1) = (twiceD l d n || dupD l d n) := by
  unfold twiceD; rw [List.range_succ, List.any_append]; simp
theorem seenD_succ (l : List Splt) (d : List Drp) (k : Nat) (h : k < d.length) (x : PortK) : seenD l d (k + 1) x = (seenD l d k x || decide ((d[k].spl, d[k].port) = x)) := by
  unfold seenD
  rw [List.take_succ_eq_append_getElem h, List.any_append]; simp [Bool.or_assoc]
theorem dupD_in (l : List Splt) (d : List Drp) (k : Nat) (h : k < d.length) : dupD l d k = seenD l d k (d[k].spl, d[k].port) := by
  unfold dupD; rw [List.getElem?_eq_getElem h]
def dropsF (l : List Splt) (d : List Drp) : Int := if 5000 < d.length then 2 else if faultAt (dropFault l d) d.length ≠ 0 then faultAt (dropFault l d) d.length else if twiceD l d d.length then 6 else 0
/-- what the tests of splitters leave -/
structure SOk (l : List Splt) : Prop where
  len : l.length ≤ 500
  rise : Rising (l.map (·.key))
  keys : ∀ s ∈ l, keyB s.key = true ∧ waysB s.ways = true
theorem waysB_le {n : Int} (h : waysB n = true) : 1 ≤ n ∧ n ≤ 128 := by
  unfold waysB at h
  have := dbl_cases n (by simpa using h)
  omega
theorem keyB_size {s : ByteArray} (h : keyB s = true) : 1 ≤ s.size ∧ s.size ≤ 40 := by
  unfold keyB at h
  simp only [Bool.and_eq_true, decide_eq_true_eq] at h
  exact h.1.1
theorem SOk.get {l : List Splt} (h : SOk l) {k : ByteArray} {s : Splt} (hg : getS l k = some s) : k.size ≤ 40 ∧ 1 ≤ s.ways ∧ s.ways ≤ 128 ∧ s ∈ l := by
  rcases findS_get l k with ⟨_, h2⟩ | ⟨j, hj, _, h2, h3⟩
  · rw [hg] at h2; cases h2
  · rw [hg] at h2
    obtain rfl : s = l[j] := by simpa using h2
    have h4 := h.keys _ (List.getElem_mem hj)
    have h5 := keyB_size h4.1
    rw [h3] at h5
    have h6 := waysB_le h4.2
    exact ⟨h5.2, h6.1, h6.2, List.getElem_mem hj⟩
theorem SOk.par {l : List Splt} (h : SOk l) (hz : faultAt (parFault l) l.length = 0) {s : Splt} (hs : s ∈ l) (hp : s.par.size ≠ 0) : s.par.size ≤ 40 ∧ 1 ≤ s.port ∧ s.port ≤ 128 := by
  obtain ⟨k, hk, rfl⟩ := List.mem_iff_getElem.1 hs
  have h1 := faultAt_zero.1 hz k hk
  unfold parFault at h1
  rw [List.getElem?_eq_getElem hk] at h1
  simp only [if_neg hp] at h1
  cases hg : getS l l[k].par with
  | none => rw [hg] at h1; simp at h1
  | some x =>
    rw [hg] at h1
    obtain ⟨g1, g2, g3, _⟩ := h.get hg
    cases ho : outB l[k].port 1 x.ways
    · have := outB_false.1 ho; omega
    · simp only [ho, if_true] at h1; omega
theorem rising_of : ∀ (l : List ByteArray), (∀ k, k + 1 < l.length → lessB (l[k]?.getD default) (l[k + 1]?.getD default) = true) → Rising l
  | [], _ => List.Pairwise.nil
  | [x], _ => List.pairwise_singleton _ _
  | x :: y :: l, h => by
    have ih : Rising (y :: l) := rising_of (y :: l) (fun k hk => by have := h (k + 1) (by simpa using hk); simpa using this)
    have h0 : lessB x y = true := by have := h 0 (by simp); simpa using this
    refine List.pairwise_cons.2 ⟨fun z hz => ?_, ih⟩
    rcases List.mem_cons.1 hz with rfl | hz
    · exact h0
    · exact lessB_trans h0 ((List.pairwise_cons.1 ih).1 z hz)
theorem spltFault_in {l : List Splt} {k : Nat} (h : k < l.length) : spltFault l k = if keyB l[k].key = false then 5 else if waysB l[k].ways = false then 1 else if l[k].par.size = 0 ∧ l[k].port ≠ 0 then 3 else if 0 < k ∧ leB l[k].key (l[k - 1]?.getD default).key = true then 7 else 0 := by
  unfold spltFault
  rw [List.getElem?_eq_getElem h]
  simp only [Bool.not_eq_true']
theorem sok_of {l : List Splt} (hl : l.length ≤ 500) (hz : faultAt (spltFault l) l.length = 0) : SOk l := by
  have h := faultAt_zero.1 hz
  refine ⟨hl, ?_, fun s hs => ?_⟩
  · refine rising_of _ (fun k hk => ?_)
    rw [List.length_map] at hk
    have h1 := h (k + 1) hk
    rw [spltFault_in hk] at h1
    have hk' : k < l.length := by omega
    have e1 : (l.map (·.key))[k]?.getD default = l[k].key := by simp [hk']
    have e2 : (l.map (·.key))[k + 1]?.getD default = l[k + 1].key := by simp [hk]
    rw [e1, e2]
    have e3 : (l[k + 1 - 1]?.getD default) = l[k] := by simp [hk']
    rw [e3, leB_not] at h1
    cases hx : lessB l[k].key l[k + 1].key
    · rw [hx] at h1
      split at h1
      · omega
      · split at h1
        · omega
        · split at h1
          · omega
          · simp at h1
    · rfl
  · obtain ⟨k, hk, rfl⟩ := List.mem_iff_getElem.1 hs
    have h1 := h k hk
    rw [spltFault_in hk] at h1
    split at h1
    · omega
    · rename_i g1
      split at h1
      · omega
      · rename_i g2
        exact ⟨by simpa using g1, by simpa using g2⟩
def treeF (l : List Splt) (d : List Drp) : Int := if spltsFault l ≠ 0 then spltsFault l else if parentsF l ≠ 0 then parentsF l else dropsF l d
theorem parentsF_zero {l : List Splt} (h : parentsF l = 0) : faultAt (parFault l) l.length = 0 ∧ twiceB l l.length = false ∧ l.any (loopAt l) = false := by
  unfold parentsF at h
  split at h
  · rename_i h1; exact absurd h h1
  · rename_i h1
    split at h
    · omega
    · rename_i h2
      split at h
      · omega
      · rename_i h3
        exact ⟨by omega, by simpa using h2, by simpa using h3⟩
structure TOk (l : List Splt) (d : List Drp) : Prop where
  s : SOk l
  par : faultAt (parFault l) l.length = 0
  tw : twiceB l l.length = false
  lp : l.any (loopAt l) = false
  dr : dropsF l d = 0
theorem tok_of {l : List Splt} {d : List Drp} (h : treeF l d = 0) : TOk l d := by
  unfold treeF at h
  split at h
  · rename_i h1; exact absurd h h1
  · rename_i h1
    split at h
    · rename_i h2; exact absurd h h2
    · rename_i h2
      have h3 : spltsFault l = 0 := by omega
      unfold spltsFault at h3
      split at h3
      · omega
      · obtain ⟨p1, p2, p3⟩ := parentsF_zero (l := l) (by omega)
        exact ⟨sok_of (by omega) h3, p1, p2, p3, h⟩
/-- what stands at the ports -/
def takenS (l : List Splt) (k : Nat) (q : PortK) : Option ByteArray := (l.take k).foldl (fun m s => if s.par.size ≠ 0 ∧ (s.par, s.port) = q then some (⟨#[47]⟩ ++ s.key) else m) none
def takenV (l : List Splt) (d : List Drp) (k : Nat) (q : PortK) : Option ByteArray := (d.take k).foldl (fun m x => if (x.spl, x.port) = q then some x.cust else m) (takenS l l.length q)
theorem takenS_succ (l : List Splt) (k : Nat) (h : k < l.length) (q : PortK) : takenS l (k + 1) q = if l[k].par.size ≠ 0 ∧ (l[k].par, l[k].port) = q then some (⟨#[47]⟩ ++ l[k].key) else takenS l k q := by
  unfold takenS; rw [List.take_succ_eq_append_getElem h, List.foldl_append]; rfl
theorem takenV_succ (l : List Splt) (d : List Drp) (k : Nat) (h : k < d.length) (q : PortK) : takenV l d (k + 1) q = if (d[k].spl, d[k].port) = q then some d[k].cust else takenV l d k q := by
  unfold takenV; rw [List.take_succ_eq_append_getElem h, List.foldl_append]; rfl
def atPort (l : List Splt) (d : List Drp) (q : PortK) : ByteArray := (takenV l d d.length q).getD ⟨#[]⟩
def portsV (l : List Splt) (d : List Drp) (key : ByteArray) : List ByteArray := (List.range (((getS l key).map (·.ways.toNat)).getD 0)).map fun (i : Nat) => atPort l d (key, (i : Int) + 1)
def splitterF (l : List Splt) (d : List Drp) (key : ByteArray) : Int := if treeF l d ≠ 0 then treeF l d else if (getS l key).isNone then 8 else 0
theorem TOk.drop {l : List Splt} {d : List Drp} (h : TOk l d) {k : Nat} (hk : k < d.length) : d[k].spl.size ≤ 40 ∧ 1 ≤ d[k].port ∧ d[k].port ≤ 128 ∧ 1 ≤ d[k].cust.size ∧ d[k].cust.size ≤ 40 ∧ ∃ s ∈ l, getS l d[k].spl = some s ∧ d[k].port ≤ s.ways := by
  have h0 := h.dr
  unfold dropsF at h0
  split at h0
  · omega
  · split at h0
    · rename_i h1; exact absurd h0 h1
    · rename_i h1
      have h2 := faultAt_zero.1 (show faultAt (dropFault l d) d.length = 0 by omega) k hk
      unfold dropFault at h2
      rw [List.getElem?_eq_getElem hk] at h2
      simp only at h2
      split at h2
      · omega
      · rename_i hkey
        have hkey' := keyB_size (show keyB d[k].cust = true by simpa using hkey)
        cases hg : getS l d[k].spl with
        | none => rw [hg] at h2; simp at h2
        | some s =>
          rw [hg] at h2
          simp only at h2
          cases ho : outB d[k].port 1 s.ways
          · have h3 := outB_false.1 ho
            have h4 := h.s.get hg
            exact ⟨h4.1, h3.1, by omega, hkey'.1, hkey'.2, s, h4.2.2.2, rfl, h3.2⟩
          · rw [ho] at h2; simp at h2
end Go.Proofs.YtcecpodbmjghhaaGreat
