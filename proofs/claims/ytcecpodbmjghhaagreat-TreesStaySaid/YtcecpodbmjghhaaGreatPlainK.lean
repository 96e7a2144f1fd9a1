/- Plain: where a customer is connected. No program. -/
import Derived.Test.YtcecpodbmjghhaaGreatTreesP
import Derived.Test.YtcecpodbmjghhaaGreatPlainF
set_option linter.unusedVariables false
set_option linter.unusedSimpArgs false
namespace Go.Proofs.YtcecpodbmjghhaaGreat

/-- the best port so far, and how often light is halved on the way to it -/
def bestStep (l : List Splt) (d : List Drp) (c : ByteArray) (st : Option (Drp × Int)) (s : Splt) : Option (Drp × Int) :=
  match freeL l d s with
  | [] => st
  | p :: _ => match st with
    | none => some (⟨c, s.key, p⟩, powS (chainV l s.key))
    | some (b, m) => if powS (chainV l s.key) < m then some (⟨c, s.key, p⟩, powS (chainV l s.key)) else some (b, m)
def bestK (l : List Splt) (d : List Drp) (c : ByteArray) (k : Nat) : Option (Drp × Int) := (l.take k).foldl (bestStep l d c) none
theorem bestK_succ {l : List Splt} {d : List Drp} {c : ByteArray} {k : Nat} (hk : k < l.length) : bestK l d c (k + 1) = bestStep l d c (bestK l d c k) l[k] := by
  unfold bestK
  rw [List.take_succ_eq_append_getElem hk, List.foldl_append]; rfl
def bestD (st : Option (Drp × Int)) : Drp := match st with | none => eDrp | some (b, _) => b
def bestN (st : Option (Drp × Int)) : Int := match st with | none => -1 | some (_, m) => m
/-- the error of Connect -/
def conF (l : List Splt) (d : List Drp) (c : ByteArray) : Int :=
  if treeF l d ≠ 0 then treeF l d else if keyB c = false then 5 else if 0 ≤ findD d c then 6 else if bestK l d c l.length = none then 12 else if 5000 ≤ d.length then 2 else 0
def conB (l : List Splt) (d : List Drp) (c : ByteArray) : Drp := if conF l d c = 0 then bestD (bestK l d c l.length) else eDrp
/-- where a customer stands among rising ones -/
def posD (d : List Drp) (c : ByteArray) : Nat := (d.takeWhile fun x => lessB x.cust c).length
theorem posD_le (d : List Drp) (c : ByteArray) : posD d c ≤ d.length := (List.takeWhile_sublist _).length_le
def conS (l : List Splt) (d : List Drp) (c : ByteArray) : List Splt := if conF l d c = 0 then l else []
def conD (l : List Splt) (d : List Drp) (c : ByteArray) : List Drp := if conF l d c = 0 then d.take (posD d c) ++ conB l d c :: d.drop (posD d c) else []
/-- what the search keeps: a free port of a splitter, and its way -/
theorem best_inv {l : List Splt} {d : List Drp} (h : SOk l) (he : ∀ s ∈ l, endsB l l.length s.key = true) (c : ByteArray) : ∀ k, k ≤ l.length → match bestK l d c k with
    | none => ∀ j (hj : j < l.length), j < k → freeL l d l[j] = []
    | some (b, m) => 0 ≤ m ∧ m ≤ 3500 ∧ ∃ s ∈ l, ∃ p r, freeL l d s = p :: r ∧ b = ⟨c, s.key, p⟩ ∧ m = powS (chainV l s.key)
  | 0, _ => by simp [bestK]
  | k + 1, hk => by
    have ih := best_inv (d := d) h he c k (by omega)
    have hs := List.getElem_mem (show k < l.length by omega)
    have hw : ∀ s' ∈ chainV l l[k].key, waysB s'.ways = true := fun s' hs' => (h.keys s' (upC_mem (he _ hs) s' (by unfold chainV at hs'; simpa using hs'))).2
    have hn := powS_nonneg hw
    have hcl : (chainV l l[k].key).length ≤ 500 := by
      have := upC_le (he _ hs)
      have := h.len
      unfold chainV
      rw [List.length_reverse]; omega
    rw [bestK_succ (by omega)]
    unfold bestStep
    cases hf : freeL l d l[k] with
    | nil =>
      cases hb : bestK l d c k with
      | none =>
        rw [hb] at ih
        intro j hj hjk
        rcases Nat.lt_or_ge j k with h1 | h1
        · exact ih j hj h1
        · obtain rfl : j = k := by omega
          exact hf
      | some x => rw [hb] at ih; exact ih
    | cons p r =>
      have hnew : 0 ≤ powS (chainV l l[k].key) ∧ powS (chainV l l[k].key) ≤ 3500 ∧ ∃ s ∈ l, ∃ p' r', freeL l d s = p' :: r' ∧ (⟨c, l[k].key, p⟩ : Drp) = ⟨c, s.key, p'⟩ ∧ powS (chainV l l[k].key) = powS (chainV l s.key) := ⟨hn.1, by omega, _, hs, _, _, hf, rfl, rfl⟩
      cases hb : bestK l d c k with
      | none => exact hnew
      | some x =>
        obtain ⟨b, m⟩ := x
        rw [hb] at ih
        simp only
        by_cases hlt : powS (chainV l l[k].key) < m
        · rw [if_pos hlt]; exact hnew
        · rw [if_neg hlt]; exact ih
end Go.Proofs.YtcecpodbmjghhaaGreat
