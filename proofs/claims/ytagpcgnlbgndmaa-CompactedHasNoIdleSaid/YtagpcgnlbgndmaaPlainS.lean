/- The plain mathematics of schedules: jobs, windows, crews. No program. No condition. -/
import Derived.Test.YtagpcgnlbgndmaaPlainT
set_option linter.unusedVariables false
set_option linter.unusedSimpArgs false
namespace Go.Proofs.Ytagpcgnlbgndmaa
open Go Go.RowKit

structure Fib where
  cable : ByteArray
  no : Int
deriving DecidableEq, Inhabited
structure Job where
  kind : Int
  site : ByteArray
  x : Fib
  y : Fib
  loss : Int
  mins : Int
deriving DecidableEq, Inhabited
def Job.cells (j : Job) : List Value := [.int .i64 j.kind, .string j.site, .string j.x.cable, .int .i64 j.x.no, .string j.y.cable, .int .i64 j.y.no, .int .i64 j.loss, .int .i64 j.mins]
theorem Job.cells_len (j : Job) : j.cells.length = 8 := rfl
structure Win where
  fr : Int
  to : Int
deriving DecidableEq, Inhabited
def Win.cells (x : Win) : List Value := [.int .i64 x.fr, .int .i64 x.to]
theorem Win.cells_len (x : Win) : x.cells.length = 2 := rfl

def jobFault (j : List Job) (k : Nat) : Int := match j[k]? with | none => 0 | some x => if outB x.mins 1 1000 then 1 else 0
def winFault (w : List Win) (k : Nat) : Int := match w[k]? with | none => 0 | some x => if outB x.fr 0 x.to = true ∨ 1000000 < x.to then 1 else if 0 < k ∧ x.fr < (w[k - 1]?.getD default).to then 7 else 0
def schedF (j : List Job) (w : List Win) (crews : Int) : Int :=
  if 200 < j.length then 2 else if faultAt (jobFault j) j.length ≠ 0 then faultAt (jobFault j) j.length
  else if 100 < w.length then 2 else if faultAt (winFault w) w.length ≠ 0 then faultAt (winFault w) w.length
  else if outB crews 1 20 then 1 else 0
theorem jobFault_in {j : List Job} {k : Nat} (h : k < j.length) : jobFault j k = if outB j[k].mins 1 1000 then 1 else 0 := by
  unfold jobFault; rw [List.getElem?_eq_getElem h]
theorem winFault_in {w : List Win} {k : Nat} (h : k < w.length) : winFault w k = if outB w[k].fr 0 w[k].to = true ∨ 1000000 < w[k].to then 1 else if 0 < k ∧ w[k].fr < (w[k - 1]?.getD default).to then 7 else 0 := by
  unfold winFault; rw [List.getElem?_eq_getElem h]
/-- what the tests leave -/
structure SchOk (j : List Job) (w : List Win) (crews : Int) : Prop where
  jl : j.length ≤ 200
  jm : ∀ x ∈ j, 1 ≤ x.mins ∧ x.mins ≤ 1000
  wl : w.length ≤ 100
  wm : ∀ x ∈ w, 0 ≤ x.fr ∧ x.fr ≤ x.to ∧ x.to ≤ 1000000
  c1 : 1 ≤ crews
  c2 : crews ≤ 20
theorem schOk_of {j : List Job} {w : List Win} {crews : Int} (h : schedF j w crews = 0) : SchOk j w crews := by
  unfold schedF at h
  split at h
  · omega
  · rename_i h1
    split at h
    · rename_i h2; exact absurd h h2
    · rename_i h2
      split at h
      · omega
      · rename_i h3
        split at h
        · rename_i h4; exact absurd h h4
        · rename_i h4
          cases ho : outB crews 1 20
          · have h5 := outB_false.1 ho
            refine ⟨by omega, fun x hx => ?_, by omega, fun x hx => ?_, h5.1, h5.2⟩
            · obtain ⟨k, hk, rfl⟩ := List.mem_iff_getElem.1 hx
              have h6 := faultAt_zero.1 (show faultAt (jobFault j) j.length = 0 by omega) k hk
              rw [jobFault_in hk] at h6
              cases hq : outB j[k].mins 1 1000
              · exact outB_false.1 hq
              · rw [hq] at h6; simp at h6
            · obtain ⟨k, hk, rfl⟩ := List.mem_iff_getElem.1 hx
              have h6 := faultAt_zero.1 (show faultAt (winFault w) w.length = 0 by omega) k hk
              rw [winFault_in hk] at h6
              split at h6
              · omega
              · rename_i h7
                have h8 : outB w[k].fr 0 w[k].to = false := by
                  cases hq : outB w[k].fr 0 w[k].to
                  · rfl
                  · exact absurd (Or.inl hq) h7
                have := outB_false.1 h8
                omega
          · rw [ho] at h; simp at h

def fitsW (from_ mins : Int) (y : Win) : Bool := decide (max from_ y.fr + mins ≤ y.to)
def schedGo (w : List Win) : List Job → List Int → Int → List Int → Option (List Int)
  | [], _, _, out => some out
  | x :: j, free, last, out =>
    let f := free.mergeSort fun a b => decide (a ≤ b)
    let fr := max last (f.getD 0 0)
    match w.find? (fitsW fr x.mins) with
    | none => none
    | some y => schedGo w j (f.set 0 (max fr y.fr + x.mins)) (max fr y.fr) (out ++ [max fr y.fr])
def schedV (j : List Job) (w : List Win) (crews : Int) : Option (List Int) := schedGo w j (List.replicate crews.toNat 0) 0 []
end Go.Proofs.Ytagpcgnlbgndmaa
