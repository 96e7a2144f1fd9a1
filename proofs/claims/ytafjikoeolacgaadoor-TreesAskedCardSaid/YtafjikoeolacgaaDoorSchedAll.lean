/- Texts of one subject in one: PlainS, SchedA, SchedB; what each shows stands at its head. No condition. -/
import Derived.Test.YtafjikoeolacgaaDoorPlainT
import Derived.Test.YtafjikoeolacgaaDoorFuncs
import Derived.Test.YtafjikoeolacgaaDoorMapB
import Derived.Test.YtafjikoeolacgaaDoorTreeAll
import Derived.Sort.OwnSortedInts
import Derived.OwnWalk
import Derived.Test.YtafjikoeolacgaaDoorShelfB
/- The plain mathematics of schedules: jobs, windows, crews. No program. No condition. -/
set_option linter.unusedVariables false
set_option linter.unusedSimpArgs false
namespace Go.Proofs.YtafjikoeolacgaaDoor
open Go Go.RowKit

structure Fib where
  cable : ByteArray
  no : Int
deriving DecidableEq, Inhabited
structure Job where
  kind : Int
  site : ByteArray
  x : Fib
  y : Fib
  loss : Int
  mins : Int
deriving DecidableEq, Inhabited
def Job.cells (j : Job) : List Value := [.int .i64 j.kind, .string j.site, .string j.x.cable, .int .i64 j.x.no, .string j.y.cable, .int .i64 j.y.no, .int .i64 j.loss, .int .i64 j.mins]
theorem Job.cells_len (j : Job) : j.cells.length = 8 := rfl
structure Win where
  fr : Int
  to : Int
deriving DecidableEq, Inhabited
def Win.cells (x : Win) : List Value := [.int .i64 x.fr, .int .i64 x.to]
theorem Win.cells_len (x : Win) : x.cells.length = 2 := rfl

def jobFault (j : List Job) (k : Nat) : Int := match j[k]? with | none => 0 | some x => if outB x.mins 1 1000 then 1 else 0
def winFault (w : List Win) (k : Nat) : Int := match w[k]? with | none => 0 | some x => if outB x.fr 0 x.to = true ∨ 1000000 < x.to then 1 else if 0 < k ∧ x.fr < (w[k - 1]?.getD default).to then 7 else 0
def schedF (j : List Job) (w : List Win) (crews : Int) : Int :=
  if 200 < j.length then 2 else if faultAt (jobFault j) j.length ≠ 0 then faultAt (jobFault j) j.length
  else if 100 < w.length then 2 else if faultAt (winFault w) w.length ≠ 0 then faultAt (winFault w) w.length
  else if outB crews 1 20 then 1 else 0
theorem jobFault_in {j : List Job} {k : Nat} (h : k < j.length) : jobFault j k = if outB j[k].mins 1 1000 then 1 else 0 := by
  unfold jobFault; rw [List.getElem?_eq_getElem h]
theorem winFault_in {w : List Win} {k : Nat} (h : k < w.length) : winFault w k = if outB w[k].fr 0 w[k].to = true ∨ 1000000 < w[k].to then 1 else if 0 < k ∧ w[k].fr < (w[k - 1]?.getD default).to then 7 else 0 := by
  unfold winFault; rw [List.getElem?_eq_getElem h]
/-- what the tests leave -/
structure SchOk (j : List Job) (w : List Win) (crews : Int) : Prop where
  jl : j.length ≤ 200
  jm : ∀ x ∈ j, 1 ≤ x.mins ∧ x.mins ≤ 1000
  wl : w.length ≤ 100
  wm : ∀ x ∈ w, 0 ≤ x.fr ∧ x.fr ≤ x.to ∧ x.to ≤ 1000000
  c1 : 1 ≤ crews
  c2 : crews ≤ 20
theorem schOk_of {j : List Job} {w : List Win} {crews : Int} (h : schedF j w crews = 0) : SchOk j w crews := by
  unfold schedF at h
  split at h
  · omega
  · rename_i h1
    split at h
    · rename_i h2; exact absurd h h2
    · rename_i h2
      split at h
      · omega
      · rename_i h3
        split at h
        · rename_i h4; exact absurd h h4
        · rename_i h4
          cases ho : outB crews 1 20
          · have h5 := outB_false.1 ho
            refine ⟨by omega, fun x hx => ?_, by omega, fun x hx => ?_, h5.1, h5.2⟩
            · obtain ⟨k, hk, rfl⟩ := List.mem_iff_getElem.1 hx
              have h6 := faultAt_zero.1 (show faultAt (jobFault j) j.length = 0 by omega) k hk
              rw [jobFault_in hk] at h6
              cases hq : outB j[k].mins 1 1000
              · exact outB_false.1 hq
              · rw [hq] at h6; simp at h6
            · obtain ⟨k, hk, rfl⟩ := List.mem_iff_getElem.1 hx
              have h6 := faultAt_zero.1 (show faultAt (winFault w) w.length = 0 by omega) k hk
              rw [winFault_in hk] at h6
              split at h6
              · omega
              · rename_i h7
                have h8 : outB w[k].fr 0 w[k].to = false := by
                  cases hq : outB w[k].fr 0 w[k].to
                  · rfl
                  · exact absurd (Or.inl hq) h7
                have := outB_false.1 h8
                omega
          · rw [ho] at h; simp at h

def fitsW (from_ mins : Int) (y : Win) : Bool := decide (max from_ y.fr + mins ≤ y.to)
def schedGo (w : List Win) : List Job → List Int → Int → List Int → Option (List Int)
  | [], _, _, out => some out
  | x :: j, free, last, out =>
    let f := free.mergeSort fun a b => decide (a ≤ b)
    let fr := max last (f.getD 0 0)
    match w.find? (fitsW fr x.mins) with
    | none => none
    | some y => schedGo w j (f.set 0 (max fr y.fr + x.mins)) (max fr y.fr) (out ++ [max fr y.fr])
def schedV (j : List Job) (w : List Win) (crews : Int) : Option (List Int) := schedGo w j (List.replicate crews.toNat 0) 0 []
end Go.Proofs.YtafjikoeolacgaaDoor
/- Walks of package change: what is wrong with jobs, windows and crews. -/
set_option linter.unusedVariables false
set_option linter.unusedSimpArgs false
namespace Go.Proofs.YtafjikoeolacgaaDoor
open Go Go.RowKit

theorem job_at {w : World} {b off k : Nat} {p : Job} (h : ∀ j u, p.cells[j]? = some u → w.cell? ⟨b, off + k * 8 + j, none⟩ = some u) :
    w.cell? ⟨b, off + k * 8, none⟩ = some (.int .i64 p.kind) ∧ w.cell? ⟨b, off + k * 8 + 1, none⟩ = some (.string p.site) ∧ w.cell? ⟨b, off + k * 8 + 2, none⟩ = some (.string p.x.cable) ∧ w.cell? ⟨b, off + k * 8 + 3, none⟩ = some (.int .i64 p.x.no) ∧
    w.cell? ⟨b, off + k * 8 + 4, none⟩ = some (.string p.y.cable) ∧ w.cell? ⟨b, off + k * 8 + 5, none⟩ = some (.int .i64 p.y.no) ∧ w.cell? ⟨b, off + k * 8 + 6, none⟩ = some (.int .i64 p.loss) ∧ w.cell? ⟨b, off + k * 8 + 7, none⟩ = some (.int .i64 p.mins) :=
  ⟨h 0 _ rfl, h 1 _ rfl, h 2 _ rfl, h 3 _ rfl, h 4 _ rfl, h 5 _ rfl, h 6 _ rfl, h 7 _ rfl⟩
theorem win_at {w : World} {b off k : Nat} {p : Win} (h : ∀ j u, p.cells[j]? = some u → w.cell? ⟨b, off + k * 2 + j, none⟩ = some u) :
    w.cell? ⟨b, off + k * 2, none⟩ = some (.int .i64 p.fr) ∧ w.cell? ⟨b, off + k * 2 + 1, none⟩ = some (.int .i64 p.to) :=
  ⟨h 0 _ rfl, h 1 _ rfl⟩

end Go.Proofs.YtafjikoeolacgaaDoor
/- Walk of package change: the schedule of jobs. -/
set_option linter.unusedVariables false
set_option linter.unusedSimpArgs false
namespace Go.Proofs.YtafjikoeolacgaaDoor
open Go Go.RowKit

def sortI (F : List Int) : List Int := F.mergeSort fun a b => decide (a ≤ b)
theorem sortI_len (F : List Int) : (sortI F).length = F.length := List.length_mergeSort _
theorem sortI_mem {F : List Int} {x : Int} : x ∈ sortI F ↔ x ∈ F := List.mem_mergeSort

theorem fitsW_iff (fr mins : Int) (y : Win) : fitsW fr mins y = decide (max fr y.fr + mins ≤ y.to) := rfl
def SchedPost (j : List Job) (ws : List Win) (crews : Int) (w : World) (e : Ending) (w' : World) : Prop :=
  ∃ v, e = .returned (.tuple #[v, .bool (decide (schedF j ws crews = 0 ∧ (schedV j ws crews).isSome = true)), .int .i64 (schedF j ws crews)]) ∧
    Arr intCells 1 w' (if schedF j ws crews = 0 then (schedV j ws crews).getD [] else []) v ∧ Below w.heap.size w w'
theorem infoInt2 : (Tryd.prog.info? 3).map (fun i => (i.zero, i.size, i.bytes)) = some (some (.int .i64 0), 1, 8) := by kernel_rfl
theorem find_idx {ws : List Win} {p : Win → Bool} : (idxF p ws < 0 ∧ ws.find? p = none) ∨ ∃ k : Nat, ∃ h : k < ws.length, idxF p ws = k ∧ ws.find? p = some ws[k] ∧ p ws[k] = true := idxF_find p ws

/-- the state of a round -/
structure SchSt (w : World) (g base2 c : Nat) (F O : List Int) (v : Value) (W : World) : Prop where
  bel : Below w.heap.size w W
  fl : F.length = c
  fr : W.ownsRow w.heap.size 3 1 (.slice (some ⟨g, 0, none⟩) c c) c (F.map (Value.int .i64))
  ob : W.ownsRow base2 3 1 v O.length (O.map (Value.int .i64))
  fm : ∀ x ∈ F, 0 ≤ x ∧ x ≤ 1000000
  gl : g < base2
  bs : base2 ≤ W.heap.size

theorem grown_below2 {a b : World} (h : a.grownBy b none) : Below a.heap.size a b := ⟨h.os, h.tape, h.output, h.size, fun k hk => h.block k hk (by simp)⟩
theorem grown_set1 (w : World) (g o : Nat) (v : Value) : w.grownBy (w.setCell ⟨g, o, none⟩ v) (some g) := grown_setCells g [v] o w
theorem made_zero (c : Nat) : (madeCells (Value.int .i64 0).cells (c * 1)).toList = (List.replicate c (0 : Int)).map (Value.int .i64) := by
  rw [Nat.mul_one]
  apply List.ext_getElem
  · simp [madeCells]
  · intro i h1 h2
    simp [madeCells, Value.cells, Nat.mod_one]
theorem own_cell0 {w : World} {base g c cap : Nat} {F : List Int} (ho : w.ownsRow base 3 1 (.slice (some ⟨g, 0, none⟩) c cap) c (F.map (Value.int .i64))) (hl : F.length = c) (hc : 1 ≤ c) : w.cell? ⟨g, 0, none⟩ = some (.int .i64 (F.getD 0 0)) := by
  rw [ho.cellAt 0 (by omega)]
  rw [List.getElem?_map, List.getElem?_eq_getElem (by omega), List.getD_eq_getElem?_getD, List.getElem?_eq_getElem (by omega)]
  rfl
theorem getD_mem0 {F : List Int} (h : 1 ≤ F.length) : F.getD 0 0 ∈ F := by
  rw [List.getD_eq_getElem?_getD, List.getElem?_eq_getElem (by omega)]; exact List.getElem_mem _
theorem schedGo_cons (ws : List Win) (x : Job) (j : List Job) (F : List Int) (L : Int) (O : List Int) : schedGo ws (x :: j) F L O = match ws.find? (fitsW (max L ((sortI F).getD 0 0)) x.mins) with
    | none => none
    | some y => schedGo ws j ((sortI F).set 0 (max (max L ((sortI F).getD 0 0)) y.fr + x.mins)) (max (max L ((sortI F).getD 0 0)) y.fr) (O ++ [max (max L ((sortI F).getD 0 0)) y.fr]) := rfl
end Go.Proofs.YtafjikoeolacgaaDoor
