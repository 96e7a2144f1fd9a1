/- Texts of one subject in one: PlainS, SchedA, SchedB; what each shows stands at its head. No condition. -/
import Derived.Test.YteliiknlpfjlkaaGreatDoorPlainT
import Derived.Test.YteliiknlpfjlkaaGreatDoorFuncs
import Derived.Test.YteliiknlpfjlkaaGreatDoorMapB
import Derived.Test.YteliiknlpfjlkaaGreatDoorTreeAll
import Derived.Sort.OwnSortedInts
import Derived.OwnWalk
import Derived.Test.YteliiknlpfjlkaaGreatDoorShelfB
/- The plain mathematics of schedules: jobs, windows, crews. No program. No condition. -/
set_option linter.unusedVariables false
set_option linter.unusedSimpArgs false
namespace Go.Proofs.YteliiknlpfjlkaaGreatDoor
open Go Go.RowKit

structure Fib where
  cable : ByteArray
  no : Int
deriving DecidableEq, Inhabited
structure Job where
  kind : Int
  site : ByteArray
  x : Fib
  y : Fib
  loss : Int
  mins : Int
deriving DecidableEq, Inhabited
def Job.cells (j : Job) : List Value := [.int .i64 j.kind, .string j.site, .string j.x.cable, .int .i64 j.x.no, .string j.y.cable, .int .i64 j.y.no, .int .i64 j.loss, .int .i64 j.mins]
theorem Job.cells_len (j : Job) : j.cells.length = 8 := rfl
structure Win where
  fr : Int
  to : Int
deriving DecidableEq, Inhabited
def Win.cells (x : Win) : List Value := [.int .i64 x.fr, .int .i64 x.to]
theorem Win.cells_len (x : Win) : x.cells.length = 2 := rfl

def jobFault (j : List Job) (k : Nat) : Int := match j[k]? with | none => 0 | some x => if outB x.mins 1 1000 then 1 else 0
def winFault (w : List Win) (k : Nat) : Int := match w[k]? with | none => 0 | some x => if outB x.fr 0 x.to = true ∨ 1000000 < x.to then 1 else if 0 < k ∧ x.fr < (w[k - 1]?.getD default).to then 7 else 0
def schedF (j : List Job) (w : List Win) (crews : Int) : Int :=
  if 200 < j.length then 2 else if faultAt (jobFault j) j.length ≠ 0 then faultAt (jobFault j) j.length
  else if 100 < w.length then 2 else if faultAt (winFault w) w.length ≠ 0 then faultAt (winFault w) w.length
  else if outB crews 1 20 then 1 else 0
theorem jobFault_in {j : List Job} {k : Nat} (h : k < j.length) : jobFault j k = if outB j[k].mins 1 1000 then 1 else 0 := by
  unfold jobFault; rw [List.getElem?_eq_getElem h]
theorem winFault_in {w : List Win} {k : Nat} (h : k < w.length) : winFault w k = if outB w[k].fr 0 w[k].to = true ∨ 1000000 < w[k].to then 1 else if 0 < k ∧ w[k].fr < (w[k - 1]?.getD default).to then 7 else 0 := by
  unfold winFault; rw [List.getElem?_eq_getElem h]
/-- what the tests leave -/
structure SchOk (j : List Job) (w : List Win) (crews : Int) : Prop where
  jl : j.length ≤ 200
  jm : ∀ x ∈ j, 1 ≤ x.mins ∧ x.mins ≤ 1000
  wl : w.length ≤ 100
  wm : ∀ x ∈ w, 0 ≤ x.fr ∧ x.fr ≤ x.to ∧ x.to ≤ 1000000
  c1 : 1 ≤ crews
  c2 : crews ≤ 20
theorem schOk_of {j : List Job} {w : List Win} {crews : Int} (h : schedF j w crews = 0) : SchOk j w crews := by
  unfold schedF at h
  split at h
  · omega
  · rename_i h1
    split at h
    · rename_i h2; exact absurd h h2
    · rename_i h2
      split at h
      · omega
      · rename_i h3
        split at h
        · rename_i h4; exact absurd h h4
        · rename_i h4
          cases ho : outB crews 1 20
          · have h5 := outB_false.1 ho
            refine ⟨by omega, fun x hx => ?_, by omega, fun x hx => ?_, h5.1, h5.2⟩
            · obtain ⟨k, hk, rfl⟩ := List.mem_iff_getElem.1 hx
              have h6 := faultAt_zero.1 (show faultAt (jobFault j) j.length = 0 by omega) k hk
              rw [jobFault_in hk] at h6
              cases hq : outB j[k].mins 1 1000
              · exact outB_false.1 hq
              · rw [hq] at h6; simp at h6
            · obtain ⟨k, hk, rfl⟩ := List.mem_iff_getElem.1 hx
              have h6 := faultAt_zero.1 (show faultAt (winFault w) w.length = 0 by omega) k hk
              rw [winFault_in hk] at h6
              split at h6
              · omega
              · rename_i h7
                have h8 : outB w[k].fr 0 w[k].to = false := by
                  cases hq : outB w[k].fr 0 w[k].to
                  · rfl
                  · exact absurd (Or.inl hq) h7
                have := outB_false.1 h8
                omega
          · rw [ho] at h; simp at h

def fitsW (from_ mins : Int) (y : Win) : Bool := decide (max from_ y.fr + mins ≤ y.to)
def schedGo (w : List Win) : List Job → List Int → Int → List Int → Option (List Int)
  | [], _, _, out => some out
  | x :: j, free, last, out =>
    let f := free.mergeSort fun a b => decide (a ≤ b)
    let fr := max last (f.getD 0 0)
    match w.find? (fitsW fr x.mins) with
    | none => none
    | some y => schedGo w j (f.set 0 (max fr y.fr + x.mins)) (max fr y.fr) (out ++ [max fr y.fr])
def schedV (j : List Job) (w : List Win) (crews : Int) : Option (List Int) := schedGo w j (List.replicate crews.toNat 0) 0 []
end Go.Proofs.YteliiknlpfjlkaaGreatDoor
/- Walks of package change: what is wrong with jobs, windows and crews. -/
set_option linter.unusedVariables false
set_option linter.unusedSimpArgs false
namespace Go.Proofs.YteliiknlpfjlkaaGreatDoor
open Go Go.RowKit

theorem job_at {w : World} {b off k : Nat} {p : Job} (h : ∀ j u, p.cells[j]? = some u → w.cell? ⟨b, off + k * 8 + j, none⟩ = some u) :
    w.cell? ⟨b, off + k * 8, none⟩ = some (.int .i64 p.kind) ∧ w.cell? ⟨b, off + k * 8 + 1, none⟩ = some (.string p.site) ∧ w.cell? ⟨b, off + k * 8 + 2, none⟩ = some (.string p.x.cable) ∧ w.cell? ⟨b, off + k * 8 + 3, none⟩ = some (.int .i64 p.x.no) ∧
    w.cell? ⟨b, off + k * 8 + 4, none⟩ = some (.string p.y.cable) ∧ w.cell? ⟨b, off + k * 8 + 5, none⟩ = some (.int .i64 p.y.no) ∧ w.cell? ⟨b, off + k * 8 + 6, none⟩ = some (.int .i64 p.loss) ∧ w.cell? ⟨b, off + k * 8 + 7, none⟩ = some (.int .i64 p.mins) :=
  ⟨h 0 _ rfl, h 1 _ rfl, h 2 _ rfl, h 3 _ rfl, h 4 _ rfl, h 5 _ rfl, h 6 _ rfl, h 7 _ rfl⟩
theorem win_at {w : World} {b off k : Nat} {p : Win} (h : ∀ j u, p.cells[j]? = some u → w.cell? ⟨b, off + k * 2 + j, none⟩ = some u) :
    w.cell? ⟨b, off + k * 2, none⟩ = some (.int .i64 p.fr) ∧ w.cell? ⟨b, off + k * 2 + 1, none⟩ = some (.int .i64 p.to) :=
  ⟨h 0 _ rfl, h 1 _ rfl⟩

set_option maxHeartbeats 4000000 in
set_option maxRecDepth 100000 in
theorem scheduleFault_any (v1 v2 : Value) (j : List Job) (ws : List Win) (crews : Int) (w : World) (h : Arr Job.cells 8 w j v1) (hd : Arr Win.cells 2 w ws v2) : Calls Tryz.prog 118 #[v1, v2, .int .i64 crews] w
    fun e w' => e = .returned (.int .i64 (schedF j ws crews)) ∧ Below w.heap.size w w' := by
  obtain ⟨a, cap, rfl, hcap, hmax, hc⟩ := h
  obtain ⟨a2, cap2, rfl, hcap2, hmax2, hc2⟩ := hd
  unfold maxLen at hmax hmax2
  have HC := Lib.hid hc
  have HC2 := Lib.hid hc2
  clear hc hc2
  by_cases hbig : 200 < j.length
  · have HR : Hid (schedF j ws crews = 2) := by unfold schedF; rw [if_pos hbig]; exact rfl
    go_enter Tryz.func118, Tryz.ntmps118
    go_wp2
    go_ret
    exact ⟨ret_int HR.out.symm, by (repeat (first | exact Below.refl _ _ | assumption | refine below_draws ?_ _ | refine Below.drew ?_ | refine below_alloc ?_ _ (by first | omega | (simp; done) | (simp; omega)) | refine Below.setCell ?_ (by first | omega | (simp; done) | (simp; omega)) _ | refine below_at ?_ (by assumption) (by first | omega | (simp; done) | (simp; omega))))⟩
  have hj2 : j.length ≤ 200 := by omega
  go_enter Tryz.func118, Tryz.ntmps118
  go_wp2
  go_loopw [16] (fun i wr => ∃ k : Nat, k ≤ j.length ∧ i = .int .i64 k ∧ faultAt (jobFault j) k = 0 ∧ Below w.heap.size w wr) (fun i _ => j.length - (intOf i).toNat)
  case atStart => exact ⟨0, by omega, rfl, rfl, Below.refl _ _⟩
  case round =>
    obtain ⟨k, hk, rfl, hz, hB⟩ := hrel
    have hsz := hB.size
    have HS := Lib.hid (And.intro hz hB)
    clear hz hB
    by_cases hlt : k < j.length
    · obtain ⟨b, off, rfl, hb, hcc⟩ := HC.out k hlt
      obtain ⟨c0, c1, c2, c3, c4, c5, c6, c7⟩ := job_at hcc
      replace c0 := (HS.out.2.cell (p := ⟨b, _, none⟩) hb).trans c0
      replace c1 := (HS.out.2.cell (p := ⟨b, _, none⟩) hb).trans c1
      replace c2 := (HS.out.2.cell (p := ⟨b, _, none⟩) hb).trans c2
      replace c3 := (HS.out.2.cell (p := ⟨b, _, none⟩) hb).trans c3
      replace c4 := (HS.out.2.cell (p := ⟨b, _, none⟩) hb).trans c4
      replace c5 := (HS.out.2.cell (p := ⟨b, _, none⟩) hb).trans c5
      replace c6 := (HS.out.2.cell (p := ⟨b, _, none⟩) hb).trans c6
      replace c7 := (HS.out.2.cell (p := ⟨b, _, none⟩) hb).trans c7
      clear hcc
      cases ho : outB j[k].mins 1 1000
      · have HN : Hid (faultAt (jobFault j) (k + 1) = 0) := by rw [faultAt_succ HS.out.1, jobFault_in hlt, ho]; exact rfl
        go_wp2_with (go_at_call 50; refine (out_any _ _ _ _).mono ?_; rintro e w' ⟨rfl, rfl⟩)
        exact ⟨⟨k + 1, by omega, by go_num, HN.out, below_alloc HS.out.2 _ hsz⟩, by simp [intOf]; omega⟩
      · have HN : Hid (schedF j ws crews = 1) := by
          have h1 : jobFault j k = 1 := by rw [jobFault_in hlt, ho]; rfl
          have h2 := faultAt_hit hlt HS.out.1 (by omega)
          unfold schedF; rw [if_neg hbig, h2, h1, if_pos (by omega)]; exact rfl
        go_wp2_with (go_at_call 50; refine (out_any _ _ _ _).mono ?_; rintro e w' ⟨rfl, rfl⟩)
        go_ret
        exact ⟨ret_int HN.out.symm, below_alloc HS.out.2 _ hsz⟩
    · obtain rfl : k = j.length := by omega
      by_cases hbig2 : 100 < ws.length
      · have HN : Hid (schedF j ws crews = 2) := by unfold schedF; rw [if_neg hbig, if_neg (by have := HS.out.1; omega), if_pos hbig2]; exact rfl
        go_wp2
        go_ret
        exact ⟨ret_int HN.out.symm, HS.out.2⟩
      have hw2 : ws.length ≤ 100 := by omega
      go_wp2
      obtain ⟨wo, rfl⟩ : ∃ wo : World, wo = wr := ⟨_, rfl⟩
      go_loopw [29] (fun i wr => ∃ k : Nat, k ≤ ws.length ∧ i = .int .i64 k ∧ faultAt (winFault ws) k = 0 ∧ Below w.heap.size w wr) (fun i _ => ws.length - (intOf i).toNat)
      case atStart => exact ⟨0, by omega, rfl, rfl, HS.out.2⟩
      case round =>
        obtain ⟨k, hk, rfl, hz, hB⟩ := hrel
        have hsz2 := hB.size
        have HR := Lib.hid (And.intro hz hB)
        clear hz hB
        by_cases hlt : k < ws.length
        · obtain ⟨b, off, rfl, hb, hcc⟩ := HC2.out k hlt
          obtain ⟨c0, c1⟩ := win_at hcc
          replace c0 := (HR.out.2.cell (p := ⟨b, _, none⟩) hb).trans c0
          replace c1 := (HR.out.2.cell (p := ⟨b, _, none⟩) hb).trans c1
          clear hcc
          have hbsz : b < wr.heap.size := by omega
          have HFF : Hid (∀ n : Int, n ≠ 0 → winFault ws k = n → Hid (schedF j ws crews = n)) := fun n hn hp => by
            have h1 := faultAt_hit hlt HR.out.1 (by rw [hp]; exact hn)
            unfold schedF
            rw [if_neg hbig, if_neg (by have := HS.out.1; omega), if_neg hbig2, h1, if_pos (by rw [hp]; exact hn), hp]
            exact rfl
          have HDK := Lib.hid (winFault_in hlt)
          have HB9 := Lib.hid (below_alloc HR.out.2 (.cells #[.int .i64 ws[k].fr, .int .i64 ws[k].to] 131) hsz2)
          cases ho : outB ws[k].fr 0 ws[k].to
          · by_cases hto : 1000000 < ws[k].to
            · have HN := HFF.out 1 (by omega) (by rw [HDK.out, if_pos (.inr hto)])
              go_wp2_with (go_at_call 50; refine (out_any _ _ _ _).mono ?_; rintro e w' ⟨rfl, rfl⟩)
              go_ret
              exact ⟨ret_int HN.out.symm, HB9.out⟩
            · have hdk2 : winFault ws k = if 0 < k ∧ ws[k].fr < (ws[k - 1]?.getD default).to then 7 else 0 := by rw [HDK.out, if_neg (by rintro (h | h); (· rw [ho] at h; cases h); (· omega))]
              have HDK2 := Lib.hid hdk2
              clear hdk2
              by_cases hk0 : k = 0
              · have hd0 : decide ((0 : Int) < (k : Int)) = false := by simp; omega
                have hd1 : decide (0 < k) = false := by simp; omega
                have HN : Hid (faultAt (winFault ws) (k + 1) = 0) := by rw [faultAt_succ HR.out.1, HDK2.out, if_neg (by omega)]; exact rfl
                clear hk0
                go_wp2_with (go_at_call 50; refine (out_any _ _ _ _).mono ?_; rintro e w' ⟨rfl, rfl⟩)
                go_quiet (fail)
                go_wp2
                exact ⟨⟨k + 1, by omega, by go_num, HN.out, below_draws HB9.out _⟩, by simp [intOf]; omega⟩
              · have hd0 : decide ((0 : Int) < (k : Int)) = true := by simp; omega
                have hd1 : decide (0 < k) = true := by simp; omega
                have hk1 : 1 ≤ k := by omega
                have hpl : k - 1 < ws.length := by omega
                have HPG : Hid ((ws[k - 1]?.getD default) = ws[k - 1]) := by rw [List.getElem?_eq_getElem hpl]; exact rfl
                obtain ⟨b'', off'', hbe, hbb'', hcc⟩ := HC2.out (k - 1) hpl
                obtain ⟨rfl, rfl⟩ : b = b'' ∧ off = off'' := by simpa using hbe
                obtain ⟨-, e1⟩ := win_at hcc
                replace e1 := (HR.out.2.cell (p := ⟨b, _, none⟩) hb).trans e1
                clear hcc hbe hk0
                have hi1 : (0 : Int) ≤ (k : Int) - 1 := by omega
                have hi2 : (k : Int) - 1 < (ws.length : Int) := by omega
                by_cases hlt2 : ws[k].fr < ws[k - 1].to
                · have HN := HFF.out 7 (by omega) (by rw [HDK2.out, HPG.out, if_pos ⟨by omega, hlt2⟩])
                  go_wp2_with (go_at_call 50; refine (out_any _ _ _ _).mono ?_; rintro e w' ⟨rfl, rfl⟩)
                  go_quiet (fail)
                  go_wp2
                  go_ret
                  exact ⟨ret_int HN.out.symm, below_draws HB9.out _⟩
                · have HN : Hid (faultAt (winFault ws) (k + 1) = 0) := by rw [faultAt_succ HR.out.1, HDK2.out, HPG.out, if_neg (by omega)]; exact rfl
                  go_wp2_with (go_at_call 50; refine (out_any _ _ _ _).mono ?_; rintro e w' ⟨rfl, rfl⟩)
                  go_quiet (fail)
                  go_wp2
                  exact ⟨⟨k + 1, by omega, by go_num, HN.out, below_draws HB9.out _⟩, by simp [intOf]; omega⟩
          · have HN := HFF.out 1 (by omega) (by rw [HDK.out, if_pos (.inl ho)])
            go_wp2_with (go_at_call 50; refine (out_any _ _ _ _).mono ?_; rintro e w' ⟨rfl, rfl⟩)
            go_ret
            exact ⟨ret_int HN.out.symm, HB9.out⟩
        · obtain rfl : k = ws.length := by omega
          cases ho : outB crews 1 20
          · have HN : Hid (schedF j ws crews = 0) := by unfold schedF; rw [if_neg hbig, if_neg (by have := HS.out.1; omega), if_neg hbig2, if_neg (by have := HR.out.1; omega), ho]; exact rfl
            go_wp2_with (go_at_call 50; refine (out_any _ _ _ _).mono ?_; rintro e w' ⟨rfl, rfl⟩)
            go_ret
            exact ⟨ret_int HN.out.symm, HR.out.2⟩
          · have HN : Hid (schedF j ws crews = 1) := by unfold schedF; rw [if_neg hbig, if_neg (by have := HS.out.1; omega), if_neg hbig2, if_neg (by have := HR.out.1; omega), ho]; exact rfl
            go_wp2_with (go_at_call 50; refine (out_any _ _ _ _).mono ?_; rintro e w' ⟨rfl, rfl⟩)
            go_ret
            exact ⟨ret_int HN.out.symm, HR.out.2⟩

set_option maxHeartbeats 1000000 in
set_option maxRecDepth 100000 in
theorem indexFunc_win (v : Value) (l : List Win) (p : Win → Bool) (F : FuncId) (cp : Array Value) (w : World) (h : Arr Win.cells 2 w l v) (hF : ∀ (args : Array Value) (w : World), (callFunc F args).run Tryz.prog w = .ok (.enter F args) w)
    (hcall : ∀ (x : Win) (w' : World), x ∈ l → Below w.heap.size w w' → Calls Tryz.prog F (#[.agg ⟨Win.cells x⟩] ++ cp) w' fun e w'' => e = .returned (.bool (p x)) ∧ Below w'.heap.size w' w'') :
    Calls Tryz.prog 120 #[v, .func (.func F) #[] cp] w fun e w' => e = .returned (.int .i64 (idxF p l)) ∧ Below w.heap.size w w' := by
  obtain ⟨a, cap, rfl, hcap, hmax, hc⟩ := h
  have hlen : l.length ≤ maxLen := by omega
  unfold maxLen at hlen hmax
  have HC := Lib.hid hcall
  clear hcall
  go_enter Tryz.func120, Tryz.ntmps120
  go_wp2
  go_loopw [8] (fun i wr => ∃ k : Nat, k ≤ l.length ∧ i = .int .i64 k ∧ (l.take k).any p = false ∧ Below w.heap.size w wr) (fun i _ => l.length - (intOf i).toNat)
  case atStart => exact ⟨0, by omega, rfl, rfl, Below.refl _ _⟩
  case round =>
    obtain ⟨k, hk, rfl, hz, hB⟩ := hrel
    have HZ := Lib.hid hz
    clear hz
    have hsz := hB.size
    by_cases hlt : k < l.length
    · obtain ⟨b, off, rfl, hb, hcc⟩ := hc k hlt
      obtain ⟨c0, c1⟩ := win_at hcc
      replace c0 := (hB.cell (p := ⟨b, _, none⟩) hb).trans c0; replace c1 := (hB.cell (p := ⟨b, _, none⟩) hb).trans c1
      clear hc hcc
      cases hx : p l[k]
      · have HT := Lib.hid (any_take_succ _ l k hlt HZ.out)
        have HX := Lib.hid hx
        clear hx
        go_wp2_with fail
        refine (HC.out l[k] _ (List.getElem_mem _) ?_).mono ?_
        · (repeat (first | exact Below.refl _ _ | assumption | refine below_draws ?_ _ | refine Below.drew ?_ | refine below_alloc ?_ _ (by first | omega | (simp; done) | (simp; omega)) | refine Below.setCell ?_ (by first | omega | (simp; done) | (simp; omega)) _ | refine below_at ?_ (by assumption) (by first | omega | (simp; done) | (simp; omega))))
        rintro e w1 ⟨rfl, hb1⟩
        have hx := HX.out
        go_wp2
        exact ⟨⟨k + 1, by omega, by go_num, by rw [HT.out]; exact HX.out, by (repeat (first | exact Below.refl _ _ | assumption | refine below_draws ?_ _ | refine Below.drew ?_ | refine below_alloc ?_ _ (by first | omega | (simp; done) | (simp; omega)) | refine Below.setCell ?_ (by first | omega | (simp; done) | (simp; omega)) _ | refine below_at ?_ (by assumption) (by first | omega | (simp; done) | (simp; omega))))⟩, by simp [intOf]; omega⟩
      · have HX := Lib.hid (idxF_hit hlt HZ.out hx)
        go_wp2_with fail
        refine (HC.out l[k] _ (List.getElem_mem _) ?_).mono ?_
        · (repeat (first | exact Below.refl _ _ | assumption | refine below_draws ?_ _ | refine Below.drew ?_ | refine below_alloc ?_ _ (by first | omega | (simp; done) | (simp; omega)) | refine Below.setCell ?_ (by first | omega | (simp; done) | (simp; omega)) _ | refine below_at ?_ (by assumption) (by first | omega | (simp; done) | (simp; omega))))
        rintro e w1 ⟨rfl, hb1⟩
        go_wp2
        go_ret
        exact ⟨ret_int (by rw [HX.out]), by (repeat (first | exact Below.refl _ _ | assumption | refine below_draws ?_ _ | refine Below.drew ?_ | refine below_alloc ?_ _ (by first | omega | (simp; done) | (simp; omega)) | refine Below.setCell ?_ (by first | omega | (simp; done) | (simp; omega)) _ | refine below_at ?_ (by assumption) (by first | omega | (simp; done) | (simp; omega))))⟩
    · go_wp2
      go_ret
      exact ⟨ret_int (by rw [idxF_none (any_take_all (by omega) HZ.out)]), hB⟩
end Go.Proofs.YteliiknlpfjlkaaGreatDoor
/- Walk of package change: the schedule of jobs. -/
set_option linter.unusedVariables false
set_option linter.unusedSimpArgs false
namespace Go.Proofs.YteliiknlpfjlkaaGreatDoor
open Go Go.RowKit

def sortI (F : List Int) : List Int := F.mergeSort fun a b => decide (a ≤ b)
theorem sortI_len (F : List Int) : (sortI F).length = F.length := List.length_mergeSort _
theorem sortI_mem {F : List Int} {x : Int} : x ∈ sortI F ↔ x ∈ F := List.mem_mergeSort

theorem sort_own (base g c cap : Nat) (F : List Int) (w : World) (hc : F.length = c) (hl : 1 ≤ c) (hl2 : c ≤ 1000000) (ho : w.ownsRow base 3 1 (.slice (some ⟨g, 0, none⟩) c cap) c (F.map (Value.int .i64))) :
    Calls Tryz.prog 119 #[.slice (some ⟨g, 0, none⟩) c cap] w fun e w' => e = .returned (.tuple #[]) ∧ w'.ownsRow base 3 1 (.slice (some ⟨g, 0, none⟩) c cap) c ((sortI F).map (Value.int .i64)) ∧ w.grownBy w' (some g) := by
  subst hc
  rcases ho.2 with ⟨h0, _⟩ | ⟨g', cap', cur, hv, hbase, hg, hn, hcap, hsz, htake⟩
  · cases h0
  simp only [Value.slice.injEq, Option.some.injEq, Addr.mk.injEq, and_true, true_and] at hv
  obtain ⟨rfl, rfl⟩ := hv
  have hH := holds_of_blockI (ss := F) hg (by rw [Nat.mul_one] at htake; exact htake)
  refine (Tryz.slices_Sort_int g 0 cap F w hH (ho.lt g rfl).2 (by omega)).mono ?_
  rintro e w' ⟨rfl, n, os, rfl⟩
  refine ⟨rfl, ?_, grownBy_sortedI _⟩
  have h := ownsRow_sortedI (n := n) (os := os) (ss := F) (ts := sortI F) (e := 3) (base := base) (sortI_len F) hbase hg hn hcap hsz
  exact h

theorem fitsW_iff (fr mins : Int) (y : Win) : fitsW fr mins y = decide (max fr y.fr + mins ≤ y.to) := rfl
set_option maxHeartbeats 1000000 in
theorem schedClos_any (y : Win) (fr : Int) (x : Job) (fb jb : Nat) (w : World) (hx : 1 ≤ x.mins ∧ x.mins ≤ 1000) (hf : 0 ≤ fr ∧ fr ≤ 1000000) (hy : 0 ≤ y.fr ∧ y.fr ≤ 1000000)
    (k1 : Blk w fb #[.int .i64 fr] 3) (k2 : Blk w jb #[.int .i64 x.kind, .string x.site, .string x.x.cable, .int .i64 x.x.no, .string x.y.cable, .int .i64 x.y.no, .int .i64 x.loss, .int .i64 x.mins] 128) :
    Calls Tryz.prog 121 (#[.agg ⟨Win.cells y⟩] ++ #[.pointer (some ⟨fb, 0, none⟩), .pointer (some ⟨jb, 0, none⟩)]) w fun e w' => e = .returned (.bool (fitsW fr x.mins y)) ∧ Below w.heap.size w w' := by
  have l1 := k1.lt
  have l2 := k2.lt
  have c0 := k1.cell 0 _ rfl
  have d7 := k2.cell 7 _ rfl
  clear k1 k2
  obtain ⟨a1, a2⟩ := hx
  obtain ⟨b1, b2⟩ := hf
  obtain ⟨c1, c2⟩ := hy
  show Calls Tryz.prog 121 #[.agg #[.int .i64 y.fr, .int .i64 y.to], .pointer (some ⟨fb, 0, none⟩), .pointer (some ⟨jb, 0, none⟩)] w _
  go_enter Tryz.func121, Tryz.ntmps121
  go_wp2
  go_ret
  exact ⟨ret_bool rfl, by (repeat (first | exact Below.refl _ _ | assumption | refine below_draws ?_ _ | refine Below.drew ?_ | refine below_alloc ?_ _ (by first | omega | (simp; done) | (simp; omega)) | refine Below.setCell ?_ (by first | omega | (simp; done) | (simp; omega)) _ | refine below_at ?_ (by assumption) (by first | omega | (simp; done) | (simp; omega))))⟩

def SchedPost (j : List Job) (ws : List Win) (crews : Int) (w : World) (e : Ending) (w' : World) : Prop :=
  ∃ v, e = .returned (.tuple #[v, .bool (decide (schedF j ws crews = 0 ∧ (schedV j ws crews).isSome = true)), .int .i64 (schedF j ws crews)]) ∧
    Arr intCells 1 w' (if schedF j ws crews = 0 then (schedV j ws crews).getD [] else []) v ∧ Below w.heap.size w w'
theorem infoInt2 : (Tryz.prog.info? 3).map (fun i => (i.zero, i.size, i.bytes)) = some (some (.int .i64 0), 1, 8) := by kernel_rfl
theorem find_idx {ws : List Win} {p : Win → Bool} : (idxF p ws < 0 ∧ ws.find? p = none) ∨ ∃ k : Nat, ∃ h : k < ws.length, idxF p ws = k ∧ ws.find? p = some ws[k] ∧ p ws[k] = true := idxF_find p ws

/-- the state of a round -/
structure SchSt (w : World) (g base2 c : Nat) (F O : List Int) (v : Value) (W : World) : Prop where
  bel : Below w.heap.size w W
  fl : F.length = c
  fr : W.ownsRow w.heap.size 3 1 (.slice (some ⟨g, 0, none⟩) c c) c (F.map (Value.int .i64))
  ob : W.ownsRow base2 3 1 v O.length (O.map (Value.int .i64))
  fm : ∀ x ∈ F, 0 ≤ x ∧ x ≤ 1000000
  gl : g < base2
  bs : base2 ≤ W.heap.size

theorem grown_below2 {a b : World} (h : a.grownBy b none) : Below a.heap.size a b := ⟨h.os, h.tape, h.output, h.size, fun k hk => h.block k hk (by simp)⟩
theorem grown_set1 (w : World) (g o : Nat) (v : Value) : w.grownBy (w.setCell ⟨g, o, none⟩ v) (some g) := grown_setCells g [v] o w
theorem made_zero (c : Nat) : (madeCells (Value.int .i64 0).cells (c * 1)).toList = (List.replicate c (0 : Int)).map (Value.int .i64) := by
  rw [Nat.mul_one]
  apply List.ext_getElem
  · simp [madeCells]
  · intro i h1 h2
    simp [madeCells, Value.cells, Nat.mod_one]
theorem own_cell0 {w : World} {base g c cap : Nat} {F : List Int} (ho : w.ownsRow base 3 1 (.slice (some ⟨g, 0, none⟩) c cap) c (F.map (Value.int .i64))) (hl : F.length = c) (hc : 1 ≤ c) : w.cell? ⟨g, 0, none⟩ = some (.int .i64 (F.getD 0 0)) := by
  rw [ho.cellAt 0 (by omega)]
  rw [List.getElem?_map, List.getElem?_eq_getElem (by omega), List.getD_eq_getElem?_getD, List.getElem?_eq_getElem (by omega)]
  rfl
theorem getD_mem0 {F : List Int} (h : 1 ≤ F.length) : F.getD 0 0 ∈ F := by
  rw [List.getD_eq_getElem?_getD, List.getElem?_eq_getElem (by omega)]; exact List.getElem_mem _
theorem schedGo_cons (ws : List Win) (x : Job) (j : List Job) (F : List Int) (L : Int) (O : List Int) : schedGo ws (x :: j) F L O = match ws.find? (fitsW (max L ((sortI F).getD 0 0)) x.mins) with
    | none => none
    | some y => schedGo ws j ((sortI F).set 0 (max (max L ((sortI F).getD 0 0)) y.fr + x.mins)) (max (max L ((sortI F).getD 0 0)) y.fr) (O ++ [max (max L ((sortI F).getD 0 0)) y.fr]) := rfl
set_option maxHeartbeats 8000000 in
set_option maxRecDepth 100000 in
theorem schedule_any (v1 v2 : Value) (j : List Job) (ws : List Win) (crews : Int) (w : World) (h : Arr Job.cells 8 w j v1) (hd : Arr Win.cells 2 w ws v2) : Calls Tryz.prog 94 #[v1, v2, .int .i64 crews] w (SchedPost j ws crews w) := by
  have HA := Lib.hid (And.intro h hd)
  obtain ⟨a, cap, rfl, hcap, hmax, hc⟩ := h
  obtain ⟨a2, cap2, rfl, hcap2, hmax2, hc2⟩ := hd
  unfold maxLen at hmax hmax2
  have HC := Lib.hid hc
  have HC2 := Lib.hid hc2
  clear hc hc2
  obtain ⟨i0, hi, hz0, hz1, hz2⟩ := info_parts infoInt2
  have HF : Hid (∀ (args : Array Value) (w : World), (callFunc 121 args).run Tryz.prog w = .ok (.enter 121 args) w) := run_fn Tryz.func121 (by kernel_rfl) rfl
  by_cases hf : schedF j ws crews = 0
  · have hf1 : (schedF j ws crews != 0) = false := by simp [hf]
    have ok := schOk_of hf
    obtain ⟨ok1, ok2, ok3, ok4, ok5, ok6⟩ := ok
    have HO := Lib.hid (And.intro hf (And.intro ok2 ok4))
    clear hf ok2 ok4
    obtain ⟨c, rfl⟩ := Int.eq_ofNat_of_zero_le (show 0 ≤ crews by omega)
    go_enter Tryz.func94, Tryz.ntmps94
    go_wp2_with fail
    refine (scheduleFault_any _ _ j ws _ _ (by exact HA.out.1) (by exact HA.out.2)).mono ?_
    rintro e w2 ⟨rfl, hb2⟩
    have hz2' := hb2.size
    go_wp2_with ((at_make; refine wpList_make_full _ rfl _ _ _ rfl w.heap.size _ _ _ _ Tryz.underlying22 hi hz0 hz1 _ _ _ _ c rfl rfl rfl rfl ?b1 ?b2 ?b3 ?_; (case b1 => rw [hz2]; omega); (case b2 => unfold maxLen; omega); (case b3 => omega); intro w3 hown hg3))
    have hz3 := hg3.size
    have hgl := (hown.lt w2.heap.size rfl).2
    have hown2 : w3.ownsRow w.heap.size 3 1 (.slice (some ⟨w2.heap.size, 0, none⟩) c c) c ((List.replicate c (0 : Int)).map (Value.int .i64)) := by rw [← made_zero]; exact hown
    have hS0 : SchSt w w2.heap.size w3.heap.size c (List.replicate c 0) [] (.slice none 0 0) w3 :=
      ⟨below_at hb2 (grown_below2 hg3) (by omega), by simp, hown2, World.ownsRow_nil _ _ _ _, fun x hx => by rw [List.eq_of_mem_replicate hx]; omega, hgl, Nat.le_refl _⟩
    have HS0 := Lib.hid hS0
    clear hown hown2 hS0 hg3
    have hgb : w.heap.size ≤ w2.heap.size := hz2'
    go_loopw [11, 12, 28] (fun lv ov i wr => ∃ (k : Nat) (F O : List Int) (L : Int), k ≤ j.length ∧ i = .int .i64 k ∧ lv = .int .i64 L ∧ 0 ≤ L ∧ L ≤ 1000000 ∧ O.length = k ∧ SchSt w w2.heap.size w3.heap.size c F O ov wr ∧ schedV j ws c = schedGo ws (j.drop k) F L O) (fun _ _ i _ => j.length - (intOf i).toNat)
    case atStart => exact ⟨0, _, [], 0, by omega, rfl, rfl, by omega, by omega, rfl, HS0.out, by unfold schedV; simp⟩
    case round =>
      obtain ⟨k, F, O, L, hk, rfl, rfl, hL1, hL2, hO, hS, hV⟩ := hrel
      have hfl := hS.fl
      have hsz := hS.bel.size
      have hbs := hS.bs
      have HS := Lib.hid (And.intro hS (And.intro hV hO))
      clear hS hV hO
      by_cases hlt : k < j.length
      · obtain ⟨b, off, rfl, hb, hcc⟩ := HC.out k hlt
        obtain ⟨c0, c1, c2, c3, c4, c5, c6, c7⟩ := job_at hcc
        replace c0 := (HS.out.1.bel.cell (p := ⟨b, _, none⟩) hb).trans c0
        replace c1 := (HS.out.1.bel.cell (p := ⟨b, _, none⟩) hb).trans c1
        replace c2 := (HS.out.1.bel.cell (p := ⟨b, _, none⟩) hb).trans c2
        replace c3 := (HS.out.1.bel.cell (p := ⟨b, _, none⟩) hb).trans c3
        replace c4 := (HS.out.1.bel.cell (p := ⟨b, _, none⟩) hb).trans c4
        replace c5 := (HS.out.1.bel.cell (p := ⟨b, _, none⟩) hb).trans c5
        replace c6 := (HS.out.1.bel.cell (p := ⟨b, _, none⟩) hb).trans c6
        replace c7 := (HS.out.1.bel.cell (p := ⟨b, _, none⟩) hb).trans c7
        have hxm := HO.out.2.1 j[k] (List.getElem_mem _)
        obtain ⟨hx1, hx2⟩ := hxm
        clear hcc
        go_wp2_with fail
        refine (sort_own w.heap.size w2.heap.size c c F _ hfl (by omega) (by omega) (HS.out.1.fr.alloc _)).mono ?_
        rintro e w4 ⟨rfl, ho4, hg4⟩
        have hz4 : wr.heap.size + 1 ≤ w4.heap.size := by have := hg4.size; simpa using this
        have hJ4 : Blk w4 wr.heap.size #[.int .i64 j[k].kind, .string j[k].site, .string j[k].x.cable, .int .i64 j[k].x.no, .string j[k].y.cable, .int .i64 j[k].y.no, .int .i64 j[k].loss, .int .i64 j[k].mins] 128 := (Blk.new wr _ _).grown hg4 (by simp; omega)
        have hob4 : w4.ownsRow w3.heap.size 3 1 _ O.length (O.map (Value.int .i64)) := (HS.out.1.ob.alloc _).kept hg4 (by
          cases hv : Value.ownBlock _ with
          | none => exact .inl rfl
          | some q => right; have := (HS.out.1.ob.lt q hv).1; simp; omega)
        have hB4 : Below w.heap.size w w4 := below_at (below_alloc HS.out.1.bel _ hsz) (grown_row hg4 (B := w.heap.size) hgb (by simp; omega)) (Nat.le_refl _)
        have hf0 := own_cell0 ho4 (by rw [sortI_len]; exact hfl) (by omega)
        have hfm : 0 ≤ (sortI F).getD 0 0 ∧ (sortI F).getD 0 0 ≤ 1000000 := HS.out.1.fm _ (sortI_mem.1 (getD_mem0 (by rw [sortI_len]; omega)))
        have hgo : schedGo ws (j.drop k) F L O = match ws.find? (fitsW (max L ((sortI F).getD 0 0)) j[k].mins) with
            | none => none
            | some y => schedGo ws (j.drop (k + 1)) ((sortI F).set 0 (max (max L ((sortI F).getD 0 0)) y.fr + j[k].mins)) (max (max L ((sortI F).getD 0 0)) y.fr) (O ++ [max (max L ((sortI F).getD 0 0)) y.fr]) := by
          rw [List.drop_eq_getElem_cons hlt]; exact schedGo_cons _ _ _ _ _ _
        generalize (sortI F).getD 0 0 = f0 at *
        obtain ⟨hf1', hf2'⟩ := hfm
        have HGo := Lib.hid hgo
        clear hgo
        have hcn : (0 : Int) < (c : Int) := by omega
        have H4 := Lib.hid (And.intro ho4 (And.intro hJ4 (And.intro hob4 hB4)))
        have hfr : 0 ≤ max L f0 ∧ max L f0 ≤ 1000000 := by omega
        have HFr := Lib.hid hfr
        clear ho4 hJ4 hob4 hB4 hg4 c0 c1 c2 c3 c4 c5 c6 c7 hfr
        have hgl4 : w2.heap.size < w4.heap.size := by omega
        go_wp2_with fail
        refine (indexFunc_win _ ws (fitsW (max L f0) j[k].mins) _ #[.pointer (some ⟨w4.heap.size, 0, none⟩), .pointer (some ⟨wr.heap.size, 0, none⟩)] _ (by exact HA.out.2.below (by have h4 := H4.out.2.2.2; have h5 := h4.size; (repeat (first | exact Below.refl _ _ | assumption | refine below_draws ?_ _ | refine Below.drew ?_ | refine below_alloc ?_ _ (by first | omega | (simp; done) | (simp; omega)) | refine Below.setCell ?_ (by first | omega | (simp; done) | (simp; omega)) _ | refine below_at ?_ (by assumption) (by first | omega | (simp; done) | (simp; omega)))))) HF.out ?_).mono ?_
        · intro y w' hy hb'
          have hym := HO.out.2.2 y hy
          exact schedClos_any y (max L f0) j[k] _ _ w' ⟨hx1, hx2⟩ HFr.out ⟨hym.1, by omega⟩ ((Blk.new w4 _ _).below hb' (by simp)) ((H4.out.2.1.alloc _).below hb' (by simp; omega))
        rintro e w5 ⟨rfl, hb5⟩
        have hz5 : w4.heap.size + 1 ≤ w5.heap.size := by have := hb5.size; simpa using this
        have hJ5 : Blk w5 wr.heap.size #[.int .i64 j[k].kind, .string j[k].site, .string j[k].x.cable, .int .i64 j[k].x.no, .string j[k].y.cable, .int .i64 j[k].y.no, .int .i64 j[k].loss, .int .i64 j[k].mins] 128 := (H4.out.2.1.alloc _).below hb5 (by simp; omega)
        have hF5 : Blk w5 w4.heap.size #[.int .i64 (max L f0)] 3 := (Blk.new w4 _ _).below hb5 (by simp)
        have ho5 := own_below (H4.out.1.alloc (.cells #[.int .i64 (max L f0)] 3)) hb5
        have hob5 := own_below (H4.out.2.2.1.alloc (.cells #[.int .i64 (max L f0)] 3)) hb5
        have hB5 : Below w.heap.size w w5 := by have h4 := H4.out.2.2.2; have h5 := h4.size; (repeat (first | exact Below.refl _ _ | assumption | refine below_draws ?_ _ | refine Below.drew ?_ | refine below_alloc ?_ _ (by first | omega | (simp; done) | (simp; omega)) | refine Below.setCell ?_ (by first | omega | (simp; done) | (simp; omega)) _ | refine below_at ?_ (by assumption) (by first | omega | (simp; done) | (simp; omega))))
        have H5 := Lib.hid (And.intro ho5 (And.intro hJ5 (And.intro hob5 (And.intro hB5 hF5))))
        clear ho5 hJ5 hob5 hB5 hF5 hf0
        rcases find_idx (ws := ws) (p := fitsW (max L f0) j[k].mins) with ⟨hneg, hnone⟩ | ⟨q, hq, hidx, hfind, hfit⟩
        · have hfin : schedV j ws c = none := by rw [HS.out.2.1, HGo.out, hnone]
          have HX : Hid (decide (schedF j ws c = 0 ∧ (schedV j ws c).isSome = true) = false ∧ (if schedF j ws c = 0 then (schedV j ws c).getD [] else []) = []) := ⟨by simp [hfin], by rw [if_pos HO.out.1, hfin]; rfl⟩
          clear hfin hnone
          go_wp2
          go_ret3
          exact ⟨_, by rw [HX.out.1, HO.out.1]; exact rfl, by rw [HX.out.2]; exact Arr.nil _ _ _, H5.out.2.2.2.1⟩
        · rw [hidx]
          have hgo2 := HGo.out
          rw [hfind] at hgo2
          have hwm := HO.out.2.2 ws[q] (List.getElem_mem _)
          obtain ⟨hw1, hw2, hw3⟩ := hwm
          have hfit2 : max (max L f0) ws[q].fr + j[k].mins ≤ ws[q].to := by simpa [fitsW] using hfit
          have HG2 := Lib.hid (And.intro hgo2 hidx)
          clear hgo2 hidx hfind hfit
          have hq1 : (0 : Int) ≤ (q : Int) := by omega
          have hq2 : ¬ ((q : Int) < 0) := by omega
          have hq3 : (q : Int) < (ws.length : Int) := by omega
          obtain ⟨b', off', rfl, hbb, hcc⟩ := HC2.out q hq
          obtain ⟨d0, d1⟩ := win_at hcc
          replace d0 := (H5.out.2.2.2.1.cell (p := ⟨b', _, none⟩) hbb).trans d0
          have f5 := H5.out.2.2.2.2.cell 0 _ rfl
          clear hcc d1
          go_wp2
          go_quiet (fail)
          have ho6 : (w5.drewN nq).ownsRow w.heap.size 3 1 _ c _ := H5.out.1
          have hJ6 := H5.out.2.1.drewN nq
          have hob6 : (w5.drewN nq).ownsRow w3.heap.size 3 1 _ O.length _ := H5.out.2.2.1
          have hB6 := below_draws H5.out.2.2.2.1 nq
          have hz6 : w5.heap.size ≤ (w5.drewN nq).heap.size := Nat.le_refl _
          generalize w5.drewN nq = w6 at *
          have g0 := own_cell0 ho6 (by rw [sortI_len]; exact hfl) (by omega)
          have gf := ho6.frozenAt 0
          have j7 := hJ6.cell 7 _ rfl
          have hgl6 : w2.heap.size < w6.heap.size := by omega
          have hob7 := fun u => hob6.kept (grown_set1 w6 w2.heap.size 0 u) (by
            cases hv : Value.ownBlock _ with
            | none => exact .inl rfl
            | some qq => right; have := (hob6.lt qq hv).1; simp; omega)
          have H6 := Lib.hid (And.intro ho6 (And.intro hob7 hB6))
          clear ho6 hJ6 hob6 hob7 hB6 d0 f5
          have HOl := Lib.hid HS.out.2.2
          have hOb : O.length ≤ 200 := by have := HOl.out; omega
          go_wp2_with ((at_builtin; go_must (refine wpList_append_own _ rfl _ _ 22 rfl _ 3 _ (.int .i64 0) 1 8 Tryz.underlying22 hi hz0 hz1 hz2 rfl (by decide) _ _ _ rfl ((H6.out.2.1 _).alloc _) ⟨w6.heap.size, 0, none⟩ 1 1 [.int .i64 (max L (max f0 ws[q].fr))] rfl rfl (by exact news_at (by first | rfl | simp) (by rfl)) (by simp [Value.oneCell']) (by unfold maxLen; omega) (by omega) (by first | omega | (simp; done) | (simp; omega)) ?_)); intro v' w8 hown8 hg8 _)
          have HMx : Hid (max (max L f0) ws[q].fr = max L (max f0 ws[q].fr)) := Int.max_assoc _ _ _
          have hz8 := hg8.size
          simp at hz8
          have hst := H6.out.1.stored 0 (.int .i64 (max L (max f0 ws[q].fr) + j[k].mins))
          refine ⟨⟨k + 1, (sortI F).set 0 (max L (max f0 ws[q].fr) + j[k].mins), O ++ [max L (max f0 ws[q].fr)], max L (max f0 ws[q].fr), by omega, by go_num, rfl, by omega, by omega, by simp [HOl.out], ?_, ?_⟩, by simp [intOf]; omega⟩
          · refine ⟨?_, by rw [List.length_set, sortI_len]; exact hfl, ?_, ?_, ?_, HS.out.1.gl, by omega⟩
            · have hb7 : Below w.heap.size w (w6.setCell ⟨w2.heap.size, 0, none⟩ (.int .i64 (max L (max f0 ws[q].fr) + j[k].mins))) := Below.setCell H6.out.2.2 (by simp; omega) _
              exact below_grown (below_alloc hb7 _ hb7.size) ((H6.out.2.1 _).alloc _) hg8 (by omega) (by simp; omega)
            · refine ((by rw [List.map_set]; exact hst.1 : (w6.setCell ⟨w2.heap.size, 0, none⟩ _).ownsRow _ _ _ _ _ _).alloc _).kept hg8 ?_
              right
              intro e
              have := ((H6.out.2.1 (.int .i64 (max L (max f0 ws[q].fr) + j[k].mins))).lt _ e.symm).1
              simp at this; omega
            · simpa using hown8
            · intro x hx
              rcases List.mem_or_eq_of_mem_set hx with h1 | h1
              · exact HS.out.1.fm x (sortI_mem.1 h1)
              · have := HMx.out; omega
          · rw [HS.out.2.1, HG2.out.1, HMx.out]
      · obtain rfl : k = j.length := by omega
        have hfin : schedV j ws c = some O := by rw [HS.out.2.1, List.drop_length]; rfl
        have HX : Hid (decide (schedF j ws c = 0 ∧ (schedV j ws c).isSome = true) = true ∧ (if schedF j ws c = 0 then (schedV j ws c).getD [] else []) = O) := ⟨by simp [HO.out.1, hfin], by rw [if_pos HO.out.1, hfin]; rfl⟩
        clear hfin
        go_wp2
        go_ret3
        exact ⟨_, by rw [HX.out.1, HO.out.1]; exact rfl, by rw [HX.out.2]; exact Arr.of_ints HS.out.1.ob, HS.out.1.bel⟩
  · have hf1 : (schedF j ws crews != 0) = true := by simp [hf]
    have HX : Hid (decide (schedF j ws crews = 0 ∧ (schedV j ws crews).isSome = true) = false ∧ (if schedF j ws crews = 0 then (schedV j ws crews).getD [] else []) = []) := ⟨by simp [hf], by rw [if_neg hf]⟩
    clear hf
    go_enter Tryz.func94, Tryz.ntmps94
    go_wp2_with fail
    refine (scheduleFault_any _ _ j ws _ _ (by exact HA.out.1) (by exact HA.out.2)).mono ?_
    rintro e w2 ⟨rfl, hb2⟩
    go_wp2
    go_ret3
    exact ⟨_, by rw [HX.out.1]; exact rfl, by rw [HX.out.2]; exact Arr.nil _ _ _, hb2⟩
end Go.Proofs.YteliiknlpfjlkaaGreatDoor
