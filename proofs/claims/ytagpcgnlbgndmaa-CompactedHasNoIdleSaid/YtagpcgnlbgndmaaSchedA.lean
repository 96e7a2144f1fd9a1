/- Walks of package change: what is wrong with jobs, windows and crews. -/
import Derived.Test.YtagpcgnlbgndmaaPlainS
import Derived.Test.YtagpcgnlbgndmaaFuncs
import Derived.Test.YtagpcgnlbgndmaaMapB
import Derived.Test.YtagpcgnlbgndmaaTreeB
set_option linter.unusedVariables false
set_option linter.unusedSimpArgs false
namespace Go.Proofs.Ytagpcgnlbgndmaa
open Go Go.RowKit

theorem job_at {w : World} {b off k : Nat} {p : Job} (h : ∀ j u, p.cells[j]? = some u → w.cell? ⟨b, off + k * 8 + j, none⟩ = some u) :
    w.cell? ⟨b, off + k * 8, none⟩ = some (.int .i64 p.kind) ∧ w.cell? ⟨b, off + k * 8 + 1, none⟩ = some (.string p.site) ∧ w.cell? ⟨b, off + k * 8 + 2, none⟩ = some (.string p.x.cable) ∧ w.cell? ⟨b, off + k * 8 + 3, none⟩ = some (.int .i64 p.x.no) ∧
    w.cell? ⟨b, off + k * 8 + 4, none⟩ = some (.string p.y.cable) ∧ w.cell? ⟨b, off + k * 8 + 5, none⟩ = some (.int .i64 p.y.no) ∧ w.cell? ⟨b, off + k * 8 + 6, none⟩ = some (.int .i64 p.loss) ∧ w.cell? ⟨b, off + k * 8 + 7, none⟩ = some (.int .i64 p.mins) :=
  ⟨h 0 _ rfl, h 1 _ rfl, h 2 _ rfl, h 3 _ rfl, h 4 _ rfl, h 5 _ rfl, h 6 _ rfl, h 7 _ rfl⟩
theorem win_at {w : World} {b off k : Nat} {p : Win} (h : ∀ j u, p.cells[j]? = some u → w.cell? ⟨b, off + k * 2 + j, none⟩ = some u) :
    w.cell? ⟨b, off + k * 2, none⟩ = some (.int .i64 p.fr) ∧ w.cell? ⟨b, off + k * 2 + 1, none⟩ = some (.int .i64 p.to) :=
  ⟨h 0 _ rfl, h 1 _ rfl⟩

set_option maxHeartbeats 4000000 in
set_option maxRecDepth 100000 in
theorem scheduleFault_any (v1 v2 : Value) (j : List Job) (ws : List Win) (crews : Int) (w : World) (h : Arr Job.cells 8 w j v1) (hd : Arr Win.cells 2 w ws v2) : Calls Try.prog 147 #[v1, v2, .int .i64 crews] w
    fun e w' => e = .returned (.int .i64 (schedF j ws crews)) ∧ Below w.heap.size w w' := by
  obtain ⟨a, cap, rfl, hcap, hmax, hc⟩ := h
  obtain ⟨a2, cap2, rfl, hcap2, hmax2, hc2⟩ := hd
  unfold maxLen at hmax hmax2
  have HC := Lib.hid hc
  have HC2 := Lib.hid hc2
  clear hc hc2
  by_cases hbig : 200 < j.length
  · have HR : Hid (schedF j ws crews = 2) := by unfold schedF; rw [if_pos hbig]; exact rfl
    go_enter Try.func147, Try.ntmps147
    go_wp2
    go_ret
    exact ⟨ret_int HR.out.symm, by (repeat (first | exact Below.refl _ _ | assumption | refine below_draws ?_ _ | refine Below.drew ?_ | refine below_alloc ?_ _ (by first | omega | (simp; done) | (simp; omega)) | refine Below.setCell ?_ (by first | omega | (simp; done) | (simp; omega)) _ | refine below_at ?_ (by assumption) (by first | omega | (simp; done) | (simp; omega))))⟩
  have hj2 : j.length ≤ 200 := by omega
  go_enter Try.func147, Try.ntmps147
  go_wp2
  go_loopw [16] (fun i wr => ∃ k : Nat, k ≤ j.length ∧ i = .int .i64 k ∧ faultAt (jobFault j) k = 0 ∧ Below w.heap.size w wr) (fun i _ => j.length - (intOf i).toNat)
  case atStart => exact ⟨0, by omega, rfl, rfl, Below.refl _ _⟩
  case round =>
    obtain ⟨k, hk, rfl, hz, hB⟩ := hrel
    have hsz := hB.size
    have HS := Lib.hid (And.intro hz hB)
    clear hz hB
    by_cases hlt : k < j.length
    · obtain ⟨b, off, rfl, hb, hcc⟩ := HC.out k hlt
      obtain ⟨c0, c1, c2, c3, c4, c5, c6, c7⟩ := job_at hcc
      replace c0 := (HS.out.2.cell (p := ⟨b, _, none⟩) hb).trans c0
      replace c1 := (HS.out.2.cell (p := ⟨b, _, none⟩) hb).trans c1
      replace c2 := (HS.out.2.cell (p := ⟨b, _, none⟩) hb).trans c2
      replace c3 := (HS.out.2.cell (p := ⟨b, _, none⟩) hb).trans c3
      replace c4 := (HS.out.2.cell (p := ⟨b, _, none⟩) hb).trans c4
      replace c5 := (HS.out.2.cell (p := ⟨b, _, none⟩) hb).trans c5
      replace c6 := (HS.out.2.cell (p := ⟨b, _, none⟩) hb).trans c6
      replace c7 := (HS.out.2.cell (p := ⟨b, _, none⟩) hb).trans c7
      clear hcc
      cases ho : outB j[k].mins 1 1000
      · have HN : Hid (faultAt (jobFault j) (k + 1) = 0) := by rw [faultAt_succ HS.out.1, jobFault_in hlt, ho]; exact rfl
        go_wp2_with (go_at_call 83; refine (out_any _ _ _ _).mono ?_; rintro e w' ⟨rfl, rfl⟩)
        exact ⟨⟨k + 1, by omega, by go_num, HN.out, below_alloc HS.out.2 _ hsz⟩, by simp [intOf]; omega⟩
      · have HN : Hid (schedF j ws crews = 1) := by
          have h1 : jobFault j k = 1 := by rw [jobFault_in hlt, ho]; rfl
          have h2 := faultAt_hit hlt HS.out.1 (by omega)
          unfold schedF; rw [if_neg hbig, h2, h1, if_pos (by omega)]; exact rfl
        go_wp2_with (go_at_call 83; refine (out_any _ _ _ _).mono ?_; rintro e w' ⟨rfl, rfl⟩)
        go_ret
        exact ⟨ret_int HN.out.symm, below_alloc HS.out.2 _ hsz⟩
    · obtain rfl : k = j.length := by omega
      by_cases hbig2 : 100 < ws.length
      · have HN : Hid (schedF j ws crews = 2) := by unfold schedF; rw [if_neg hbig, if_neg (by have := HS.out.1; omega), if_pos hbig2]; exact rfl
        go_wp2
        go_ret
        exact ⟨ret_int HN.out.symm, HS.out.2⟩
      have hw2 : ws.length ≤ 100 := by omega
      go_wp2
      obtain ⟨wo, rfl⟩ : ∃ wo : World, wo = wr := ⟨_, rfl⟩
      go_loopw [29] (fun i wr => ∃ k : Nat, k ≤ ws.length ∧ i = .int .i64 k ∧ faultAt (winFault ws) k = 0 ∧ Below w.heap.size w wr) (fun i _ => ws.length - (intOf i).toNat)
      case atStart => exact ⟨0, by omega, rfl, rfl, HS.out.2⟩
      case round =>
        obtain ⟨k, hk, rfl, hz, hB⟩ := hrel
        have hsz2 := hB.size
        have HR := Lib.hid (And.intro hz hB)
        clear hz hB
        by_cases hlt : k < ws.length
        · obtain ⟨b, off, rfl, hb, hcc⟩ := HC2.out k hlt
          obtain ⟨c0, c1⟩ := win_at hcc
          replace c0 := (HR.out.2.cell (p := ⟨b, _, none⟩) hb).trans c0
          replace c1 := (HR.out.2.cell (p := ⟨b, _, none⟩) hb).trans c1
          clear hcc
          have hbsz : b < wr.heap.size := by omega
          have HFF : Hid (∀ n : Int, n ≠ 0 → winFault ws k = n → Hid (schedF j ws crews = n)) := fun n hn hp => by
            have h1 := faultAt_hit hlt HR.out.1 (by rw [hp]; exact hn)
            unfold schedF
            rw [if_neg hbig, if_neg (by have := HS.out.1; omega), if_neg hbig2, h1, if_pos (by rw [hp]; exact hn), hp]
            exact rfl
          have HDK := Lib.hid (winFault_in hlt)
          have HB9 := Lib.hid (below_alloc HR.out.2 (.cells #[.int .i64 ws[k].fr, .int .i64 ws[k].to] 161) hsz2)
          cases ho : outB ws[k].fr 0 ws[k].to
          · by_cases hto : 1000000 < ws[k].to
            · have HN := HFF.out 1 (by omega) (by rw [HDK.out, if_pos (.inr hto)])
              go_wp2_with (go_at_call 83; refine (out_any _ _ _ _).mono ?_; rintro e w' ⟨rfl, rfl⟩)
              go_ret
              exact ⟨ret_int HN.out.symm, HB9.out⟩
            · have hdk2 : winFault ws k = if 0 < k ∧ ws[k].fr < (ws[k - 1]?.getD default).to then 7 else 0 := by rw [HDK.out, if_neg (by rintro (h | h); (· rw [ho] at h; cases h); (· omega))]
              have HDK2 := Lib.hid hdk2
              clear hdk2
              by_cases hk0 : k = 0
              · have hd0 : decide ((0 : Int) < (k : Int)) = false := by simp; omega
                have hd1 : decide (0 < k) = false := by simp; omega
                have HN : Hid (faultAt (winFault ws) (k + 1) = 0) := by rw [faultAt_succ HR.out.1, HDK2.out, if_neg (by omega)]; exact rfl
                clear hk0
                go_wp2_with (go_at_call 83; refine (out_any _ _ _ _).mono ?_; rintro e w' ⟨rfl, rfl⟩)
                go_quiet (fail)
                go_wp2
                exact ⟨⟨k + 1, by omega, by go_num, HN.out, below_draws HB9.out _⟩, by simp [intOf]; omega⟩
              · have hd0 : decide ((0 : Int) < (k : Int)) = true := by simp; omega
                have hd1 : decide (0 < k) = true := by simp; omega
                have hk1 : 1 ≤ k := by omega
                have hpl : k - 1 < ws.length := by omega
                have HPG : Hid ((ws[k - 1]?.getD default) = ws[k - 1]) := by rw [List.getElem?_eq_getElem hpl]; exact rfl
                obtain ⟨b'', off'', hbe, hbb'', hcc⟩ := HC2.out (k - 1) hpl
                obtain ⟨rfl, rfl⟩ : b = b'' ∧ off = off'' := by simpa using hbe
                obtain ⟨-, e1⟩ := win_at hcc
                replace e1 := (HR.out.2.cell (p := ⟨b, _, none⟩) hb).trans e1
                clear hcc hbe hk0
                have hi1 : (0 : Int) ≤ (k : Int) - 1 := by omega
                have hi2 : (k : Int) - 1 < (ws.length : Int) := by omega
                by_cases hlt2 : ws[k].fr < ws[k - 1].to
                · have HN := HFF.out 7 (by omega) (by rw [HDK2.out, HPG.out, if_pos ⟨by omega, hlt2⟩])
                  go_wp2_with (go_at_call 83; refine (out_any _ _ _ _).mono ?_; rintro e w' ⟨rfl, rfl⟩)
                  go_quiet (fail)
                  go_wp2
                  go_ret
                  exact ⟨ret_int HN.out.symm, below_draws HB9.out _⟩
                · have HN : Hid (faultAt (winFault ws) (k + 1) = 0) := by rw [faultAt_succ HR.out.1, HDK2.out, HPG.out, if_neg (by omega)]; exact rfl
                  go_wp2_with (go_at_call 83; refine (out_any _ _ _ _).mono ?_; rintro e w' ⟨rfl, rfl⟩)
                  go_quiet (fail)
                  go_wp2
                  exact ⟨⟨k + 1, by omega, by go_num, HN.out, below_draws HB9.out _⟩, by simp [intOf]; omega⟩
          · have HN := HFF.out 1 (by omega) (by rw [HDK.out, if_pos (.inl ho)])
            go_wp2_with (go_at_call 83; refine (out_any _ _ _ _).mono ?_; rintro e w' ⟨rfl, rfl⟩)
            go_ret
            exact ⟨ret_int HN.out.symm, HB9.out⟩
        · obtain rfl : k = ws.length := by omega
          cases ho : outB crews 1 20
          · have HN : Hid (schedF j ws crews = 0) := by unfold schedF; rw [if_neg hbig, if_neg (by have := HS.out.1; omega), if_neg hbig2, if_neg (by have := HR.out.1; omega), ho]; exact rfl
            go_wp2_with (go_at_call 83; refine (out_any _ _ _ _).mono ?_; rintro e w' ⟨rfl, rfl⟩)
            go_ret
            exact ⟨ret_int HN.out.symm, HR.out.2⟩
          · have HN : Hid (schedF j ws crews = 1) := by unfold schedF; rw [if_neg hbig, if_neg (by have := HS.out.1; omega), if_neg hbig2, if_neg (by have := HR.out.1; omega), ho]; exact rfl
            go_wp2_with (go_at_call 83; refine (out_any _ _ _ _).mono ?_; rintro e w' ⟨rfl, rfl⟩)
            go_ret
            exact ⟨ret_int HN.out.symm, HR.out.2⟩

set_option maxHeartbeats 1000000 in
set_option maxRecDepth 100000 in
theorem indexFunc_win (v : Value) (l : List Win) (p : Win → Bool) (F : FuncId) (cp : Array Value) (w : World) (h : Arr Win.cells 2 w l v) (hF : ∀ (args : Array Value) (w : World), (callFunc F args).run Try.prog w = .ok (.enter F args) w)
    (hcall : ∀ (x : Win) (w' : World), x ∈ l → Below w.heap.size w w' → Calls Try.prog F (#[.agg ⟨Win.cells x⟩] ++ cp) w' fun e w'' => e = .returned (.bool (p x)) ∧ Below w'.heap.size w' w'') :
    Calls Try.prog 149 #[v, .func (.func F) #[] cp] w fun e w' => e = .returned (.int .i64 (idxF p l)) ∧ Below w.heap.size w w' := by
  obtain ⟨a, cap, rfl, hcap, hmax, hc⟩ := h
  have hlen : l.length ≤ maxLen := by omega
  unfold maxLen at hlen hmax
  have HC := Lib.hid hcall
  clear hcall
  go_enter Try.func149, Try.ntmps149
  go_wp2
  go_loopw [8] (fun i wr => ∃ k : Nat, k ≤ l.length ∧ i = .int .i64 k ∧ (l.take k).any p = false ∧ Below w.heap.size w wr) (fun i _ => l.length - (intOf i).toNat)
  case atStart => exact ⟨0, by omega, rfl, rfl, Below.refl _ _⟩
  case round =>
    obtain ⟨k, hk, rfl, hz, hB⟩ := hrel
    have HZ := Lib.hid hz
    clear hz
    have hsz := hB.size
    by_cases hlt : k < l.length
    · obtain ⟨b, off, rfl, hb, hcc⟩ := hc k hlt
      obtain ⟨c0, c1⟩ := win_at hcc
      replace c0 := (hB.cell (p := ⟨b, _, none⟩) hb).trans c0; replace c1 := (hB.cell (p := ⟨b, _, none⟩) hb).trans c1
      clear hc hcc
      cases hx : p l[k]
      · have HT := Lib.hid (any_take_succ _ l k hlt HZ.out)
        have HX := Lib.hid hx
        clear hx
        go_wp2_with fail
        refine (HC.out l[k] _ (List.getElem_mem _) ?_).mono ?_
        · (repeat (first | exact Below.refl _ _ | assumption | refine below_draws ?_ _ | refine Below.drew ?_ | refine below_alloc ?_ _ (by first | omega | (simp; done) | (simp; omega)) | refine Below.setCell ?_ (by first | omega | (simp; done) | (simp; omega)) _ | refine below_at ?_ (by assumption) (by first | omega | (simp; done) | (simp; omega))))
        rintro e w1 ⟨rfl, hb1⟩
        have hx := HX.out
        go_wp2
        exact ⟨⟨k + 1, by omega, by go_num, by rw [HT.out]; exact HX.out, by (repeat (first | exact Below.refl _ _ | assumption | refine below_draws ?_ _ | refine Below.drew ?_ | refine below_alloc ?_ _ (by first | omega | (simp; done) | (simp; omega)) | refine Below.setCell ?_ (by first | omega | (simp; done) | (simp; omega)) _ | refine below_at ?_ (by assumption) (by first | omega | (simp; done) | (simp; omega))))⟩, by simp [intOf]; omega⟩
      · have HX := Lib.hid (idxF_hit hlt HZ.out hx)
        go_wp2_with fail
        refine (HC.out l[k] _ (List.getElem_mem _) ?_).mono ?_
        · (repeat (first | exact Below.refl _ _ | assumption | refine below_draws ?_ _ | refine Below.drew ?_ | refine below_alloc ?_ _ (by first | omega | (simp; done) | (simp; omega)) | refine Below.setCell ?_ (by first | omega | (simp; done) | (simp; omega)) _ | refine below_at ?_ (by assumption) (by first | omega | (simp; done) | (simp; omega))))
        rintro e w1 ⟨rfl, hb1⟩
        go_wp2
        go_ret
        exact ⟨ret_int (by rw [HX.out]), by (repeat (first | exact Below.refl _ _ | assumption | refine below_draws ?_ _ | refine Below.drew ?_ | refine below_alloc ?_ _ (by first | omega | (simp; done) | (simp; omega)) | refine Below.setCell ?_ (by first | omega | (simp; done) | (simp; omega)) _ | refine below_at ?_ (by assumption) (by first | omega | (simp; done) | (simp; omega))))⟩
    · go_wp2
      go_ret
      exact ⟨ret_int (by rw [idxF_none (any_take_all (by omega) HZ.out)]), hB⟩
end Go.Proofs.Ytagpcgnlbgndmaa
