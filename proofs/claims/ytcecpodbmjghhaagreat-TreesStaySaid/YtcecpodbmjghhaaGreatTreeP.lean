/- Walks of package tree: the place of a customer among the drops; how often light is halved on the way to a splitter. -/
import Derived.Test.YtcecpodbmjghhaaGreatTreeGH
import Derived.Test.YtcecpodbmjghhaaGreatTreesP
import Derived.Test.YtcecpodbmjghhaaGreatPlainK
set_option linter.unusedVariables false
set_option linter.unusedSimpArgs false
namespace Go.Proofs.YtcecpodbmjghhaaGreat
open Go Go.RowKit

set_option maxHeartbeats 1000000 in
set_option maxRecDepth 100000 in
theorem bsearch_drp (v tv : Value) (l : List Drp) (c : Drp → Int) (pos : Nat) (F : FuncId) (cp : Array Value) (w : World) (h : Arr Drp.cells 3 w l v) (hl : l.length ≤ 1000000) (hpos : pos ≤ l.length)
    (hmono : ∀ k (hk : k < l.length), (c l[k] < 0 ↔ k < pos)) (hF : ∀ (args : Array Value) (w : World), (callFunc F args).run Tryz.prog w = .ok (.enter F args) w)
    (hcall : ∀ (x : Drp) (w' : World), x ∈ l → Below w.heap.size w w' → Calls Tryz.prog F (#[.agg ⟨Drp.cells x⟩, tv] ++ cp) w' fun e w'' => e = .returned (.int .i64 (c x)) ∧ Below w'.heap.size w' w'') :
    Calls Tryz.prog 51 #[v, tv, .func (.func F) #[] cp] w
      fun e w' => e = .returned (.tuple #[.int .i64 pos, .bool (hitAt c l pos)]) ∧ Below w.heap.size w w' := by
  obtain ⟨a, cap, rfl, hcap, hmax, hc⟩ := h
  have hlen : l.length ≤ maxLen := by omega
  unfold maxLen at hlen hmax
  have HC := Lib.hid (And.intro hcall hmono)
  clear hcall hmono
  go_enter Tryz.func51, Tryz.ntmps51
  go_wp2
  go_loopw [9, 10] (fun i j wr => ∃ a b : Nat, a ≤ pos ∧ pos ≤ b ∧ b ≤ l.length ∧ i = .int .i64 a ∧ j = .int .i64 b ∧ Below w.heap.size w wr) (fun i j _ => (intOf j).toNat - (intOf i).toNat)
  case atStart => exact ⟨0, l.length, by omega, by omega, by omega, rfl, rfl, Below.refl _ _⟩
  case round =>
    obtain ⟨lo, hi, h1, h2, h3, rfl, rfl, hB⟩ := hrel
    have hsz := hB.size
    by_cases hlt : lo < hi
    · have hm : (lo + hi) / 2 < l.length := by omega
      have hm1 : lo ≤ (lo + hi) / 2 := by omega
      have hm2 : (lo + hi) / 2 < hi := by omega
      obtain ⟨b, off, rfl, hb, hcc⟩ := hc ((lo + hi) / 2) hm
      obtain ⟨c0, c1, c2⟩ := drp_at hcc
      replace c0 := (hB.cell (p := ⟨b, _, none⟩) hb).trans c0
      replace c1 := (hB.cell (p := ⟨b, _, none⟩) hb).trans c1
      replace c2 := (hB.cell (p := ⟨b, _, none⟩) hb).trans c2
      have hmo := HC.out.2 ((lo + hi) / 2) hm
      have hmem : l[(lo + hi) / 2] ∈ l := List.getElem_mem _
      clear hc hcc
      have HM := Lib.hid hmem
      clear hmem
      by_cases hx : c l[(lo + hi) / 2] < 0
      · have hp : (lo + hi) / 2 < pos := hmo.1 hx
        clear hmo
        go_wp2_with fail
        refine (HC.out.1 l[(lo + hi) / 2] _ HM.out ?_).mono ?_
        · (repeat (first | exact Below.refl _ _ | assumption | refine below_draws ?_ _ | refine Below.drew ?_ | refine below_alloc ?_ _ (by first | omega | (simp; done) | (simp; omega)) | refine Below.setCell ?_ (by first | omega | (simp; done) | (simp; omega)) _ | refine below_at ?_ (by assumption) (by first | omega | (simp; done) | (simp; omega))))
        rintro e w1 ⟨rfl, hb1⟩
        go_wp2
        exact ⟨⟨(lo + hi) / 2 + 1, hi, by omega, by omega, by omega, by go_num, rfl, by (repeat (first | exact Below.refl _ _ | assumption | refine below_draws ?_ _ | refine Below.drew ?_ | refine below_alloc ?_ _ (by first | omega | (simp; done) | (simp; omega)) | refine Below.setCell ?_ (by first | omega | (simp; done) | (simp; omega)) _ | refine below_at ?_ (by assumption) (by first | omega | (simp; done) | (simp; omega))))⟩, by simp [intOf]; omega⟩
      · have hp : pos ≤ (lo + hi) / 2 := by have := fun h => hx (hmo.2 h); omega
        clear hmo
        go_wp2_with fail
        refine (HC.out.1 l[(lo + hi) / 2] _ HM.out ?_).mono ?_
        · (repeat (first | exact Below.refl _ _ | assumption | refine below_draws ?_ _ | refine Below.drew ?_ | refine below_alloc ?_ _ (by first | omega | (simp; done) | (simp; omega)) | refine Below.setCell ?_ (by first | omega | (simp; done) | (simp; omega)) _ | refine below_at ?_ (by assumption) (by first | omega | (simp; done) | (simp; omega))))
        rintro e w1 ⟨rfl, hb1⟩
        go_wp2
        exact ⟨⟨lo, (lo + hi) / 2, by omega, by omega, by omega, by go_num, by go_num, by (repeat (first | exact Below.refl _ _ | assumption | refine below_draws ?_ _ | refine Below.drew ?_ | refine below_alloc ?_ _ (by first | omega | (simp; done) | (simp; omega)) | refine Below.setCell ?_ (by first | omega | (simp; done) | (simp; omega)) _ | refine below_at ?_ (by assumption) (by first | omega | (simp; done) | (simp; omega))))⟩, by simp [intOf]; omega⟩
    · obtain rfl : lo = pos := by omega
      by_cases hin : lo < l.length
      · obtain ⟨b, off, rfl, hb, hcc⟩ := hc lo hin
        obtain ⟨c0, c1, c2⟩ := drp_at hcc
        replace c0 := (hB.cell (p := ⟨b, _, none⟩) hb).trans c0
        replace c1 := (hB.cell (p := ⟨b, _, none⟩) hb).trans c1
        replace c2 := (hB.cell (p := ⟨b, _, none⟩) hb).trans c2
        have HM : Hid (l[lo] ∈ l) := List.getElem_mem _
        have HG := Lib.hid (hitAt_in (c := c) hin)
        clear hc hcc
        go_wp2_with fail
        refine (HC.out.1 l[lo] _ HM.out ?_).mono ?_
        · (repeat (first | exact Below.refl _ _ | assumption | refine below_draws ?_ _ | refine Below.drew ?_ | refine below_alloc ?_ _ (by first | omega | (simp; done) | (simp; omega)) | refine Below.setCell ?_ (by first | omega | (simp; done) | (simp; omega)) _ | refine below_at ?_ (by assumption) (by first | omega | (simp; done) | (simp; omega))))
        rintro e w1 ⟨rfl, hb1⟩
        go_wp2
        go_ret2
        exact ⟨ret_ib rfl HG.out.symm, by (repeat (first | exact Below.refl _ _ | assumption | refine below_draws ?_ _ | refine Below.drew ?_ | refine below_alloc ?_ _ (by first | omega | (simp; done) | (simp; omega)) | refine Below.setCell ?_ (by first | omega | (simp; done) | (simp; omega)) _ | refine below_at ?_ (by assumption) (by first | omega | (simp; done) | (simp; omega))))⟩
      · have HG := Lib.hid (hitAt_out (c := c) (show l.length ≤ lo by omega))
        go_wp2
        go_ret2
        exact ⟨ret_ib rfl HG.out.symm, hB⟩

set_option maxHeartbeats 1000000 in
theorem conClos_any (s : Drp) (key : ByteArray) (w : World) : Calls Tryz.prog 52 #[.agg #[.string s.cust, .string s.spl, .int .i64 s.port], .string key] w
    fun e w' => e = .returned (.int .i64 (cmpB s.cust key)) ∧ Below w.heap.size w w' := by
  go_enter Tryz.func52, Tryz.ntmps52
  go_wp2_with (go_at_call 53; refine (Tryz.strings_Compare _ _ _).mono ?_; rintro e w' ⟨rfl, rfl⟩)
  go_ret
  exact ⟨rfl, by (repeat (first | exact Below.refl _ _ | assumption | refine below_draws ?_ _ | refine Below.drew ?_ | refine below_alloc ?_ _ (by first | omega | (simp; done) | (simp; omega)) | refine Below.setCell ?_ (by first | omega | (simp; done) | (simp; omega)) _ | refine below_at ?_ (by assumption) (by first | omega | (simp; done) | (simp; omega))))⟩
theorem risingD_mono {d : List Drp} (h : Rising (d.map (·.cust))) (c : ByteArray) : d.Pairwise (fun a b => lessB b.cust c = true → lessB a.cust c = true) := by
  unfold Rising at h
  rw [List.pairwise_map] at h
  exact h.imp fun h1 h2 => lessB_trans h1 h2
set_option maxHeartbeats 1000000 in
theorem place_any (v : Value) (d : List Drp) (c : ByteArray) (w : World) (h : Arr Drp.cells 3 w d v) (hl : d.length ≤ 1000000) (hr : Rising (d.map (·.cust))) :
    Calls Tryz.prog 51 #[v, .string c, .func (.func 52) #[] #[]] w
    fun e w' => (∃ b : Bool, e = .returned (.tuple #[.int .i64 (posD d c), .bool b])) ∧ Below w.heap.size w w' := by
  have hF : ∀ (args : Array Value) (w : World), (callFunc 52 args).run Tryz.prog w = .ok (.enter 52 args) w := run_fn Tryz.func52 (by kernel_rfl) rfl
  have hm : ∀ k (hk : k < d.length), (cmpB d[k].cust c < 0 ↔ k < posD d c) := fun k hk => (cmpB_less _ _).trans (takeWhile_mono (risingD_mono hr c) k hk)
  refine (bsearch_drp v _ d (fun x => cmpB x.cust c) (posD d c) _ #[] w h hl (posD_le d c) hm hF (fun x w' hx hb => (conClos_any x c w').mono fun e w'' h => h)).mono ?_
  rintro e w' ⟨rfl, hb⟩
  exact ⟨⟨_, rfl⟩, hb⟩

theorem powS_takeP {C : List Splt} {k : Nat} (hk : k < C.length) : powS (C.take (k + 1)) = powS (C.take k) + dbl C[k].ways := by
  unfold powS
  rw [List.take_succ_eq_append_getElem hk, List.map_append, List.sum_append]; simp
set_option maxHeartbeats 4000000 in
set_option maxRecDepth 100000 in
theorem pdoublings_any (v1 v2 : Value) (l : List Splt) (s : Splt) (w : World) (h : Arr Splt.cells 4 w l v1) (hs : SOk l) (he : endsB l l.length s.key = true) : Calls Tryz.prog 49 #[.agg #[v1, v2], .agg #[.string s.key, .int .i64 s.ways, .string s.par, .int .i64 s.port]] w
    fun e w' => e = .returned (.int .i64 (powS (chainV l s.key))) ∧ Below w.heap.size w w' := by
  have HA := Lib.hid (And.intro h hs)
  have HW : Hid (∀ s' ∈ chainV l s.key, waysB s'.ways = true) := fun s' hs' => (hs.keys s' (upC_mem he s' (by unfold chainV at hs'; simpa using hs'))).2
  have HE := Lib.hid he
  have hcl : (chainV l s.key).length ≤ 500 := by
    have := upC_le he
    have := hs.len
    unfold chainV
    rw [List.length_reverse]; omega
  have hbx := (Blk.new w #[v1, v2] 29).alloc (.cells #[.string s.key, .int .i64 s.ways, .string s.par, .int .i64 s.port] 58)
  have hsx : Blk ((w.alloc (.cells #[v1, v2] 29)).alloc (.cells #[.string s.key, .int .i64 s.ways, .string s.par, .int .i64 s.port] 58)) (w.heap.size + 1) #[.string s.key, .int .i64 s.ways, .string s.par, .int .i64 s.port] 58 := Blk.newAt (by simp)
  have HBX := Lib.hid (And.intro hbx hsx)
  have p0 := hbx.cell 0 _ rfl
  have p1 := hbx.cell 1 _ rfl
  have s0 := hsx.cell 0 _ rfl
  clear h hs he hbx hsx
  go_enter Tryz.func49, Tryz.ntmps49
  go_wp2_with fail
  refine (chain_any _ _ l s.key _ (by exact HA.out.1.below (by (repeat (first | exact Below.refl _ _ | assumption | refine below_draws ?_ _ | refine Below.drew ?_ | refine below_alloc ?_ _ (by first | omega | (simp; done) | (simp; omega)) | refine Below.setCell ?_ (by first | omega | (simp; done) | (simp; omega)) _ | refine below_at ?_ (by assumption) (by first | omega | (simp; done) | (simp; omega)))))) HA.out.2 HE.out).mono ?_
  rintro e w2 ⟨v, rfl, ⟨hv, -⟩, hb2⟩
  have hz2 := hb2.size
  simp only [World.size_alloc] at hz2
  have hB2 : Below w.heap.size w w2 := by (repeat (first | exact Below.refl _ _ | assumption | refine below_draws ?_ _ | refine Below.drew ?_ | refine below_alloc ?_ _ (by first | omega | (simp; done) | (simp; omega)) | refine Below.setCell ?_ (by first | omega | (simp; done) | (simp; omega)) _ | refine below_at ?_ (by assumption) (by first | omega | (simp; done) | (simp; omega))))
  generalize hCC : chainV l s.key = C at *
  have HCC := Lib.hid hCC
  clear hCC
  obtain ⟨a, cap, rfl, hcap, hmax, hc⟩ := hv
  unfold maxLen at hmax
  have H2 := Lib.hid (And.intro hc hB2)
  clear hc hB2 hb2 p0 p1 s0
  go_wp2
  go_loopw [5, 14] (fun nv i wr => ∃ k : Nat, k ≤ C.length ∧ i = .int .i64 k ∧ nv = .int .i64 (powS (C.take k)) ∧ Below w2.heap.size w2 wr) (fun _ i _ => C.length - (intOf i).toNat)
  case atStart => exact ⟨0, by omega, rfl, by simp [powS], Below.refl _ _⟩
  case round =>
    obtain ⟨k, hk, rfl, rfl, hB⟩ := hrel
    have hsz := hB.size
    have hBw := H2.out.2.trans (hB.mono (by omega))
    have HS := Lib.hid (And.intro hB hBw)
    have hpn := powS_nonneg (c := C.take k) (fun s hs => HW.out s (List.mem_of_mem_take hs))
    rw [List.length_take] at hpn
    clear hB hBw
    by_cases hlt : k < C.length
    · obtain ⟨b, off, rfl, hb, hcc⟩ := H2.out.1 k hlt
      obtain ⟨y0, y1, y2, y3⟩ := splt_at hcc
      replace y0 := (HS.out.1.cell (p := ⟨b, _, none⟩) hb).trans y0
      replace y1 := (HS.out.1.cell (p := ⟨b, _, none⟩) hb).trans y1
      replace y2 := (HS.out.1.cell (p := ⟨b, _, none⟩) hb).trans y2
      replace y3 := (HS.out.1.cell (p := ⟨b, _, none⟩) hb).trans y3
      have HPT := Lib.hid (powS_takeP hlt)
      have hwb := HW.out C[k] (List.getElem_mem _)
      have hdl := dbl_le C[k].ways
      have hdw : Hid (C[k].ways = 2 ^ (dbl C[k].ways).toNat) := by unfold waysB at hwb; exact dbl_pow (by simpa using hwb)
      have hd1 : 1 ≤ dbl C[k].ways := by unfold waysB at hwb; simpa using hwb
      have hX := Blk.new wr #[.string C[k].key, .int .i64 C[k].ways, .string C[k].par, .int .i64 C[k].port] 58
      have x1 := hX.cell 1 _ rfl
      clear hcc hX hwb
      go_wp2
      obtain ⟨wo, rfl⟩ : ∃ wo : World, wo = wr := ⟨_, rfl⟩
      obtain ⟨D, hD⟩ := Int.eq_ofNat_of_zero_le (show 0 ≤ dbl C[k].ways by omega)
      have hD7 : D ≤ 7 := by omega
      have HDW : Hid (C[k].ways = ((2 ^ D : Nat) : Int)) := by
        have := hdw.out
        rw [hD] at this
        rw [this]; push_cast; first | done | rfl
      have HDD := Lib.hid hD
      have hBa : Below w2.heap.size w2 (wo.alloc (.cells #[.string C[k].key, .int .i64 C[k].ways, .string C[k].par, .int .i64 C[k].port] 58)) := below_alloc HS.out.1 _ (by omega)
      have HBa := Lib.hid hBa
      clear hdw hD hdl hd1 hBa x1 y0 y1 y2 y3
      generalize wo.alloc (.cells #[.string C[k].key, .int .i64 C[k].ways, .string C[k].par, .int .i64 C[k].port] 58) = w5 at *
      go_loopw [5, 8] (fun nv wv ws => ∃ m E : Nat, 2 ^ m = E ∧ m ≤ D ∧ nv = .int .i64 (powS (C.take k) + ((D - m : Nat) : Int)) ∧ wv = .int .i64 (E : Int) ∧ ws = w5) (fun _ wv _ => (intOf wv).toNat)
      case atStart => exact ⟨D, _, rfl, Nat.le_refl _, by simp, by rw [HDW.out], rfl⟩
      case round =>
        obtain ⟨m, E, hE, hmD, rfl, rfl, rfl⟩ := hrel
        rcases m with _ | m
        · obtain rfl : E = 1 := hE.symm
          clear hE
          go_wp2
          refine ⟨⟨k + 1, by omega, by go_num, ?_, HBa.out⟩, by simp [intOf]; omega⟩
          rw [HPT.out, HDD.out]; first | done | simp
        · obtain ⟨P, hP⟩ : ∃ P, 2 ^ m = P := ⟨_, rfl⟩
          have hP1 : 1 ≤ P := by rw [← hP]; exact Nat.one_le_two_pow
          have hP2 : P ≤ 64 := by
            have : 2 ^ m ≤ 2 ^ 6 := Nat.pow_le_pow_right (by omega) (by omega)
            rw [hP] at this; exact this
          obtain rfl : E = 2 * P := by rw [← hE, ← hP, Nat.pow_succ]; omega
          have HP := Lib.hid hP
          clear hE hP
          have hg1 : (1 : Int) < ((2 * P : Nat) : Int) := by omega
          have hq1 : Int.tdiv ((2 * P : Nat) : Int) 2 = (P : Int) := by rw [show ((2 * P : Nat) : Int) = 2 * (P : Int) by push_cast; rfl]; exact Int.mul_tdiv_cancel_left _ (by decide)
          go_wp2
          exact ⟨⟨m, P, HP.out, by omega, by congr 1; omega, rfl, trivial⟩, by simp [intOf]; omega⟩
    · obtain rfl : k = C.length := by omega
      go_wp2
      go_ret
      exact ⟨ret_int (by rw [HCC.out, List.take_length]), HS.out.2⟩
end Go.Proofs.YtcecpodbmjghhaaGreat
