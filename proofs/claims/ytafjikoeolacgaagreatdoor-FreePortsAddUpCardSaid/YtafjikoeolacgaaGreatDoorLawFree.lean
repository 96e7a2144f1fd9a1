/- The walk of FreePortsAddUp: the law's function returns true for every list of integers, and writes nothing that was there. -/
import Derived.Test.YtafjikoeolacgaaGreatDoorStreamZ
import Derived.Test.YtafjikoeolacgaaGreatDoorAskAll
import Derived.Test.YtafjikoeolacgaaGreatDoorAskR
import Derived.Test.YtafjikoeolacgaaGreatDoorPlainF
import Derived.Test.YtafjikoeolacgaaGreatDoorReady
import Derived.Test.YtafjikoeolacgaaGreatDoorLawHead
set_option linter.unusedVariables false
set_option linter.unusedSimpArgs false
namespace Go.Proofs.YtafjikoeolacgaaGreatDoor
open Go Go.RowKit

set_option maxHeartbeats 16000000 in
set_option maxRecDepth 100000 in
theorem law_free (a0 : Option Addr) (len0 cap0 : Nat) (z0 : List Int) (w : World) (w0 : IsRow .i64 w a0 len0 cap0 z0) (ht : Tab10 w) :
    Calls Tryz.prog 3 #[.slice a0 len0 cap0] w fun e w' => e = .returned (.bool true) ∧ Below w.heap.size w w' := by
  have hS := strm_start w0
  have HT := Lib.hid ht
  clear w0 ht
  go_enter Tryz.func3, Tryz.ntmps3
  go_wp2_with fail
  refine (rightTree_any w.heap.size 0 _ hS (by omega)).mono ?_
  rintro e w1 ⟨v, rfl, ⟨v1, v2, l, d, rfl, hl4, hd6, hF, hA1, hA2, lo1, lo2⟩, hs1, hg1⟩
  have hg01 := grown_trans (World.grownBy_alloc w _ (some w.heap.size)) hg1
  have hB1 := below_row hg01
  have hz1 := hB1.size
  obtain ⟨a1, cap1, rfl, -, -, hc1⟩ := id hA1
  obtain ⟨a2, cap2, rfl, -, -, hc2⟩ := id hA2
  have HS2 : Hid (AskSt w (w1.alloc (.cells #[.slice a1 l.length cap1, .slice a2 d.length cap2] 29)) w1.heap.size (.slice a1 l.length cap1) (.slice a2 d.length cap2) l d) := ⟨below_alloc hB1 _ hz1, Blk.new _ _ _, hA1.below (below_alloc (Below.refl _ _) _ (Nat.le_refl _)), hA2.below (below_alloc (Below.refl _ _) _ (Nat.le_refl _))⟩
  have HFF := Lib.hid hF
  have HSUM := Lib.hid (ports_sum (tok_of hF))
  have HG := Lib.hid (askF_good' hF)
  have HOK := Lib.hid (tok_of hF)
  have hs2 : w1.heap.size < (w1.alloc (.cells #[.slice a1 l.length cap1, .slice a2 d.length cap2] 29)).heap.size := by simp
  clear hA1 hA2 hB1 hg01 hg1 hs1 lo1 lo2 hF hS hc1 hc2
  have t0 := HS2.out.t.cell 0 _ rfl
  have t1 := HS2.out.t.cell 1 _ rfl
  go_wp2_with fail
  generalize w1.alloc (.cells #[.slice a1 l.length cap1, .slice a2 d.length cap2] 29) = w2 at *
  generalize w1.heap.size = tb at *
  refine (Free_any _ _ l d _ (by exact HS2.out.a1) (by exact HS2.out.a2) (HT.out.below HS2.out.b)).mono ?_
  rintro e w3 ⟨vf, rfl, hF, hb3⟩
  have hz3 := hb3.size
  rw [HFF.out, HG.out.2]
  have HS3 := Lib.hid (HS2.out.below hb3)
  obtain ⟨af, cf, rfl, -, -, -⟩ := id hF
  have hsl := sumK_le (l := l) (d := d) (fun s hs => (HOK.out.s.keys s hs).2) l.length (Nat.le_refl _)
  clear hb3 t0 t1 hF HS2
  have t0 := HS3.out.t.cell 0 _ rfl
  have t1 := HS3.out.t.cell 1 _ rfl
  obtain ⟨b1, k1, e1, hcp1, hmx1, hc1⟩ := id HS3.out.a1
  obtain ⟨b2, k2, e2, hcp2, hmx2, hc2⟩ := id HS3.out.a2
  simp only [Value.slice.injEq, true_and] at e1 e2
  obtain ⟨rfl, rfl⟩ := e1
  obtain ⟨rfl, rfl⟩ := e2
  unfold maxLen at hmx1 hmx2
  have HC := Lib.hid (And.intro hc1 hc2)
  clear hc1 hc2
  go_wp2
  go_loopw [8, 9, 36] (fun av iv i wr => ∃ k : Nat, k ≤ l.length ∧ i = .int .i64 k ∧ av = .int .i64 (waysSum (l.take k) : Nat) ∧ iv = .int .i64 (innerN (l.take k) : Nat) ∧ Below w3.heap.size w3 wr) (fun _ _ i _ => l.length - (intOf i).toNat)
  case atStart => exact ⟨0, by omega, rfl, rfl, rfl, Below.refl _ _⟩
  case round =>
    obtain ⟨k, hk, rfl, rfl, rfl, hB⟩ := hrel
    have hsz := hB.size
    have HB := Lib.hid hB
    have hwl := waysSum_le HOK.out.s k hk
    have hil := innerN_le l k
    clear hB
    by_cases hlt : k < l.length
    · obtain ⟨b, off, rfl, hb, hcc⟩ := HC.out.1 k hlt
      obtain ⟨y0, y1, y2, y3⟩ := splt_at hcc
      replace y0 := (HB.out.cell (p := ⟨b, _, none⟩) hb).trans y0
      replace y1 := (HB.out.cell (p := ⟨b, _, none⟩) hb).trans y1
      replace y2 := (HB.out.cell (p := ⟨b, _, none⟩) hb).trans y2
      replace y3 := (HB.out.cell (p := ⟨b, _, none⟩) hb).trans y3
      have hw := waysB_le (HOK.out.s.keys l[k] (List.getElem_mem _)).2
      obtain ⟨hw1, hw2⟩ := hw
      have HWS := Lib.hid (And.intro (waysSum_succ hlt) (innerN_succ hlt))
      have hX := Blk.new wr #[.string l[k].key, .int .i64 l[k].ways, .string l[k].par, .int .i64 l[k].port] 36
      have x1 := hX.cell 1 _ rfl
      have x2 := hX.cell 2 _ rfl
      clear hcc hX
      by_cases hp : l[k].par.size = 0
      · have he : l[k].par.toList.isEmpty = true := by rw [isEmpty_size]; simp [hp]
        have HI2 : Hid (innerN (l.take (k + 1)) = innerN (l.take k)) := by rw [HWS.out.2, if_pos hp]; exact rfl
        clear hp
        go_wp2
        refine ⟨⟨k + 1, by omega, by go_num, ?_, by rw [HI2.out], below_alloc HB.out _ (by omega)⟩, by simp [intOf]; omega⟩
        rw [HWS.out.1]
        congr 1
        push_cast; omega
      · have he : l[k].par.toList.isEmpty = false := by rw [isEmpty_size]; simp [hp]
        have HI2 : Hid (innerN (l.take (k + 1)) = innerN (l.take k) + 1) := by rw [HWS.out.2, if_neg hp]; exact rfl
        clear hp
        go_wp2
        refine ⟨⟨k + 1, by omega, by go_num, ?_, by rw [HI2.out]; go_num, below_alloc HB.out _ (by omega)⟩, by simp [intOf]; omega⟩
        rw [HWS.out.1]
        congr 1
        push_cast; omega
    · obtain rfl : k = l.length := by omega
      rw [List.take_length]
      rw [List.take_length] at hwl hil
      have hs : (((waysSum l : Nat) : Int) != ((sumK l d l.length : Nat) : Int) + ((innerN l : Nat) : Int) + (d.length : Int)) = false := by
        have := HSUM.out
        simp; omega
      have hlt0 : tb < wr.heap.size := Nat.lt_of_lt_of_le HS3.out.t.lt hsz
      have HSr := Lib.hid (HS3.out.below HB.out)
      have t0 := HSr.out.t.cell 0 _ rfl
      have t1 := HSr.out.t.cell 1 _ rfl
      obtain ⟨wo, rfl⟩ : ∃ wo : World, wo = wr := ⟨_, rfl⟩
      go_wp2
      go_loopw [62] (fun i wr => ∃ k : Nat, k ≤ d.length ∧ i = .int .i64 k ∧ Below wo.heap.size wo wr) (fun i _ => d.length - (intOf i).toNat)
      case atStart => exact ⟨0, by omega, rfl, Below.refl _ _⟩
      case round =>
        obtain ⟨k, hk, rfl, hB⟩ := hrel
        have hsz2 := hB.size
        have HSk := Lib.hid (HSr.out.below hB)
        have hlt1 : tb < wr.heap.size := HSk.out.t.lt
        have HBk := Lib.hid hB
        clear hB t0 t1
        by_cases hlt : k < d.length
        · obtain ⟨b, off, rfl, hb, hcc⟩ := HC.out.2 k hlt
          obtain ⟨c0, c1, c2⟩ := drp_at hcc
          have hB3k : Below w3.heap.size w3 wr := below_at HB.out HBk.out hsz
          replace c0 := (hB3k.cell (p := ⟨b, _, none⟩) hb).trans c0
          replace c1 := (hB3k.cell (p := ⟨b, _, none⟩) hb).trans c1
          replace c2 := (hB3k.cell (p := ⟨b, _, none⟩) hb).trans c2
          have HAS := Lib.hid (ask_self HFF.out hlt)
          have HKC := Lib.hid (keysC_at HFF.out hlt)
          have hX := Blk.new wr #[.string d[k].cust, .string d[k].spl, .int .i64 d[k].port] 38
          have HX := Lib.hid hX
          have x0 := hX.cell 0 _ rfl
          have t0 := HSk.out.t.cell 0 _ rfl
          have t1 := HSk.out.t.cell 1 _ rfl
          clear hcc hB3k hX
          go_wp2_with fail
          refine (Chain_any _ _ l d d[k].cust _ (by exact HSk.out.a1.below (below_alloc (Below.refl _ _) _ (Nat.le_refl _))) (by exact HSk.out.a2.below (below_alloc (Below.refl _ _) _ (Nat.le_refl _)))).mono ?_
          rintro e w5 ⟨vc, rfl, hv, hb5⟩
          rw [HAS.out.1]
          rw [HAS.out.2] at hv
          have hz5 : wr.heap.size + 1 ≤ w5.heap.size := by have := hb5.size; simpa using this
          have hx5 := HX.out.below hb5 (by simp)
          have HS5 := Lib.hid (HSk.out.below (below_at (below_alloc (Below.refl _ _) (.cells #[.string d[k].cust, .string d[k].spl, .int .i64 d[k].port] 38) (Nat.le_refl _)) hb5 (by simp)))
          have HB5 := Lib.hid (below_at (below_alloc HBk.out (.cells #[.string d[k].cust, .string d[k].spl, .int .i64 d[k].port] 38) (by omega)) hb5 (by simp; omega))
          have x0 := hx5.cell 0 _ rfl
          have x1 := hx5.cell 1 _ rfl
          have HX5 := Lib.hid hx5
          clear hb5 hx5 c0 c1 c2 t0 t1
          generalize hC : keysC l d[k].spl = C at *
          obtain ⟨hn1, hn2, hlast, hall⟩ := HKC.out
          obtain ⟨av, cv, rfl, hcv, hmv, hcc⟩ := hv
          unfold maxLen at hmv
          have HV := Lib.hid hcc
          obtain ⟨bv, ov, rfl, hbv, hcl⟩ := hcc (C.length - 1) (by omega)
          have z0 := hcl 0 (.string d[k].spl) (by
            rw [List.getElem?_eq_getElem (by omega)] at hlast
            rw [Option.some.inj hlast]; rfl)
          simp only [Nat.mul_one, Nat.add_zero] at z0
          have HCC := Lib.hid (And.intro hC hall)
          clear hC hall hlast hcl hcc
          have hne0 : ¬ ((C.length : Int) = 0) := by omega
          have hne1 : ((C.length : Int) == 0) = false := by rw [beq_eq_false_iff_ne]; omega
          have hne2 : decide ((C.length : Int) = 0) = false := decide_eq_false (by omega)
          have hix : ((C.length : Int) - 1).toNat = C.length - 1 := by omega
          have hst : (d[k].spl.toList == d[k].spl.toList) = true := by simp
          go_wp2_with fail
          go_region
          go_wp2
          have HS6 : Hid (AskSt w w5.drew tb (.slice a1 l.length cap1) (.slice (some ⟨b, off, none⟩) d.length cap2) l d) := ⟨Below.drew HS5.out.b, HS5.out.t.drew, HS5.out.a1.drew, HS5.out.a2.drew⟩
          have HX6 : Hid (Blk w5.drew wr.heap.size #[.string d[k].cust, .string d[k].spl, .int .i64 d[k].port] 38) := HX5.out.drew
          have HB6 : Hid (Below wo.heap.size wo w5.drew) := Below.drew HB5.out
          have hz6 : wr.heap.size + 1 ≤ w5.drew.heap.size := hz5
          have HV6 : Hid (Arr strCells 1 w5.drew C (.slice (some ⟨bv, ov, none⟩) C.length cv)) := Lib.hid ⟨_, _, rfl, hcv, by unfold maxLen; exact hmv, HV.out⟩
          generalize w5.drew = w6 at *
          obtain ⟨wk, rfl⟩ : ∃ wk : World, wk = wr := ⟨_, rfl⟩
          go_loopw [93] (fun i ws => ∃ j : Nat, j ≤ C.length ∧ i = .int .i64 j ∧ Below w6.heap.size w6 ws) (fun i _ => C.length - (intOf i).toNat)
          case atStart => exact ⟨0, by omega, rfl, Below.refl _ _⟩
          case round =>
            obtain ⟨j, hj, rfl, hBj⟩ := hrel
            have hsz3 := hBj.size
            have HSj := Lib.hid (HS6.out.below hBj)
            have HXj := Lib.hid (HX6.out.below hBj (by omega))
            have HBj := Lib.hid hBj
            clear hBj
            by_cases hjl : j < C.length
            · obtain ⟨a', c', e', _, _, hcc⟩ := HV6.out
              simp only [Value.slice.injEq, true_and] at e'
              obtain ⟨bq, oq, eq1, hbq, hcl⟩ := hcc j hjl
              rw [← e'.1] at eq1
              simp only [Option.some.injEq, Addr.mk.injEq, and_true] at eq1
              obtain ⟨rfl, rfl⟩ := eq1
              have g0 := hcl 0 (.string C[j]) (by simp [strCells])
              simp only [Nat.mul_one, Nat.add_zero] at g0
              replace g0 := (HBj.out.cell (p := ⟨_, _, none⟩) hbq).trans g0
              have t0 := HSj.out.t.cell 0 _ rfl
              have t1 := HSj.out.t.cell 1 _ rfl
              have HCJ := Lib.hid (HCC.out.2 C[j] (List.getElem_mem _))
              clear hcc hcl e' z0 x0 x1
              go_wp2_with fail
              refine (Below_any _ _ l d C[j] _ (by exact HSj.out.a1) (by exact HSj.out.a2)).mono ?_
              rintro e w7 ⟨vb, rfl, hvb, hb7⟩
              rw [HCJ.out.1]
              rw [HCJ.out.2.1] at hvb
              have hz7 := hb7.size
              have hx7 := HXj.out.below hb7 HXj.out.lt
              have x0 := hx7.cell 0 _ rfl
              have HB7 := Lib.hid (below_at HBj.out hb7 hsz3)
              clear hb7 hx7 t0 t1 g0
              go_wp2_with fail
              refine (contains_str_any vb (belowL l d C[j]) d[k].cust _ hvb).mono ?_
              rintro e w8 ⟨rfl, rfl⟩
              have hany : (belowL l d C[j]).any (fun x => strB d[k].cust x) = true := List.any_eq_true.2 ⟨_, HCJ.out.2.2, strB_iff.2 rfl⟩
              rw [hany]
              clear hany hvb
              go_wp2
              exact ⟨⟨j + 1, by omega, by go_num, HB7.out⟩, by simp [intOf]; omega⟩
            · obtain rfl : j = C.length := by omega
              go_wp2
              exact ⟨⟨k + 1, by omega, by go_num, below_at HB6.out HBj.out (by omega)⟩, by simp [intOf]; omega⟩
        · obtain rfl : k = d.length := by omega
          go_wp2_with fail
          refine (ready_any _).mono ?_
          rintro e wy ⟨rfl, hby⟩
          have hBy := below_at HSk.out.b hby HSk.out.b.size
          clear hby
          go_wp2
          go_ret
          exact ⟨rfl, hBy⟩
end Go.Proofs.YtafjikoeolacgaaGreatDoor
