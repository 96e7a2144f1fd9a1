/- The walk of BoughtPortsAreEnough: the law's function returns true for every list of integers, and writes nothing that was there. -/
import Derived.Test.YtagpcgnlbgndmaaLawBuy
import Derived.Test.YtagpcgnlbgndmaaPlainQ
import Derived.Test.YtagpcgnlbgndmaaReady
set_option linter.unusedVariables false
set_option linter.unusedSimpArgs false
namespace Go.Proofs.Ytagpcgnlbgndmaa
open Go Go.RowKit

theorem sumBy_drop (f : Offer → Int) (os : List Offer) (ks : List Int) (k : Nat) (h : k < ks.length) (h2 : k < os.length) : sumBy f (ks.drop k) (os.drop k) = ks[k] * f os[k] + sumBy f (ks.drop (k + 1)) (os.drop (k + 1)) := by
  rw [List.drop_eq_getElem_cons h, List.drop_eq_getElem_cons h2]; rfl
theorem counts_le {os : List Offer} (h : BuyOk os) : ∀ m : Nat, ∀ k ∈ counts os m, k ≤ m := by
  induction os with
  | nil => intro m k hk; simp [counts] at hk
  | cons o os ih =>
    intro m k hk
    rw [counts] at hk
    have ho := h o (by simp)
    have h1 := taken_le o os ho.1 m
    rcases List.mem_cons.1 hk with rfl | hk
    · omega
    · have := ih h.tail _ k hk; omega
theorem sumBy_le {f : Offer → Int} {os : List Offer} {C D : Int} (hC : 0 ≤ C) (hD : 0 ≤ D) (hf : ∀ o ∈ os, 0 ≤ f o ∧ f o ≤ D) : ∀ ks : List Int, (∀ k ∈ ks, 0 ≤ k ∧ k ≤ C) → sumBy f ks os ≤ os.length * (C * D) := by
  induction os with
  | nil => intro ks _; cases ks <;> simp [sumBy]
  | cons o os ih =>
    intro ks hk
    have hCD := Int.mul_nonneg hC hD
    cases ks with
    | nil => simp only [sumBy]; exact Int.mul_nonneg (by omega) hCD
    | cons k ks =>
      rw [sumBy]
      have h1 := ih (fun o h => hf o (by simp [h])) ks (fun k h => hk k (by simp [h]))
      have h2 := hk k (by simp)
      have h3 := hf o (by simp)
      have h4 := Int.mul_le_mul h2.2 h3.2 h3.1 hC
      rw [List.length_cons]
      push_cast
      rw [Int.add_mul, Int.one_mul]
      omega
/-- what the law's loops find -/
theorem enough_plain {os : List Offer} {m : Nat} (hok : BuyOk os) (hw : ∀ o ∈ os, 2 ≤ o.ways ∧ o.ways ≤ 128) (hlen : os.length ≤ 8) (hm : m ≤ 59) (hb : boughtB os m = true) :
    boughtS os m = sumBy (·.price) (counts os m) os ∧ (m : Int) ≤ sumBy dI (counts os m) os ∧ sumBy dI (counts os m) os ≤ 8 * (60 * 127) ∧
    ∀ i (h : i < os.length) (h2 : i < (counts os m).length), 0 ≤ (counts os m)[i] ∧ (counts os m)[i] ≤ 60 ∧ (0 < (counts os m)[i] → 1 ≤ m ∧ sumBy dI (counts os m) os - dI os[i] < m) := by
  have hfin : cost os m < inf := by
    by_cases he : os = []
    · subst he
      unfold boughtB at hb
      simp at hb
      subst hb
      rw [cost_zero]; decide
    · have := (cost_top hok he m).2
      unfold inf; omega
  obtain ⟨h1, h2⟩ := counts_sum hok m hfin
  have hS : boughtS os m = cost os m := by
    unfold boughtS
    split
    · rename_i he
      subst he
      unfold boughtB at hb
      simp at hb
      subst hb
      rw [cost_zero]
    · rfl
  have hk : ∀ k ∈ counts os m, 0 ≤ k ∧ k ≤ 60 := fun k hk => ⟨counts_nonneg os m k hk, by have := counts_le hok m k hk; omega⟩
  have hle := sumBy_le (f := dI) (os := os) (C := 60) (D := 127) (by omega) (by omega) (fun o ho => by have := hw o ho; unfold dI Offer.d; omega) (counts os m) hk
  refine ⟨by rw [hS, h1], h2, by omega, fun i hi hi2 => ?_⟩
  have h3 := hk _ (List.getElem_mem hi2)
  refine ⟨h3.1, h3.2, fun hpos => ?_⟩
  have h4 := counts_le hok m _ (List.getElem_mem hi2)
  exact ⟨by omega, bought_tight hok hfin i hi2 hi hpos⟩

set_option maxHeartbeats 16000000 in
set_option maxRecDepth 100000 in
theorem law_enough (a0 : Option Addr) (len0 cap0 : Nat) (z0 : List Int) (w : World) (w0 : IsRow .i64 w a0 len0 cap0 z0) :
    Calls Try.prog 9 #[.slice a0 len0 cap0] w fun e w' => e = .returned (.bool true) ∧ Below w.heap.size w w' := by
  have hS := strm_start w0
  clear w0
  go_enter Try.func9, Try.ntmps9
  go_wp2_with fail
  refine (offers_any w.heap.size 0 _ hS (by omega)).mono ?_
  rintro e w1 ⟨v1, rfl, ⟨os, hp, hpl⟩, hs1, hg1⟩
  go_wp2_with fail
  refine (range_any w.heap.size _ 0 60 _ hs1 (by omega) (by omega) (by omega) (by omega)).mono ?_
  rintro e w2 ⟨v4, rfl, ⟨n, rfl, n0, n1⟩, hs2, hg2⟩
  have hP := hp.grownBy hg2 hpl
  have hB : Below w.heap.size w w2 := below_row (grown_trans (World.grownBy_alloc w _ _) (grown_trans hg1 hg2))
  have hz2 := hB.size
  obtain ⟨av, capv, rfl, -, -, -⟩ := hp
  have H2 := Lib.hid (And.intro hP hB)
  clear hS hpl hs1 hg1 hs2 hg2 hP hB
  go_wp2_with fail
  refine (roffersFault_any _ os n _ (by exact H2.out.1)).mono ?_
  rintro e w3 ⟨rfl, hb3⟩
  have hz3 := hb3.size
  have H3 := Lib.hid (And.intro (H2.out.1.below hb3) (below_at H2.out.2 hb3 hz2))
  clear hb3
  by_cases hf : offersFault os n = 0
  · have hf1 : (offersFault os n != 0) = false := by simp [hf]
    obtain ⟨ok1, ok2, ok3, ok4, ok5⟩ := buyOk_of hf
    have HK := Lib.hid (And.intro ok2 (And.intro ok3 hf))
    clear ok2 ok3 hf
    go_wp2_with fail
    refine (buy_letters _ os n _ (by exact H3.out.1)).mono ?_
    rintro e w4 ⟨ba, bcap, L, S, B, F, rfl, hA4, hb4, hF, hF1, hF2⟩
    have hz4 := hb4.size
    obtain rfl : F = 0 := by rw [hF]; exact HK.out.2.2
    obtain ⟨e1, e2, e3⟩ := hF2 rfl
    rw [boughtL_eq] at e3
    have H4 := Lib.hid (And.intro hA4 (And.intro (H3.out.1.below hb4) (below_at H3.out.2 hb4 (by omega))))
    have HE := Lib.hid (And.intro e1 (And.intro e2 e3))
    clear hb4 hA4 hF hF1 hF2 e1 e2 e3
    have hm59 : needN n ≤ 59 := by unfold needN; omega
    have hnm : n ≤ (needN n : Int) + 1 := by unfold needN; omega
    have HNM2 : Hid (1 ≤ needN n → n = (needN n : Int) + 1) := by unfold Hid needN; omega
    cases hB : B
    · have hbf : boughtB os (needN n) = false := by rw [← HE.out.2.1]; exact hB
      have hos : os = [] ∧ needN n ≠ 0 := by
        unfold boughtB at hbf
        simpa using hbf
      obtain ⟨ho1, ho2⟩ := hos
      have hl0 : ((os.length : Int) == 0) = true := by rw [ho1]; rfl
      have hn1 : decide (1 < n) = true := by simp; unfold needN at ho2; omega
      clear ho1 ho2 hbf hnm hm59
      go_wp2_with fail
      refine (ready_any _).mono ?_
      rintro e w5 ⟨rfl, hb5⟩
      have hB5 := below_at H4.out.2.2 hb5 (by omega)
      clear hb5
      go_wp2
      go_ret
      exact ⟨rfl, hB5⟩
    · have hpl := enough_plain HK.out.1 HK.out.2.1 ok1 hm59 (by rw [← HE.out.2.1]; exact hB)
      rw [← HE.out.2.2, ← HE.out.1] at hpl
      have hll : L.length = os.length := by rw [HE.out.2.2, counts_len]
      have hlb : ((L.length : Int) != (os.length : Int)) = false := by rw [hll]; simp
      have hL8 : L.length ≤ 8 := by omega
      have hdn : ∀ j, (0 ≤ sumBy dI (L.drop j) (os.drop j) ∧ sumBy dI (L.drop j) (os.drop j) ≤ 60960) ∧ 0 ≤ sumBy (·.price) (L.drop j) (os.drop j) ∧ sumBy (·.price) (L.drop j) (os.drop j) ≤ 480000000 := by
        intro j
        have hk : ∀ k ∈ L.drop j, 0 ≤ k ∧ k ≤ 60 := fun k hk => by
          obtain ⟨i, hi, rfl⟩ := List.mem_iff_getElem.1 (List.mem_of_mem_drop hk)
          have := hpl.2.2.2 i (by omega) hi
          exact ⟨this.1, this.2.1⟩
        have hd1 : ∀ o ∈ os.drop j, 0 ≤ dI o ∧ dI o ≤ 127 := fun o ho => by have := HK.out.2.1 o (List.mem_of_mem_drop ho); unfold dI Offer.d; omega
        have hd2 : ∀ o ∈ os.drop j, 0 ≤ o.price ∧ o.price ≤ 1000000 := fun o ho => by have := HK.out.1 o (List.mem_of_mem_drop ho); omega
        have h1 := sumBy_le (f := dI) (os := os.drop j) (C := 60) (D := 127) (by omega) (by omega) hd1 (L.drop j) hk
        have h2 := sumBy_le (f := (·.price)) (os := os.drop j) (C := 60) (D := 1000000) (by omega) (by omega) hd2 (L.drop j) hk
        have h3 : (os.drop j).length ≤ 8 := by simp; omega
        refine ⟨⟨sumBy_nonneg (fun o ho => (hd1 o ho).1) _ (fun k h => (hk k h).1), by omega⟩, sumBy_nonneg (f := (·.price)) (fun o ho => (hd2 o ho).1) _ (fun k h => (hk k h).1), by omega⟩
      have HPL := Lib.hid (And.intro hpl (And.intro hdn hll))
      obtain ⟨hS1, hS2, hS3, -⟩ := hpl
      generalize hPT : sumBy dI L os = PT at *
      have HPT := Lib.hid hPT
      clear hPT hdn hll hB
      have HS1 := Lib.hid hS1
      clear hS1
      have HLs : Hid (∀ k (h : k < L.length), ∃ b off, ba = some ⟨b, off, none⟩ ∧ w4.cell? ⟨b, off + k, none⟩ = some (.int .i64 L[k])) := by
        intro k hk
        obtain ⟨a, c, he, _, _, hc⟩ := H4.out.1
        simp only [Value.slice.injEq] at he
        obtain ⟨rfl, _, rfl⟩ := he
        obtain ⟨b, off, ha, _, hcc⟩ := hc k hk
        have := hcc 0 _ rfl
        exact ⟨b, off, ha, by simpa using this⟩
      have HOs : Hid (∀ k (h : k < os.length), ∃ b off, av = some ⟨b, off, none⟩ ∧ w4.cell? ⟨b, off + k * 2, none⟩ = some (.int .i64 os[k].ways) ∧ w4.cell? ⟨b, off + k * 2 + 1, none⟩ = some (.int .i64 os[k].price)) := by
        intro k hk
        obtain ⟨a, c, he, _, _, hc⟩ := H4.out.2.1
        simp only [Value.slice.injEq] at he
        obtain ⟨rfl, _, rfl⟩ := he
        obtain ⟨b, off, ha, _, hcc⟩ := hc k hk
        exact ⟨b, off, ha, offer_at hcc⟩
      go_wp2_with fail
      go_loop [7, 10, 62] (fun sv pv i => ∃ (k : Nat) (P R : Int), k ≤ L.length ∧ i = .int .i64 k ∧ sv = .int .i64 R ∧ pv = .int .i64 P ∧ P = 1 + PT - sumBy dI (L.drop k) (os.drop k) ∧ R = sumBy (·.price) (L.drop k) (os.drop k) ) (fun _ _ i => L.length - (intOf i).toNat)
      case atStart =>
        refine ⟨0, 1, S, by omega, rfl, rfl, rfl, ?_, ?_⟩
        · have := HPT.out; simp; omega
        · have := HS1.out; simpa using this
      case round =>
        obtain ⟨k, P, R, hk, rfl, rfl, rfl, hP, hR⟩ := hrel
        have hdk := HPL.out.2.1 k
        rw [← hR] at hdk
        obtain ⟨⟨hq1, hq2⟩, hq3, hq4⟩ := hdk
        have hP0 : -100000 ≤ P := by omega
        have hP1 : P ≤ 100000 := by omega
        clear hq1 hq2
        by_cases hlt : k < L.length
        · have hko : k < os.length := by have := HPL.out.2.2; omega
          have hs1 := sumBy_drop dI os L k hlt hko
          have hs2 := sumBy_drop (·.price) os L k hlt hko
          have hK := HPL.out.1.2.2.2 k hko hlt
          obtain ⟨bl, offl, rfl, c0⟩ := HLs.out k hlt
          obtain ⟨bo, offo, rfl, d0, d1⟩ := HOs.out k hko
          obtain ⟨hw1, hw2⟩ := HK.out.2.1 os[k] (List.getElem_mem _)
          obtain ⟨ho1, ho2, ho3⟩ := HK.out.1 os[k] (List.getElem_mem _)
          obtain ⟨hK0, hK1, -⟩ := hK
          have hdI : dI os[k] = os[k].ways - 1 := by unfold dI Offer.d; omega
          rw [hdI] at hs1
          have HPR := Lib.hid (And.intro hP (And.intro hR (And.intro hs1 hs2)))
          clear hP hR hs1 hs2 hdI
          generalize L[k] = K at *
          have m1 : 0 ≤ K * (os[k].ways - 1) := Int.mul_nonneg hK0 (by omega)
          have m2 : K * (os[k].ways - 1) ≤ 60 * 127 := Int.mul_le_mul hK1 (by omega) (by omega) (by omega)
          have m3 : 0 ≤ K * os[k].price := Int.mul_nonneg hK0 (by omega)
          have m4 : K * os[k].price ≤ 60 * 1000000 := Int.mul_le_mul hK1 ho3 (by omega) (by omega)
          have hKn : decide (K < 0) = false := by simp; omega
          have hKn2 : ¬ K < 0 := by omega
          go_wp2
          refine ⟨⟨k + 1, P + K * (os[k].ways - 1), R - K * os[k].price, by omega, by go_num, rfl, rfl, ?_, ?_⟩, by simp [intOf]; omega⟩
          · obtain ⟨h1, h2, h3, h4⟩ := HPR.out; omega
          · obtain ⟨h1, h2, h3, h4⟩ := HPR.out; omega
        · have hz : ∀ f : Offer → Int, sumBy f (L.drop k) (os.drop k) = 0 := fun f => by
            rw [List.drop_of_length_le (by omega)]; cases os.drop k <;> rfl
          rw [hz] at hP hR
          obtain rfl : P = 1 + PT := by omega
          subst hR
          clear hz hq3 hq4 hP
          have hgeT : decide (n ≤ 1 + PT) = true := by simp; omega
          have hgeT2 : n ≤ 1 + PT := by omega
          go_wp2
          go_loop [91] (fun i => ∃ j : Nat, j ≤ L.length ∧ i = .int .i64 j) (fun i => L.length - (intOf i).toNat)
          case atStart => exact ⟨0, by omega, rfl⟩
          case round =>
            obtain ⟨j, hj, rfl⟩ := hrel
            by_cases hjl : j < L.length
            · have hjo : j < os.length := by have := HPL.out.2.2; omega
              have hK := HPL.out.1.2.2.2 j hjo hjl
              obtain ⟨bl, offl, rfl, c0⟩ := HLs.out j hjl
              obtain ⟨bo, offo, rfl, d0, d1⟩ := HOs.out j hjo
              obtain ⟨hw1, hw2⟩ := HK.out.2.1 os[j] (List.getElem_mem _)
              have hdI : dI os[j] = os[j].ways - 1 := by unfold dI Offer.d; omega
              rw [hdI] at hK
              obtain ⟨hK0, hK1, hK2⟩ := hK
              clear hdI
              generalize L[j] = K at *
              by_cases hKp : 0 < K
              · obtain ⟨k1, k2⟩ := hK2 hKp
                have hn3 := HNM2.out k1
                have t1 : decide (0 < K) = true := by simp [hKp]
                have t2 : decide (n ≤ 1 + PT - os[j].ways + 1) = false := by simp; omega
                have t4 : decide (1 + PT - os[j].ways + 1 ≥ n) = false := by simp; omega
                clear hn3 k1 k2
                go_wp2
                go_round
                case rel => exact ⟨j + 1, by omega, by go_num⟩
                case measure => simp [intOf]; omega
              · have t1 : decide (0 < K) = false := by simp; omega
                clear hK2
                go_wp2
                go_round
                case rel => exact ⟨j + 1, by omega, by go_num⟩
                case measure => simp [intOf]; omega
            · go_wp2_with fail
              refine (ready_any _).mono ?_
              rintro e w5 ⟨rfl, hb5⟩
              have hB5 := below_at H4.out.2.2 hb5 (by omega)
              clear hb5
              go_wp2
              go_ret
              exact ⟨rfl, hB5⟩
  · have hf1 : (offersFault os n != 0) = true := by simp [hf]
    clear hf
    go_wp2_with fail
    refine (ready_any _).mono ?_
    rintro e w5 ⟨rfl, hb5⟩
    have hB5 := below_at H3.out.2 hb5 (by omega)
    clear hb5
    go_wp2
    go_ret
    exact ⟨rfl, hB5⟩
end Go.Proofs.Ytagpcgnlbgndmaa
