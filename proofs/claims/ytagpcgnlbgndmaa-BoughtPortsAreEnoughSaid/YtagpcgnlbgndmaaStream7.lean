/- Walk of the stream: what draws offers of splitters. -/
import Derived.Test.YtagpcgnlbgndmaaStream6
import Derived.Test.YtagpcgnlbgndmaaOffer
set_option linter.unusedVariables false
set_option linter.unusedSimpArgs false
namespace Go.Proofs.Ytagpcgnlbgndmaa
open Go Go.RowKit

theorem infoOffer : (Try.prog.info? 103).map (fun i => (i.zero, i.size, i.bytes)) = some (some (.agg #[.int .i64 0, .int .i64 0]), 2, 16) := by kernel_rfl

set_option maxHeartbeats 4000000 in
set_option maxRecDepth 100000 in
theorem offers_any (s m : Nat) (w : World) (h : Strm w s m) (hm : m ≤ 1000000) : Calls Try.prog 37 #[.pointer (some ⟨s, 0, none⟩)] w
    (Draw (NewArr Offer.cells 2 s) s m 20 w) := by
  have hl := h.lt
  obtain ⟨i0, hi, hz0, hz1, hz2⟩ := info_parts infoOffer
  go_enter Try.func37, Try.ntmps37
  go_wp2_with fail
  refine (range_any s m _ _ _ h (by omega) (by omega) (by omega) (by omega)).mono ?_
  rintro e w1 ⟨v, rfl, ⟨r, rfl, r0, r1⟩, hs1, hg1⟩
  obtain ⟨n, rfl⟩ := Int.eq_ofNat_of_zero_le r0
  have hn : n ≤ 3 := by omega
  have HI := Lib.hid (And.intro hs1 hg1)
  clear hs1 hg1
  go_wp2
  go_loopw [3, 7] (fun v i wr => ∃ l : List Offer, l.length ≤ n ∧ i = .int .i64 l.length ∧ wr.ownsRow w.heap.size 103 2 v l.length (l.flatMap Offer.cells) ∧ Strm wr s (m + 1 + 2 * l.length) ∧ w.grownBy wr (some s)) (fun _ i _ => n - (intOf i).toNat)
  case atStart => exact ⟨[], by simp, rfl, World.ownsRow_nil _ _ _ _, HI.out.1, HI.out.2⟩
  case round =>
    obtain ⟨l, hk, rfl, hown, hs, hg⟩ := hrel
    have hsz : w.heap.size ≤ wr.heap.size := hg.size
    by_cases hlt : l.length < n
    · have HO := Lib.hid (And.intro hown hg)
      clear hown hg
      go_wp2_with fail
      refine (pick_lit s (m + 1 + 2 * l.length) [2, 4, 8, 16] _ (hs) (by omega) (by simp) (by simp) (by first | rfl | simp) (by rfl) (by rfl)).mono ?_
      rintro e w2 ⟨v, rfl, ⟨r2, rfl, hr2⟩, hs2, hg2⟩
      go_wp2_with fail
      refine (pick_lit s (m + 1 + 2 * l.length + 1) [5, 10, 20, 30, 50] _ (hs2) (by omega) (by simp) (by simp) (by first | rfl | simp) (by rfl) (by rfl)).mono ?_
      rintro e w3 ⟨v, rfl, ⟨r3, rfl, hr3⟩, hs3, hg3⟩
      have l2 := hg2.size
      have l3 := hg3.size
      have HO2 := Lib.hid (own_grown (own_grown HO.out.1 hg2 (by omega)) hg3 (by omega))
      have HG2 := Lib.hid (grown_trans HO.out.2 (grown_trans hg2 hg3))
      clear hr2 hr3 hs hs2 hg2 hg3 HO
      go_wp2_with ((at_builtin; go_must (refine wpList_append_own _ rfl _ _ 59 rfl _ 103 _ (.agg #[.int .i64 0, .int .i64 0]) 2 16 Try.underlying59 hi hz0 hz1 hz2 rfl (by decide) _ _ _ rfl (own_below HO2.out (by (repeat (first | exact Below.refl _ _ | assumption | refine below_draws ?_ _ | refine Below.drew ?_ | refine below_alloc ?_ _ (by first | omega | (simp; done) | (simp; omega)) | refine Below.setCell ?_ (by first | omega | (simp; done) | (simp; omega)) _ | refine below_at ?_ (by assumption) (by first | omega | (simp; done) | (simp; omega)))))) ⟨w3.heap.size, 0, none⟩ 1 1 [.int .i64 r2, .int .i64 r3] rfl rfl (by exact news_at (by first | rfl | simp) (by rfl)) (by simp [Value.oneCell']) (by unfold maxLen; omega) (by omega) (by first | omega | (simp; done) | (simp; omega)) ?_)); intro v' w4 hown3 hgrow _)
      refine ⟨⟨l ++ [⟨r2, r3⟩], by simp only [List.length_append, List.length_cons, List.length_nil]; omega, by simp, ?_, ?_, ?_⟩, by simp [intOf]; omega⟩
      · simp only [List.length_append, List.length_cons, List.length_nil, List.flatMap_append, List.flatMap_cons, List.flatMap_nil, List.append_nil]; exact hown3
      · refine (strm_app (hs3.alloc _) (own_below HO2.out (by (repeat (first | exact Below.refl _ _ | assumption | refine below_draws ?_ _ | refine Below.drew ?_ | refine below_alloc ?_ _ (by first | omega | (simp; done) | (simp; omega)) | refine Below.setCell ?_ (by first | omega | (simp; done) | (simp; omega)) _ | refine below_at ?_ (by assumption) (by first | omega | (simp; done) | (simp; omega)))))) hgrow (by omega)).mono (by simp; omega)
      · exact grown_app (grown_alloc HG2.out _) (own_below HO2.out (by (repeat (first | exact Below.refl _ _ | assumption | refine below_draws ?_ _ | refine Below.drew ?_ | refine below_alloc ?_ _ (by first | omega | (simp; done) | (simp; omega)) | refine Below.setCell ?_ (by first | omega | (simp; done) | (simp; omega)) _ | refine below_at ?_ (by assumption) (by first | omega | (simp; done) | (simp; omega)))))) hgrow (by omega)
    · have hM : m + 1 + 2 * l.length ≤ m + 7 := by omega
      generalize m + 1 + 2 * l.length = M at *
      have hAr := Arr.of_own Offer.cells_len hown
      by_cases hl0 : 0 < l.length
      · obtain ⟨a, cap, rfl, hcap, hmax, hc⟩ := hAr
        obtain ⟨g, off, rfl, -, -⟩ := hc 0 hl0
        obtain rfl : off = 0 := own_off hown
        have hrow := Row.of_own Offer.cells_len hown rfl
        have hgl := (hown.lt g rfl).1
        have HSR : Hid (RowSt Offer.cells 2 s M w g wr l) := Lib.hid ⟨hs, hg, hrow, hl, by omega⟩
        have hlen : l.length ≤ 3 := by omega
        clear hown hg hc hrow
        go_wp2_with fail
        refine (flip_any s M _ _ hs (by omega) (by omega) (by omega)).mono ?_
        rintro e wy ⟨v, rfl, ⟨fb, rfl⟩, hsy, hgy⟩
        have HSY := Lib.hid (HSR.out.step hsy hgy)
        clear HSR hgy hs
        cases fb
        · go_wp2
          go_ret
          exact ⟨_, rfl, ⟨l, HSY.out.row.arr rfl hcap hmax, slice_low (g := g) (n := l.length) (cap := cap) (by omega)⟩, HSY.out.st.mono (by omega), HSY.out.gr⟩
        · go_wp2_with fail
          refine (next_any s (M + 1) _ _ hsy (by omega) (by omega) (by omega)).mono ?_
          rintro e wz ⟨v, rfl, ⟨r, rfl, z0, z1⟩, hsz2, hgz⟩
          obtain ⟨k, rfl⟩ := Int.eq_ofNat_of_zero_le z0
          have hkl : k < l.length := by omega
          have HSZ := Lib.hid (HSY.out.step hsz2 hgz)
          have c0 := HSZ.out.row.1 k hkl 0 _ rfl
          simp only [Nat.zero_add, Nat.add_zero] at c0
          clear HSY hsy hgz
          go_wp2_with fail
          refine (pick_lit s (M + 1 + 1) [l[k].ways, 3, 0] _ hsz2 (by omega) (by simp) (by simp) (by first | rfl | simp) (by rfl) (by rfl)).mono ?_
          rintro e wp ⟨v, rfl, ⟨r2, rfl, -⟩, hsp, hgp⟩
          have HSP := Lib.hid (HSZ.out.step hsp hgp)
          clear HSZ hsz2 hgp c0
          go_wp2_with fail
          refine (odd_any s (M + 1 + 1 + 1) 1 1000000 _ hsp (by omega) (by omega) (by omega) (by omega)).mono ?_
          rintro e wq ⟨v, rfl, ⟨r3, rfl, -⟩, hsq, hgq⟩
          have HSQ := Lib.hid (HSP.out.step hsq hgq)
          have c0 := HSQ.out.row.1 k hkl 0 _ rfl
          have c1 := HSQ.out.row.1 k hkl 1 _ rfl
          have f0 := HSQ.out.row.2.1 (k * 2)
          have f1 := HSQ.out.row.2.1 (k * 2 + 1)
          simp only [Nat.zero_add, Nat.add_zero] at c0 c1
          clear HSP hsp hgq hsq
          go_wp2
          go_ret
          have hp1 := HSQ.out.put Offer.cells_len k 0 hkl (by omega) ⟨r2, l[k].price⟩ (.int .i64 r2) rfl (fun j hj => by rcases j with _ | _ | j <;> first | omega | rfl)
          have hkl2 : k < (l.set k ⟨r2, l[k].price⟩).length := by simpa using hkl
          have hp2 := hp1.put Offer.cells_len k 1 hkl2 (by omega) ⟨r2, r3⟩ (.int .i64 r3) rfl (fun j hj => by simp only [List.getElem_set_self]; rcases j with _ | _ | j <;> first | omega | rfl)
          have hcl : ((l.set k ⟨r2, l[k].price⟩).set k ⟨r2, r3⟩).length = l.length := by simp
          exact ⟨_, rfl, ⟨_, hp2.row.arr hcl hcap hmax, slice_low (g := g) (n := l.length) (cap := cap) (by omega)⟩, hp2.st.mono (by omega), hp2.gr⟩
      · obtain ⟨a, cap, rfl, hcap, hmax, hc⟩ := hAr
        have h0 : l.length = 0 := by omega
        have hz : (decide ((0:Int) < (l.length : Int))) = false := decide_eq_false (by omega)
        go_wp2
        go_ret
        exact ⟨_, rfl, ⟨l, Arr.of_own Offer.cells_len hown, fun b off n cap e => Nat.lt_of_lt_of_le hl (hown.lt b (congrArg Value.ownBlock e)).1⟩, hs.mono (by omega), hg⟩
end Go.Proofs.Ytagpcgnlbgndmaa
