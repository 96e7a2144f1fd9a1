/- Texts of one subject in one: AskA, AskB, Itoa, AskC; what each shows stands at its head. No condition. -/
import Derived.Test.YtcecpodbmjghhaaGreatTreeGH
import Derived.Test.YtcecpodbmjghhaaGreatTreeAll
import Derived.Test.YtcecpodbmjghhaaGreatTreeRef
import Derived.Test.YtcecpodbmjghhaaGreatTreesP
import Derived.Test.YtcecpodbmjghhaaGreatBelAll
import Derived.Test.YtcecpodbmjghhaaGreatShelfB
import Derived.Test.YtcecpodbmjghhaaGreatBase
import Derived.Lib.SmallJoins
import Derived.Lib.ItoaMem
import Derived.Lib.ItoaNum
import Derived.Lib.LaidTab
import Derived.Test.YtcecpodbmjghhaaGreatOrders
import Derived.Deep.AppendLies
/- Walks of package tree: the drop of a customer, the chain to it, its ratio. -/
set_option linter.unusedVariables false
set_option linter.unusedSimpArgs false
namespace Go.Proofs.YtcecpodbmjghhaaGreat
open Go Go.RowKit
set_option maxHeartbeats 1000000 in
theorem dropClos_any (x : Drp) (c : ByteArray) (b : Nat) (t : TypeId) (w : World) (k : Blk w b #[.string c] t) : Calls Tryz.prog 98 (#[.agg ⟨Drp.cells x⟩] ++ #[.pointer (some ⟨b, 0, none⟩)]) w
    fun e w' => e = .returned (.bool (strB x.cust c)) ∧ Below w.heap.size w w' := by
  have c0 := k.cell 0 _ rfl
  have hb := k.lt
  show Calls Tryz.prog 98 #[.agg #[.string x.cust, .string x.spl, .int .i64 x.port], .pointer (some ⟨b, 0, none⟩)] w _
  go_enter Tryz.func98, Tryz.ntmps98
  go_wp2
  go_ret
  exact ⟨rfl, by (repeat (first | exact Below.refl _ _ | assumption | refine below_draws ?_ _ | refine Below.drew ?_ | refine below_alloc ?_ _ (by first | omega | (simp; done) | (simp; omega)) | refine Below.setCell ?_ (by first | omega | (simp; done) | (simp; omega)) _ | refine below_at ?_ (by assumption) (by first | omega | (simp; done) | (simp; omega))))⟩
set_option maxHeartbeats 1000000 in
theorem drop_any (v1 v2 : Value) (d : List Drp) (c : ByteArray) (w : World) (h : Arr Drp.cells 3 w d v2) (hd : d.length ≤ 1000000) : Calls Tryz.prog 46 #[.agg #[v1, v2], .string c] w
    fun e w' => e = .returned (.int .i64 (findD d c)) ∧ Below w.heap.size w w' := by
  have HA := Lib.hid h
  have HF := Lib.hid (run_fn Tryz.func98 (by kernel_rfl) rfl)
  have hbx := (Blk.new w #[v1, v2] 29).alloc (.cells #[.string c] 9)
  have hcb : Blk ((w.alloc (.cells #[v1, v2] 29)).alloc (.cells #[.string c] 9)) (w.heap.size + 1) #[.string c] 9 := Blk.newAt (by simp)
  have HB := Lib.hid hcb
  have p0 := hbx.cell 0 _ rfl
  have p1 := hbx.cell 1 _ rfl
  clear h hbx hcb
  go_enter Tryz.func46, Tryz.ntmps46
  go_wp2_with fail
  refine (indexFunc_drp _ d (fun x => strB x.cust c) 98 #[.pointer (some ⟨w.heap.size + 1, 0, none⟩)] _ (by exact HA.out.below (by (repeat (first | exact Below.refl _ _ | assumption | refine below_draws ?_ _ | refine Below.drew ?_ | refine below_alloc ?_ _ (by first | omega | (simp; done) | (simp; omega)) | refine Below.setCell ?_ (by first | omega | (simp; done) | (simp; omega)) _ | refine below_at ?_ (by assumption) (by first | omega | (simp; done) | (simp; omega)))))) HF.out ?_).mono ?_
  · intro x w' hx hb
    exact (dropClos_any x c (w.heap.size + 1) 9 w' (HB.out.below hb (by simp))).mono fun e w'' h => h
  rintro e w1 ⟨rfl, hb1⟩
  go_wp2
  go_ret
  exact ⟨rfl, by (repeat (first | exact Below.refl _ _ | assumption | refine below_draws ?_ _ | refine Below.drew ?_ | refine below_alloc ?_ _ (by first | omega | (simp; done) | (simp; omega)) | refine Below.setCell ?_ (by first | omega | (simp; done) | (simp; omega)) _ | refine below_at ?_ (by assumption) (by first | omega | (simp; done) | (simp; omega))))⟩
end Go.Proofs.YtcecpodbmjghhaaGreat
/- Walks of package tree: the keys to a customer, the product of ways. -/
namespace Go.Proofs.YtcecpodbmjghhaaGreat
open Go Go.RowKit
end Go.Proofs.YtcecpodbmjghhaaGreat
/- The text of a number, by the shelf's contract; the table that it reads stays. No condition. -/
namespace Go.Proofs.YtcecpodbmjghhaaGreat
open Go Go.RowKit
def Tab10 (w : World) : Prop := Lib.TabIs Tryz.prog w "internal/strconv.uint64pow10" .u64 Lib.pow10Tab
theorem Tab10.below {w w' : World} (h : Tab10 w) (hb : Below w.heap.size w w') : Tab10 w' := by
  unfold Tab10 Lib.TabIs World.var? at *
  cases hg : Tryz.prog.globalNamed "internal/strconv.uint64pow10" with
  | none => simp [hg] at h
  | some g =>
    simp only [hg, Option.bind_some] at h ⊢
    have hlt : g < w.heap.size := by
      rcases Nat.lt_or_ge g w.heap.size with h' | h'
      · exact h'
      · rw [Array.getElem?_eq_none h'] at h; simp at h
    rw [hb.block g hlt]
    exact h
end Go.Proofs.YtcecpodbmjghhaaGreat
/- Walks of package tree: the free ports of a splitter, of all; the customers below one; the splitters without any. -/
namespace Go.Proofs.YtcecpodbmjghhaaGreat
open Go Go.RowKit
theorem infoIntF : (Tryz.prog.info? 3).map (fun i => (i.zero, i.size, i.bytes)) = some (some (.int .i64 0), 1, 8) := by kernel_rfl
set_option maxHeartbeats 4000000 in
set_option maxRecDepth 100000 in
theorem free_any (l : List Splt) (d : List Drp) (s : Splt) (mb mn : Nat) (w : World) (hM : SMap w mb mn (takenV l d d.length)) (hk : s.key.size ≤ 40) (hw : 1 ≤ s.ways ∧ s.ways ≤ 128) : Calls Tryz.prog 48 #[.agg #[.string s.key, .int .i64 s.ways, .string s.par, .int .i64 s.port], .map (some mb)] w
    (Ret (fun v w' => w'.ownsRow w.heap.size 3 1 v (freeL l d s).length ((freeL l d s).map (Value.int .i64))) w) := by
  obtain ⟨skey, ways, par, port⟩ := s
  simp only at hk hw ⊢
  obtain ⟨n, rfl⟩ : ∃ n : Nat, ways = n := ⟨ways.toNat, by omega⟩
  have HFR : Hid (freeL l d ⟨skey, n, par, port⟩ = freeI l d skey n) := by unfold freeL freeI; exact rfl
  have hbx : Blk (w.alloc (.cells #[.string skey, .int .i64 (n : Int), .string par, .int .i64 port] 58)) w.heap.size #[.string skey, .int .i64 (n : Int), .string par, .int .i64 port] 58 := Blk.new _ _ _
  have hmb := hM.lt
  have HM0 := Lib.hid (hM.alloc (.cells #[.string skey, .int .i64 (n : Int), .string par, .int .i64 port] 58))
  obtain ⟨i0, hi, hz0, hz1, hz2⟩ := info_parts infoIntF
  have HB0 := Lib.hid hbx
  have b1 := hbx.cell 1 _ rfl
  obtain ⟨hw1, hw2⟩ := hw
  clear hM hbx
  go_enter Tryz.func48, Tryz.ntmps48
  go_wp2
  go_loopw [5, 9] (fun ov i wr => ∃ k : Nat, k ≤ n ∧ i = .int .i64 k ∧ wr.ownsRow (w.heap.size + 1) 3 1 ov (freeI l d skey k).length ((freeI l d skey k).map (Value.int .i64)) ∧ Below (w.heap.size + 1) (w.alloc (.cells #[.string skey, .int .i64 (n : Int), .string par, .int .i64 port] 58)) wr) (fun _ i _ => n - (intOf i).toNat)
  case atStart => exact ⟨0, by omega, rfl, World.ownsRow_nil _ _ _ _, Below.refl _ _⟩
  case round =>
    obtain ⟨k, hk', rfl, hown, hB⟩ := hrel
    have hsz := hB.size
    simp only [World.size_alloc] at hsz
    have hbw := HB0.out.below hB (by omega)
    have z0 := hbw.cell 0 _ rfl
    have hBw : Below w.heap.size w wr := below_at (below_alloc (Below.refl _ _) _ (Nat.le_refl _)) hB (by omega)
    have hMr : SMap wr mb mn (takenV l d d.length) := HM0.out.below hB (by omega)
    have hfl := freeI_len l d skey k
    have HS := Lib.hid (And.intro hown (And.intro hB (And.intro hBw hMr)))
    clear hown hB hbw hBw hMr
    by_cases hlt : k < n
    · obtain ⟨kl, hkl⟩ := portKey (skey, (k : Int) + 1) (by unfold maxLen; simp only; omega) (WalkArith.wf_i64 (by simp only; omega))
      have HKL := Lib.hid hkl
      have hs5 := freeI_succ l d skey k
      by_cases h0 : (atPort l d (skey, (k : Int) + 1)).size = 0
      · have he : ((takenV l d d.length (skey, (k : Int) + 1)).getD ⟨#[]⟩).toList.isEmpty = true := by rw [isEmpty_size]; unfold atPort at h0; simp [h0]
        rw [if_pos h0] at hs5
        have HX := Lib.hid hs5
        clear hs5 h0 hkl
        go_wp2_with (first
          | (at_lookup; refine wpList_look (by rfl) _ _ _ rfl portKeyed Tryz.underlying79 (zeroStr _) HS.out.2.2.2 rfl (skey, (k : Int) + 1) HKL.out rfl (smap_get _ _) ?_)
          | ((at_builtin; go_must (refine wpList_append_own _ rfl _ _ 22 rfl _ 3 _ (.int .i64 0) 1 8 Tryz.underlying22 hi hz0 hz1 hz2 rfl (by decide) _ _ _ rfl (HS.out.1.alloc _) ⟨wr.heap.size, 0, none⟩ 1 1 [.int .i64 ((k : Int) + 1)] rfl rfl (by exact news_at (by first | rfl | simp) (by rfl)) (by simp [Value.oneCell']) (by unfold maxLen; omega) (by omega) (by first | omega | (simp; done) | (simp; omega)) ?_)); intro v' w6 hown6 hgrow _))
        refine ⟨⟨k + 1, by omega, by go_num, ?_, ?_⟩, by simp [intOf]; omega⟩
        · rw [HX.out, List.length_append, List.length_singleton, List.map_append]; exact hown6
        · exact below_grown (below_alloc HS.out.2.1 _ (by omega)) (HS.out.1.alloc _) hgrow (Nat.le_refl _) (by simp; omega)
      · have he : ((takenV l d d.length (skey, (k : Int) + 1)).getD ⟨#[]⟩).toList.isEmpty = false := by rw [isEmpty_size]; unfold atPort at h0; simp [h0]
        rw [if_neg h0, List.append_nil] at hs5
        have HX := Lib.hid hs5
        clear hs5 h0 hkl
        go_wp2_with (first
          | (at_lookup; refine wpList_look (by rfl) _ _ _ rfl portKeyed Tryz.underlying79 (zeroStr _) HS.out.2.2.2 rfl (skey, (k : Int) + 1) HKL.out rfl (smap_get _ _) ?_))
        refine ⟨⟨k + 1, by omega, by go_num, ?_, HS.out.2.1⟩, by simp [intOf]; omega⟩
        rw [HX.out]; exact HS.out.1
    · obtain rfl : k = n := by omega
      go_wp2
      go_ret
      refine ⟨_, rfl, ?_, HS.out.2.2.1⟩
      rw [HFR.out]
      exact own_low HS.out.1 (by omega)
/-- the tree in its box -/
structure AskSt (w0 W : World) (tb : Nat) (v1 v2 : Value) (l : List Splt) (d : List Drp) : Prop where
  b : Below w0.heap.size w0 W
  t : Blk W tb #[v1, v2] 29
  a1 : Arr Splt.cells 4 W l v1
  a2 : Arr Drp.cells 3 W d v2
theorem AskSt.below {w0 W W' : World} {tb : Nat} {v1 v2 : Value} {l : List Splt} {d : List Drp} (h : AskSt w0 W tb v1 v2 l d) (hb : Below W.heap.size W W') : AskSt w0 W' tb v1 v2 l d :=
  ⟨below_at h.b hb h.b.size, h.t.below hb h.t.lt, h.a1.below hb, h.a2.below hb⟩
end Go.Proofs.YtcecpodbmjghhaaGreat
