/- Walks of package tree: the ports of a splitter, as the statements ask them. -/
import Derived.Test.YtagpcgnlbgndmaaTreeE
import Derived.Deep.RegionHeld3
set_option linter.unusedVariables false
set_option linter.unusedSimpArgs false
namespace Go.Proofs.Ytagpcgnlbgndmaa
open Go Go.RowKit

def portsL (l : List Splt) (d : List Drp) (key : ByteArray) : List ByteArray := if splitterF l d key = 0 then portsV l d key else []
/-- a list of strings and an error are returned -/
def StrsPost (L : List ByteArray) (F : Int) (w : World) (e : Ending) (w' : World) : Prop := ∃ v, e = .returned (.tuple #[v, .int .i64 F]) ∧ Arr strCells 1 w' L v ∧ Below w.heap.size w w'
theorem infoStr : (Try.prog.info? 9).map (fun i => (i.zero, i.size, i.bytes)) = some (some (.string ⟨#[]⟩), 1, 16) := by kernel_rfl
theorem map_str (l : List ByteArray) : l.flatMap strCells = l.map Value.string := flat_one Value.string l
theorem Arr.of_strs {w : World} {base : Nat} {e : TypeId} {l : List ByteArray} {v : Value} {n : Nat} (ho : w.ownsRow base e 1 v n (l.map Value.string)) : Arr strCells 1 w l v := by
  have hn : n = l.length := by have := ho.1; simp at this; omega
  subst hn
  refine Arr.of_own (cells := strCells) (fun _ => rfl) (base := base) (e := e) ?_
  rw [map_str]; exact ho

set_option maxHeartbeats 4000000 in
set_option maxRecDepth 100000 in
theorem ports_any (v1 v2 : Value) (l : List Splt) (d : List Drp) (key : ByteArray) (w : World) (h : Arr Splt.cells 4 w l v1) (hd : Arr Drp.cells 3 w d v2) : Calls Try.prog 61 #[.agg #[v1, v2], .string key] w (StrsPost (portsL l d key) (splitterF l d key) w) := by
  have HA := Lib.hid (And.intro h hd)
  obtain ⟨a, cap, rfl, hcap, hmax, hc⟩ := h
  unfold maxLen at hmax
  have HC := Lib.hid hc
  clear hd hc
  obtain ⟨i0, hi, hz0, hz1, hz2⟩ := info_parts infoStr
  have hbx : Blk (w.alloc (.cells #[.slice a l.length cap, v2] 89)) w.heap.size #[.slice a l.length cap, v2] 89 := Blk.new _ _ _
  have HBX := Lib.hid hbx
  clear hbx
  go_enter Try.func61, Try.ntmps61
  go_wp2_with fail
  refine (splitterFault_any _ _ l d key _ (by exact HA.out.1.below (by (repeat (first | exact Below.refl _ _ | assumption | refine below_draws ?_ _ | refine Below.drew ?_ | refine below_alloc ?_ _ (by first | omega | (simp; done) | (simp; omega)) | refine Below.setCell ?_ (by first | omega | (simp; done) | (simp; omega)) _ | refine below_at ?_ (by assumption) (by first | omega | (simp; done) | (simp; omega)))))) (by exact HA.out.2.below (by (repeat (first | exact Below.refl _ _ | assumption | refine below_draws ?_ _ | refine Below.drew ?_ | refine below_alloc ?_ _ (by first | omega | (simp; done) | (simp; omega)) | refine Below.setCell ?_ (by first | omega | (simp; done) | (simp; omega)) _ | refine below_at ?_ (by assumption) (by first | omega | (simp; done) | (simp; omega))))))).mono ?_
  rintro e w2 ⟨rfl, hb2⟩
  have hz2' := hb2.size
  simp only [World.size_alloc] at hz2'
  have hBw2 : Below w.heap.size w w2 := by (repeat (first | exact Below.refl _ _ | assumption | refine below_draws ?_ _ | refine Below.drew ?_ | refine below_alloc ?_ _ (by first | omega | (simp; done) | (simp; omega)) | refine Below.setCell ?_ (by first | omega | (simp; done) | (simp; omega)) _ | refine below_at ?_ (by assumption) (by first | omega | (simp; done) | (simp; omega))))
  have hbx2 := HBX.out.below hb2 (by simp)
  have p0 := hbx2.cell 0 _ rfl
  have p1 := hbx2.cell 1 _ rfl
  have HB2 := Lib.hid (And.intro hBw2 hbx2)
  clear hBw2 hbx2
  by_cases hf : splitterF l d key = 0
  · have hf1 : (splitterF l d key != 0) = false := by simp [hf]
    have HL : Hid (portsL l d key = portsV l d key) := by unfold portsL; rw [if_pos hf]; exact rfl
    have htree : treeF l d = 0 := by
      unfold splitterF at hf
      split at hf
      · rename_i h1; exact absurd hf h1
      · omega
    have ok := tok_of htree
    have hget : ∃ s, getS l key = some s := by
      unfold splitterF at hf
      rw [if_neg (by omega)] at hf
      cases hg : getS l key with
      | none => rw [hg] at hf; simp at hf
      | some s => exact ⟨s, rfl⟩
    have HF := Lib.hid (And.intro hf ok)
    have HG := Lib.hid hget
    clear hf htree ok hget
    go_wp2_with fail
    refine (taken_any _ _ l d _ (by exact HA.out.1.below HB2.out.1) (by exact HA.out.2.below HB2.out.1) HF.out.2).mono ?_
    rintro e w3 ⟨mb, mn, rfl, hmb, hM, hb3⟩
    have hz3 := hb3.size
    have hBw3 : Below w.heap.size w w3 := by have h3 := HB2.out.1; (repeat (first | exact Below.refl _ _ | assumption | refine below_draws ?_ _ | refine Below.drew ?_ | refine below_alloc ?_ _ (by first | omega | (simp; done) | (simp; omega)) | refine Below.setCell ?_ (by first | omega | (simp; done) | (simp; omega)) _ | refine below_at ?_ (by assumption) (by first | omega | (simp; done) | (simp; omega))))
    have hbx3 := HB2.out.2.below hb3 (by omega)
    have q0 := hbx3.cell 0 _ rfl
    have q1 := hbx3.cell 1 _ rfl
    have hml := hM.lt
    have HB3 := Lib.hid (And.intro hBw3 (And.intro hbx3 hM))
    clear hBw3 hbx3 hM p0 p1
    have hl0 : w.heap.size < w3.heap.size := by omega
    obtain ⟨sx, hsx⟩ := HG.out
    rcases findS_get l key with ⟨_, hnone⟩ | ⟨j, hj, hfj, hget, hkj⟩
    · rw [hnone] at hsx; cases hsx
    have hks : key.size ≤ 40 := (HF.out.2.s.get hsx).1
    have hways := (waysB_le (HF.out.2.s.keys _ (List.getElem_mem hj)).2)
    obtain ⟨hw1, hw2⟩ := hways
    have hpv : portsV l d key = (List.range l[j].ways.toNat).map fun (i : Nat) => atPort l d (key, (i : Int) + 1) := by
      unfold portsV; rw [hget]; rfl
    have HJ := Lib.hid (And.intro hfj hpv)
    obtain ⟨b, off, rfl, hb, hcc⟩ := HC.out j hj
    obtain ⟨-, d1, -, -⟩ := splt_at hcc
    replace d1 := (HB3.out.1.cell (p := ⟨b, _, none⟩) hb).trans d1
    have hb3' : b < w3.heap.size := by omega
    have hj1 : (0 : Int) ≤ (j : Int) := by omega
    have hj3 : (j : Int) < (l.length : Int) := by omega
    clear hcc hfj hpv hget hsx hkj
    go_wp2
    go_region_held3 (fun w' => w'.cell? ⟨w.heap.size, 0, none⟩ = some (.slice (some ⟨b, off, none⟩) l.length cap) ∧ w'.cell? ⟨w.heap.size, 1, none⟩ = some v2 ∧ w'.cell? ⟨b, off + j * 4 + 1, none⟩ = some (.int .i64 l[j].ways)) (go_keep)
      (first
        | (go_at_call 126; refine (find_any _ _ l key _ ?_ ?_ ?_).mono ?_; (exact HA.out.1.below (by have h3 := HB3.out.1; (repeat (first | exact Below.refl _ _ | assumption | refine below_draws ?_ _ | refine Below.drew ?_ | refine below_alloc ?_ _ (by first | omega | (simp; done) | (simp; omega)) | refine Below.setCell ?_ (by first | omega | (simp; done) | (simp; omega)) _ | refine below_at ?_ (by assumption) (by first | omega | (simp; done) | (simp; omega)))))); (have := HF.out.2.s.len; omega); (exact HF.out.2.s.rise); rintro e w4 ⟨rfl, hb4⟩; rw [HJ.out.1]; have s4 : w.heap.size < w4.heap.size := (by have := hb4.size; (try simp at this); omega); have hc4 := bcellAt hb4 w.heap.size (by first | omega | (simp; done) | (simp; omega)); have hc5 := bcellAt hb4 b (by first | omega | (simp; done) | (simp; omega))))
    have hz4 : w3.heap.size ≤ w4.heap.size := hb4.size
    have hB4 : Below w.heap.size w w4 := by have h3 := HB3.out.1; (repeat (first | exact Below.refl _ _ | assumption | refine below_draws ?_ _ | refine Below.drew ?_ | refine below_alloc ?_ _ (by first | omega | (simp; done) | (simp; omega)) | refine Below.setCell ?_ (by first | omega | (simp; done) | (simp; omega)) _ | refine below_at ?_ (by assumption) (by first | omega | (simp; done) | (simp; omega))))
    have hM4 := HB3.out.2.2.drew.below hb4 hml
    have HB4 := Lib.hid (And.intro hB4 hM4)
    clear hB4 hM4 hb4 hc4 hc5 d1 q0 q1
    go_wp2
    obtain ⟨n, hn⟩ : ∃ n : Nat, l[j].ways = n := ⟨l[j].ways.toNat, by omega⟩
    rw [hn] at hw1 hw2 ⊢
    have HN := Lib.hid hn
    clear hn
    go_loopw [8, 26] (fun v i wr => ∃ k : Nat, k ≤ n ∧ i = .int .i64 k ∧ wr.ownsRow w4.heap.size 9 1 v k (((List.range k).map fun (i : Nat) => atPort l d (key, (i : Int) + 1)).map Value.string) ∧ Below w.heap.size w wr ∧ SMap wr mb mn (takenV l d d.length) ∧ w4.heap.size ≤ wr.heap.size) (fun _ i _ => n - (intOf i).toNat)
    case atStart => exact ⟨0, by omega, rfl, World.ownsRow_nil _ _ _ _, HB4.out.1, HB4.out.2, Nat.le_refl _⟩
    case round =>
      obtain ⟨k, hk, rfl, hown, hB, hMr, hzr⟩ := hrel
      have HR := Lib.hid (And.intro hown (And.intro hB hMr))
      clear hown hB hMr
      by_cases hlt : k < n
      · obtain ⟨kl, hkl⟩ := portKey (key, (k : Int) + 1) (by unfold maxLen; simp only; omega) (WalkArith.wf_i64 (by simp only; omega))
        have HKL := Lib.hid hkl
        clear hkl
        go_wp2_with (first
          | (at_lookup; refine wpList_look (by rfl) _ _ _ rfl portKeyed Try.underlying166 (zeroStr _) HR.out.2.2 rfl (key, (k : Int) + 1) HKL.out rfl (smap_get _ _) ?_)
          | ((at_builtin; go_must (refine wpList_append_own _ rfl _ _ 94 rfl _ 9 _ (.string ⟨#[]⟩) 1 16 Try.underlying94 hi hz0 hz1 hz2 rfl (by decide) _ _ _ rfl (own_below HR.out.1 (by (repeat (first | exact Below.refl _ _ | assumption | refine below_draws ?_ _ | refine Below.drew ?_ | refine below_alloc ?_ _ (by first | omega | (simp; done) | (simp; omega)) | refine Below.setCell ?_ (by first | omega | (simp; done) | (simp; omega)) _ | refine below_at ?_ (by assumption) (by first | omega | (simp; done) | (simp; omega)))))) ⟨wr.heap.size, 0, none⟩ 1 1 [.string (atPort l d (key, (k : Int) + 1))] rfl rfl (by exact news_at (by first | rfl | simp) (by rfl)) (by simp [Value.oneCell']) (by unfold maxLen; omega) (by omega) (by first | omega | (simp; done) | (simp; omega)) ?_)); intro v' w5 hown5 hgrow _))
        have hmw : mb < wr.heap.size := HR.out.2.2.lt
        refine ⟨⟨k + 1, by omega, by go_num, ?_, ?_, ?_, ?_⟩, by simp [intOf]; omega⟩
        · rw [List.range_succ]; simpa using hown5
        · exact below_grown (below_alloc HR.out.2.1 _ HR.out.2.1.size) (own_below HR.out.1 (by (repeat (first | exact Below.refl _ _ | assumption | refine below_draws ?_ _ | refine Below.drew ?_ | refine below_alloc ?_ _ (by first | omega | (simp; done) | (simp; omega)) | refine Below.setCell ?_ (by first | omega | (simp; done) | (simp; omega)) _ | refine below_at ?_ (by assumption) (by first | omega | (simp; done) | (simp; omega)))))) hgrow (by omega) (by simp; omega)
        · refine (HR.out.2.2.alloc _).kept hgrow ?_
          intro e
          have := (HR.out.1.lt mb e.symm).1
          omega
        · have := hgrow.size; simp at this; omega
      · obtain rfl : k = n := by omega
        go_wp2
        go_ret2
        refine ⟨u8, by rw [HF.out.1]; exact rfl, ?_, HR.out.2.1⟩
        rw [HL.out, HJ.out.2, HN.out]
        exact Arr.of_strs HR.out.1
  · have hf1 : (splitterF l d key != 0) = true := by simp [hf]
    have HL : Hid (portsL l d key = []) := by unfold portsL; rw [if_neg hf]; exact rfl
    clear hf
    go_wp2
    go_ret2
    exact ⟨_, rfl, by rw [HL.out]; exact Arr.nil _ _ _, HB2.out.1⟩
end Go.Proofs.Ytagpcgnlbgndmaa
