/- Texts of one subject in one: AskA, AskB, Itoa, AskC; what each shows stands at its head. No condition. -/
import Derived.Test.YtafjikoeolacgaaGreatDoorTreeG
import Derived.Test.YtafjikoeolacgaaGreatDoorTreeAll
import Derived.Test.YtafjikoeolacgaaGreatDoorTreeRef
import Derived.Test.YtafjikoeolacgaaGreatDoorTreesP
import Derived.Test.YtafjikoeolacgaaGreatDoorBelAll
import Derived.Test.YtafjikoeolacgaaGreatDoorShelfB
import Derived.Test.YtafjikoeolacgaaGreatDoorBase
import Derived.Lib.SmallJoins
import Derived.Test.YtafjikoeolacgaaGreatDoorOrders
import Derived.Deep.AppendLies
/- Walks of package tree: the drop of a customer, the chain to it, its ratio. -/
set_option linter.unusedVariables false
set_option linter.unusedSimpArgs false
namespace Go.Proofs.YtafjikoeolacgaaGreatDoor
open Go Go.RowKit

set_option maxHeartbeats 1000000 in
theorem dropClos_any (x : Drp) (c : ByteArray) (b : Nat) (t : TypeId) (w : World) (k : Blk w b #[.string c] t) : Calls Tryz.prog 143 (#[.agg ⟨Drp.cells x⟩] ++ #[.pointer (some ⟨b, 0, none⟩)]) w
    fun e w' => e = .returned (.bool (strB x.cust c)) ∧ Below w.heap.size w w' := by
  have c0 := k.cell 0 _ rfl
  have hb := k.lt
  show Calls Tryz.prog 143 #[.agg #[.string x.cust, .string x.spl, .int .i64 x.port], .pointer (some ⟨b, 0, none⟩)] w _
  go_enter Tryz.func143, Tryz.ntmps143
  go_wp2
  go_ret
  exact ⟨rfl, by (repeat (first | exact Below.refl _ _ | assumption | refine below_draws ?_ _ | refine Below.drew ?_ | refine below_alloc ?_ _ (by first | omega | (simp; done) | (simp; omega)) | refine Below.setCell ?_ (by first | omega | (simp; done) | (simp; omega)) _ | refine below_at ?_ (by assumption) (by first | omega | (simp; done) | (simp; omega))))⟩
set_option maxHeartbeats 1000000 in
theorem drop_any (v1 v2 : Value) (d : List Drp) (c : ByteArray) (w : World) (h : Arr Drp.cells 3 w d v2) (hd : d.length ≤ 1000000) : Calls Tryz.prog 110 #[.agg #[v1, v2], .string c] w
    fun e w' => e = .returned (.int .i64 (findD d c)) ∧ Below w.heap.size w w' := by
  have HA := Lib.hid h
  have HF := Lib.hid (run_fn Tryz.func143 (by kernel_rfl) rfl)
  have hbx := (Blk.new w #[v1, v2] 29).alloc (.cells #[.string c] 9)
  have hcb : Blk ((w.alloc (.cells #[v1, v2] 29)).alloc (.cells #[.string c] 9)) (w.heap.size + 1) #[.string c] 9 := Blk.newAt (by simp)
  have HB := Lib.hid hcb
  have p0 := hbx.cell 0 _ rfl
  have p1 := hbx.cell 1 _ rfl
  clear h hbx hcb
  go_enter Tryz.func110, Tryz.ntmps110
  go_wp2_with fail
  refine (indexFunc_drp _ d (fun x => strB x.cust c) 143 #[.pointer (some ⟨w.heap.size + 1, 0, none⟩)] _ (by exact HA.out.below (by (repeat (first | exact Below.refl _ _ | assumption | refine below_draws ?_ _ | refine Below.drew ?_ | refine below_alloc ?_ _ (by first | omega | (simp; done) | (simp; omega)) | refine Below.setCell ?_ (by first | omega | (simp; done) | (simp; omega)) _ | refine below_at ?_ (by assumption) (by first | omega | (simp; done) | (simp; omega)))))) HF.out ?_).mono ?_
  · intro x w' hx hb
    exact (dropClos_any x c (w.heap.size + 1) 9 w' (HB.out.below hb (by simp))).mono fun e w'' h => h
  rintro e w1 ⟨rfl, hb1⟩
  go_wp2
  go_ret
  exact ⟨rfl, by (repeat (first | exact Below.refl _ _ | assumption | refine below_draws ?_ _ | refine Below.drew ?_ | refine below_alloc ?_ _ (by first | omega | (simp; done) | (simp; omega)) | refine Below.setCell ?_ (by first | omega | (simp; done) | (simp; omega)) _ | refine below_at ?_ (by assumption) (by first | omega | (simp; done) | (simp; omega))))⟩

def ChainPost (C : List Splt) (F : Int) (w : World) (e : Ending) (w' : World) : Prop := ∃ v, e = .returned (.tuple #[v, .int .i64 F]) ∧ Arr Splt.cells 4 w' C v ∧ Below w.heap.size w w'
set_option maxHeartbeats 4000000 in
set_option maxRecDepth 100000 in
theorem chainOf_any (v1 v2 : Value) (l : List Splt) (d : List Drp) (c : ByteArray) (w : World) (h1 : Arr Splt.cells 4 w l v1) (h2 : Arr Drp.cells 3 w d v2) : Calls Tryz.prog 56 #[.agg #[v1, v2], .string c] w (ChainPost (askC l d c) (askF l d c) w) := by
  have HA := Lib.hid (And.intro h1 h2)
  obtain ⟨a2, cap2, rfl, hcap2, hmax2, hc2⟩ := h2
  have HC := Lib.hid hc2
  unfold maxLen at hmax2
  have hbx := Blk.new w #[v1, .slice a2 d.length cap2] 29
  have HB := Lib.hid hbx
  clear h1 hc2 hbx
  go_enter Tryz.func56, Tryz.ntmps56
  go_wp2_with fail
  refine (checkTree_any _ _ l d _ (by exact HA.out.1.below (by (repeat (first | exact Below.refl _ _ | assumption | refine below_draws ?_ _ | refine Below.drew ?_ | refine below_alloc ?_ _ (by first | omega | (simp; done) | (simp; omega)) | refine Below.setCell ?_ (by first | omega | (simp; done) | (simp; omega)) _ | refine below_at ?_ (by assumption) (by first | omega | (simp; done) | (simp; omega)))))) (by exact HA.out.2.below (by (repeat (first | exact Below.refl _ _ | assumption | refine below_draws ?_ _ | refine Below.drew ?_ | refine below_alloc ?_ _ (by first | omega | (simp; done) | (simp; omega)) | refine Below.setCell ?_ (by first | omega | (simp; done) | (simp; omega)) _ | refine below_at ?_ (by assumption) (by first | omega | (simp; done) | (simp; omega))))))).mono ?_
  rintro e w2 ⟨rfl, hb2⟩
  have hz2 := hb2.size
  simp only [World.size_alloc] at hz2
  have hBw : Below w.heap.size w w2 := by (repeat (first | exact Below.refl _ _ | assumption | refine below_draws ?_ _ | refine Below.drew ?_ | refine below_alloc ?_ _ (by first | omega | (simp; done) | (simp; omega)) | refine Below.setCell ?_ (by first | omega | (simp; done) | (simp; omega)) _ | refine below_at ?_ (by assumption) (by first | omega | (simp; done) | (simp; omega))))
  have hbx := HB.out.below hb2 (by simp)
  have H2 := Lib.hid (And.intro hBw hbx)
  have p0 := hbx.cell 0 _ rfl
  have p1 := hbx.cell 1 _ rfl
  clear hb2 hBw hbx
  by_cases hf : treeF l d = 0
  rotate_left
  · have hf1 : (treeF l d != 0) = true := by simp [hf]
    have HR : Hid (askF l d c = treeF l d) := by unfold askF; rw [if_pos hf]; exact rfl
    have HN : Hid (askC l d c = []) := by unfold askC; rw [if_pos (by rw [HR.out]; exact hf)]; exact rfl
    clear hf
    go_wp2
    go_ret2
    exact ⟨_, by rw [HR.out]; exact rfl, by rw [HN.out]; exact Arr.nil _ _ _, H2.out.1⟩
  have ok := tok_of hf
  have hd5 : d.length ≤ 5000 := by
    have := ok.dr
    unfold dropsF at this
    split at this <;> omega
  have HOK := Lib.hid (And.intro hf ok)
  rw [hf]
  clear hf ok
  go_wp2_with fail
  refine (drop_any _ _ d c _ (by exact HA.out.2.below H2.out.1) (by omega)).mono ?_
  rintro e w3 ⟨rfl, hb3⟩
  have hz3 := hb3.size
  have hBw : Below w.heap.size w w3 := by have := H2.out.1; (repeat (first | exact Below.refl _ _ | assumption | refine below_draws ?_ _ | refine Below.drew ?_ | refine below_alloc ?_ _ (by first | omega | (simp; done) | (simp; omega)) | refine Below.setCell ?_ (by first | omega | (simp; done) | (simp; omega)) _ | refine below_at ?_ (by assumption) (by first | omega | (simp; done) | (simp; omega))))
  have hbx := H2.out.2.below hb3 (by omega)
  have H3 := Lib.hid (And.intro hBw hbx)
  clear hb3 hBw hbx p0 p1
  have p0 := H3.out.2.cell 0 _ rfl
  have p1 := H3.out.2.cell 1 _ rfl
  rcases findD_get d c with ⟨hneg, -⟩ | ⟨k, hk, hfk, hdw, hkc⟩
  · have hdn : decide (findD d c < 0) = true := by simpa using hneg
    have HR : Hid (askF l d c = 8) := by unfold askF; rw [if_neg (by have := HOK.out.1; omega), if_pos hneg]; exact rfl
    have HN : Hid (askC l d c = []) := by unfold askC; rw [if_pos (by rw [HR.out]; decide)]; exact rfl
    clear hneg
    go_wp2
    go_ret2
    exact ⟨_, by rw [HR.out]; exact rfl, by rw [HN.out]; exact Arr.nil _ _ _, H3.out.1⟩
  · have HR : Hid (askF l d c = 0) := by unfold askF; rw [if_neg (by have := HOK.out.1; omega), if_neg (by omega)]; exact rfl
    have HN : Hid (askC l d c = chainV l d[k].spl) := by unfold askC; rw [if_neg (by have := HR.out; omega), hdw]; exact rfl
    rw [hfk]
    have hkn : ¬ (k : Int) < 0 := by omega
    have hk1 : (0 : Int) ≤ (k : Int) := by omega
    have hk2 : (k : Int) < (d.length : Int) := by omega
    obtain ⟨b, off, rfl, hb, hcc⟩ := HC.out k hk
    obtain ⟨d0, d1, d2⟩ := drp_at hcc
    replace d1 := (H3.out.1.cell (p := ⟨b, _, none⟩) hb).trans d1
    have hen : Hid (endsB l l.length d[k].spl = true) := by
      obtain ⟨_, _, _, _, _, s, _, hg, _⟩ := HOK.out.2.drop hk
      exact HOK.out.2.ends hg
    clear hcc d0 d2 hfk hdw hkc
    go_wp2_with fail
    go_region_held3 (fun w' => w'.cell? ⟨w.heap.size, 0, none⟩ = some v1 ∧ w'.cell? ⟨w.heap.size, 1, none⟩ = some (.slice (some ⟨b, off, none⟩) d.length cap2) ∧ w'.cell? ⟨b, off + k * 3 + 1, none⟩ = some (.string d[k].spl)) (go_keep)
      (first
        | (go_at_call 121; refine (chain_any _ _ l d[k].spl _ ?_ HOK.out.2.s hen.out).mono ?_; (exact HA.out.1.below (by have h3 := H3.out.1; (repeat (first | exact Below.refl _ _ | assumption | refine below_draws ?_ _ | refine Below.drew ?_ | refine below_alloc ?_ _ (by first | omega | (simp; done) | (simp; omega)) | refine Below.setCell ?_ (by first | omega | (simp; done) | (simp; omega)) _ | refine below_at ?_ (by assumption) (by first | omega | (simp; done) | (simp; omega)))))); rintro e w4 ⟨v, rfl, ⟨hv, -⟩, hb4⟩; have s4 := hb4.size; (try simp at s4); have hc4 := bcellAt hb4 w.heap.size (by first | omega | (simp; done) | (simp; omega)); have hc5 := bcellAt hb4 b (by first | omega | (simp; done) | (simp; omega))))
    have HV := Lib.hid (And.intro hv hb4)
    clear hv hb4 hc4 hc5
    go_wp2
    go_ret2
    exact ⟨v, by rw [HR.out]; exact rfl, by rw [HN.out]; exact HV.out.1, by have h3 := H3.out.1; have h4 := HV.out.2; (repeat (first | exact Below.refl _ _ | assumption | refine below_draws ?_ _ | refine Below.drew ?_ | refine below_alloc ?_ _ (by first | omega | (simp; done) | (simp; omega)) | refine Below.setCell ?_ (by first | omega | (simp; done) | (simp; omega)) _ | refine below_at ?_ (by assumption) (by first | omega | (simp; done) | (simp; omega))))⟩
end Go.Proofs.YtafjikoeolacgaaGreatDoor
/- Walks of package tree: the keys to a customer, the product of ways. -/
set_option linter.unusedVariables false
set_option linter.unusedSimpArgs false
namespace Go.Proofs.YtafjikoeolacgaaGreatDoor
open Go Go.RowKit

set_option maxHeartbeats 4000000 in
set_option maxRecDepth 100000 in
theorem Chain_any (v1 v2 : Value) (l : List Splt) (d : List Drp) (c : ByteArray) (w : World) (h1 : Arr Splt.cells 4 w l v1) (h2 : Arr Drp.cells 3 w d v2) : Calls Tryz.prog 11 #[.agg #[v1, v2], .string c] w (StrsPost (askK l d c) (askF l d c) w) := by
  have HA := Lib.hid (And.intro h1 h2)
  clear h1 h2
  obtain ⟨i0, hi, hz0, hz1, hz2⟩ := info_parts infoStrB
  go_enter Tryz.func11, Tryz.ntmps11
  go_wp2_with fail
  refine (chainOf_any _ _ l d c _ (by exact HA.out.1.below (by (repeat (first | exact Below.refl _ _ | assumption | refine below_draws ?_ _ | refine Below.drew ?_ | refine below_alloc ?_ _ (by first | omega | (simp; done) | (simp; omega)) | refine Below.setCell ?_ (by first | omega | (simp; done) | (simp; omega)) _ | refine below_at ?_ (by assumption) (by first | omega | (simp; done) | (simp; omega)))))) (by exact HA.out.2.below (by (repeat (first | exact Below.refl _ _ | assumption | refine below_draws ?_ _ | refine Below.drew ?_ | refine below_alloc ?_ _ (by first | omega | (simp; done) | (simp; omega)) | refine Below.setCell ?_ (by first | omega | (simp; done) | (simp; omega)) _ | refine below_at ?_ (by assumption) (by first | omega | (simp; done) | (simp; omega))))))).mono ?_
  rintro e w2 ⟨v, rfl, hC, hb2⟩
  have hq2 := hb2.size
  simp only [World.size_alloc] at hq2
  have hB2 : Below w.heap.size w w2 := by (repeat (first | exact Below.refl _ _ | assumption | refine below_draws ?_ _ | refine Below.drew ?_ | refine below_alloc ?_ _ (by first | omega | (simp; done) | (simp; omega)) | refine Below.setCell ?_ (by first | omega | (simp; done) | (simp; omega)) _ | refine below_at ?_ (by assumption) (by first | omega | (simp; done) | (simp; omega))))
  obtain ⟨a, cap, rfl, hcap, hmax, hc⟩ := hC
  unfold maxLen at hmax
  have HC := Lib.hid (And.intro hc hB2)
  clear hc hB2 hb2
  by_cases hf : askF l d c = 0
  · have hf1 : (askF l d c != 0) = false := by simp [hf]
    have HF := Lib.hid hf
    have hcl := askC_len hf
    clear hf
    have HK : Hid (askK l d c = (askC l d c).map (·.key)) := rfl
    generalize askC l d c = C at *
    go_wp2
    go_loopw [8, 22] (fun ov i wr => ∃ k : Nat, k ≤ C.length ∧ i = .int .i64 k ∧ wr.ownsRow w2.heap.size 9 1 ov k (((C.take k).map (·.key)).map Value.string) ∧ Below w2.heap.size w2 wr) (fun _ i _ => C.length - (intOf i).toNat)
    case atStart => exact ⟨0, by omega, rfl, World.ownsRow_nil _ _ _ _, Below.refl _ _⟩
    case round =>
      obtain ⟨k, hk, rfl, hown, hB⟩ := hrel
      have hsz := hB.size
      have HS := Lib.hid (And.intro hown hB)
      clear hown hB
      by_cases hlt : k < C.length
      · obtain ⟨b, off, rfl, hb, hcc⟩ := HC.out.1 k hlt
        obtain ⟨y0, y1, y2, y3⟩ := splt_at hcc
        replace y0 := (HS.out.2.cell (p := ⟨b, _, none⟩) hb).trans y0
        replace y1 := (HS.out.2.cell (p := ⟨b, _, none⟩) hb).trans y1
        replace y2 := (HS.out.2.cell (p := ⟨b, _, none⟩) hb).trans y2
        replace y3 := (HS.out.2.cell (p := ⟨b, _, none⟩) hb).trans y3
        have hX := Blk.new wr #[.string C[k].key, .int .i64 C[k].ways, .string C[k].par, .int .i64 C[k].port] 36
        have z0 := hX.cell 0 _ rfl
        clear hcc hX
        go_wp2_with ((at_builtin; go_must (refine wpList_append_own _ rfl _ _ 39 rfl _ 9 _ (.string ⟨#[]⟩) 1 16 Tryz.underlying39 hi hz0 hz1 hz2 rfl (by decide) _ _ _ rfl ((HS.out.1.alloc _).alloc _) ⟨(wr.heap.size + 1), 0, none⟩ 1 1 [.string C[k].key] rfl rfl (by exact news_at (by first | rfl | simp) (by rfl)) (by simp [Value.oneCell']) (by unfold maxLen; omega) (by omega) (by first | omega | (simp; done) | (simp; omega)) ?_)); intro v' w6 hown6 hgrow _)
        refine ⟨⟨k + 1, by omega, by go_num, ?_, ?_⟩, by simp [intOf]; omega⟩
        · rw [List.take_succ_eq_append_getElem hlt, List.map_append, List.map_append]; exact hown6
        · exact below_grown (below_alloc (below_alloc HS.out.2 _ (by omega)) _ (by simp; omega)) ((HS.out.1.alloc _).alloc _) hgrow (Nat.le_refl _) (by simp; omega)
      · obtain rfl : k = C.length := by omega
        go_wp2
        go_ret2
        refine ⟨_, by rw [HF.out]; exact rfl, ?_, HC.out.2.trans (HS.out.2.mono (by omega))⟩
        rw [HK.out]
        have h := HS.out.1
        rw [List.take_length] at h
        exact Arr.of_strs h
  · have hf1 : (askF l d c != 0) = true := by simp [hf]
    have HL : Hid (askK l d c = []) := by unfold askK askC; rw [if_pos hf]; exact rfl
    clear hf
    go_wp2
    go_ret2
    exact ⟨_, rfl, by rw [HL.out]; exact Arr.nil _ _ _, HC.out.2⟩

def RatioPost (r : Int × Int) (w : World) (e : Ending) (w' : World) : Prop := e = .returned (.tuple #[.int .i64 r.1, .int .i64 r.2]) ∧ Below w.heap.size w w'
end Go.Proofs.YtafjikoeolacgaaGreatDoor
/- The text of a number, by the shelf's contract; the table that it reads stays. No condition. -/
set_option linter.unusedVariables false
set_option linter.unusedSimpArgs false
namespace Go.Proofs.YtafjikoeolacgaaGreatDoor
open Go Go.RowKit

def Tab10 (w : World) : Prop := Lib.TabIs Tryz.prog w "internal/strconv.uint64pow10" .u64 Lib.pow10Tab
theorem Tab10.below {w w' : World} (h : Tab10 w) (hb : Below w.heap.size w w') : Tab10 w' := by
  unfold Tab10 Lib.TabIs World.var? at *
  cases hg : Tryz.prog.globalNamed "internal/strconv.uint64pow10" with
  | none => simp [hg] at h
  | some g =>
    simp only [hg, Option.bind_some] at h ⊢
    have hlt : g < w.heap.size := by
      rcases Nat.lt_or_ge g w.heap.size with h' | h'
      · exact h'
      · rw [Array.getElem?_eq_none h'] at h; simp at h
    rw [hb.block g hlt]
    exact h
/-- the digits of a number -/
def itoaZ (n : Int) : ByteArray := ⟨(Lib.itoa n).toArray⟩
def itoaB (n : Nat) : ByteArray := itoaZ n
theorem below_growI {B : Nat} {w : World} (hB : B ≤ w.heap.size) (k : Nat) (os : Array Obj) : Below B w (Sort.grow (w.drewN k) os) :=
  ⟨rfl, rfl, rfl, by show w.heap.size ≤ (w.heap ++ os).size; rw [Array.size_append]; omega, fun j hj => by show (w.heap ++ os)[j]? = w.heap[j]?; exact Array.getElem?_append_left (by omega)⟩
theorem itoaZ_any (n : Int) (h0 : -9223372036854775808 ≤ n) (h1 : n ≤ 9223372036854775807) (w : World) (ht : Tab10 w) : Calls Tryz.prog 55 #[.int .i64 n] w
    fun e w' => e = .returned (.string (itoaZ n)) ∧ Below w.heap.size w w' := by
  refine (Tryz.strconv_Itoa n h0 h1 w ht).mono ?_
  rintro e w' ⟨rfl, k, os, rfl⟩
  exact ⟨rfl, below_growI (Nat.le_refl _) k os⟩
theorem itoa_any (n : Nat) (hn : n ≤ 1000000000) (w : World) (ht : Tab10 w) : Calls Tryz.prog 55 #[.int .i64 n] w
    fun e w' => e = .returned (.string (itoaB n)) ∧ Below w.heap.size w w' := itoaZ_any n (by omega) (by omega) w ht
/-- a name and a number -/
def pairCells (p : ByteArray × Nat) : List Value := [.string p.1, .string (itoaB p.2)]
theorem pairCells_len (p : ByteArray × Nat) : (pairCells p).length = 2 := rfl
theorem infoPair : (Tryz.prog.info? 90).map (fun i => (i.zero, i.size, i.bytes)) = some (some (.agg #[.string ⟨#[]⟩, .string ⟨#[]⟩]), 2, 32) := by kernel_rfl
end Go.Proofs.YtafjikoeolacgaaGreatDoor
/- Walks of package tree: the free ports of a splitter, of all; the customers below one; the splitters without any. -/
set_option linter.unusedVariables false
set_option linter.unusedSimpArgs false
namespace Go.Proofs.YtafjikoeolacgaaGreatDoor
open Go Go.RowKit

theorem infoIntF : (Tryz.prog.info? 3).map (fun i => (i.zero, i.size, i.bytes)) = some (some (.int .i64 0), 1, 8) := by kernel_rfl
theorem below_undrew {w w' : World} (h : Below w.drew.heap.size w.drew w') : Below w.heap.size w w' := (Below.drew (Below.refl w.heap.size w)).trans h
theorem own_lowC {W : World} {B B' sz n : Nat} {e : TypeId} {v : Value} {xs : List Value} (h : W.ownsRow B e sz v n xs) (hb : B' ≤ B) : W.ownsRow B' e sz v n xs := own_low h hb
set_option maxHeartbeats 4000000 in
set_option maxRecDepth 100000 in
theorem free_any (l : List Splt) (d : List Drp) (s : Splt) (mb mn : Nat) (w : World) (hM : SMap w mb mn (takenV l d d.length)) (hk : s.key.size ≤ 40) (hw : 1 ≤ s.ways ∧ s.ways ≤ 128) : Calls Tryz.prog 54 #[.agg #[.string s.key, .int .i64 s.ways, .string s.par, .int .i64 s.port], .map (some mb)] w
    (Ret (fun v w' => w'.ownsRow w.heap.size 3 1 v (freeL l d s).length ((freeL l d s).map (Value.int .i64))) w) := by
  obtain ⟨skey, ways, par, port⟩ := s
  simp only at hk hw ⊢
  obtain ⟨n, rfl⟩ : ∃ n : Nat, ways = n := ⟨ways.toNat, by omega⟩
  have HFR : Hid (freeL l d ⟨skey, n, par, port⟩ = freeI l d skey n) := by unfold freeL freeI; exact rfl
  have hbx : Blk (w.alloc (.cells #[.string skey, .int .i64 (n : Int), .string par, .int .i64 port] 36)) w.heap.size #[.string skey, .int .i64 (n : Int), .string par, .int .i64 port] 36 := Blk.new _ _ _
  have hmb := hM.lt
  have HM0 := Lib.hid (hM.alloc (.cells #[.string skey, .int .i64 (n : Int), .string par, .int .i64 port] 36))
  obtain ⟨i0, hi, hz0, hz1, hz2⟩ := info_parts infoIntF
  have HB0 := Lib.hid hbx
  have b1 := hbx.cell 1 _ rfl
  obtain ⟨hw1, hw2⟩ := hw
  clear hM hbx
  go_enter Tryz.func54, Tryz.ntmps54
  go_wp2
  go_loopw [5, 9] (fun ov i wr => ∃ k : Nat, k ≤ n ∧ i = .int .i64 k ∧ wr.ownsRow (w.heap.size + 1) 3 1 ov (freeI l d skey k).length ((freeI l d skey k).map (Value.int .i64)) ∧ Below (w.heap.size + 1) (w.alloc (.cells #[.string skey, .int .i64 (n : Int), .string par, .int .i64 port] 36)) wr) (fun _ i _ => n - (intOf i).toNat)
  case atStart => exact ⟨0, by omega, rfl, World.ownsRow_nil _ _ _ _, Below.refl _ _⟩
  case round =>
    obtain ⟨k, hk', rfl, hown, hB⟩ := hrel
    have hsz := hB.size
    simp only [World.size_alloc] at hsz
    have hbw := HB0.out.below hB (by omega)
    have z0 := hbw.cell 0 _ rfl
    have hBw : Below w.heap.size w wr := below_at (below_alloc (Below.refl _ _) _ (Nat.le_refl _)) hB (by omega)
    have hMr : SMap wr mb mn (takenV l d d.length) := HM0.out.below hB (by omega)
    have hfl := freeI_len l d skey k
    have HS := Lib.hid (And.intro hown (And.intro hB (And.intro hBw hMr)))
    clear hown hB hbw hBw hMr
    by_cases hlt : k < n
    · obtain ⟨kl, hkl⟩ := portKey (skey, (k : Int) + 1) (by unfold maxLen; simp only; omega) (WalkArith.wf_i64 (by simp only; omega))
      have HKL := Lib.hid hkl
      have hs5 := freeI_succ l d skey k
      by_cases h0 : (atPort l d (skey, (k : Int) + 1)).size = 0
      · have he : ((takenV l d d.length (skey, (k : Int) + 1)).getD ⟨#[]⟩).toList.isEmpty = true := by rw [isEmpty_size]; unfold atPort at h0; simp [h0]
        rw [if_pos h0] at hs5
        have HX := Lib.hid hs5
        clear hs5 h0 hkl
        go_wp2_with (first
          | (at_lookup; refine wpList_look (by rfl) _ _ _ rfl portKeyed Tryz.underlying85 (zeroStr _) HS.out.2.2.2 rfl (skey, (k : Int) + 1) HKL.out rfl (smap_get _ _) ?_)
          | ((at_builtin; go_must (refine wpList_append_own _ rfl _ _ 22 rfl _ 3 _ (.int .i64 0) 1 8 Tryz.underlying22 hi hz0 hz1 hz2 rfl (by decide) _ _ _ rfl (HS.out.1.alloc _) ⟨wr.heap.size, 0, none⟩ 1 1 [.int .i64 ((k : Int) + 1)] rfl rfl (by exact news_at (by first | rfl | simp) (by rfl)) (by simp [Value.oneCell']) (by unfold maxLen; omega) (by omega) (by first | omega | (simp; done) | (simp; omega)) ?_)); intro v' w6 hown6 hgrow _))
        refine ⟨⟨k + 1, by omega, by go_num, ?_, ?_⟩, by simp [intOf]; omega⟩
        · rw [HX.out, List.length_append, List.length_singleton, List.map_append]; exact hown6
        · exact below_grown (below_alloc HS.out.2.1 _ (by omega)) (HS.out.1.alloc _) hgrow (Nat.le_refl _) (by simp; omega)
      · have he : ((takenV l d d.length (skey, (k : Int) + 1)).getD ⟨#[]⟩).toList.isEmpty = false := by rw [isEmpty_size]; unfold atPort at h0; simp [h0]
        rw [if_neg h0, List.append_nil] at hs5
        have HX := Lib.hid hs5
        clear hs5 h0 hkl
        go_wp2_with (first
          | (at_lookup; refine wpList_look (by rfl) _ _ _ rfl portKeyed Tryz.underlying85 (zeroStr _) HS.out.2.2.2 rfl (skey, (k : Int) + 1) HKL.out rfl (smap_get _ _) ?_))
        refine ⟨⟨k + 1, by omega, by go_num, ?_, HS.out.2.1⟩, by simp [intOf]; omega⟩
        rw [HX.out]; exact HS.out.1
    · obtain rfl : k = n := by omega
      go_wp2
      go_ret
      refine ⟨_, rfl, ?_, HS.out.2.2.1⟩
      rw [HFR.out]
      exact own_low HS.out.1 (by omega)

set_option maxHeartbeats 4000000 in
set_option maxRecDepth 100000 in
theorem Below_any (v1 v2 : Value) (l : List Splt) (d : List Drp) (key : ByteArray) (w : World) (h1 : Arr Splt.cells 4 w l v1) (h2 : Arr Drp.cells 3 w d v2) : Calls Tryz.prog 12 #[.agg #[v1, v2], .string key] w (StrsPost (belowP l d key) (splitterF l d key) w) := by
  have HA := Lib.hid (And.intro h1 h2)
  have hbx : Blk (w.alloc (.cells #[v1, v2] 29)) w.heap.size #[v1, v2] 29 := Blk.new _ _ _
  have HBX := Lib.hid hbx
  clear h1 h2 hbx
  go_enter Tryz.func12, Tryz.ntmps12
  go_wp2_with fail
  refine (splitterFault_any _ _ l d key _ (by exact HA.out.1.below (by (repeat (first | exact Below.refl _ _ | assumption | refine below_draws ?_ _ | refine Below.drew ?_ | refine below_alloc ?_ _ (by first | omega | (simp; done) | (simp; omega)) | refine Below.setCell ?_ (by first | omega | (simp; done) | (simp; omega)) _ | refine below_at ?_ (by assumption) (by first | omega | (simp; done) | (simp; omega)))))) (by exact HA.out.2.below (by (repeat (first | exact Below.refl _ _ | assumption | refine below_draws ?_ _ | refine Below.drew ?_ | refine below_alloc ?_ _ (by first | omega | (simp; done) | (simp; omega)) | refine Below.setCell ?_ (by first | omega | (simp; done) | (simp; omega)) _ | refine below_at ?_ (by assumption) (by first | omega | (simp; done) | (simp; omega))))))).mono ?_
  rintro e w2 ⟨rfl, hb2⟩
  have hz2' := hb2.size
  simp only [World.size_alloc] at hz2'
  have hBw2 : Below w.heap.size w w2 := by (repeat (first | exact Below.refl _ _ | assumption | refine below_draws ?_ _ | refine Below.drew ?_ | refine below_alloc ?_ _ (by first | omega | (simp; done) | (simp; omega)) | refine Below.setCell ?_ (by first | omega | (simp; done) | (simp; omega)) _ | refine below_at ?_ (by assumption) (by first | omega | (simp; done) | (simp; omega))))
  have hbx2 := HBX.out.below hb2 (by simp)
  have p0 := hbx2.cell 0 _ rfl
  have p1 := hbx2.cell 1 _ rfl
  have HB2 := Lib.hid (And.intro hBw2 hbx2)
  clear hBw2 hbx2
  by_cases hf : splitterF l d key = 0
  · have hf1 : (splitterF l d key != 0) = false := by simp [hf]
    have HL : Hid (belowP l d key = belowL l d key) := by unfold belowP; rw [if_pos hf]; exact rfl
    have htree : treeF l d = 0 := by
      unfold splitterF at hf
      split at hf
      · rename_i h1; exact absurd hf h1
      · omega
    have ok := tok_of htree
    have hks : key.size ≤ 40 := by
      unfold splitterF at hf
      rw [if_neg (by omega)] at hf
      cases hg : getS l key with
      | none => rw [hg] at hf; simp at hf
      | some s => exact (ok.s.get hg).1
    have HF := Lib.hid (And.intro hf ok)
    clear hf htree ok
    go_wp2_with fail
    refine (below_any _ _ l d _ (by exact HA.out.1.below HB2.out.1) (by exact HA.out.2.below HB2.out.1) HF.out.2).mono ?_
    rintro e w3 ⟨mb, n, rfl, hG, hmb, hb3⟩
    have hBw3 : Below w.heap.size w w3 := by have h3 := HB2.out.1; (repeat (first | exact Below.refl _ _ | assumption | refine below_draws ?_ _ | refine Below.drew ?_ | refine below_alloc ?_ _ (by first | omega | (simp; done) | (simp; omega)) | refine Below.setCell ?_ (by first | omega | (simp; done) | (simp; omega)) _ | refine below_at ?_ (by assumption) (by first | omega | (simp; done) | (simp; omega))))
    obtain ⟨mm, hM, hO, -, -⟩ := hG
    obtain ⟨va, vcap, hv⟩ := own_sliceB (hO key)
    have HV := Lib.hid (And.intro hv (And.intro (hO key) (And.intro hM hBw3)))
    obtain ⟨kl, hkl⟩ := strKey key (by unfold maxLen; omega)
    have HKL := Lib.hid hkl
    clear hM hO hv hBw3 hb3 hkl
    go_wp2_with ((at_lookup; refine wpList_look (by rfl) _ _ _ rfl strKeyed Tryz.underlying94 (zeroStrs _) HV.out.2.2.1 rfl key HKL.out rfl HV.out.1 ?_))
    go_ret2
    refine ⟨_, by rw [HF.out.1]; exact rfl, ?_, HV.out.2.2.2⟩
    rw [HL.out]
    have h := HV.out.2.1
    rw [HV.out.1] at h
    exact Arr.of_strs h
  · have hf1 : (splitterF l d key != 0) = true := by simp [hf]
    have HL : Hid (belowP l d key = []) := by unfold belowP; rw [if_neg hf]; exact rfl
    clear hf
    go_wp2
    go_ret2
    exact ⟨_, rfl, by rw [HL.out]; exact Arr.nil _ _ _, HB2.out.1⟩

/-- the free ports of each splitter -/
def FreePost (l : List Splt) (d : List Drp) (w : World) (e : Ending) (w' : World) : Prop := ∃ v, e = .returned (.tuple #[v, .int .i64 (sumP l d : Nat), .int .i64 (treeF l d)]) ∧ Arr pairCells 2 w' (freeP l d) v ∧ Below w.heap.size w w'
set_option maxHeartbeats 4000000 in
set_option maxRecDepth 100000 in
theorem Free_any (v1 v2 : Value) (l : List Splt) (d : List Drp) (w : World) (h1 : Arr Splt.cells 4 w l v1) (h2 : Arr Drp.cells 3 w d v2) (ht : Tab10 w) : Calls Tryz.prog 10 #[.agg #[v1, v2]] w (FreePost l d w) := by
  have HA := Lib.hid (And.intro h1 (And.intro h2 ht))
  obtain ⟨a1, cap1, rfl, hcap1, hmax1, hc1⟩ := h1
  unfold maxLen at hmax1
  have HC := Lib.hid hc1
  obtain ⟨i0, hi, hz0, hz1, hz2⟩ := info_parts infoPair
  have hbx : Blk (w.alloc (.cells #[.slice a1 l.length cap1, v2] 29)) w.heap.size #[.slice a1 l.length cap1, v2] 29 := Blk.new _ _ _
  have HBX := Lib.hid hbx
  clear h2 hc1 ht hbx
  go_enter Tryz.func10, Tryz.ntmps10
  go_wp2_with fail
  refine (checkTree_any _ _ l d _ (by exact HA.out.1.below (by (repeat (first | exact Below.refl _ _ | assumption | refine below_draws ?_ _ | refine Below.drew ?_ | refine below_alloc ?_ _ (by first | omega | (simp; done) | (simp; omega)) | refine Below.setCell ?_ (by first | omega | (simp; done) | (simp; omega)) _ | refine below_at ?_ (by assumption) (by first | omega | (simp; done) | (simp; omega)))))) (by exact HA.out.2.1.below (by (repeat (first | exact Below.refl _ _ | assumption | refine below_draws ?_ _ | refine Below.drew ?_ | refine below_alloc ?_ _ (by first | omega | (simp; done) | (simp; omega)) | refine Below.setCell ?_ (by first | omega | (simp; done) | (simp; omega)) _ | refine below_at ?_ (by assumption) (by first | omega | (simp; done) | (simp; omega))))))).mono ?_
  rintro e w2 ⟨rfl, hb2⟩
  have hz2' := hb2.size
  simp only [World.size_alloc] at hz2'
  have hBw2 : Below w.heap.size w w2 := by (repeat (first | exact Below.refl _ _ | assumption | refine below_draws ?_ _ | refine Below.drew ?_ | refine below_alloc ?_ _ (by first | omega | (simp; done) | (simp; omega)) | refine Below.setCell ?_ (by first | omega | (simp; done) | (simp; omega)) _ | refine below_at ?_ (by assumption) (by first | omega | (simp; done) | (simp; omega))))
  have hbx2 := HBX.out.below hb2 (by simp)
  have p0 := hbx2.cell 0 _ rfl
  have p1 := hbx2.cell 1 _ rfl
  have HB2 := Lib.hid (And.intro hBw2 hbx2)
  clear hBw2 hbx2 hb2
  by_cases hf : treeF l d = 0
  rotate_left
  · have hf1 : (treeF l d != 0) = true := by simp [hf]
    have HL : Hid (freeP l d = []) := by unfold freeP; rw [if_neg hf]; exact rfl
    have HL2 : Hid (sumP l d = 0) := by unfold sumP; rw [if_neg hf]; exact rfl
    clear hf
    go_wp2
    go_ret3
    exact ⟨_, by rw [HL2.out]; rfl, by rw [HL.out]; exact Arr.nil _ _ _, HB2.out.1⟩
  have ok := tok_of hf
  have HL : Hid (freeP l d = freeK l d l.length) := by unfold freeP; rw [if_pos hf]; exact rfl
  have HL2 : Hid (sumP l d = sumK l d l.length) := by unfold sumP; rw [if_pos hf]; exact rfl
  have hl5 := ok.s.len
  have hf1 : (treeF l d != 0) = false := by simp [hf]
  have HF := Lib.hid (And.intro hf ok)
  clear hf ok
  go_wp2_with fail
  refine (taken_any _ _ l d _ (by exact HA.out.1.below HB2.out.1) (by exact HA.out.2.1.below HB2.out.1) HF.out.2).mono ?_
  rintro e w3 ⟨mb, mn, rfl, hmb, hM, hb3⟩
  have hz3 := hb3.size
  have hBw3 : Below w.heap.size w w3 := by have h3 := HB2.out.1; (repeat (first | exact Below.refl _ _ | assumption | refine below_draws ?_ _ | refine Below.drew ?_ | refine below_alloc ?_ _ (by first | omega | (simp; done) | (simp; omega)) | refine Below.setCell ?_ (by first | omega | (simp; done) | (simp; omega)) _ | refine below_at ?_ (by assumption) (by first | omega | (simp; done) | (simp; omega))))
  have hbx3 := HB2.out.2.below hb3 (by omega)
  have q0 := hbx3.cell 0 _ rfl
  have hml := hM.lt
  have H3 := Lib.hid (And.intro hBw3 (And.intro hbx3 hM))
  clear hBw3 hbx3 hM p0 p1 hb3
  have HW := Lib.hid (fun s hs => (HF.out.2.s.keys s hs).2)
  go_wp2
  go_loopw [7, 8, 22] (fun ov sv i wr => ∃ k : Nat, k ≤ l.length ∧ i = .int .i64 k ∧ sv = .int .i64 (sumK l d k : Nat) ∧ wr.ownsRow w3.heap.size 90 2 ov (freeK l d k).length ((freeK l d k).flatMap pairCells) ∧ Below w3.heap.size w3 wr) (fun _ _ i _ => l.length - (intOf i).toNat)
  case atStart => exact ⟨0, by omega, rfl, rfl, World.ownsRow_nil _ _ _ _, Below.refl _ _⟩
  case round =>
    obtain ⟨k, hk, rfl, rfl, hown, hB⟩ := hrel
    have hsz := hB.size
    have hBw := H3.out.1.trans (hB.mono (by omega))
    have HS := Lib.hid (And.intro hown (And.intro hB hBw))
    have hfl := freeK_len l d k
    have hsl := sumK_le (d := d) HW.out k hk
    clear hown hB hBw
    by_cases hlt : k < l.length
    · obtain ⟨b, off, rfl, hb, hcc⟩ := HC.out k hlt
      obtain ⟨y0, y1, y2, y3⟩ := splt_at hcc
      replace y0 := (HS.out.2.2.cell (p := ⟨b, _, none⟩) hb).trans y0
      replace y1 := (HS.out.2.2.cell (p := ⟨b, _, none⟩) hb).trans y1
      replace y2 := (HS.out.2.2.cell (p := ⟨b, _, none⟩) hb).trans y2
      replace y3 := (HS.out.2.2.cell (p := ⟨b, _, none⟩) hb).trans y3
      have hks := HF.out.2.s.keys l[k] (List.getElem_mem _)
      have HKS := Lib.hid (And.intro (keyB_size hks.1).2 (waysB_le hks.2))
      have HFK := Lib.hid (And.intro (freeK_succ (d := d) hlt) (sumK_succ (d := d) hlt))
      have hX := Blk.new wr #[.string l[k].key, .int .i64 l[k].ways, .string l[k].par, .int .i64 l[k].port] 36
      have x0 := hX.cell 0 _ rfl
      have x1 := hX.cell 1 _ rfl
      have x2 := hX.cell 2 _ rfl
      have x3 := hX.cell 3 _ rfl
      have HM4 : Hid (SMap (wr.alloc (.cells #[.string l[k].key, .int .i64 l[k].ways, .string l[k].par, .int .i64 l[k].port] 36)) mb mn (takenV l d d.length)) := (H3.out.2.2.below HS.out.2.1 hml).alloc _
      have hfn := freeN_le (d := d) HW.out l[k] (List.getElem_mem _)
      clear hcc hks
      go_wp2_with fail
      refine (free_any l d l[k] mb mn _ HM4.out HKS.out.1 HKS.out.2).mono ?_
      rintro e w5 ⟨vf, rfl, hvf, hb5⟩
      have hz5 : wr.heap.size + 1 ≤ w5.heap.size := by have := hb5.size; simpa using this
      obtain ⟨fa, fc, rfl⟩ := own_sliceB hvf
      have hX5 := hX.below hb5 (by simp)
      have hB5 : Below wr.heap.size wr w5 := below_at (below_alloc (Below.refl _ _) _ (Nat.le_refl _)) hb5 (by simp)
      have H5 := Lib.hid (And.intro hX5 hB5)
      rw [show (freeL l d l[k]).length = freeN l d l[k] from rfl]
      clear hvf hb5 hX hX5 hB5 x0 x1 x2 x3 y0 y1 y2 y3 q0
      generalize freeN l d l[k] = n at *
      by_cases h0 : 0 < n
      · have h0' : (0 : Int) < (n : Int) := by omega
        have HKP := HFK.out
        rw [if_pos h0] at HKP
        have HK := Lib.hid HKP
        clear HKP HFK
        go_wp2_with fail
        refine WalkT.start (fun w' => w'.cell? ⟨wr.heap.size, 0, none⟩ = some (.string l[k].key)) [7] (by kernel_rfl) ?_
        have hS1 : w5.drew.cell? ⟨wr.heap.size, 0, none⟩ = some (.string l[k].key) := H5.out.1.cell 0 _ rfl
        (refine WalkT.quiet (i := 0) (v := ?_) rfl (by kernel_rfl) (by kernel_rfl) (by kernel_rfl) (fun _ _ _ h => h) (Or.inl ⟨by rfl, ?_⟩) ?_; rotate_left; (· (intro wS hSw; (try dsimp only at hSw); go_simp; try with_reducible rfl)); try simp only [Act.put, List.setIfInBounds_toArray, List.set_cons_zero, List.set_cons_succ, List.getElem_toArray, List.getElem_cons_succ, List.getElem_cons_zero])
        (refine WalkT.quiet (i := 1) (v := ?_) rfl (by kernel_rfl) (by kernel_rfl) (by kernel_rfl) (fun _ _ _ h => h) (Or.inl ⟨by rfl, ?_⟩) ?_; rotate_left; (· (intro wS hSw; (try dsimp only at hSw); go_simp; try with_reducible rfl)); try simp only [Act.put, List.setIfInBounds_toArray, List.set_cons_zero, List.set_cons_succ, List.getElem_toArray, List.getElem_cons_succ, List.getElem_cons_zero])
        (refine WalkT.take (i := 2) (v := ?_) rfl (by kernel_rfl) (by kernel_rfl) (by kernel_rfl) (by kernel_rfl) (fun _ _ _ h => h) hS1 (Or.inl ⟨by rfl, ?_⟩) ?_; rotate_left; (· (intro wS hSw; (try dsimp only at hSw); go_simp; try with_reducible rfl)); try simp only [Act.put, List.setIfInBounds_toArray, List.set_cons_zero, List.set_cons_succ, List.getElem_toArray, List.getElem_cons_succ, List.getElem_cons_zero])
        (refine WalkT.quiet (i := 3) (v := ?_) rfl (by kernel_rfl) (by kernel_rfl) (by kernel_rfl) (fun _ _ _ h => h) (Or.inl ⟨by rfl, ?_⟩) ?_; rotate_left; (· (intro wS hSw; (try dsimp only at hSw); go_simp; try with_reducible rfl)); try simp only [Act.put, List.setIfInBounds_toArray, List.set_cons_zero, List.set_cons_succ, List.getElem_toArray, List.getElem_cons_succ, List.getElem_cons_zero])
        (refine WalkT.ready (rs := [4]) (by kernel_rfl) (by simp) (AllT.cons rfl (fun K hK => ?_) AllT.nil); go_simp)
        refine (itoa_any n (by omega) _ (HA.out.2.2.below (by have h6 := HS.out.2.2; have h7 := H5.out.2; (repeat (first | exact Below.refl _ _ | assumption | refine below_draws ?_ _ | refine Below.drew ?_ | refine below_alloc ?_ _ (by first | omega | (simp; done) | (simp; omega)) | refine Below.setCell ?_ (by first | omega | (simp; done) | (simp; omega)) _ | refine below_at ?_ (by assumption) (by first | omega | (simp; done) | (simp; omega))))))).mono ?_
        rintro e w6 ⟨rfl, hb6⟩
        have hz6 : w5.heap.size ≤ w6.heap.size := hb6.size
        have hS2 : w6.cell? ⟨wr.heap.size, 0, none⟩ = some (.string l[k].key) := (hb6.cell (p := ⟨_, _, none⟩) (by show wr.heap.size < w5.heap.size; omega)).trans hS1
        have HS2 := Lib.hid hS2
        have ho6 := (own_below (own_below HS.out.1 H5.out.2) (w' := w6) (below_undrew hb6)).alloc (.cells #[.string l[k].key, .string (itoaB n)] 90)
        have hB6 : Below w3.heap.size w3 (w6.alloc (.cells #[.string l[k].key, .string (itoaB n)] 90)) := by have h6 := HS.out.2.1; have h7 := H5.out.2; (repeat (first | exact Below.refl _ _ | assumption | refine below_draws ?_ _ | refine Below.drew ?_ | refine below_alloc ?_ _ (by first | omega | (simp; done) | (simp; omega)) | refine Below.setCell ?_ (by first | omega | (simp; done) | (simp; omega)) _ | refine below_at ?_ (by assumption) (by first | omega | (simp; done) | (simp; omega))))
        have HO6 := Lib.hid (And.intro ho6 hB6)
        clear hS2 hb6 hS1 ho6 hB6
        (refine hK.out _ _ (fun _ _ => HS2.out) ?_; clear hK K; try simp only [Act.put, List.setIfInBounds_toArray, List.set_cons_zero, List.set_cons_succ, List.getElem_toArray, List.getElem_cons_succ, List.getElem_cons_zero])
        (refine WalkT.quiet (i := 5) (v := ?_) rfl (by kernel_rfl) (by kernel_rfl) (by kernel_rfl) (fun _ _ _ h => h) (Or.inl ⟨by rfl, ?_⟩) ?_; rotate_left; (· (intro wS hSw; (try dsimp only at hSw); go_simp; try with_reducible rfl)); try simp only [Act.put, List.setIfInBounds_toArray, List.set_cons_zero, List.set_cons_succ, List.getElem_toArray, List.getElem_cons_succ, List.getElem_cons_zero])
        (refine WalkT.ready (rs := [6]) (by kernel_rfl) (by simp) (AllT.cons rfl (fun K hK => ?_) AllT.nil); go_simp)
        (refine hK.out _ _ (fun _ _ => (Lib.cell?_alloc_some _ HS2.out)) ?_; clear hK K; try simp only [Act.put, List.setIfInBounds_toArray, List.set_cons_zero, List.set_cons_succ, List.getElem_toArray, List.getElem_cons_succ, List.getElem_cons_zero])
        (refine WalkT.ready (rs := [7]) (by kernel_rfl) (by simp) (AllT.cons rfl (fun K hK => ?_) AllT.nil))
        refine step_append_lies _ (by rfl) _ _ _ (by rfl) w3.heap.size 90 _ _ 2 32 Tryz.underlying31 hi hz0 hz1 hz2 rfl (by decide) _ (freeK l d k).length _ (by rfl) HO6.out.1 ⟨_, 0, none⟩ 1 1 [.string l[k].key, .string (itoaB n)] (by rfl) rfl (by exact news_at rfl rfl) (by simp [Value.oneCell']) (by omega) (by unfold maxLen; omega) (by omega) (by simp; omega) _ rfl ?_
        intro g7 cap7 w7 hown7 hg7 hat7 hlt7
        have hB7 := below_grown HO6.out.2 HO6.out.1 hg7 (Nat.le_refl _) (by simp; omega)
        have H7 := Lib.hid (And.intro hown7 hB7)
        clear hown7 hg7 hB7 hat7
        (refine hK.out _ _ (fun h => absurd h (by decide)) ?_; clear hK K; try simp only [Act.put, List.setIfInBounds_toArray, List.set_cons_zero, List.set_cons_succ, List.getElem_toArray, List.getElem_cons_succ, List.getElem_cons_zero])
        (refine WalkT.quiet (i := 8) (v := ?_) rfl (by kernel_rfl) (by kernel_rfl) (by kernel_rfl) (fun _ _ _ h => h) (Or.inl ⟨by rfl, ?_⟩) ?_; rotate_left; (· (intro wS hSw; (try dsimp only at hSw); go_simp; try with_reducible rfl)); try simp only [Act.put, List.setIfInBounds_toArray, List.set_cons_zero, List.set_cons_succ, List.getElem_toArray, List.getElem_cons_succ, List.getElem_cons_zero])
        refine WalkT.done (by kernel_rfl) ?_
        go_wp2
        refine ⟨⟨k + 1, by omega, by go_num, by rw [HK.out.2]; go_num, ?_, H7.out.2⟩, by simp [intOf]; omega⟩
        rw [HK.out.1, List.length_append, List.length_singleton, List.flatMap_append]; exact H7.out.1
      · have h0' : ¬ ((0 : Int) < (n : Int)) := by omega
        obtain rfl : n = 0 := by omega
        have HKP := HFK.out
        rw [if_neg h0, List.append_nil, Nat.add_zero] at HKP
        have HK := Lib.hid HKP
        clear HKP HFK
        go_wp2
        refine ⟨⟨k + 1, by omega, by go_num, by rw [HK.out.2]; first | done | rfl, ?_, HS.out.2.1.trans (H5.out.2.mono (by omega))⟩, by simp [intOf]; omega⟩
        rw [HK.out.1]; exact own_below HS.out.1 H5.out.2
    · obtain rfl : k = l.length := by omega
      go_wp2
      go_ret3
      refine ⟨_, by rw [HL2.out, HF.out.1]; rfl, ?_, HS.out.2.2⟩
      rw [HL.out]
      exact Arr.of_own pairCells_len HS.out.1

/-- the tree in its box -/
structure AskSt (w0 W : World) (tb : Nat) (v1 v2 : Value) (l : List Splt) (d : List Drp) : Prop where
  b : Below w0.heap.size w0 W
  t : Blk W tb #[v1, v2] 29
  a1 : Arr Splt.cells 4 W l v1
  a2 : Arr Drp.cells 3 W d v2
theorem AskSt.below {w0 W W' : World} {tb : Nat} {v1 v2 : Value} {l : List Splt} {d : List Drp} (h : AskSt w0 W tb v1 v2 l d) (hb : Below W.heap.size W W') : AskSt w0 W' tb v1 v2 l d :=
  ⟨below_at h.b hb h.b.size, h.t.below hb h.t.lt, h.a1.below hb, h.a2.below hb⟩
end Go.Proofs.YtafjikoeolacgaaGreatDoor
