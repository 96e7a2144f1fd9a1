/- Texts of one subject in one: None, IndexS, AskR; what each shows stands at its head. No condition. -/
import Derived.Test.YtcecpodbmjghhaaGreatBase
import Derived.Test.YtcecpodbmjghhaaGreatProg
import Derived.Test.YtcecpodbmjghhaaGreatPlainC
import Derived.Test.YtcecpodbmjghhaaGreatTreeRef
import Derived.Test.YtcecpodbmjghhaaGreatTreesP
/- Walk: the reference's error of what is missing. -/
set_option linter.unusedVariables false
set_option linter.unusedSimpArgs false
namespace Go.Proofs.YtcecpodbmjghhaaGreat
open Go Go.RowKit
def noneV (b : Bool) : Int := if b then 8 else 0
set_option maxHeartbeats 1000000 in
theorem none_any (b : Bool) (w : World) : Calls Tryz.prog 17 #[.bool b] w fun e w' => e = .returned (.int .i64 (noneV b)) ∧ w = w' := by
  cases b
  all_goals
    go_enter Tryz.func17, Tryz.ntmps17
    go_wp2
    go_ret
    exact ⟨rfl, rfl⟩
end Go.Proofs.YtcecpodbmjghhaaGreat
/- Walk: slices.Index at strings. -/
namespace Go.Proofs.YtcecpodbmjghhaaGreat
open Go Go.RowKit
set_option maxHeartbeats 1000000 in
theorem index_str_any (v : Value) (l : List ByteArray) (y : ByteArray) (w : World) (h : Arr strCells 1 w l v) : Calls Tryz.prog 112 #[v, .string y] w
    fun e w' => e = .returned (.int .i64 (idxF (fun x => strB y x) l)) ∧ w = w' := by
  obtain ⟨a, cap, rfl, hcap, hmax, hc⟩ := h
  have hlen : l.length ≤ maxLen := by omega
  unfold maxLen at hlen hmax
  go_enter Tryz.func112, Tryz.ntmps112
  go_wp2
  go_loop [8] (fun i => ∃ k : Nat, k ≤ l.length ∧ i = .int .i64 k ∧ (l.take k).any (fun x => strB y x) = false) (fun i => l.length - (intOf i).toNat)
  case atStart => exact ⟨0, by omega, rfl, rfl⟩
  case round =>
    obtain ⟨k, hk, rfl, hz⟩ := hrel
    have HZ := Lib.hid hz
    clear hz
    by_cases hlt : k < l.length
    · obtain ⟨b, off, rfl, hb, hcc⟩ := hc k hlt
      have h0 := hcc 0 _ rfl
      simp only [Nat.mul_one, Nat.add_zero] at h0
      clear hc hcc
      cases hx : strB y l[k]
      · have hx' : (y.toList == l[k].toList) = false := hx
        have HT : Hid ((l.take (k + 1)).any (fun x => strB y x) = false) := by rw [any_take_succ _ l k hlt HZ.out]; exact hx
        clear hx
        go_wp2
        go_round
        case rel => exact ⟨k + 1, by omega, by go_num, HT.out⟩
        case measure => simp [intOf]; omega
      · have hx' : (y.toList == l[k].toList) = true := hx
        have HT : Hid (idxF (fun x => strB y x) l = k) := idxF_hit hlt HZ.out hx
        clear hx
        go_wp2
        go_ret
        exact ⟨ret_int HT.out.symm, rfl⟩
    · have HT : Hid (idxF (fun x => strB y x) l = -1) := idxF_none (any_take_all (by omega) HZ.out)
      go_wp2
      go_ret
      exact ⟨ret_int HT.out.symm, rfl⟩
end Go.Proofs.YtcecpodbmjghhaaGreat
/- Walks of the reference's tree functions: the drop of a customer; whether there is one, whether there is a splitter; whether a list of strings has one. -/
namespace Go.Proofs.YtcecpodbmjghhaaGreat
open Go Go.RowKit
theorem dropW_hit {d : List Drp} {c : ByteArray} {k : Nat} (hk : k < d.length) (h0 : (d.take k).any (fun x => strB x.cust c) = false) (h1 : strB d[k].cust c = true) : dropW d c = some d[k] := by
  have := idxF_hit (p := fun x : Drp => strB x.cust c) hk h0 h1
  rcases findD_get d c with ⟨h2, _⟩ | ⟨j, hj, h2, h3, _⟩
  · unfold findD at h2; omega
  · unfold findD at h2
    obtain rfl : j = k := by omega
    exact h3
theorem dropW_miss {d : List Drp} {c : ByteArray} (h : d.any (fun x => strB x.cust c) = false) : dropW d c = none := by
  have := idxF_none h
  rcases findD_get d c with ⟨_, h2⟩ | ⟨j, hj, h2, h3, _⟩
  · exact h2
  · unfold findD at h2; omega
set_option maxHeartbeats 4000000 in
set_option maxRecDepth 100000 in
theorem dropOf_any (v1 v2 : Value) (d : List Drp) (c : ByteArray) (w : World) (h : Arr Drp.cells 3 w d v2) : Calls Tryz.prog 69 #[.agg #[v1, v2], .string c] w
    fun e w' => e = .returned (.tuple #[.agg #[.string ((dropW d c).getD eDrp).cust, .string ((dropW d c).getD eDrp).spl, .int .i64 ((dropW d c).getD eDrp).port], .bool (dropW d c).isSome]) ∧ Below w.heap.size w w' := by
  obtain ⟨a, cap, rfl, hcap, hmax, hc⟩ := h
  have hlen : d.length ≤ maxLen := by omega
  unfold maxLen at hlen hmax
  go_enter Tryz.func69, Tryz.ntmps69
  go_wp2
  go_loopw [11] (fun i wr => ∃ k : Nat, k ≤ d.length ∧ i = .int .i64 k ∧ (d.take k).any (fun x => strB x.cust c) = false ∧ Below (w.heap.size + 2) ((w.alloc (.cells #[v1, .slice a d.length cap] 29)).alloc (.cells #[.string ⟨#[]⟩, .string ⟨#[]⟩, .int .i64 0] 36)) wr) (fun i _ => d.length - (intOf i).toNat)
  case atStart => exact ⟨0, by omega, rfl, rfl, Below.refl _ _⟩
  case round =>
    obtain ⟨k, hk, rfl, hz, hB⟩ := hrel
    have hsz := hB.size
    simp only [World.size_alloc] at hsz
    have hr : Blk wr (w.heap.size + 1) #[.string ⟨#[]⟩, .string ⟨#[]⟩, .int .i64 0] 36 := (Blk.newAt (by simp)).below hB (by simp)
    have hBw : Below w.heap.size w wr := below_at (below_alloc (below_alloc (Below.refl _ _) _ (Nat.le_refl _)) _ (by simp)) hB (by omega)
    have HR := Lib.hid (And.intro hz (And.intro hB (And.intro hr hBw)))
    have z0 := hr.cell 0 (.string ⟨#[]⟩) rfl
    have z1 := hr.cell 1 (.string ⟨#[]⟩) rfl
    have z2 := hr.cell 2 (.int .i64 0) rfl
    have zf := fun o => hr.free o
    have hl1 : w.heap.size + 1 < wr.heap.size := hr.lt
    clear hz hB hr hBw
    by_cases hlt : k < d.length
    · obtain ⟨b, off, rfl, hb, hcc⟩ := hc k hlt
      obtain ⟨c0, c1, c2⟩ := drp_at hcc
      replace c0 := (HR.out.2.2.2.cell (p := ⟨b, _, none⟩) hb).trans c0
      replace c1 := (HR.out.2.2.2.cell (p := ⟨b, _, none⟩) hb).trans c1
      replace c2 := (HR.out.2.2.2.cell (p := ⟨b, _, none⟩) hb).trans c2
      clear hc hcc
      cases hx : strB d[k].cust c
      · have hx' : (d[k].cust.toList == c.toList) = false := hx
        have HT : Hid ((d.take (k + 1)).any (fun x => strB x.cust c) = false) := by rw [any_take_succ _ d k hlt HR.out.1]; exact hx
        clear hx
        go_wp2
        exact ⟨⟨k + 1, by omega, by go_num, HT.out, below_alloc HR.out.2.1 _ (by omega)⟩, by simp [intOf]; omega⟩
      · have hx' : (d[k].cust.toList == c.toList) = true := hx
        have HG := Lib.hid (dropW_hit hlt HR.out.1 hx)
        clear hx
        go_wp2
        refine bodyPost_ret (v := .tuple #[.agg #[.string d[k].cust, .string d[k].spl, .int .i64 d[k].port], .bool true]) ?_ rfl ⟨?_, ?_⟩
        · have hf := (((HR.out.2.2.1.set 0 (.string d[k].cust)).set 1 (.string d[k].spl)).set 2 (.int .i64 d[k].port)).alloc (.cells #[.string d[k].cust, .string d[k].spl, .int .i64 d[k].port] 36)
          have y0 := hf.cell 0 (.string d[k].cust) rfl
          have y1 := hf.cell 1 (.string d[k].spl) rfl
          have y2 := hf.cell 2 (.int .i64 d[k].port) rfl
          simp [results, go_sem, y0, y1, y2]
        · rw [HG.out]; rfl
        · have hh := HR.out.2.2.2
          (repeat (first | exact Below.refl _ _ | assumption | refine below_draws ?_ _ | refine Below.drew ?_ | refine below_alloc ?_ _ (by first | omega | (simp; done) | (simp; omega)) | refine Below.setCell ?_ (by first | omega | (simp; done) | (simp; omega)) _ | refine below_at ?_ (by assumption) (by first | omega | (simp; done) | (simp; omega))))
    · have HG := Lib.hid (dropW_miss (any_take_all (by omega) HR.out.1))
      go_wp2
      refine bodyPost_ret (v := .tuple #[.agg #[.string eDrp.cust, .string eDrp.spl, .int .i64 eDrp.port], .bool false]) ?_ rfl ⟨?_, ?_⟩
      · simp [results, go_sem, z0, z1, z2, eDrp]
      · rw [HG.out]; rfl
      · have hh := HR.out.2.2.2
        (repeat (first | exact Below.refl _ _ | assumption | refine below_draws ?_ _ | refine Below.drew ?_ | refine below_alloc ?_ _ (by first | omega | (simp; done) | (simp; omega)) | refine Below.setCell ?_ (by first | omega | (simp; done) | (simp; omega)) _ | refine below_at ?_ (by assumption) (by first | omega | (simp; done) | (simp; omega))))
set_option maxHeartbeats 1000000 in
theorem hasDrop_any (v1 v2 : Value) (d : List Drp) (c : ByteArray) (w : World) (h : Arr Drp.cells 3 w d v2) : Calls Tryz.prog 18 #[.agg #[v1, v2], .string c] w
    fun e w' => e = .returned (.bool (dropW d c).isSome) ∧ Below w.heap.size w w' := by
  have HA := Lib.hid h
  clear h
  go_enter Tryz.func18, Tryz.ntmps18
  go_wp2_with fail
  refine (dropOf_any _ _ d c _ (by exact HA.out.below (by (repeat (first | exact Below.refl _ _ | assumption | refine below_draws ?_ _ | refine Below.drew ?_ | refine below_alloc ?_ _ (by first | omega | (simp; done) | (simp; omega)) | refine Below.setCell ?_ (by first | omega | (simp; done) | (simp; omega)) _ | refine below_at ?_ (by assumption) (by first | omega | (simp; done) | (simp; omega))))))).mono ?_
  rintro e w2 ⟨rfl, hb2⟩
  have hz2 := hb2.size
  simp only [World.size_alloc] at hz2
  go_wp2
  go_ret
  exact ⟨rfl, by (repeat (first | exact Below.refl _ _ | assumption | refine below_draws ?_ _ | refine Below.drew ?_ | refine below_alloc ?_ _ (by first | omega | (simp; done) | (simp; omega)) | refine Below.setCell ?_ (by first | omega | (simp; done) | (simp; omega)) _ | refine below_at ?_ (by assumption) (by first | omega | (simp; done) | (simp; omega))))⟩
set_option maxHeartbeats 1000000 in
theorem hasSplitter_any (v1 v2 : Value) (l : List Splt) (key : ByteArray) (w : World) (h : Arr Splt.cells 4 w l v1) : Calls Tryz.prog 72 #[.agg #[v1, v2], .string key] w
    fun e w' => e = .returned (.bool (getS l key).isSome) ∧ Below w.heap.size w w' := by
  have HA := Lib.hid h
  clear h
  go_enter Tryz.func72, Tryz.ntmps72
  go_wp2_with fail
  refine (splitterOf_any _ _ l key _ (by exact HA.out.below (by (repeat (first | exact Below.refl _ _ | assumption | refine below_draws ?_ _ | refine Below.drew ?_ | refine below_alloc ?_ _ (by first | omega | (simp; done) | (simp; omega)) | refine Below.setCell ?_ (by first | omega | (simp; done) | (simp; omega)) _ | refine below_at ?_ (by assumption) (by first | omega | (simp; done) | (simp; omega))))))).mono ?_
  rintro e w2 ⟨rfl, hb2⟩
  have hz2 := hb2.size
  simp only [World.size_alloc] at hz2
  go_wp2
  go_ret
  exact ⟨rfl, by (repeat (first | exact Below.refl _ _ | assumption | refine below_draws ?_ _ | refine Below.drew ?_ | refine below_alloc ?_ _ (by first | omega | (simp; done) | (simp; omega)) | refine Below.setCell ?_ (by first | omega | (simp; done) | (simp; omega)) _ | refine below_at ?_ (by assumption) (by first | omega | (simp; done) | (simp; omega))))⟩
set_option maxHeartbeats 1000000 in
theorem contains_str_any (v : Value) (l : List ByteArray) (y : ByteArray) (w : World) (h : Arr strCells 1 w l v) : Calls Tryz.prog 74 #[v, .string y] w
    fun e w' => e = .returned (.bool (l.any (fun x => strB y x))) ∧ w = w' := by
  go_enter Tryz.func74, Tryz.ntmps74
  go_wp2_with fail
  refine (index_str_any v l y w h).mono ?_
  rintro e w2 ⟨rfl, rfl⟩
  have hn := idxF_nonneg (fun x => strB y x) l
  cases hx : l.any (fun x => strB y x)
  · have h0 : ¬ (0 ≤ idxF (fun x => strB y x) l) := by rw [hn, hx]; simp
    have h1 : decide (0 ≤ idxF (fun x => strB y x) l) = false := by simpa using h0
    have HX := Lib.hid hx
    clear hn hx
    go_wp2
    go_ret
    exact ⟨ret_bool HX.out.symm, rfl⟩
  · have h0 : 0 ≤ idxF (fun x => strB y x) l := by rw [hn, hx]
    have h1 : decide (0 ≤ idxF (fun x => strB y x) l) = true := by simpa using h0
    have HX := Lib.hid hx
    clear hn hx
    go_wp2
    go_ret
    exact ⟨ret_bool HX.out.symm, rfl⟩
end Go.Proofs.YtcecpodbmjghhaaGreat
