/- Texts of one subject in one: TreeR, TreeS, TreeT; what each shows stands at its head. No condition. -/
import Derived.Test.YtcecpodbmjghhaaGreatTreeAll
import Derived.Test.YtcecpodbmjghhaaGreatTreesP
import Derived.Test.YtcecpodbmjghhaaGreatFuncs
import Derived.Test.YtcecpodbmjghhaaGreatKeysAll
import Derived.Test.YtcecpodbmjghhaaGreatRefBAll
/- Walks of the reference's tree functions: a splitter by its key; tests in lists of splitters and of drops. -/
set_option linter.unusedVariables false
set_option linter.unusedSimpArgs false
namespace Go.Proofs.YtcecpodbmjghhaaGreat
open Go Go.RowKit
set_option maxHeartbeats 1000000 in
set_option maxRecDepth 100000 in
theorem indexFunc_splt (v : Value) (l : List Splt) (p : Splt → Bool) (F : FuncId) (cp : Array Value) (w : World) (h : Arr Splt.cells 4 w l v) (hF : ∀ (args : Array Value) (w : World), (callFunc F args).run Tryz.prog w = .ok (.enter F args) w)
    (hcall : ∀ (x : Splt) (w' : World), x ∈ l → Below w.heap.size w w' → Calls Tryz.prog F (#[.agg ⟨Splt.cells x⟩] ++ cp) w' fun e w'' => e = .returned (.bool (p x)) ∧ Below w'.heap.size w' w'') :
    Calls Tryz.prog 94 #[v, .func (.func F) #[] cp] w fun e w' => e = .returned (.int .i64 (idxF p l)) ∧ Below w.heap.size w w' := by
  obtain ⟨a, cap, rfl, hcap, hmax, hc⟩ := h
  have hlen : l.length ≤ maxLen := by omega
  unfold maxLen at hlen hmax
  have HC := Lib.hid hcall
  clear hcall
  go_enter Tryz.func94, Tryz.ntmps94
  go_wp2
  go_loopw [8] (fun i wr => ∃ k : Nat, k ≤ l.length ∧ i = .int .i64 k ∧ (l.take k).any p = false ∧ Below w.heap.size w wr) (fun i _ => l.length - (intOf i).toNat)
  case atStart => exact ⟨0, by omega, rfl, rfl, Below.refl _ _⟩
  case round =>
    obtain ⟨k, hk, rfl, hz, hB⟩ := hrel
    have HZ := Lib.hid hz
    clear hz
    have hsz := hB.size
    by_cases hlt : k < l.length
    · obtain ⟨b, off, rfl, hb, hcc⟩ := hc k hlt
      obtain ⟨c0, c1, c2, c3⟩ := splt_at hcc
      replace c0 := (hB.cell (p := ⟨b, _, none⟩) hb).trans c0; replace c1 := (hB.cell (p := ⟨b, _, none⟩) hb).trans c1; replace c2 := (hB.cell (p := ⟨b, _, none⟩) hb).trans c2; replace c3 := (hB.cell (p := ⟨b, _, none⟩) hb).trans c3
      clear hc hcc
      cases hx : p l[k]
      · have HT := Lib.hid (any_take_succ _ l k hlt HZ.out)
        have HX := Lib.hid hx
        clear hx
        go_wp2_with fail
        refine (HC.out l[k] _ (List.getElem_mem _) ?_).mono ?_
        · (repeat (first | exact Below.refl _ _ | assumption | refine below_draws ?_ _ | refine Below.drew ?_ | refine below_alloc ?_ _ (by first | omega | (simp; done) | (simp; omega)) | refine Below.setCell ?_ (by first | omega | (simp; done) | (simp; omega)) _ | refine below_at ?_ (by assumption) (by first | omega | (simp; done) | (simp; omega))))
        rintro e w1 ⟨rfl, hb1⟩
        have hx := HX.out
        go_wp2
        exact ⟨⟨k + 1, by omega, by go_num, by rw [HT.out]; exact HX.out, by (repeat (first | exact Below.refl _ _ | assumption | refine below_draws ?_ _ | refine Below.drew ?_ | refine below_alloc ?_ _ (by first | omega | (simp; done) | (simp; omega)) | refine Below.setCell ?_ (by first | omega | (simp; done) | (simp; omega)) _ | refine below_at ?_ (by assumption) (by first | omega | (simp; done) | (simp; omega))))⟩, by simp [intOf]; omega⟩
      · have HX := Lib.hid (idxF_hit hlt HZ.out hx)
        go_wp2_with fail
        refine (HC.out l[k] _ (List.getElem_mem _) ?_).mono ?_
        · (repeat (first | exact Below.refl _ _ | assumption | refine below_draws ?_ _ | refine Below.drew ?_ | refine below_alloc ?_ _ (by first | omega | (simp; done) | (simp; omega)) | refine Below.setCell ?_ (by first | omega | (simp; done) | (simp; omega)) _ | refine below_at ?_ (by assumption) (by first | omega | (simp; done) | (simp; omega))))
        rintro e w1 ⟨rfl, hb1⟩
        go_wp2
        go_ret
        exact ⟨ret_int (by rw [HX.out]), by (repeat (first | exact Below.refl _ _ | assumption | refine below_draws ?_ _ | refine Below.drew ?_ | refine below_alloc ?_ _ (by first | omega | (simp; done) | (simp; omega)) | refine Below.setCell ?_ (by first | omega | (simp; done) | (simp; omega)) _ | refine below_at ?_ (by assumption) (by first | omega | (simp; done) | (simp; omega))))⟩
    · go_wp2
      go_ret
      exact ⟨ret_int (by rw [idxF_none (any_take_all (by omega) HZ.out)]), hB⟩
set_option maxHeartbeats 1000000 in
set_option maxRecDepth 100000 in
theorem indexFunc_drp (v : Value) (l : List Drp) (p : Drp → Bool) (F : FuncId) (cp : Array Value) (w : World) (h : Arr Drp.cells 3 w l v) (hF : ∀ (args : Array Value) (w : World), (callFunc F args).run Tryz.prog w = .ok (.enter F args) w)
    (hcall : ∀ (x : Drp) (w' : World), x ∈ l → Below w.heap.size w w' → Calls Tryz.prog F (#[.agg ⟨Drp.cells x⟩] ++ cp) w' fun e w'' => e = .returned (.bool (p x)) ∧ Below w'.heap.size w' w'') :
    Calls Tryz.prog 93 #[v, .func (.func F) #[] cp] w fun e w' => e = .returned (.int .i64 (idxF p l)) ∧ Below w.heap.size w w' := by
  obtain ⟨a, cap, rfl, hcap, hmax, hc⟩ := h
  have hlen : l.length ≤ maxLen := by omega
  unfold maxLen at hlen hmax
  have HC := Lib.hid hcall
  clear hcall
  go_enter Tryz.func93, Tryz.ntmps93
  go_wp2
  go_loopw [8] (fun i wr => ∃ k : Nat, k ≤ l.length ∧ i = .int .i64 k ∧ (l.take k).any p = false ∧ Below w.heap.size w wr) (fun i _ => l.length - (intOf i).toNat)
  case atStart => exact ⟨0, by omega, rfl, rfl, Below.refl _ _⟩
  case round =>
    obtain ⟨k, hk, rfl, hz, hB⟩ := hrel
    have HZ := Lib.hid hz
    clear hz
    have hsz := hB.size
    by_cases hlt : k < l.length
    · obtain ⟨b, off, rfl, hb, hcc⟩ := hc k hlt
      obtain ⟨c0, c1, c2⟩ := drp_at hcc
      replace c0 := (hB.cell (p := ⟨b, _, none⟩) hb).trans c0; replace c1 := (hB.cell (p := ⟨b, _, none⟩) hb).trans c1; replace c2 := (hB.cell (p := ⟨b, _, none⟩) hb).trans c2
      clear hc hcc
      cases hx : p l[k]
      · have HT := Lib.hid (any_take_succ _ l k hlt HZ.out)
        have HX := Lib.hid hx
        clear hx
        go_wp2_with fail
        refine (HC.out l[k] _ (List.getElem_mem _) ?_).mono ?_
        · (repeat (first | exact Below.refl _ _ | assumption | refine below_draws ?_ _ | refine Below.drew ?_ | refine below_alloc ?_ _ (by first | omega | (simp; done) | (simp; omega)) | refine Below.setCell ?_ (by first | omega | (simp; done) | (simp; omega)) _ | refine below_at ?_ (by assumption) (by first | omega | (simp; done) | (simp; omega))))
        rintro e w1 ⟨rfl, hb1⟩
        have hx := HX.out
        go_wp2
        exact ⟨⟨k + 1, by omega, by go_num, by rw [HT.out]; exact HX.out, by (repeat (first | exact Below.refl _ _ | assumption | refine below_draws ?_ _ | refine Below.drew ?_ | refine below_alloc ?_ _ (by first | omega | (simp; done) | (simp; omega)) | refine Below.setCell ?_ (by first | omega | (simp; done) | (simp; omega)) _ | refine below_at ?_ (by assumption) (by first | omega | (simp; done) | (simp; omega))))⟩, by simp [intOf]; omega⟩
      · have HX := Lib.hid (idxF_hit hlt HZ.out hx)
        go_wp2_with fail
        refine (HC.out l[k] _ (List.getElem_mem _) ?_).mono ?_
        · (repeat (first | exact Below.refl _ _ | assumption | refine below_draws ?_ _ | refine Below.drew ?_ | refine below_alloc ?_ _ (by first | omega | (simp; done) | (simp; omega)) | refine Below.setCell ?_ (by first | omega | (simp; done) | (simp; omega)) _ | refine below_at ?_ (by assumption) (by first | omega | (simp; done) | (simp; omega))))
        rintro e w1 ⟨rfl, hb1⟩
        go_wp2
        go_ret
        exact ⟨ret_int (by rw [HX.out]), by (repeat (first | exact Below.refl _ _ | assumption | refine below_draws ?_ _ | refine Below.drew ?_ | refine below_alloc ?_ _ (by first | omega | (simp; done) | (simp; omega)) | refine Below.setCell ?_ (by first | omega | (simp; done) | (simp; omega)) _ | refine below_at ?_ (by assumption) (by first | omega | (simp; done) | (simp; omega))))⟩
    · go_wp2
      go_ret
      exact ⟨ret_int (by rw [idxF_none (any_take_all (by omega) HZ.out)]), hB⟩
set_option maxHeartbeats 1000000 in
set_option maxRecDepth 100000 in
theorem containsFunc_splt (v : Value) (l : List Splt) (p : Splt → Bool) (F : FuncId) (cp : Array Value) (w : World) (h : Arr Splt.cells 4 w l v) (hF : ∀ (args : Array Value) (w : World), (callFunc F args).run Tryz.prog w = .ok (.enter F args) w)
    (hcall : ∀ (x : Splt) (w' : World), x ∈ l → Below w.heap.size w w' → Calls Tryz.prog F (#[.agg ⟨Splt.cells x⟩] ++ cp) w' fun e w'' => e = .returned (.bool (p x)) ∧ Below w'.heap.size w' w'') :
    Calls Tryz.prog 43 #[v, .func (.func F) #[] cp] w fun e w' => e = .returned (.bool (l.any p)) ∧ Below w.heap.size w w' := by
  have HC := Lib.hid (And.intro hF hcall)
  clear hF hcall
  have HI := Lib.hid (idxF_nonneg p l)
  go_enter Tryz.func43, Tryz.ntmps43
  go_wp2_with (go_at_call 94; refine (indexFunc_splt v l p F cp _ h HC.out.1 HC.out.2).mono ?_; rintro e w1 ⟨rfl, hb1⟩)
  go_ret
  exact ⟨ret_bool (by rw [Bool.eq_iff_iff]; simp only [decide_eq_true_eq]; exact HI.out), by (repeat (first | exact Below.refl _ _ | assumption | refine below_draws ?_ _ | refine Below.drew ?_ | refine below_alloc ?_ _ (by first | omega | (simp; done) | (simp; omega)) | refine Below.setCell ?_ (by first | omega | (simp; done) | (simp; omega)) _ | refine below_at ?_ (by assumption) (by first | omega | (simp; done) | (simp; omega))))⟩
set_option maxHeartbeats 1000000 in
set_option maxRecDepth 100000 in
theorem containsFunc_drp (v : Value) (l : List Drp) (p : Drp → Bool) (F : FuncId) (cp : Array Value) (w : World) (h : Arr Drp.cells 3 w l v) (hF : ∀ (args : Array Value) (w : World), (callFunc F args).run Tryz.prog w = .ok (.enter F args) w)
    (hcall : ∀ (x : Drp) (w' : World), x ∈ l → Below w.heap.size w w' → Calls Tryz.prog F (#[.agg ⟨Drp.cells x⟩] ++ cp) w' fun e w'' => e = .returned (.bool (p x)) ∧ Below w'.heap.size w' w'') :
    Calls Tryz.prog 42 #[v, .func (.func F) #[] cp] w fun e w' => e = .returned (.bool (l.any p)) ∧ Below w.heap.size w w' := by
  have HC := Lib.hid (And.intro hF hcall)
  clear hF hcall
  have HI := Lib.hid (idxF_nonneg p l)
  go_enter Tryz.func42, Tryz.ntmps42
  go_wp2_with (go_at_call 93; refine (indexFunc_drp v l p F cp _ h HC.out.1 HC.out.2).mono ?_; rintro e w1 ⟨rfl, hb1⟩)
  go_ret
  exact ⟨ret_bool (by rw [Bool.eq_iff_iff]; simp only [decide_eq_true_eq]; exact HI.out), by (repeat (first | exact Below.refl _ _ | assumption | refine below_draws ?_ _ | refine Below.drew ?_ | refine below_alloc ?_ _ (by first | omega | (simp; done) | (simp; omega)) | refine Below.setCell ?_ (by first | omega | (simp; done) | (simp; omega)) _ | refine below_at ?_ (by assumption) (by first | omega | (simp; done) | (simp; omega))))⟩
theorem getS_hit {l : List Splt} {key : ByteArray} {k : Nat} (hk : k < l.length) (h0 : (l.take k).any (fun s => decide (s.key = key)) = false) (h1 : l[k].key = key) : getS l key = some l[k] := by
  have := idxF_hit (p := fun s : Splt => decide (s.key = key)) hk h0 (by simpa using h1)
  rcases findS_get l key with ⟨h2, _⟩ | ⟨j, hj, h2, h3, _⟩
  · unfold findS at h2; omega
  · unfold findS at h2
    obtain rfl : j = k := by omega
    exact h3
theorem getS_miss {l : List Splt} {key : ByteArray} (h : l.any (fun s => decide (s.key = key)) = false) : getS l key = none := by
  have := idxF_none h
  rcases findS_get l key with ⟨_, h2⟩ | ⟨j, hj, h2, h3, _⟩
  · exact h2
  · unfold findS at h2; omega
set_option maxHeartbeats 4000000 in
set_option maxRecDepth 100000 in
theorem splitterOf_any (v1 v2 : Value) (l : List Splt) (key : ByteArray) (w : World) (h : Arr Splt.cells 4 w l v1) : Calls Tryz.prog 37 #[.agg #[v1, v2], .string key] w
    fun e w' => e = .returned (.tuple #[.agg #[.string ((getS l key).getD eSplt).key, .int .i64 ((getS l key).getD eSplt).ways, .string ((getS l key).getD eSplt).par, .int .i64 ((getS l key).getD eSplt).port], .bool (getS l key).isSome]) ∧ Below w.heap.size w w' := by
  obtain ⟨a, cap, rfl, hcap, hmax, hc⟩ := h
  have hlen : l.length ≤ maxLen := by omega
  unfold maxLen at hlen hmax
  go_enter Tryz.func37, Tryz.ntmps37
  go_wp2
  go_loopw [11] (fun i wr => ∃ k : Nat, k ≤ l.length ∧ i = .int .i64 k ∧ (l.take k).any (fun s => decide (s.key = key)) = false ∧ Below (w.heap.size + 2) ((w.alloc (.cells #[.slice a l.length cap, v2] 29)).alloc (.cells #[.string ⟨#[]⟩, .int .i64 0, .string ⟨#[]⟩, .int .i64 0] 58)) wr) (fun i _ => l.length - (intOf i).toNat)
  case atStart => exact ⟨0, by omega, rfl, rfl, Below.refl _ _⟩
  case round =>
    obtain ⟨k, hk, rfl, hz, hB⟩ := hrel
    have hsz := hB.size
    simp only [World.size_alloc] at hsz
    have hr : Blk wr (w.heap.size + 1) #[.string ⟨#[]⟩, .int .i64 0, .string ⟨#[]⟩, .int .i64 0] 58 := (Blk.newAt (by simp)).below hB (by simp)
    have hBw : Below w.heap.size w wr := below_at (below_alloc (below_alloc (Below.refl _ _) _ (Nat.le_refl _)) _ (by simp)) hB (by omega)
    have HR := Lib.hid (And.intro hz (And.intro hB (And.intro hr hBw)))
    have z0 := hr.cell 0 (.string ⟨#[]⟩) rfl
    have z1 := hr.cell 1 (.int .i64 0) rfl
    have z2 := hr.cell 2 (.string ⟨#[]⟩) rfl
    have z3 := hr.cell 3 (.int .i64 0) rfl
    have zf := fun o => hr.free o
    have hl1 : w.heap.size + 1 < wr.heap.size := hr.lt
    clear hz hB hr hBw
    by_cases hlt : k < l.length
    · obtain ⟨b, off, rfl, hb, hcc⟩ := hc k hlt
      obtain ⟨c0, c1, c2, c3⟩ := splt_at hcc
      replace c0 := (HR.out.2.2.2.cell (p := ⟨b, _, none⟩) hb).trans c0
      replace c1 := (HR.out.2.2.2.cell (p := ⟨b, _, none⟩) hb).trans c1
      replace c2 := (HR.out.2.2.2.cell (p := ⟨b, _, none⟩) hb).trans c2
      replace c3 := (HR.out.2.2.2.cell (p := ⟨b, _, none⟩) hb).trans c3
      clear hc hcc
      by_cases hx : l[k].key = key
      · have hx' : (l[k].key.toList == key.toList) = true := by simp [hx]
        have HG := Lib.hid (getS_hit hlt HR.out.1 hx)
        clear hx
        go_wp2
        refine bodyPost_ret (v := .tuple #[.agg #[.string l[k].key, .int .i64 l[k].ways, .string l[k].par, .int .i64 l[k].port], .bool true]) ?_ rfl ⟨?_, ?_⟩
        · have hf := ((((HR.out.2.2.1.set 0 (.string l[k].key)).set 1 (.int .i64 l[k].ways)).set 2 (.string l[k].par)).set 3 (.int .i64 l[k].port)).alloc (.cells #[.string l[k].key, .int .i64 l[k].ways, .string l[k].par, .int .i64 l[k].port] 58)
          have y0 := hf.cell 0 (.string l[k].key) rfl
          have y1 := hf.cell 1 (.int .i64 l[k].ways) rfl
          have y2 := hf.cell 2 (.string l[k].par) rfl
          have y3 := hf.cell 3 (.int .i64 l[k].port) rfl
          simp [results, go_sem, y0, y1, y2, y3]
        · rw [HG.out]; rfl
        · have hh := HR.out.2.2.2
          (repeat (first | exact Below.refl _ _ | assumption | refine below_draws ?_ _ | refine Below.drew ?_ | refine below_alloc ?_ _ (by first | omega | (simp; done) | (simp; omega)) | refine Below.setCell ?_ (by first | omega | (simp; done) | (simp; omega)) _ | refine below_at ?_ (by assumption) (by first | omega | (simp; done) | (simp; omega))))
      · have hx' : (l[k].key.toList == key.toList) = false := by
          cases h : (l[k].key.toList == key.toList)
          · rfl
          · exact absurd (strB_iff.1 h) hx
        have HT : Hid ((l.take (k + 1)).any (fun s => decide (s.key = key)) = false) := by rw [any_take_succ _ l k hlt HR.out.1]; exact decide_eq_false hx
        clear hx
        go_wp2
        exact ⟨⟨k + 1, by omega, by go_num, HT.out, below_alloc HR.out.2.1 _ (by omega)⟩, by simp [intOf]; omega⟩
    · have HG := Lib.hid (getS_miss (any_take_all (by omega) HR.out.1))
      go_wp2
      refine bodyPost_ret (v := .tuple #[.agg #[.string eSplt.key, .int .i64 eSplt.ways, .string eSplt.par, .int .i64 eSplt.port], .bool false]) ?_ rfl ⟨?_, ?_⟩
      · simp [results, go_sem, z0, z1, z2, z3, eSplt]
      · rw [HG.out]; rfl
      · have hh := HR.out.2.2.2
        (repeat (first | exact Below.refl _ _ | assumption | refine below_draws ?_ _ | refine Below.drew ?_ | refine below_alloc ?_ _ (by first | omega | (simp; done) | (simp; omega)) | refine Below.setCell ?_ (by first | omega | (simp; done) | (simp; omega)) _ | refine below_at ?_ (by assumption) (by first | omega | (simp; done) | (simp; omega))))
end Go.Proofs.YtcecpodbmjghhaaGreat
/- Walk of the reference: what is wrong with the splitters of a tree. -/
namespace Go.Proofs.YtcecpodbmjghhaaGreat
open Go Go.RowKit
theorem in_ways (n : Int) : (!outB (dbl n) 1 7) = waysB n := by
  have := dbl_le n
  unfold outB waysB
  by_cases h : 1 ≤ dbl n
  · simp [h]; omega
  · simp [h]
theorem strB_dec (a b : ByteArray) : strB a b = decide (a = b) := by
  rw [Bool.eq_iff_iff, strB_iff, decide_eq_true_iff]
theorem rdupAt_strB (l : List Splt) (k : Nat) (hk : k < l.length) : rdupAt l k = (decide (l[k].par.size ≠ 0) && (l.take k).any (fun x => strB x.par l[k].par && decide (x.port = l[k].port))) := by
  unfold rdupAt
  rw [List.getElem?_eq_getElem hk]
  simp only [strB_dec]
set_option maxHeartbeats 1000000 in
theorem spltClos_any (y x : Splt) (b : Nat) (w : World) (k : Blk w b #[.string x.key, .int .i64 x.ways, .string x.par, .int .i64 x.port] 58) :
    Calls Tryz.prog 90 (#[.agg ⟨Splt.cells y⟩] ++ #[.pointer (some ⟨b, 0, none⟩)]) w fun e w' => e = .returned (.bool (strB y.par x.par && decide (y.port = x.port))) ∧ Below w.heap.size w w' := by
  have hb := k.lt
  have c2 := k.cell 2 _ rfl
  have c3 := k.cell 3 _ rfl
  show Calls Tryz.prog 90 #[.agg #[.string y.key, .int .i64 y.ways, .string y.par, .int .i64 y.port], .pointer (some ⟨b, 0, none⟩)] w _
  cases hs : strB y.par x.par
  · have hs' : (y.par.toList == x.par.toList) = false := hs
    have HS := Lib.hid hs
    clear hs
    go_enter Tryz.func90, Tryz.ntmps90
    go_wp2
    go_ret
    exact ⟨by rfl, by (repeat (first | exact Below.refl _ _ | assumption | refine below_draws ?_ _ | refine Below.drew ?_ | refine below_alloc ?_ _ (by first | omega | (simp; done) | (simp; omega)) | refine Below.setCell ?_ (by first | omega | (simp; done) | (simp; omega)) _ | refine below_at ?_ (by assumption) (by first | omega | (simp; done) | (simp; omega))))⟩
  · have hs' : (y.par.toList == x.par.toList) = true := hs
    have HS := Lib.hid hs
    clear hs
    have hd : (y.port == x.port) = decide (y.port = x.port) := by rw [Bool.eq_iff_iff]; simp
    have HD := Lib.hid hd
    clear hd
    go_enter Tryz.func90, Tryz.ntmps90
    go_wp2
    go_ret
    exact ⟨ret_bool (by simp [HD.out]), by (repeat (first | exact Below.refl _ _ | assumption | refine below_draws ?_ _ | refine Below.drew ?_ | refine below_alloc ?_ _ (by first | omega | (simp; done) | (simp; omega)) | refine Below.setCell ?_ (by first | omega | (simp; done) | (simp; omega)) _ | refine below_at ?_ (by assumption) (by first | omega | (simp; done) | (simp; omega))))⟩
set_option maxHeartbeats 8000000 in
set_option maxRecDepth 100000 in
theorem rsplittersFault_any (v1 v2 : Value) (l : List Splt) (w : World) (h : Arr Splt.cells 4 w l v1) : Calls Tryz.prog 36 #[.agg #[v1, v2]] w
    fun e w' => e = .returned (.int .i64 (rsplF l)) ∧ Below w.heap.size w w' := by
  have hA := h
  obtain ⟨a, cap, rfl, hcap, hmax, hc⟩ := h
  unfold maxLen at hmax
  have HA := Lib.hid hA
  have HC := Lib.hid hc
  clear hA hc
  have hbx : Blk (w.alloc (.cells #[.slice a l.length cap, v2] 29)) w.heap.size #[.slice a l.length cap, v2] 29 := Blk.new _ _ _
  have HBX := Lib.hid hbx
  clear hbx
  by_cases hbig : 500 < l.length
  · have hR : rsplF l = 2 := by unfold rsplF; rw [if_pos hbig]
    have HR := Lib.hid hR
    clear hR
    go_enter Tryz.func36, Tryz.ntmps36
    go_wp2
    go_ret
    exact ⟨ret_int HR.out.symm, by (repeat (first | exact Below.refl _ _ | assumption | refine below_draws ?_ _ | refine Below.drew ?_ | refine below_alloc ?_ _ (by first | omega | (simp; done) | (simp; omega)) | refine Below.setCell ?_ (by first | omega | (simp; done) | (simp; omega)) _ | refine below_at ?_ (by assumption) (by first | omega | (simp; done) | (simp; omega))))⟩
  have hl5 : l.length ≤ 500 := by omega
  go_enter Tryz.func36, Tryz.ntmps36
  go_wp2
  go_loopw [21] (fun i wr => ∃ k : Nat, k ≤ l.length ∧ i = .int .i64 k ∧ faultAt (spltFault l) k = 0 ∧ Below (w.heap.size + 1) (w.alloc (.cells #[.slice a l.length cap, v2] 29)) wr) (fun i _ => l.length - (intOf i).toNat)
  case atStart => exact ⟨0, by omega, rfl, rfl, Below.refl _ _⟩
  case round =>
    obtain ⟨k, hk, rfl, hz, hB⟩ := hrel
    have hsz := hB.size
    simp only [World.size_alloc] at hsz
    have hBw : Below w.heap.size w wr := below_at (below_alloc (Below.refl _ _) _ (Nat.le_refl _)) hB (by omega)
    have hbw := HBX.out.below hB (by omega)
    have t0 := hbw.cell 0 _ rfl
    have t1 := hbw.cell 1 _ rfl
    have HS := Lib.hid (And.intro hz (And.intro hB (And.intro hBw hbw)))
    have hlt0 : w.heap.size < wr.heap.size := by omega
    clear hz hB hBw hbw
    by_cases hlt : k < l.length
    · obtain ⟨b, off, rfl, hb, hcc⟩ := HC.out k hlt
      obtain ⟨c0, c1, c2, c3⟩ := splt_at hcc
      replace c0 := (HS.out.2.2.1.cell (p := ⟨b, _, none⟩) hb).trans c0
      replace c1 := (HS.out.2.2.1.cell (p := ⟨b, _, none⟩) hb).trans c1
      replace c2 := (HS.out.2.2.1.cell (p := ⟨b, _, none⟩) hb).trans c2
      replace c3 := (HS.out.2.2.1.cell (p := ⟨b, _, none⟩) hb).trans c3
      clear hcc
      have HFF : Hid (∀ n : Int, n ≠ 0 → spltFault l k = n → Hid (rsplF l = n)) := fun n hn hp => by
        have h1 := faultAt_hit hlt HS.out.1 (by rw [hp]; exact hn)
        unfold rsplF
        rw [if_neg hbig, h1, if_pos (by rw [hp]; exact hn), hp]
        exact rfl
      have HDK := Lib.hid (spltFault_in hlt)
      have HW := Lib.hid (in_ways l[k].ways)
      have hB8 : Below w.heap.size w (wr.alloc (.cells #[.string l[k].key, .int .i64 l[k].ways, .string l[k].par, .int .i64 l[k].port] 58)) := by have h3 := HS.out.2.2.1; (repeat (first | exact Below.refl _ _ | assumption | refine below_draws ?_ _ | refine Below.drew ?_ | refine below_alloc ?_ _ (by first | omega | (simp; done) | (simp; omega)) | refine Below.setCell ?_ (by first | omega | (simp; done) | (simp; omega)) _ | refine below_at ?_ (by assumption) (by first | omega | (simp; done) | (simp; omega))))
      have HB8 := Lib.hid hB8
      clear hB8
      cases hkey : keyB l[k].key
      · have HR9 := HFF.out 5 (by omega) (by rw [HDK.out, if_pos hkey])
        go_wp2_with (first | (go_at_call 38; refine (rkey_any _ _).mono ?_; rintro e w' ⟨rfl, rfl⟩) | (go_at_call 39; refine (rin_any _ _ _ _).mono ?_; rintro e w' ⟨rfl, rfl⟩; rw [HW.out]))
        go_ret
        exact ⟨ret_int HR9.out.symm, HB8.out⟩
      go_wp2_with (first | (go_at_call 38; refine (rkey_any _ _).mono ?_; rintro e w' ⟨rfl, rfl⟩) | (go_at_call 39; refine (rin_any _ _ _ _).mono ?_; rintro e w' ⟨rfl, rfl⟩; rw [HW.out]))
      refine (doublings_any _ _).mono ?_
      rintro e w1 ⟨rfl, hb1⟩
      have hz1 : wr.heap.size + 1 ≤ w1.heap.size := by have := hb1.size; simpa using this
      have S1 : CSt w wr.heap.size (.slice (some ⟨b, off, none⟩) l.length cap) v2 l[k] w1 := ⟨below_at HB8.out hb1 (by simp; omega), (HS.out.2.2.2.alloc _).below hb1 (by simp; omega), (Blk.new wr _ _).below hb1 (by simp)⟩
      have hBb : Below (w.heap.size + 1) (w.alloc (.cells #[.slice (some ⟨b, off, none⟩) l.length cap, v2] 29)) w1 := below_at (below_alloc HS.out.2.1 _ (by omega)) hb1 (by simp; omega)
      have H1 := Lib.hid (And.intro S1 hBb)
      clear hb1 S1 hBb t0 t1 c0 c1 c2 c3
      have p0 := H1.out.1.bx.cell 0 _ rfl; have p1 := H1.out.1.bx.cell 1 _ rfl; have x0 := H1.out.1.xx.cell 0 _ rfl; have x1 := H1.out.1.xx.cell 1 _ rfl; have x2 := H1.out.1.xx.cell 2 _ rfl; have x3 := H1.out.1.xx.cell 3 _ rfl; have l1 := H1.out.1.bx.lt; have l2 := H1.out.1.xx.lt
      cases hway : waysB l[k].ways
      · have HR9 := HFF.out 1 (by omega) (by rw [HDK.out, if_neg (by simp [hkey]), if_pos hway])
        go_wp2_with (first | (go_at_call 38; refine (rkey_any _ _).mono ?_; rintro e w' ⟨rfl, rfl⟩) | (go_at_call 39; refine (rin_any _ _ _ _).mono ?_; rintro e w' ⟨rfl, rfl⟩; rw [HW.out]))
        go_ret
        exact ⟨ret_int HR9.out.symm, H1.out.1.b2⟩
      rcases (show (l[k].par.size = 0 ∧ l[k].port ≠ 0) ∨ (l[k].par.size = 0 ∧ l[k].port = 0) ∨ l[k].par.size ≠ 0 by omega) with ⟨g1, g2⟩ | hgood
      · have HR9 := HFF.out 3 (by omega) (by rw [HDK.out, if_neg (by simp [hkey]), if_neg (by simp [hway]), if_pos ⟨g1, g2⟩])
        have he : l[k].par.toList.isEmpty = true := by rw [isEmpty_size]; simp [g1]
        have hp : (l[k].port != 0) = true := by simp [g2]
        clear g1 g2
        go_wp2_with (first | (go_at_call 38; refine (rkey_any _ _).mono ?_; rintro e w' ⟨rfl, rfl⟩) | (go_at_call 39; refine (rin_any _ _ _ _).mono ?_; rintro e w' ⟨rfl, rfl⟩; rw [HW.out]))
        go_ret
        exact ⟨ret_int HR9.out.symm, H1.out.1.b2⟩
      have hdk2 : spltFault l k = if 0 < k ∧ leB l[k].key (l[k - 1]?.getD default).key = true then 7 else 0 := by
        rw [HDK.out, if_neg (by simp [hkey]), if_neg (by simp [hway]), if_neg (by omega)]
      have HDK2 := Lib.hid hdk2
      clear hdk2
      have hgo : (l[k].par.toList.isEmpty = true ∧ (l[k].port != 0) = false) ∨ l[k].par.toList.isEmpty = false := by
        rcases hgood with ⟨g1, g2⟩ | g1
        · exact .inl ⟨by rw [isEmpty_size]; simp [g1], by simp [g2]⟩
        · exact .inr (by rw [isEmpty_size]; simp [g1])
      clear hgood
      by_cases hk0 : k = 0
      · have hd0 : decide ((0 : Int) < (k : Int)) = false := by simp; omega
        have hd1 : decide (0 < k) = false := by simp; omega
        have HN : Hid (faultAt (spltFault l) (k + 1) = 0) := by rw [faultAt_succ HS.out.1, HDK2.out, if_neg (by omega)]; exact rfl
        clear hk0
        rcases hgo with ⟨he, hp⟩ | he
        all_goals
          go_wp2_with (first | (go_at_call 38; refine (rkey_any _ _).mono ?_; rintro e w' ⟨rfl, rfl⟩) | (go_at_call 39; refine (rin_any _ _ _ _).mono ?_; rintro e w' ⟨rfl, rfl⟩; rw [HW.out]))
          go_quiet (fail)
          go_wp2
          exact ⟨⟨k + 1, by omega, by go_num, HN.out, below_draws H1.out.2 _⟩, by simp [intOf]; omega⟩
      · have hd0 : decide ((0 : Int) < (k : Int)) = true := by simp; omega
        have hd1 : decide (0 < k) = true := by simp; omega
        have hk1 : 1 ≤ k := by omega
        have hpl : k - 1 < l.length := by omega
        have hpg : (l[k - 1]?.getD default) = l[k - 1] := by rw [List.getElem?_eq_getElem hpl]; rfl
        have HPG := Lib.hid hpg
        obtain ⟨b'', off'', hbe, hbb'', hcc⟩ := HC.out (k - 1) hpl
        obtain ⟨rfl, rfl⟩ : b = b'' ∧ off = off'' := by simpa using hbe
        obtain ⟨e0, -, -, -⟩ := splt_at hcc
        replace e0 := (H1.out.1.b2.cell (p := ⟨b, _, none⟩) hb).trans e0
        clear hcc hbe hpg hk0
        have hi1 : (0 : Int) ≤ (k : Int) - 1 := by omega
        have hi2 : (k : Int) - 1 < (l.length : Int) := by omega
        have hbsz : b < w1.heap.size := Nat.lt_of_lt_of_le hb (by omega)
        cases hle : leB l[k].key l[k - 1].key
        · have HN : Hid (faultAt (spltFault l) (k + 1) = 0) := by
            rw [faultAt_succ HS.out.1, HDK2.out, HPG.out, if_neg (by simp [hle])]; exact rfl
          have hle' : (Op.bytesLess l[k].key.toList l[k - 1].key.toList || l[k].key.toList == l[k - 1].key.toList) = false := hle
          clear hle
          rcases hgo with ⟨he, hp⟩ | he
          all_goals
            go_wp2_with (first | (go_at_call 38; refine (rkey_any _ _).mono ?_; rintro e w' ⟨rfl, rfl⟩) | (go_at_call 39; refine (rin_any _ _ _ _).mono ?_; rintro e w' ⟨rfl, rfl⟩; rw [HW.out]))
            go_quiet (fail)
            go_wp2
            exact ⟨⟨k + 1, by omega, by go_num, HN.out, below_draws H1.out.2 _⟩, by simp [intOf]; omega⟩
        · have HR9 := HFF.out 7 (by omega) (by rw [HDK2.out, HPG.out, if_pos ⟨by omega, hle⟩])
          have hle' : (Op.bytesLess l[k].key.toList l[k - 1].key.toList || l[k].key.toList == l[k - 1].key.toList) = true := hle
          clear hle
          rcases hgo with ⟨he, hp⟩ | he
          all_goals
            go_wp2_with (first | (go_at_call 38; refine (rkey_any _ _).mono ?_; rintro e w' ⟨rfl, rfl⟩) | (go_at_call 39; refine (rin_any _ _ _ _).mono ?_; rintro e w' ⟨rfl, rfl⟩; rw [HW.out]))
            go_quiet (fail)
            go_wp2
            go_ret
            exact ⟨ret_int HR9.out.symm, below_draws H1.out.1.b2 _⟩
    · obtain rfl : k = l.length := by omega
      have HZ1 := Lib.hid HS.out.1
      have HRR : Hid (rsplF l = if faultAt (parFault l) l.length ≠ 0 then faultAt (parFault l) l.length else if (List.range l.length).any (rdupAt l) then 6 else if l.any (rloopAt l) then 14 else 0) := by
        unfold rsplF; rw [if_neg hbig, HZ1.out, if_neg (by omega)]; exact rfl
      go_wp2
      obtain ⟨wo, rfl⟩ : ∃ wo : World, wo = wr := ⟨_, rfl⟩
      go_loopw [65] (fun i wr => ∃ k : Nat, k ≤ l.length ∧ i = .int .i64 k ∧ faultAt (parFault l) k = 0 ∧ Below (w.heap.size + 1) (w.alloc (.cells #[.slice a l.length cap, v2] 29)) wr) (fun i _ => l.length - (intOf i).toNat)
      case atStart => exact ⟨0, by omega, rfl, rfl, HS.out.2.1⟩
      case round =>
        clear HS t0 t1
        obtain ⟨k, hk, rfl, hz, hB⟩ := hrel
        have hsz := hB.size
        simp only [World.size_alloc] at hsz
        have hBw : Below w.heap.size w wr := below_at (below_alloc (Below.refl _ _) _ (Nat.le_refl _)) hB (by omega)
        have hbw := HBX.out.below hB (by omega)
        have t0 := hbw.cell 0 _ rfl
        have t1 := hbw.cell 1 _ rfl
        have HS := Lib.hid (And.intro hz (And.intro hB (And.intro hBw hbw)))
        have hlt0 : w.heap.size < wr.heap.size := by omega
        clear hz hB hBw hbw
        by_cases hlt : k < l.length
        · obtain ⟨b, off, rfl, hb, hcc⟩ := HC.out k hlt
          obtain ⟨c0, c1, c2, c3⟩ := splt_at hcc
          replace c0 := (HS.out.2.2.1.cell (p := ⟨b, _, none⟩) hb).trans c0
          replace c1 := (HS.out.2.2.1.cell (p := ⟨b, _, none⟩) hb).trans c1
          replace c2 := (HS.out.2.2.1.cell (p := ⟨b, _, none⟩) hb).trans c2
          replace c3 := (HS.out.2.2.1.cell (p := ⟨b, _, none⟩) hb).trans c3
          clear hcc
          have HFF : Hid (∀ n : Int, n ≠ 0 → parFault l k = n → Hid (rsplF l = n)) := fun n hn hp => by
            have h1 := faultAt_hit hlt HS.out.1 (by rw [hp]; exact hn)
            have h2 := HRR.out
            rw [h1, if_pos (by rw [hp]; exact hn), hp] at h2
            exact h2
          have HDK : Hid (parFault l k = if l[k].par.size = 0 then 0 else match getS l l[k].par with | none => 8 | some x => if outB l[k].port 1 x.ways then 1 else 0) := by
            unfold parFault; rw [List.getElem?_eq_getElem hlt]; exact rfl
          obtain ⟨r, hr⟩ : ∃ r, (getS l l[k].par).getD eSplt = r := ⟨_, rfl⟩
          obtain ⟨bs, hbs⟩ : ∃ bs, (getS l l[k].par).isSome = bs := ⟨_, rfl⟩
          go_wp2_with fail
          refine (splitterOf_any _ _ l l[k].par _ (by exact HA.out.below (by have h3 := HS.out.2.2.1; (repeat (first | exact Below.refl _ _ | assumption | refine below_draws ?_ _ | refine Below.drew ?_ | refine below_alloc ?_ _ (by first | omega | (simp; done) | (simp; omega)) | refine Below.setCell ?_ (by first | omega | (simp; done) | (simp; omega)) _ | refine below_at ?_ (by assumption) (by first | omega | (simp; done) | (simp; omega))))))).mono ?_
          rintro e w1 ⟨rfl, hb1⟩
          rw [hr, hbs]
          have hz1 : wr.heap.size + 1 ≤ w1.heap.size := by have := hb1.size; simpa using this
          have S1 : CSt w wr.heap.size (.slice (some ⟨b, off, none⟩) l.length cap) v2 l[k] w1 := ⟨by have h3 := HS.out.2.2.1; (repeat (first | exact Below.refl _ _ | assumption | refine below_draws ?_ _ | refine Below.drew ?_ | refine below_alloc ?_ _ (by first | omega | (simp; done) | (simp; omega)) | refine Below.setCell ?_ (by first | omega | (simp; done) | (simp; omega)) _ | refine below_at ?_ (by assumption) (by first | omega | (simp; done) | (simp; omega)))), (HS.out.2.2.2.alloc _).below hb1 (by simp; omega), (Blk.new wr _ _).below hb1 (by simp)⟩
          have hBb : Below (w.heap.size + 1) (w.alloc (.cells #[.slice (some ⟨b, off, none⟩) l.length cap, v2] 29)) w1 := below_at (below_alloc HS.out.2.1 _ (by omega)) hb1 (by simp; omega)
          have H1 := Lib.hid (And.intro S1 (And.intro hBb (And.intro hr hbs)))
          clear hb1 S1 hBb t0 t1 c0 c1 c2 c3 hr hbs
          have p0 := H1.out.1.bx.cell 0 _ rfl; have p1 := H1.out.1.bx.cell 1 _ rfl; have x0 := H1.out.1.xx.cell 0 _ rfl; have x1 := H1.out.1.xx.cell 1 _ rfl; have x2 := H1.out.1.xx.cell 2 _ rfl; have x3 := H1.out.1.xx.cell 3 _ rfl; have l1 := H1.out.1.bx.lt; have l2 := H1.out.1.xx.lt
          by_cases hp : l[k].par.size = 0
          · have he : l[k].par.toList.isEmpty = true := by rw [isEmpty_size]; simp [hp]
            have HN : Hid (faultAt (parFault l) (k + 1) = 0) := by rw [faultAt_succ HS.out.1, HDK.out, if_pos hp]; exact rfl
            clear hp
            go_wp2
            exact ⟨⟨k + 1, by omega, by go_num, HN.out, below_alloc H1.out.2.1 _ (by omega)⟩, by simp [intOf]; omega⟩
          · have he : l[k].par.toList.isEmpty = false := by rw [isEmpty_size]; simp [hp]
            have HP := Lib.hid hp
            clear hp
            cases bs
            · have HR9 := HFF.out 8 (by omega) (by
                rw [HDK.out, if_neg HP.out]
                have := H1.out.2.2.2
                cases h : getS l l[k].par with
                | none => rfl
                | some x => rw [h] at this; cases this)
              go_wp2
              go_ret
              exact ⟨ret_int HR9.out.symm, by have h3 := H1.out.1.b2; (repeat (first | exact Below.refl _ _ | assumption | refine below_draws ?_ _ | refine Below.drew ?_ | refine below_alloc ?_ _ (by first | omega | (simp; done) | (simp; omega)) | refine Below.setCell ?_ (by first | omega | (simp; done) | (simp; omega)) _ | refine below_at ?_ (by assumption) (by first | omega | (simp; done) | (simp; omega))))⟩
            · have hpf : parFault l k = if outB l[k].port 1 r.ways then 1 else 0 := by
                rw [HDK.out, if_neg HP.out]
                have h1 := H1.out.2.2.2
                have h2 := H1.out.2.2.1
                cases h : getS l l[k].par with
                | none => rw [h] at h1; cases h1
                | some x => rw [h] at h2; simp only [Option.getD_some] at h2; subst h2; rfl
              cases ho : outB l[k].port 1 r.ways
              · have HN : Hid (faultAt (parFault l) (k + 1) = 0) := by rw [faultAt_succ HS.out.1, hpf, ho]; exact rfl
                have HO := Lib.hid ho
                clear hpf ho
                go_wp2_with (go_at_call 39; refine (rin_any _ _ _ _).mono ?_; rintro e w' ⟨rfl, rfl⟩; rw [HO.out])
                exact ⟨⟨k + 1, by omega, by go_num, HN.out, below_alloc H1.out.2.1 _ (by omega)⟩, by simp [intOf]; omega⟩
              · have HR9 := HFF.out 1 (by omega) (by rw [hpf, ho]; rfl)
                have HO := Lib.hid ho
                clear hpf ho
                go_wp2_with (go_at_call 39; refine (rin_any _ _ _ _).mono ?_; rintro e w' ⟨rfl, rfl⟩; rw [HO.out])
                go_ret
                exact ⟨ret_int HR9.out.symm, by have h3 := H1.out.1.b2; (repeat (first | exact Below.refl _ _ | assumption | refine below_draws ?_ _ | refine Below.drew ?_ | refine below_alloc ?_ _ (by first | omega | (simp; done) | (simp; omega)) | refine Below.setCell ?_ (by first | omega | (simp; done) | (simp; omega)) _ | refine below_at ?_ (by assumption) (by first | omega | (simp; done) | (simp; omega))))⟩
        · obtain rfl : k = l.length := by omega
          have HZ2 := Lib.hid HS.out.1
          have HR2 : Hid (rsplF l = if (List.range l.length).any (rdupAt l) then 6 else if l.any (rloopAt l) then 14 else 0) := by
            have h2 := HRR.out
            rw [HZ2.out, if_neg (by omega)] at h2
            exact h2
          clear HRR
          have HF := Lib.hid (run_fn Tryz.func90 (by kernel_rfl) rfl)
          go_wp2
          obtain ⟨wo, rfl⟩ : ∃ wo : World, wo = wr := ⟨_, rfl⟩
          go_loopw [94] (fun i wr => ∃ k : Nat, k ≤ l.length ∧ i = .int .i64 k ∧ (List.range k).any (rdupAt l) = false ∧ Below (w.heap.size + 1) (w.alloc (.cells #[.slice a l.length cap, v2] 29)) wr) (fun i _ => l.length - (intOf i).toNat)
          case atStart => exact ⟨0, by omega, rfl, rfl, HS.out.2.1⟩
          case round =>
            clear HS t0 t1
            obtain ⟨k, hk, rfl, hz, hB⟩ := hrel
            have hsz := hB.size
            simp only [World.size_alloc] at hsz
            have hBw : Below w.heap.size w wr := below_at (below_alloc (Below.refl _ _) _ (Nat.le_refl _)) hB (by omega)
            have hbw := HBX.out.below hB (by omega)
            have t0 := hbw.cell 0 _ rfl
            have t1 := hbw.cell 1 _ rfl
            have HS := Lib.hid (And.intro hz (And.intro hB (And.intro hBw hbw)))
            have hlt0 : w.heap.size < wr.heap.size := by omega
            clear hz hB hBw hbw
            by_cases hlt : k < l.length
            · obtain ⟨b, off, rfl, hb, hcc⟩ := HC.out k hlt
              obtain ⟨c0, c1, c2, c3⟩ := splt_at hcc
              replace c0 := (HS.out.2.2.1.cell (p := ⟨b, _, none⟩) hb).trans c0
              replace c1 := (HS.out.2.2.1.cell (p := ⟨b, _, none⟩) hb).trans c1
              replace c2 := (HS.out.2.2.1.cell (p := ⟨b, _, none⟩) hb).trans c2
              replace c3 := (HS.out.2.2.1.cell (p := ⟨b, _, none⟩) hb).trans c3
              clear hcc
              have HDU := Lib.hid (rdupAt_strB l k hlt)
              have HRS : Hid ((List.range (k + 1)).any (rdupAt l) = rdupAt l k) := by
                rw [List.range_succ, List.any_append, HS.out.1]; simp [Hid]
              by_cases hp : l[k].par.size = 0
              · have he : l[k].par.toList.isEmpty = true := by rw [isEmpty_size]; simp [hp]
                have HN : Hid ((List.range (k + 1)).any (rdupAt l) = false) := by rw [HRS.out, HDU.out]; simp [hp, Hid]
                clear hp
                go_wp2
                exact ⟨⟨k + 1, by omega, by go_num, HN.out, below_alloc HS.out.2.1 _ (by omega)⟩, by simp [intOf]; omega⟩
              · have he : l[k].par.toList.isEmpty = false := by rw [isEmpty_size]; simp [hp]
                have HP := Lib.hid hp
                clear hp
                go_wp2_with fail
                refine (containsFunc_splt _ (l.take k) (fun y => strB y.par l[k].par && decide (y.port = l[k].port)) 90 #[.pointer (some ⟨wr.heap.size, 0, none⟩)] _ ?_ HF.out ?_).mono ?_
                · exact (HA.out.below (by have h3 := HS.out.2.2.1; (repeat (first | exact Below.refl _ _ | assumption | refine below_draws ?_ _ | refine Below.drew ?_ | refine below_alloc ?_ _ (by first | omega | (simp; done) | (simp; omega)) | refine Below.setCell ?_ (by first | omega | (simp; done) | (simp; omega)) _ | refine below_at ?_ (by assumption) (by first | omega | (simp; done) | (simp; omega)))))).take k hk
                · intro y w' hy hbw
                  exact (spltClos_any y l[k] wr.heap.size w' ((Blk.new wr _ _).below hbw (by simp))).mono fun e w'' h => h
                rintro e w1 ⟨rfl, hb1⟩
                have hz1 : wr.heap.size + 1 ≤ w1.heap.size := by have := hb1.size; simpa using this
                have hBb : Below (w.heap.size + 1) (w.alloc (.cells #[.slice (some ⟨b, off, none⟩) l.length cap, v2] 29)) w1 := below_at (below_alloc HS.out.2.1 _ (by omega)) hb1 (by simp; omega)
                have hB2 : Below w.heap.size w w1 := by have h3 := HS.out.2.2.1; (repeat (first | exact Below.refl _ _ | assumption | refine below_draws ?_ _ | refine Below.drew ?_ | refine below_alloc ?_ _ (by first | omega | (simp; done) | (simp; omega)) | refine Below.setCell ?_ (by first | omega | (simp; done) | (simp; omega)) _ | refine below_at ?_ (by assumption) (by first | omega | (simp; done) | (simp; omega))))
                have H1 := Lib.hid (And.intro hBb hB2)
                clear hb1 hBb hB2
                have hdu : rdupAt l k = (l.take k).any (fun y => strB y.par l[k].par && decide (y.port = l[k].port)) := by rw [HDU.out]; simp [HP.out]
                cases hq : (l.take k).any (fun y => strB y.par l[k].par && decide (y.port = l[k].port))
                · have HN : Hid ((List.range (k + 1)).any (rdupAt l) = false) := by rw [HRS.out, hdu]; exact hq
                  clear hdu hq
                  go_wp2
                  exact ⟨⟨k + 1, by omega, by go_num, HN.out, H1.out.1⟩, by simp [intOf]; omega⟩
                · have HR9 : Hid (rsplF l = 6) := by
                    rw [HR2.out, if_pos]
                    · exact rfl
                    · exact List.any_eq_true.2 ⟨k, by simpa using hlt, by rw [hdu]; exact hq⟩
                  clear hdu hq
                  go_wp2
                  go_ret
                  exact ⟨ret_int HR9.out.symm, H1.out.2⟩
            · obtain rfl : k = l.length := by omega
              have HR3 : Hid (rsplF l = if l.any (rloopAt l) then 14 else 0) := by
                have h2 := HR2.out
                rw [HS.out.1, if_neg (by simp)] at h2
                exact h2
              clear HR2
              go_wp2
              obtain ⟨wo, rfl⟩ : ∃ wo : World, wo = wr := ⟨_, rfl⟩
              go_loopw [114] (fun i wr => ∃ k : Nat, k ≤ l.length ∧ i = .int .i64 k ∧ (l.take k).any (rloopAt l) = false ∧ Below (w.heap.size + 1) (w.alloc (.cells #[.slice a l.length cap, v2] 29)) wr) (fun i _ => l.length - (intOf i).toNat)
              case atStart => exact ⟨0, by omega, rfl, rfl, HS.out.2.1⟩
              case round =>
                clear HS t0 t1
                obtain ⟨k, hk, rfl, hz, hB⟩ := hrel
                have hsz := hB.size
                simp only [World.size_alloc] at hsz
                have hBw : Below w.heap.size w wr := below_at (below_alloc (Below.refl _ _) _ (Nat.le_refl _)) hB (by omega)
                have hbw := HBX.out.below hB (by omega)
                have t0 := hbw.cell 0 _ rfl
                have t1 := hbw.cell 1 _ rfl
                have HS := Lib.hid (And.intro hz (And.intro hB (And.intro hBw hbw)))
                have hlt0 : w.heap.size < wr.heap.size := by omega
                clear hz hB hBw hbw
                by_cases hlt : k < l.length
                · obtain ⟨b, off, rfl, hb, hcc⟩ := HC.out k hlt
                  obtain ⟨c0, c1, c2, c3⟩ := splt_at hcc
                  replace c0 := (HS.out.2.2.1.cell (p := ⟨b, _, none⟩) hb).trans c0
                  replace c1 := (HS.out.2.2.1.cell (p := ⟨b, _, none⟩) hb).trans c1
                  replace c2 := (HS.out.2.2.1.cell (p := ⟨b, _, none⟩) hb).trans c2
                  replace c3 := (HS.out.2.2.1.cell (p := ⟨b, _, none⟩) hb).trans c3
                  clear hcc
                  go_wp2
                  obtain ⟨wp, rfl⟩ : ∃ wp : World, wp = wr := ⟨_, rfl⟩
                  go_loopw [122] (fun i wr => ∃ j : Nat, j ≤ l.length ∧ i = .int .i64 j ∧ Blk wr (wp.heap.size + 1) #[.string (upRN l j l[k]).key, .int .i64 (upRN l j l[k]).ways, .string (upRN l j l[k]).par, .int .i64 (upRN l j l[k]).port] 58 ∧ Below (w.heap.size + 1) (w.alloc (.cells #[.slice (some ⟨b, off, none⟩) l.length cap, v2] 29)) wr) (fun i _ => l.length - (intOf i).toNat)
                  case atStart => exact ⟨0, by omega, rfl, Blk.newAt (by simp), below_alloc (below_alloc HS.out.2.1 _ (by omega)) _ (by simp; omega)⟩
                  case round =>
                    obtain ⟨j, hj, rfl, hX, hB⟩ := hrel
                    have hXs := hX.lt
                    have hBw : Below w.heap.size w wr := below_at (below_alloc (Below.refl _ _) _ (Nat.le_refl _)) hB (by omega)
                    have hbw := HBX.out.below hB (by omega)
                    have q0 := hbw.cell 0 _ rfl
                    have q1 := hbw.cell 1 _ rfl
                    have x0 := hX.cell 0 _ rfl
                    have x1 := hX.cell 1 _ rfl
                    have x2 := hX.cell 2 _ rfl
                    have x3 := hX.cell 3 _ rfl
                    have HI := Lib.hid (And.intro hX (And.intro hB (And.intro hBw hbw)))
                    have hlt1 : w.heap.size < wr.heap.size := by omega
                    clear hX hB hBw hbw t0 t1 c0 c1 c2 c3
                    by_cases hjn : j < l.length
                    · go_wp2_with fail
                      refine (splitterOf_any _ _ l (upRN l j l[k]).par _ (by exact HA.out.below (by have h3 := HI.out.2.2.1; (repeat (first | exact Below.refl _ _ | assumption | refine below_draws ?_ _ | refine Below.drew ?_ | refine below_alloc ?_ _ (by first | omega | (simp; done) | (simp; omega)) | refine Below.setCell ?_ (by first | omega | (simp; done) | (simp; omega)) _ | refine below_at ?_ (by assumption) (by first | omega | (simp; done) | (simp; omega))))))).mono ?_
                      rintro e w5 ⟨rfl, hb5⟩
                      have hr : (getS l (upRN l j l[k]).par).getD eSplt = upRN l (j + 1) l[k] := rfl
                      rw [hr]
                      have hz5 : wr.heap.size ≤ w5.heap.size := hb5.size
                      have hX5 := HI.out.1.below hb5 (by omega)
                      have hB5 : Below (w.heap.size + 1) (w.alloc (.cells #[.slice (some ⟨b, off, none⟩) l.length cap, v2] 29)) w5 := below_at HI.out.2.1 hb5 (by omega)
                      have H5 := Lib.hid (And.intro hX5 hB5)
                      generalize (getS l (upRN l j l[k]).par).isSome = bs at *
                      clear hr x0 x1 x2 x3 q0 q1 hb5
                      have x0 := hX5.cell 0 _ rfl
                      have x1 := hX5.cell 1 _ rfl
                      have x2 := hX5.cell 2 _ rfl
                      have x3 := hX5.cell 3 _ rfl
                      have xf := fun o => hX5.free o
                      clear hX5 hB5
                      go_wp2
                      refine ⟨⟨j + 1, by omega, by go_num, ?_, ?_⟩, by simp [intOf]; omega⟩
                      · exact (((H5.out.1.set 0 _).set 1 _).set 2 _).set 3 _
                      · exact Below.setCell (Below.setCell (Below.setCell (Below.setCell H5.out.2 (by simp; omega) _) (by simp; omega) _) (by simp; omega) _) (by simp; omega) _
                    · obtain rfl : j = l.length := by omega
                      by_cases hlp : (upRN l l.length l[k]).key.size = 0
                      · have he : (upRN l l.length l[k]).key.toList.isEmpty = true := by rw [isEmpty_size]; simp [hlp]
                        have HE : Hid ((l.take (k + 1)).any (rloopAt l) = false) := by rw [any_take_succ _ l k hlt HS.out.1]; unfold rloopAt; exact decide_eq_false (fun h => h hlp)
                        clear hlp
                        go_wp2
                        exact ⟨⟨k + 1, by omega, by go_num, HE.out, HI.out.2.1⟩, by simp [intOf]; omega⟩
                      · have he : (upRN l l.length l[k]).key.toList.isEmpty = false := by rw [isEmpty_size]; simp [hlp]
                        have HFi : Hid (rsplF l = 14) := by
                          rw [HR3.out, if_pos]
                          · exact rfl
                          · exact List.any_eq_true.2 ⟨l[k], List.getElem_mem _, by unfold rloopAt; exact decide_eq_true hlp⟩
                        clear hlp
                        go_wp2
                        go_ret
                        exact ⟨ret_int HFi.out.symm, HI.out.2.2.1⟩
                · obtain rfl : k = l.length := by omega
                  have HFi : Hid (rsplF l = 0) := by
                    have h1 := HS.out.1
                    rw [List.take_of_length_le (Nat.le_refl _)] at h1
                    rw [HR3.out, h1, if_neg (by simp)]; exact rfl
                  go_wp2
                  go_ret
                  exact ⟨ret_int HFi.out.symm, HS.out.2.2.1⟩
end Go.Proofs.YtcecpodbmjghhaaGreat
/- Walk of the reference: what is wrong with a tree. -/
namespace Go.Proofs.YtcecpodbmjghhaaGreat
open Go Go.RowKit
theorem rdupD_strB (l : List Splt) (d : List Drp) (k : Nat) (hk : k < d.length) : rdupD l d k = ((d.take k).any (fun y => strB y.spl d[k].spl && decide (y.port = d[k].port)) || l.any (fun s => strB s.par d[k].spl && decide (s.port = d[k].port))) := by
  unfold rdupD
  rw [List.getElem?_eq_getElem hk]
  simp only [strB_dec]
set_option maxHeartbeats 1000000 in
theorem drpClosD_any (y : Drp) (x : Drp) (b : Nat) (w : World) (k : Blk w b #[.string x.cust, .string x.spl, .int .i64 x.port] 36) :
    Calls Tryz.prog 40 (#[.agg ⟨Drp.cells y⟩] ++ #[.pointer (some ⟨b, 0, none⟩)]) w fun e w' => e = .returned (.bool (strB y.spl x.spl && decide (y.port = x.port))) ∧ Below w.heap.size w w' := by
  have hb := k.lt
  have c1 := k.cell 1 _ rfl
  have c2 := k.cell 2 _ rfl
  show Calls Tryz.prog 40 #[.agg #[.string y.cust, .string y.spl, .int .i64 y.port], .pointer (some ⟨b, 0, none⟩)] w _
  cases hs : strB y.spl x.spl
  · have hs' : (y.spl.toList == x.spl.toList) = false := hs
    clear hs
    go_enter Tryz.func40, Tryz.ntmps40
    go_wp2
    go_ret
    exact ⟨by rfl, by (repeat (first | exact Below.refl _ _ | assumption | refine below_draws ?_ _ | refine Below.drew ?_ | refine below_alloc ?_ _ (by first | omega | (simp; done) | (simp; omega)) | refine Below.setCell ?_ (by first | omega | (simp; done) | (simp; omega)) _ | refine below_at ?_ (by assumption) (by first | omega | (simp; done) | (simp; omega))))⟩
  · have hs' : (y.spl.toList == x.spl.toList) = true := hs
    clear hs
    have hd : (y.port == x.port) = decide (y.port = x.port) := by rw [Bool.eq_iff_iff]; simp
    have HD := Lib.hid hd
    clear hd
    go_enter Tryz.func40, Tryz.ntmps40
    go_wp2
    go_ret
    exact ⟨ret_bool (by simp [HD.out]), by (repeat (first | exact Below.refl _ _ | assumption | refine below_draws ?_ _ | refine Below.drew ?_ | refine below_alloc ?_ _ (by first | omega | (simp; done) | (simp; omega)) | refine Below.setCell ?_ (by first | omega | (simp; done) | (simp; omega)) _ | refine below_at ?_ (by assumption) (by first | omega | (simp; done) | (simp; omega))))⟩
set_option maxHeartbeats 1000000 in
theorem drpClosS_any (y : Splt) (x : Drp) (b : Nat) (w : World) (k : Blk w b #[.string x.cust, .string x.spl, .int .i64 x.port] 36) :
    Calls Tryz.prog 41 (#[.agg ⟨Splt.cells y⟩] ++ #[.pointer (some ⟨b, 0, none⟩)]) w fun e w' => e = .returned (.bool (strB y.par x.spl && decide (y.port = x.port))) ∧ Below w.heap.size w w' := by
  have hb := k.lt
  have c1 := k.cell 1 _ rfl
  have c2 := k.cell 2 _ rfl
  show Calls Tryz.prog 41 #[.agg #[.string y.key, .int .i64 y.ways, .string y.par, .int .i64 y.port], .pointer (some ⟨b, 0, none⟩)] w _
  cases hs : strB y.par x.spl
  · have hs' : (y.par.toList == x.spl.toList) = false := hs
    clear hs
    go_enter Tryz.func41, Tryz.ntmps41
    go_wp2
    go_ret
    exact ⟨by rfl, by (repeat (first | exact Below.refl _ _ | assumption | refine below_draws ?_ _ | refine Below.drew ?_ | refine below_alloc ?_ _ (by first | omega | (simp; done) | (simp; omega)) | refine Below.setCell ?_ (by first | omega | (simp; done) | (simp; omega)) _ | refine below_at ?_ (by assumption) (by first | omega | (simp; done) | (simp; omega))))⟩
  · have hs' : (y.par.toList == x.spl.toList) = true := hs
    clear hs
    have hd : (y.port == x.port) = decide (y.port = x.port) := by rw [Bool.eq_iff_iff]; simp
    have HD := Lib.hid hd
    clear hd
    go_enter Tryz.func41, Tryz.ntmps41
    go_wp2
    go_ret
    exact ⟨ret_bool (by simp [HD.out]), by (repeat (first | exact Below.refl _ _ | assumption | refine below_draws ?_ _ | refine Below.drew ?_ | refine below_alloc ?_ _ (by first | omega | (simp; done) | (simp; omega)) | refine Below.setCell ?_ (by first | omega | (simp; done) | (simp; omega)) _ | refine below_at ?_ (by assumption) (by first | omega | (simp; done) | (simp; omega))))⟩
theorem dropFault_inR {l : List Splt} {d : List Drp} {k : Nat} (h : k < d.length) : dropFault l d k = if keyB d[k].cust = false then 5 else if (getS l d[k].spl).isSome = false then 8 else if outB d[k].port 1 ((getS l d[k].spl).getD eSplt).ways then 1 else if 0 < k ∧ leB d[k].cust (d[k - 1]?.getD default).cust = true then 7 else 0 := by
  unfold dropFault
  rw [List.getElem?_eq_getElem h]
  simp only
  generalize getS l d[k].spl = g
  cases g <;> simp
set_option maxHeartbeats 8000000 in
set_option maxRecDepth 100000 in
theorem rtreeFault_any (v1 v2 : Value) (l : List Splt) (d : List Drp) (w : World) (h : Arr Splt.cells 4 w l v1) (hd : Arr Drp.cells 3 w d v2) : Calls Tryz.prog 9 #[.agg #[v1, v2]] w
    fun e w' => e = .returned (.int .i64 (treeF l d)) ∧ Below w.heap.size w w' := by
  rw [← rtreeF_eq]
  have HA := Lib.hid (And.intro h hd)
  obtain ⟨a2, cap2, rfl, hcap2, hmax2, hc2⟩ := hd
  unfold maxLen at hmax2
  have HC := Lib.hid hc2
  clear h hc2
  have hbx : Blk (w.alloc (.cells #[v1, .slice a2 d.length cap2] 29)) w.heap.size #[v1, .slice a2 d.length cap2] 29 := Blk.new _ _ _
  have HBX := Lib.hid hbx
  clear hbx
  go_enter Tryz.func9, Tryz.ntmps9
  go_wp2_with fail
  refine (rsplittersFault_any _ _ l _ (by exact HA.out.1.below (by (repeat (first | exact Below.refl _ _ | assumption | refine below_draws ?_ _ | refine Below.drew ?_ | refine below_alloc ?_ _ (by first | omega | (simp; done) | (simp; omega)) | refine Below.setCell ?_ (by first | omega | (simp; done) | (simp; omega)) _ | refine below_at ?_ (by assumption) (by first | omega | (simp; done) | (simp; omega))))))).mono ?_
  rintro e w1 ⟨rfl, hb1⟩
  have hz1 : w.heap.size + 1 ≤ w1.heap.size := by have := hb1.size; simpa using this
  have hB1 : Below (w.heap.size + 1) (w.alloc (.cells #[v1, .slice a2 d.length cap2] 29)) w1 := hb1.mono (by simp)
  have hBw1 : Below w.heap.size w w1 := by (repeat (first | exact Below.refl _ _ | assumption | refine below_draws ?_ _ | refine Below.drew ?_ | refine below_alloc ?_ _ (by first | omega | (simp; done) | (simp; omega)) | refine Below.setCell ?_ (by first | omega | (simp; done) | (simp; omega)) _ | refine below_at ?_ (by assumption) (by first | omega | (simp; done) | (simp; omega))))
  have hbw1 := HBX.out.below hB1 (by omega)
  have t0 := hbw1.cell 0 _ rfl
  have t1 := hbw1.cell 1 _ rfl
  have H1 := Lib.hid (And.intro hB1 hBw1)
  clear hb1 hB1 hBw1 hbw1
  by_cases hs0 : rsplF l = 0
  rotate_left
  · have hs1 : (rsplF l != 0) = true := by simp [hs0]
    have HR9 : Hid (rtreeF l d = rsplF l) := by unfold rtreeF; rw [if_pos hs0]; exact rfl
    clear hs0
    go_wp2
    go_ret
    exact ⟨ret_int HR9.out.symm, H1.out.2⟩
  have hs1 : (rsplF l != 0) = false := by simp [hs0]
  have HRT : Hid (rtreeF l d = rdropsF l d) := by unfold rtreeF; rw [if_neg (by omega)]; exact rfl
  clear hs0
  by_cases hbig : 5000 < d.length
  · have HR9 : Hid (rtreeF l d = 2) := by rw [HRT.out]; unfold rdropsF; rw [if_pos hbig]; exact rfl
    go_wp2
    go_ret
    exact ⟨ret_int HR9.out.symm, H1.out.2⟩
  have hd5 : d.length ≤ 5000 := by omega
  have HRR : Hid (rtreeF l d = if faultAt (dropFault l d) d.length ≠ 0 then faultAt (dropFault l d) d.length else if (List.range d.length).any (rdupD l d) then 6 else 0) := by
    rw [HRT.out]; unfold rdropsF; rw [if_neg hbig]; exact rfl
  clear HRT
  go_wp2
  go_loopw [24] (fun i wr => ∃ k : Nat, k ≤ d.length ∧ i = .int .i64 k ∧ faultAt (dropFault l d) k = 0 ∧ Below (w.heap.size + 1) (w.alloc (.cells #[v1, .slice a2 d.length cap2] 29)) wr) (fun i _ => d.length - (intOf i).toNat)
  case atStart => exact ⟨0, by omega, rfl, rfl, H1.out.1⟩
  case round =>
    clear H1 t0 t1
    obtain ⟨k, hk, rfl, hz, hB⟩ := hrel
    have hsz := hB.size
    simp only [World.size_alloc] at hsz
    have hBw : Below w.heap.size w wr := below_at (below_alloc (Below.refl _ _) _ (Nat.le_refl _)) hB (by omega)
    have hbw := HBX.out.below hB (by omega)
    have t0 := hbw.cell 0 _ rfl
    have t1 := hbw.cell 1 _ rfl
    have HS := Lib.hid (And.intro hz (And.intro hB (And.intro hBw hbw)))
    have hlt0 : w.heap.size < wr.heap.size := by omega
    clear hz hB hBw hbw
    by_cases hlt : k < d.length
    · obtain ⟨b, off, rfl, hb, hcc⟩ := HC.out k hlt
      obtain ⟨c0, c1, c2⟩ := drp_at hcc
      replace c0 := (HS.out.2.2.1.cell (p := ⟨b, _, none⟩) hb).trans c0
      replace c1 := (HS.out.2.2.1.cell (p := ⟨b, _, none⟩) hb).trans c1
      replace c2 := (HS.out.2.2.1.cell (p := ⟨b, _, none⟩) hb).trans c2
      clear hcc
      have HFF : Hid (∀ n : Int, n ≠ 0 → dropFault l d k = n → Hid (rtreeF l d = n)) := fun n hn hp => by
        have h1 := faultAt_hit hlt HS.out.1 (by rw [hp]; exact hn)
        have h2 := HRR.out
        rw [h1, if_pos (by rw [hp]; exact hn), hp] at h2
        exact h2
      obtain ⟨r, hr⟩ : ∃ r, (getS l d[k].spl).getD eSplt = r := ⟨_, rfl⟩
      obtain ⟨bs, hbs⟩ : ∃ bs, (getS l d[k].spl).isSome = bs := ⟨_, rfl⟩
      have HDK : Hid (dropFault l d k = if keyB d[k].cust = false then 5 else if bs = false then 8 else if outB d[k].port 1 r.ways then 1 else if 0 < k ∧ leB d[k].cust (d[k - 1]?.getD default).cust = true then 7 else 0) := by
        rw [dropFault_inR hlt, hr, hbs]; exact rfl
      go_wp2_with fail
      refine (splitterOf_any _ _ l d[k].spl _ (by exact HA.out.1.below (by have h3 := HS.out.2.2.1; (repeat (first | exact Below.refl _ _ | assumption | refine below_draws ?_ _ | refine Below.drew ?_ | refine below_alloc ?_ _ (by first | omega | (simp; done) | (simp; omega)) | refine Below.setCell ?_ (by first | omega | (simp; done) | (simp; omega)) _ | refine below_at ?_ (by assumption) (by first | omega | (simp; done) | (simp; omega))))))).mono ?_
      rintro e w2 ⟨rfl, hb2⟩
      rw [hr, hbs]
      have hz2 : wr.heap.size + 1 ≤ w2.heap.size := by have := hb2.size; simpa using this
      have hB2 : Below (w.heap.size + 1) (w.alloc (.cells #[v1, .slice (some ⟨b, off, none⟩) d.length cap2] 29)) w2 := below_at (below_alloc HS.out.2.1 _ (by omega)) hb2 (by simp; omega)
      have hBw2 : Below w.heap.size w w2 := by have h3 := HS.out.2.2.1; (repeat (first | exact Below.refl _ _ | assumption | refine below_draws ?_ _ | refine Below.drew ?_ | refine below_alloc ?_ _ (by first | omega | (simp; done) | (simp; omega)) | refine Below.setCell ?_ (by first | omega | (simp; done) | (simp; omega)) _ | refine below_at ?_ (by assumption) (by first | omega | (simp; done) | (simp; omega))))
      have hbx2 := HBX.out.below hB2 (by omega)
      have hxx2 := (Blk.new wr #[.string d[k].cust, .string d[k].spl, .int .i64 d[k].port] 36).below hb2 (by simp)
      have H2 := Lib.hid (And.intro hB2 hBw2)
      clear hB2 hBw2 hb2 t0 t1 c0 c1 c2 hr hbs
      have t0 := hbx2.cell 0 _ rfl
      have t1 := hbx2.cell 1 _ rfl
      have x0 := hxx2.cell 0 _ rfl
      have x1 := hxx2.cell 1 _ rfl
      have x2 := hxx2.cell 2 _ rfl
      have l1 := hbx2.lt
      have l2 := hxx2.lt
      clear hbx2 hxx2
      cases hkey : keyB d[k].cust
      · have HR9 := HFF.out 5 (by omega) (by rw [HDK.out, if_pos hkey])
        go_wp2_with (go_at_call 38; refine (rkey_any _ _).mono ?_; rintro e w' ⟨rfl, rfl⟩)
        go_ret
        exact ⟨ret_int HR9.out.symm, by have h3 := H2.out.2; (repeat (first | exact Below.refl _ _ | assumption | refine below_draws ?_ _ | refine Below.drew ?_ | refine below_alloc ?_ _ (by first | omega | (simp; done) | (simp; omega)) | refine Below.setCell ?_ (by first | omega | (simp; done) | (simp; omega)) _ | refine below_at ?_ (by assumption) (by first | omega | (simp; done) | (simp; omega))))⟩
      cases bs
      · have HR9 := HFF.out 8 (by omega) (by rw [HDK.out, if_neg (by simp [hkey]), if_pos rfl])
        go_wp2_with (go_at_call 38; refine (rkey_any _ _).mono ?_; rintro e w' ⟨rfl, rfl⟩)
        go_ret
        exact ⟨ret_int HR9.out.symm, by have h3 := H2.out.2; (repeat (first | exact Below.refl _ _ | assumption | refine below_draws ?_ _ | refine Below.drew ?_ | refine below_alloc ?_ _ (by first | omega | (simp; done) | (simp; omega)) | refine Below.setCell ?_ (by first | omega | (simp; done) | (simp; omega)) _ | refine below_at ?_ (by assumption) (by first | omega | (simp; done) | (simp; omega))))⟩
      cases ho : outB d[k].port 1 r.ways
      rotate_left
      · have HR9 := HFF.out 1 (by omega) (by rw [HDK.out, if_neg (by simp [hkey]), if_neg (by decide), if_pos ho])
        have HO := Lib.hid ho
        clear ho
        go_wp2_with (first | (go_at_call 38; refine (rkey_any _ _).mono ?_; rintro e w' ⟨rfl, rfl⟩) | (go_at_call 39; refine (rin_any _ _ _ _).mono ?_; rintro e w' ⟨rfl, rfl⟩; rw [HO.out]))
        go_ret
        exact ⟨ret_int HR9.out.symm, by have h3 := H2.out.2; (repeat (first | exact Below.refl _ _ | assumption | refine below_draws ?_ _ | refine Below.drew ?_ | refine below_alloc ?_ _ (by first | omega | (simp; done) | (simp; omega)) | refine Below.setCell ?_ (by first | omega | (simp; done) | (simp; omega)) _ | refine below_at ?_ (by assumption) (by first | omega | (simp; done) | (simp; omega))))⟩
      have HO := Lib.hid ho
      have HDK2 : Hid (dropFault l d k = if 0 < k ∧ leB d[k].cust (d[k - 1]?.getD default).cust = true then 7 else 0) := by
        rw [HDK.out, if_neg (by simp [hkey]), if_neg (by decide), if_neg (by simp [ho])]; exact rfl
      clear ho HDK
      by_cases hk0 : k = 0
      · have hd0 : decide ((0 : Int) < (k : Int)) = false := by simp; omega
        have hd1 : decide (0 < k) = false := by simp; omega
        have HN : Hid (faultAt (dropFault l d) (k + 1) = 0) := by rw [faultAt_succ HS.out.1, HDK2.out, if_neg (by omega)]; exact rfl
        clear hk0
        go_wp2_with (first | (go_at_call 38; refine (rkey_any _ _).mono ?_; rintro e w' ⟨rfl, rfl⟩) | (go_at_call 39; refine (rin_any _ _ _ _).mono ?_; rintro e w' ⟨rfl, rfl⟩; rw [HO.out]))
        go_quiet (fail)
        go_wp2
        exact ⟨⟨k + 1, by omega, by go_num, HN.out, below_draws (below_alloc H2.out.1 _ (by omega)) _⟩, by simp [intOf]; omega⟩
      · have hd0 : decide ((0 : Int) < (k : Int)) = true := by simp; omega
        have hd1 : decide (0 < k) = true := by simp; omega
        have hk1 : 1 ≤ k := by omega
        have hpl : k - 1 < d.length := by omega
        have hpg : (d[k - 1]?.getD default) = d[k - 1] := by rw [List.getElem?_eq_getElem hpl]; rfl
        have HPG := Lib.hid hpg
        obtain ⟨b'', off'', hbe, hbb'', hcc⟩ := HC.out (k - 1) hpl
        obtain ⟨rfl, rfl⟩ : b = b'' ∧ off = off'' := by simpa using hbe
        obtain ⟨e0, -, -⟩ := drp_at hcc
        replace e0 := (H2.out.2.cell (p := ⟨b, _, none⟩) hb).trans e0
        clear hcc hbe hpg hk0
        have hi1 : (0 : Int) ≤ (k : Int) - 1 := by omega
        have hi2 : (k : Int) - 1 < (d.length : Int) := by omega
        have hbsz : b < w2.heap.size := Nat.lt_of_lt_of_le hb (by omega)
        cases hle : leB d[k].cust d[k - 1].cust
        · have HN : Hid (faultAt (dropFault l d) (k + 1) = 0) := by
            rw [faultAt_succ HS.out.1, HDK2.out, HPG.out, if_neg (by simp [hle])]; exact rfl
          have hle' : (Op.bytesLess d[k].cust.toList d[k - 1].cust.toList || d[k].cust.toList == d[k - 1].cust.toList) = false := hle
          clear hle
          go_wp2_with (first | (go_at_call 38; refine (rkey_any _ _).mono ?_; rintro e w' ⟨rfl, rfl⟩) | (go_at_call 39; refine (rin_any _ _ _ _).mono ?_; rintro e w' ⟨rfl, rfl⟩; rw [HO.out]))
          go_quiet (fail)
          go_wp2
          exact ⟨⟨k + 1, by omega, by go_num, HN.out, below_draws (below_alloc H2.out.1 _ (by omega)) _⟩, by simp [intOf]; omega⟩
        · have HR9 := HFF.out 7 (by omega) (by rw [HDK2.out, HPG.out, if_pos ⟨by omega, hle⟩])
          have hle' : (Op.bytesLess d[k].cust.toList d[k - 1].cust.toList || d[k].cust.toList == d[k - 1].cust.toList) = true := hle
          clear hle
          go_wp2_with (first | (go_at_call 38; refine (rkey_any _ _).mono ?_; rintro e w' ⟨rfl, rfl⟩) | (go_at_call 39; refine (rin_any _ _ _ _).mono ?_; rintro e w' ⟨rfl, rfl⟩; rw [HO.out]))
          go_quiet (fail)
          go_wp2
          go_ret
          exact ⟨ret_int HR9.out.symm, by have h3 := H2.out.2; exact below_draws (below_alloc h3 _ (by omega)) _⟩
    · obtain rfl : k = d.length := by omega
      have HR2 : Hid (rtreeF l d = if (List.range d.length).any (rdupD l d) then 6 else 0) := by
        have h2 := HRR.out
        rw [HS.out.1, if_neg (by omega)] at h2
        exact h2
      clear HRR
      have HF1 := Lib.hid (run_fn Tryz.func40 (by kernel_rfl) rfl)
      have HF2 := Lib.hid (run_fn Tryz.func41 (by kernel_rfl) rfl)
      go_wp2
      obtain ⟨wo, rfl⟩ : ∃ wo : World, wo = wr := ⟨_, rfl⟩
      go_loopw [70] (fun i wr => ∃ k : Nat, k ≤ d.length ∧ i = .int .i64 k ∧ (List.range k).any (rdupD l d) = false ∧ Below (w.heap.size + 1) (w.alloc (.cells #[v1, .slice a2 d.length cap2] 29)) wr) (fun i _ => d.length - (intOf i).toNat)
      case atStart => exact ⟨0, by omega, rfl, rfl, HS.out.2.1⟩
      case round =>
        clear HS t0 t1
        obtain ⟨k, hk, rfl, hz, hB⟩ := hrel
        have hsz := hB.size
        simp only [World.size_alloc] at hsz
        have hBw : Below w.heap.size w wr := below_at (below_alloc (Below.refl _ _) _ (Nat.le_refl _)) hB (by omega)
        have hbw := HBX.out.below hB (by omega)
        have t0 := hbw.cell 0 _ rfl
        have t1 := hbw.cell 1 _ rfl
        have HS := Lib.hid (And.intro hz (And.intro hB (And.intro hBw hbw)))
        have hlt0 : w.heap.size < wr.heap.size := by omega
        clear hz hB hBw hbw
        by_cases hlt : k < d.length
        · obtain ⟨b, off, rfl, hb, hcc⟩ := HC.out k hlt
          obtain ⟨c0, c1, c2⟩ := drp_at hcc
          replace c0 := (HS.out.2.2.1.cell (p := ⟨b, _, none⟩) hb).trans c0
          replace c1 := (HS.out.2.2.1.cell (p := ⟨b, _, none⟩) hb).trans c1
          replace c2 := (HS.out.2.2.1.cell (p := ⟨b, _, none⟩) hb).trans c2
          clear hcc
          have HDU := Lib.hid (rdupD_strB l d k hlt)
          have HRS : Hid ((List.range (k + 1)).any (rdupD l d) = rdupD l d k) := by
            rw [List.range_succ, List.any_append, HS.out.1]; simp [Hid]
          go_wp2_with fail
          refine (containsFunc_drp _ (d.take k) (fun y => strB y.spl d[k].spl && decide (y.port = d[k].port)) 40 #[.pointer (some ⟨wr.heap.size, 0, none⟩)] _ ?_ HF1.out ?_).mono ?_
          · exact (HA.out.2.below (by have h3 := HS.out.2.2.1; (repeat (first | exact Below.refl _ _ | assumption | refine below_draws ?_ _ | refine Below.drew ?_ | refine below_alloc ?_ _ (by first | omega | (simp; done) | (simp; omega)) | refine Below.setCell ?_ (by first | omega | (simp; done) | (simp; omega)) _ | refine below_at ?_ (by assumption) (by first | omega | (simp; done) | (simp; omega)))))).take k hk
          · intro y w' hy hbw
            exact (drpClosD_any y d[k] wr.heap.size w' ((Blk.new wr _ _).below hbw (by simp))).mono fun e w'' h => h
          rintro e w1 ⟨rfl, hb1⟩
          have hz1 : wr.heap.size + 1 ≤ w1.heap.size := by have := hb1.size; simpa using this
          have hBb : Below (w.heap.size + 1) (w.alloc (.cells #[v1, .slice (some ⟨b, off, none⟩) d.length cap2] 29)) w1 := below_at (below_alloc HS.out.2.1 _ (by omega)) hb1 (by simp; omega)
          have hB2 : Below w.heap.size w w1 := by have h3 := HS.out.2.2.1; (repeat (first | exact Below.refl _ _ | assumption | refine below_draws ?_ _ | refine Below.drew ?_ | refine below_alloc ?_ _ (by first | omega | (simp; done) | (simp; omega)) | refine Below.setCell ?_ (by first | omega | (simp; done) | (simp; omega)) _ | refine below_at ?_ (by assumption) (by first | omega | (simp; done) | (simp; omega))))
          have hbx1 := HBX.out.below hBb (by omega)
          have hxx1 := (Blk.new wr #[.string d[k].cust, .string d[k].spl, .int .i64 d[k].port] 36).below hb1 (by simp)
          have H1 := Lib.hid (And.intro hBb (And.intro hB2 hxx1))
          clear hb1 hBb hB2 t0 t1 hxx1 c0 c1 c2
          have t0 := hbx1.cell 0 _ rfl
          have t1 := hbx1.cell 1 _ rfl
          have l1 := hbx1.lt
          clear hbx1
          cases hq : (d.take k).any (fun y => strB y.spl d[k].spl && decide (y.port = d[k].port))
          rotate_left
          · have HR9 : Hid (rtreeF l d = 6) := by
              rw [HR2.out, if_pos]
              · exact rfl
              · exact List.any_eq_true.2 ⟨k, by simpa using hlt, by rw [HDU.out, hq]; rfl⟩
            clear hq
            go_wp2
            go_ret
            exact ⟨ret_int HR9.out.symm, H1.out.2.1⟩
          go_wp2_with fail
          refine (containsFunc_splt _ l (fun y => strB y.par d[k].spl && decide (y.port = d[k].port)) 41 #[.pointer (some ⟨wr.heap.size, 0, none⟩)] _ ?_ HF2.out ?_).mono ?_
          · exact HA.out.1.below H1.out.2.1
          · intro y w' hy hbw
            exact (drpClosS_any y d[k] wr.heap.size w' (H1.out.2.2.below hbw (by omega))).mono fun e w'' h => h
          rintro e w2 ⟨rfl, hb2⟩
          have hz2 := hb2.size
          have H2 := Lib.hid (And.intro (below_at H1.out.1 hb2 (by omega)) (below_at H1.out.2.1 hb2 (by omega)))
          clear hb2
          cases hq2 : l.any (fun y => strB y.par d[k].spl && decide (y.port = d[k].port))
          · have HN : Hid ((List.range (k + 1)).any (rdupD l d) = false) := by rw [HRS.out, HDU.out, hq, hq2]; exact rfl
            clear hq hq2
            go_wp2
            exact ⟨⟨k + 1, by omega, by go_num, HN.out, H2.out.1⟩, by simp [intOf]; omega⟩
          · have HR9 : Hid (rtreeF l d = 6) := by
              rw [HR2.out, if_pos]
              · exact rfl
              · exact List.any_eq_true.2 ⟨k, by simpa using hlt, by rw [HDU.out, hq2, Bool.or_true]⟩
            clear hq hq2
            go_wp2
            go_ret
            exact ⟨ret_int HR9.out.symm, H2.out.2⟩
        · obtain rfl : k = d.length := by omega
          have HFi : Hid (rtreeF l d = 0) := by
            rw [HR2.out, HS.out.1, if_neg (by simp)]; exact rfl
          go_wp2
          go_ret
          exact ⟨ret_int HFi.out.symm, HS.out.2.2.1⟩
end Go.Proofs.YtcecpodbmjghhaaGreat
