/- Texts of one subject in one: TreeJ, PlainZ, TreeK; what each shows stands at its head. No condition. -/
import Derived.Test.YtcecpodbmjghhaaGreatTreeRef
import Derived.Test.YtcecpodbmjghhaaGreatLibB
import Derived.Test.YtcecpodbmjghhaaGreatStrA
import Derived.Lib.SliceRun
import Derived.Test.YtcecpodbmjghhaaGreatTreesP
import Derived.Test.YtcecpodbmjghhaaGreatChAll
import Derived.Test.YtcecpodbmjghhaaGreatBelAll
import Derived.Test.YtcecpodbmjghhaaGreatMemAll
/- Walks of the library's generic functions at the types of package tree: a search in sorted strings, and taking splitters out of a list. -/
set_option linter.unusedVariables false
set_option linter.unusedSimpArgs false
namespace Go.Proofs.YtcecpodbmjghhaaGreat
open Go Go.RowKit
set_option maxHeartbeats 1000000 in
theorem deleteFunc_splt_nil (F : FuncId) (cp : Array Value) (w : World) (hF : ∀ (args : Array Value) (w : World), (callFunc F args).run Tryz.prog w = .ok (.enter F args) w) :
    Calls Tryz.prog 59 #[.slice none 0 0, .func (.func F) #[] cp] w
    fun e w' => e = .returned (.slice none 0 0) ∧ Below w.heap.size w w' := by
  have HC := Lib.hid hF
  clear hF
  go_enter Tryz.func59, Tryz.ntmps59
  go_wp2_with (go_at_call 94; refine (indexFunc_splt _ [] (fun _ => false) F cp _ (Arr.nil _ _ _) HC.out (fun x w' hx hB => by cases hx)).mono ?_; rintro e w1 ⟨rfl, hb1⟩)
  go_ret
  exact ⟨rfl, by (repeat (first | exact Below.refl _ _ | assumption | refine below_draws ?_ _ | refine Below.drew ?_ | refine below_alloc ?_ _ (by first | omega | (simp; done) | (simp; omega)) | refine Below.setCell ?_ (by first | omega | (simp; done) | (simp; omega)) _ | refine below_at ?_ (by assumption) (by first | omega | (simp; done) | (simp; omega))))⟩
theorem zeroSplt (w : World) : (zeroValue 58).run Tryz.prog w = .ok (.agg #[.string ⟨#[]⟩, .int .i64 0, .string ⟨#[]⟩, .int .i64 0]) w := by kernel_rfl
set_option maxHeartbeats 1000000 in
set_option maxRecDepth 100000 in
theorem deleteFunc_splt (l : List Splt) (p : Splt → Bool) (F : FuncId) (cp : Array Value) (g cap : Nat) (w : World) (hrow : Row Splt.cells 4 w g l) (hcap : l.length ≤ cap) (hmax : cap ≤ maxLen) (hlen : l.length ≤ 100000000)
    (hF : ∀ (args : Array Value) (w : World), (callFunc F args).run Tryz.prog w = .ok (.enter F args) w)
    (hcall : ∀ (x : Splt) (w' : World), x ∈ l → w.grownBy w' (some g) → Calls Tryz.prog F (#[.agg ⟨Splt.cells x⟩] ++ cp) w' fun e w'' => e = .returned (.bool (p x)) ∧ Below w'.heap.size w' w'') :
    Calls Tryz.prog 59 #[.slice (some ⟨g, 0, none⟩) l.length cap, .func (.func F) #[] cp] w
    fun e w' => e = .returned (.slice (some ⟨g, 0, none⟩) (l.filter fun x => !p x).length cap) ∧ Row Splt.cells 4 w' g (l.filter fun x => !p x) ∧ w.grownBy w' (some g) := by
  have HC := Lib.hid (And.intro hF hcall)
  clear hF hcall
  have hA : Arr Splt.cells 4 w l (.slice (some ⟨g, 0, none⟩) l.length cap) := hrow.arr rfl hcap hmax
  have hir := idxF_range p l
  unfold maxLen at hmax
  by_cases hnone : l.any p = false
  · have HI := Lib.hid (idxF_none hnone)
    have hfl : (l.filter fun x => !p x) = l := by
      rw [List.filter_eq_self]
      intro x hx
      have := List.any_eq_false.1 hnone x hx
      simpa using this
    have HFL := Lib.hid hfl
    clear hnone hfl hir
    go_enter Tryz.func59, Tryz.ntmps59
    go_wp2_with (go_at_call 94; refine (indexFunc_splt _ l p F cp _ hA HC.out.1 (fun x w' hx hB => HC.out.2 x w' hx (grown_below _ hB))).mono ?_; rw [HI.out]; rintro e w1 ⟨rfl, hb1⟩)
    go_ret
    exact ⟨by rw [HFL.out]; rfl, by rw [HFL.out]; exact hrow.below hb1 hrow.2.2, grown_below _ hb1⟩
  · obtain ⟨k, hk, hi0, ht0, hp0⟩ := idxF_spec (Bool.not_eq_false _ ▸ hnone)
    have HI := Lib.hid hi0
    have HD : Hid (∀ w1, Below w.heap.size w w1 → Del Splt.cells 4 p l w w1 g k (k + 1) l) := fun w1 hb => Del.first hk ht0 hp0 (hrow.below hb hrow.2.2) (grown_below _ hb)
    have hkn : ((k : Int) == -1) = false := by simp
    clear hnone hir ht0 hp0 hi0
    go_enter Tryz.func59, Tryz.ntmps59
    go_wp2_with (go_at_call 94; refine (indexFunc_splt _ l p F cp _ hA HC.out.1 (fun x w' hx hB => HC.out.2 x w' hx (grown_below _ hB))).mono ?_; rw [HI.out]; rintro e w1 ⟨rfl, hb1⟩)
    go_loopw [5, 6] (fun a b wr => ∃ i j : Nat, a = .int .i64 i ∧ b = .int .i64 j ∧ ∃ cur, Del Splt.cells 4 p l w wr g i j cur) (fun _ b _ => l.length - (intOf b).toNat)
    case atStart => exact ⟨k, k + 1, rfl, by go_num, l, HD.out _ hb1⟩
    case round =>
      obtain ⟨i, j, rfl, rfl, cur, hd⟩ := hrel
      have hij := hd.ij
      have hjn := hd.jn
      have HDel := Lib.hid hd
      have hgl := hd.row.2.2
      by_cases hlt : j < l.length
      · have hcj : j < cur.length := by rw [hd.len]; exact hlt
        have hci : i < cur.length := by rw [hd.len]; omega
        obtain ⟨c0, c1, c2, c3⟩ := splt_at (hd.row.1 j hcj)
        rw [hd.at hlt hcj] at c0 c1 c2 c3
        obtain ⟨d0, d1, d2, d3⟩ := splt_at (hd.row.1 i hci)
        have hfz := hd.row.2.1
        simp only [Nat.zero_add] at c0 c1 c2 c3 d0 d1 d2 d3
        have hin : l[j] ∈ l := List.getElem_mem _
        cases hp : p l[j]
        · have HP := Lib.hid hp
          have hF := HC.out.1
          clear hd
          go_wp2_with fail
          refine (HC.out.2 l[j] _ hin ?_).mono ?_
          · exact grown_trans HDel.out.grown (grown_below _ (by (repeat (first | exact Below.refl _ _ | assumption | refine below_draws ?_ _ | refine Below.drew ?_ | refine below_alloc ?_ _ (by first | omega | (simp; done) | (simp; omega)) | refine Below.setCell ?_ (by first | omega | (simp; done) | (simp; omega)) _ | refine below_at ?_ (by assumption) (by first | omega | (simp; done) | (simp; omega))))))
          rw [HP.out]
          rintro e w2 ⟨rfl, hb2⟩
          have hs2 : wr.heap.size < w2.heap.size := by have := hb2.size; simp at this; omega
          have hcg := bcellAt hb2 g (by first | omega | (simp; done) | (simp; omega))
          have hct := bcellAt hb2 wr.heap.size (by first | omega | (simp; done) | (simp; omega))
          have hfg : ∀ o, w2.frozen? ⟨g, o, none⟩ = false := fun o => (hb2.frozen (p := ⟨g, o, none⟩) (by first | omega | (simp; done) | (simp; omega))).trans ((((Below.refl wr.heap.size wr).alloc (Nat.le_refl _) _).frozen (p := ⟨g, o, none⟩) hgl).trans (hfz o))
          go_wp2
          exact ⟨⟨i + 1, j + 1, by go_num, by go_num, cur.set i l[j], HDel.out.keep Splt.cells_len hlt HP.out (by (repeat (first | exact Below.refl _ _ | assumption | refine below_draws ?_ _ | refine Below.drew ?_ | refine below_alloc ?_ _ (by first | omega | (simp; done) | (simp; omega)) | refine Below.setCell ?_ (by first | omega | (simp; done) | (simp; omega)) _ | refine below_at ?_ (by assumption) (by first | omega | (simp; done) | (simp; omega)))))⟩, by simp [intOf]; omega⟩
        · have HP := Lib.hid hp
          have hF := HC.out.1
          clear hd
          go_wp2_with fail
          refine (HC.out.2 l[j] _ hin ?_).mono ?_
          · exact grown_trans HDel.out.grown (grown_below _ (by (repeat (first | exact Below.refl _ _ | assumption | refine below_draws ?_ _ | refine Below.drew ?_ | refine below_alloc ?_ _ (by first | omega | (simp; done) | (simp; omega)) | refine Below.setCell ?_ (by first | omega | (simp; done) | (simp; omega)) _ | refine below_at ?_ (by assumption) (by first | omega | (simp; done) | (simp; omega))))))
          rw [HP.out]
          rintro e w2 ⟨rfl, hb2⟩
          go_wp2
          exact ⟨⟨i, j + 1, rfl, by go_num, cur, HDel.out.skip hlt HP.out (by (repeat (first | exact Below.refl _ _ | assumption | refine below_draws ?_ _ | refine Below.drew ?_ | refine below_alloc ?_ _ (by first | omega | (simp; done) | (simp; omega)) | refine Below.setCell ?_ (by first | omega | (simp; done) | (simp; omega)) _ | refine below_at ?_ (by assumption) (by first | omega | (simp; done) | (simp; omega)))))⟩, by simp [intOf]; omega⟩
      · obtain rfl : j = l.length := by omega
        obtain ⟨hd1, hd2⟩ := hd.done
        have HE := Lib.hid (And.intro hd1 hd2)
        have hrl : ∀ j, j < (l.length - i) * 4 → (wr.cell? ⟨g, i * 4 + j, none⟩).isSome = true := by
          intro q hq
          have hk2 : (i * 4 + q) / 4 < cur.length := by rw [hd.len]; omega
          have := hd.row.1 ((i * 4 + q) / 4) hk2 ((i * 4 + q) % 4) _ (List.getElem?_eq_getElem (by rw [Splt.cells_len]; omega))
          rw [show 0 + (i * 4 + q) / 4 * 4 + (i * 4 + q) % 4 = i * 4 + q by omega] at this
          rw [this]; rfl
        have hcl := fun ty => run_clear_rows (P := Tryz.prog) wr 26 58 ty _ Tryz.underlying26 zeroSplt (by simp [Value.cells, Value.oneCell']) g (i * 4) (l.length - i) (cap - i) (by omega) hrl hd.row.2.1
        generalize (Builtin.zeroCells (Value.agg #[.string ⟨#[]⟩, .int .i64 0, .string ⟨#[]⟩, .int .i64 0]).cells (l.length - i)).toList = zs at hcl
        have hcap1 : ¬ cap = i := by omega
        have hcap2 : ¬ i = cap := by omega
        have hcap3 : i ≤ cap := by omega
        clear hd hrl hd1 hd2
        go_wp2
        go_ret
        have h3 := (HDel.out.row.cut Splt.cells_len i zs)
        rw [HE.out.1] at h3
        refine ⟨by rw [← HE.out.2]; rfl, h3, grown_trans HDel.out.grown (grown_setCells _ _ _ _)⟩
set_option maxHeartbeats 1000000 in
theorem isNaNs_any (s : ByteArray) (w : World) : Calls Tryz.prog 107 #[.string s] w fun e w' => e = .returned (.bool false) ∧ Below w.heap.size w w' := by
  go_enter Tryz.func107, Tryz.ntmps107
  go_wp2
  go_ret
  exact ⟨by simp, by (repeat (first | exact Below.refl _ _ | assumption | refine below_draws ?_ _ | refine Below.drew ?_ | refine below_alloc ?_ _ (by first | omega | (simp; done) | (simp; omega)) | refine Below.setCell ?_ (by first | omega | (simp; done) | (simp; omega)) _ | refine below_at ?_ (by assumption) (by first | omega | (simp; done) | (simp; omega))))⟩
set_option maxHeartbeats 1000000 in
theorem isNaNc_any (s : ByteArray) (w : World) : Calls Tryz.prog 132 #[.string s] w fun e w' => e = .returned (.bool false) ∧ Below w.heap.size w w' := by
  go_enter Tryz.func132, Tryz.ntmps132
  go_wp2
  go_ret
  exact ⟨by simp, by (repeat (first | exact Below.refl _ _ | assumption | refine below_draws ?_ _ | refine Below.drew ?_ | refine below_alloc ?_ _ (by first | omega | (simp; done) | (simp; omega)) | refine Below.setCell ?_ (by first | omega | (simp; done) | (simp; omega)) _ | refine below_at ?_ (by assumption) (by first | omega | (simp; done) | (simp; omega))))⟩
set_option maxHeartbeats 1000000 in
theorem lessStr_any (a b : ByteArray) (w : World) : Calls Tryz.prog 106 #[.string a, .string b] w fun e w' => e = .returned (.bool (lessB a b)) ∧ Below w.heap.size w w' := by
  go_enter Tryz.func106, Tryz.ntmps106
  go_wp2_with (go_at_call 132; refine (isNaNc_any _ _).mono ?_; rintro e w1 ⟨rfl, hb1⟩)
  go_ret
  exact ⟨rfl, by (repeat (first | exact Below.refl _ _ | assumption | refine below_draws ?_ _ | refine Below.drew ?_ | refine below_alloc ?_ _ (by first | omega | (simp; done) | (simp; omega)) | refine Below.setCell ?_ (by first | omega | (simp; done) | (simp; omega)) _ | refine below_at ?_ (by assumption) (by first | omega | (simp; done) | (simp; omega))))⟩
/-- where a string stands among rising strings -/
def posK (l : List ByteArray) (key : ByteArray) : Nat := (l.takeWhile fun s => lessB s key).length
theorem posK_le (l : List ByteArray) (key : ByteArray) : posK l key ≤ l.length := (List.takeWhile_sublist _).length_le
theorem risingK_mono {l : List ByteArray} (h : Rising l) (key : ByteArray) : l.Pairwise (fun a b => lessB b key = true → lessB a key = true) := by
  unfold Rising at h
  exact h.imp fun h1 h2 => lessB_trans h1 h2
theorem posK_lt {l : List ByteArray} (h : Rising l) (key : ByteArray) (k : Nat) (hk : k < l.length) : lessB l[k] key = true ↔ k < posK l key := takeWhile_mono (risingK_mono h key) k hk
def hitK (l : List ByteArray) (key : ByteArray) : Bool := match l[posK l key]? with | some x => decide (x = key) | none => false
theorem hitK_in {l : List ByteArray} {key : ByteArray} (h : posK l key < l.length) : hitK l key = decide (l[posK l key] = key) := by unfold hitK; rw [List.getElem?_eq_getElem h]
theorem hitK_out {l : List ByteArray} {key : ByteArray} (h : l.length ≤ posK l key) : hitK l key = false := by unfold hitK; rw [List.getElem?_eq_none h]
theorem hitK_mem {l : List ByteArray} (h : Rising l) (key : ByteArray) : hitK l key = l.any (fun x => decide (x = key)) := by
  rw [Bool.eq_iff_iff, List.any_eq_true]
  constructor
  · intro hh
    by_cases hlt : posK l key < l.length
    · rw [hitK_in hlt] at hh
      have : l[posK l key] = key := by simpa using hh
      exact ⟨_, List.getElem_mem hlt, by simpa using this⟩
    · rw [hitK_out (by omega)] at hh; cases hh
  · rintro ⟨x, hm, hx⟩
    obtain ⟨j, hj, rfl⟩ := List.mem_iff_getElem.1 hm
    obtain rfl : l[j] = key := by simpa using hx
    have h1 : ¬ j < posK l l[j] := fun e => by
      have := (posK_lt h l[j] j hj).2 e
      rw [lessB_irrefl] at this; cases this
    have h2 : ¬ posK l l[j] < j := fun e => by
      have h3 : lessB (l[posK l l[j]]'(by omega)) l[j] = true := by
        unfold Rising at h
        rw [List.pairwise_iff_getElem] at h
        exact h _ _ _ hj e
      have := (posK_lt h l[j] (posK l l[j]) (by omega)).1 h3
      omega
    have h3 : posK l l[j] = j := by omega
    rw [hitK_in (by omega)]
    simp [h3]
theorem str_at {w : World} {b off k : Nat} {p : ByteArray} (h : ∀ j u, (strCells p)[j]? = some u → w.cell? ⟨b, off + k * 1 + j, none⟩ = some u) : w.cell? ⟨b, off + k, none⟩ = some (.string p) := by have := h 0 _ rfl; rwa [Nat.mul_one] at this
set_option maxHeartbeats 1000000 in
set_option maxRecDepth 100000 in
theorem bsearch_str (v : Value) (l : List ByteArray) (key : ByteArray) (w : World) (h : Arr strCells 1 w l v) (hl : l.length ≤ 1000000) (hr : Rising l) :
    Calls Tryz.prog 61 #[v, .string key] w
      fun e w' => e = .returned (.tuple #[.int .i64 (posK l key), .bool (hitK l key)]) ∧ Below w.heap.size w w' := by
  obtain ⟨a, cap, rfl, hcap, hmax, hc⟩ := h
  have hlen : l.length ≤ maxLen := by omega
  unfold maxLen at hlen hmax
  have hpos := posK_le l key
  have HC : Hid (∀ k (hk : k < l.length), (lessB l[k] key = true ↔ k < posK l key)) := posK_lt hr key
  have hin := @hitK_in l key
  have hout := @hitK_out l key
  have HT := Lib.hid (And.intro hin hout)
  clear hr hin hout
  generalize posK l key = pos at *
  generalize hitK l key = hit at *
  go_enter Tryz.func61, Tryz.ntmps61
  go_wp2
  go_loopw [7, 8] (fun i j wr => ∃ a b : Nat, a ≤ pos ∧ pos ≤ b ∧ b ≤ l.length ∧ i = .int .i64 a ∧ j = .int .i64 b ∧ Below w.heap.size w wr) (fun i j _ => (intOf j).toNat - (intOf i).toNat)
  case atStart => exact ⟨0, l.length, by omega, by omega, by omega, rfl, rfl, Below.refl _ _⟩
  case round =>
    obtain ⟨lo, hi, h1, h2, h3, rfl, rfl, hB⟩ := hrel
    have hsz := hB.size
    by_cases hlt : lo < hi
    · have hm : (lo + hi) / 2 < l.length := by omega
      have hm1 : lo ≤ (lo + hi) / 2 := by omega
      have hm2 : (lo + hi) / 2 < hi := by omega
      obtain ⟨b, off, rfl, hb, hcc⟩ := hc ((lo + hi) / 2) hm
      have c0 := str_at hcc
      replace c0 := (hB.cell (p := ⟨b, _, none⟩) hb).trans c0
      have hmo := HC.out ((lo + hi) / 2) hm
      clear hc hcc
      by_cases hx : lessB l[(lo + hi) / 2] key = true
      · have hp : (lo + hi) / 2 < pos := hmo.1 hx
        have HX := Lib.hid hx
        clear hmo hx
        go_wp2_with (go_at_call 106; refine (lessStr_any _ _ _).mono ?_; rw [HX.out]; rintro e w1 ⟨rfl, hb1⟩)
        exact ⟨⟨(lo + hi) / 2 + 1, hi, by omega, by omega, by omega, by go_num, rfl, by (repeat (first | exact Below.refl _ _ | assumption | refine below_draws ?_ _ | refine Below.drew ?_ | refine below_alloc ?_ _ (by first | omega | (simp; done) | (simp; omega)) | refine Below.setCell ?_ (by first | omega | (simp; done) | (simp; omega)) _ | refine below_at ?_ (by assumption) (by first | omega | (simp; done) | (simp; omega))))⟩, by simp [intOf]; omega⟩
      · have hp : pos ≤ (lo + hi) / 2 := Nat.le_of_not_lt fun h => hx (hmo.2 h)
        have HX := Lib.hid (Bool.eq_false_iff.2 hx)
        clear hmo hx
        go_wp2_with (go_at_call 106; refine (lessStr_any _ _ _).mono ?_; rw [HX.out]; rintro e w1 ⟨rfl, hb1⟩)
        exact ⟨⟨lo, (lo + hi) / 2, by omega, by omega, by omega, by go_num, by go_num, by (repeat (first | exact Below.refl _ _ | assumption | refine below_draws ?_ _ | refine Below.drew ?_ | refine below_alloc ?_ _ (by first | omega | (simp; done) | (simp; omega)) | refine Below.setCell ?_ (by first | omega | (simp; done) | (simp; omega)) _ | refine below_at ?_ (by assumption) (by first | omega | (simp; done) | (simp; omega))))⟩, by simp [intOf]; omega⟩
    · obtain rfl : lo = pos := by omega
      by_cases hin : lo < l.length
      · obtain ⟨b, off, rfl, hb, hcc⟩ := hc lo hin
        have c0 := str_at hcc
        replace c0 := (hB.cell (p := ⟨b, _, none⟩) hb).trans c0
        have HG := Lib.hid (HT.out.1 hin)
        clear hc hcc
        by_cases hk : l[lo] = key
        · have HK := Lib.hid (HG.out.trans (decide_eq_true hk))
          have hke : (l[lo].toList == key.toList) = true := by simp [hk]
          go_wp2_with (go_at_call 107; refine (isNaNs_any _ _).mono ?_; rintro e w1 ⟨rfl, hb1⟩)
          all_goals (go_ret2; exact ⟨ret_ib rfl (by first | exact HK.out.symm | (rw [HK.out]; simp [hk]; done) | (exfalso; rename_i hne; exact hne (by rw [hk]))), by (repeat (first | exact Below.refl _ _ | assumption | refine below_draws ?_ _ | refine Below.drew ?_ | refine below_alloc ?_ _ (by first | omega | (simp; done) | (simp; omega)) | refine Below.setCell ?_ (by first | omega | (simp; done) | (simp; omega)) _ | refine below_at ?_ (by assumption) (by first | omega | (simp; done) | (simp; omega))))⟩)
        · have HK := Lib.hid (HG.out.trans (decide_eq_false hk))
          have hkn : ¬ l[lo].toList = key.toList := fun e => hk (by rw [ByteArray.toList_eq, ByteArray.toList_eq] at e; exact data_inj e)
          go_wp2_with (go_at_call 107; refine (isNaNs_any _ _).mono ?_; rintro e w1 ⟨rfl, hb1⟩)
          all_goals (go_ret2; exact ⟨ret_ib rfl (by first | exact HK.out.symm | (rw [HK.out]; simp [hkn]; done) | (exfalso; rename_i hne; exact hkn hne)), by (repeat (first | exact Below.refl _ _ | assumption | refine below_draws ?_ _ | refine Below.drew ?_ | refine below_alloc ?_ _ (by first | omega | (simp; done) | (simp; omega)) | refine Below.setCell ?_ (by first | omega | (simp; done) | (simp; omega)) _ | refine below_at ?_ (by assumption) (by first | omega | (simp; done) | (simp; omega))))⟩)
      · have HG := Lib.hid (HT.out.2 (by omega))
        go_wp2
        go_ret2
        exact ⟨ret_ib rfl HG.out.symm, hB⟩
set_option maxHeartbeats 1000000 in
theorem compClos_any (s : Splt) (bx : Nat) (v : Value) (l : List ByteArray) (w : World) (h : Arr strCells 1 w l v) (hl : l.length ≤ 1000000) (hr : Rising l) (hb : w.cell? ⟨bx, 0, none⟩ = some v) (hbx : bx < w.heap.size) :
    Calls Tryz.prog 60 #[.agg #[.string s.key, .int .i64 s.ways, .string s.par, .int .i64 s.port], .pointer (some ⟨bx, 0, none⟩)] w
    fun e w' => e = .returned (.bool (l.any (fun x => decide (x = s.key)))) ∧ Below w.heap.size w w' := by
  have HA := Lib.hid (And.intro h hr)
  have HM := Lib.hid (hitK_mem hr s.key)
  obtain ⟨a, cap, rfl, -, -, -⟩ := h
  have hx := Blk.new w #[.string s.key, .int .i64 s.ways, .string s.par, .int .i64 s.port] 58
  have x0 := hx.cell 0 _ rfl
  clear hr hx
  go_enter Tryz.func60, Tryz.ntmps60
  go_wp2_with (go_at_call 61; refine (bsearch_str _ l _ _ (HA.out.1.below (by (repeat (first | exact Below.refl _ _ | assumption | refine below_draws ?_ _ | refine Below.drew ?_ | refine below_alloc ?_ _ (by first | omega | (simp; done) | (simp; omega)) | refine Below.setCell ?_ (by first | omega | (simp; done) | (simp; omega)) _ | refine below_at ?_ (by assumption) (by first | omega | (simp; done) | (simp; omega)))))) hl HA.out.2).mono ?_; rw [HM.out]; rintro e w1 ⟨rfl, hb1⟩)
  go_ret
  exact ⟨rfl, by (repeat (first | exact Below.refl _ _ | assumption | refine below_draws ?_ _ | refine Below.drew ?_ | refine below_alloc ?_ _ (by first | omega | (simp; done) | (simp; omega)) | refine Below.setCell ?_ (by first | omega | (simp; done) | (simp; omega)) _ | refine below_at ?_ (by assumption) (by first | omega | (simp; done) | (simp; omega))))⟩
end Go.Proofs.YtcecpodbmjghhaaGreat
/- Plain: a tree without its idle splitters is right and has none. No program. -/
namespace Go.Proofs.YtcecpodbmjghhaaGreat
/-- a splitter is idle -/
def idleB (l : List Splt) (d : List Drp) (s : Splt) : Bool := (idleL l d).any (fun x => decide (x = s.key))
def compL (l : List Splt) (d : List Drp) : List Splt := l.filter fun s => !idleB l d s
theorem idleL_rise {l : List Splt} (d : List Drp) (h : Rising (l.map (·.key))) : Rising (idleL l d) := by
  unfold Rising idleL at *
  rw [List.pairwise_map] at *
  exact h.sublist List.filter_sublist
theorem idleL_len (l : List Splt) (d : List Drp) : (idleL l d).length ≤ l.length := by
  unfold idleL; rw [List.length_map]; exact List.length_filter_le _ _
section
variable {l : List Splt} {d : List Drp}
end
end Go.Proofs.YtcecpodbmjghhaaGreat
/- Walk of package tree: a tree without the splitters that no customer lies below. -/
namespace Go.Proofs.YtcecpodbmjghhaaGreat
open Go Go.RowKit
/-- the same, and each part stands at the head of a row of its own, or is none -/
def CompPostV (l : List Splt) (d : List Drp) (w : World) (e : Ending) (w' : World) : Prop := ∃ u1 u2, e = .returned (.tuple #[.agg #[u1, u2], .int .i64 (idleL l d).length, .int .i64 0]) ∧ RowV Splt.cells 4 w.heap.size w' u1 (compL l d) ∧ RowV Drp.cells 3 w.heap.size w' u2 d ∧ Below w.heap.size w w'
theorem Blk.grownK {w w' : World} {b : Nat} {cs : Array Value} {t : TypeId} {o : Option Nat} (h : Blk w b cs t) (hg : w.grownBy w' o) (hne : o ≠ some b) : Blk w' b cs t := h.grown hg (fun e => hne e.symm)
theorem deleteFunc_own (v : Value) (l : List Splt) (p : Splt → Bool) (F : FuncId) (cp : Array Value) (base : Nat) (w : World) (ho : w.ownsRow base 58 4 v l.length (l.flatMap Splt.cells)) (hlen : l.length ≤ 100000000)
    (hF : ∀ (args : Array Value) (w : World), (callFunc F args).run Tryz.prog w = .ok (.enter F args) w)
    (hcall : ∀ (x : Splt) (w' : World), x ∈ l → w.grownBy w' v.ownBlock → Calls Tryz.prog F (#[.agg ⟨Splt.cells x⟩] ++ cp) w' fun e w'' => e = .returned (.bool (p x)) ∧ Below w'.heap.size w' w'') :
    Calls Tryz.prog 59 #[v, .func (.func F) #[] cp] w
    fun e w' => ∃ v', e = .returned v' ∧ RowV Splt.cells 4 base w' v' (l.filter fun x => !p x) ∧ w.grownBy w' v.ownBlock ∧ v'.ownBlock = v.ownBlock := by
  obtain ⟨hl, h0⟩ := ho
  rcases h0 with ⟨rfl, h0⟩ | ⟨g, cap, cur, rfl, h1, h2, h3, h4, h5, h6⟩
  · obtain rfl : l = [] := List.length_eq_zero_iff.1 h0
    refine (deleteFunc_splt_nil F cp w hF).mono ?_
    rintro e w' ⟨rfl, hb⟩
    exact ⟨_, rfl, .inl ⟨rfl, rfl⟩, grown_below _ hb, rfl⟩
  · have hrow := Row.of_own Splt.cells_len (⟨hl, .inr ⟨g, cap, cur, rfl, h1, h2, h3, h4, h5, h6⟩⟩ : w.ownsRow base 58 4 (.slice (some ⟨g, 0, none⟩) l.length cap) l.length (l.flatMap Splt.cells)) rfl
    refine (deleteFunc_splt l p F cp g cap w hrow h3 h4 hlen hF hcall).mono ?_
    rintro e w' ⟨rfl, hr, hg⟩
    exact ⟨_, rfl, .inr ⟨g, cap, rfl, h1, Nat.le_trans (List.length_filter_le _ _) h3, h4, hr⟩, hg, rfl⟩
set_option maxHeartbeats 8000000 in
set_option maxRecDepth 100000 in
theorem compactV_any (v1 v2 : Value) (l : List Splt) (d : List Drp) (w : World) (h1 : Arr Splt.cells 4 w l v1) (h2 : Arr Drp.cells 3 w d v2) (hf : treeF l d = 0) : Calls Tryz.prog 13 #[.agg #[v1, v2]] w (CompPostV l d w) := by
  have HA := Lib.hid (And.intro h1 h2)
  have HOK := Lib.hid (tok_of hf)
  have HF := Lib.hid hf
  have hl5 := HOK.out.s.len
  have hd5 : d.length ≤ 5000 := by
    have := HOK.out.dr
    unfold dropsF at this
    split at this <;> omega
  obtain ⟨a1, cap1, rfl, -, -, -⟩ := h1
  obtain ⟨a2, cap2, rfl, -, -, -⟩ := h2
  have hbx : Blk ((w.alloc (.cells #[.slice a1 l.length cap1, .slice a2 d.length cap2] 29)).alloc (.cells #[.slice none 0 0, .slice none 0 0] 29)) w.heap.size #[.slice a1 l.length cap1, .slice a2 d.length cap2] 29 := (Blk.new w _ _).alloc _
  have hrs : Blk ((w.alloc (.cells #[.slice a1 l.length cap1, .slice a2 d.length cap2] 29)).alloc (.cells #[.slice none 0 0, .slice none 0 0] 29)) (w.heap.size + 1) #[.slice none 0 0, .slice none 0 0] 29 := Blk.newAt (by simp)
  have HB0 := Lib.hid (And.intro hbx hrs)
  clear hbx hrs hf
  go_enter Tryz.func13, Tryz.ntmps13
  go_wp2_with fail
  refine (checkTree_any _ _ l d _ (by exact HA.out.1.below (by (repeat (first | exact Below.refl _ _ | assumption | refine below_draws ?_ _ | refine Below.drew ?_ | refine below_alloc ?_ _ (by first | omega | (simp; done) | (simp; omega)) | refine Below.setCell ?_ (by first | omega | (simp; done) | (simp; omega)) _ | refine below_at ?_ (by assumption) (by first | omega | (simp; done) | (simp; omega)))))) (by exact HA.out.2.below (by (repeat (first | exact Below.refl _ _ | assumption | refine below_draws ?_ _ | refine Below.drew ?_ | refine below_alloc ?_ _ (by first | omega | (simp; done) | (simp; omega)) | refine Below.setCell ?_ (by first | omega | (simp; done) | (simp; omega)) _ | refine below_at ?_ (by assumption) (by first | omega | (simp; done) | (simp; omega))))))).mono ?_
  rw [HF.out]
  rintro e w2 ⟨rfl, hb2⟩
  have hz2 : w.heap.size + 2 ≤ w2.heap.size := by have := hb2.size; simpa using this
  have hBw : Below w.heap.size w w2 := by (repeat (first | exact Below.refl _ _ | assumption | refine below_draws ?_ _ | refine Below.drew ?_ | refine below_alloc ?_ _ (by first | omega | (simp; done) | (simp; omega)) | refine Below.setCell ?_ (by first | omega | (simp; done) | (simp; omega)) _ | refine below_at ?_ (by assumption) (by first | omega | (simp; done) | (simp; omega))))
  have hbx := HB0.out.1.below hb2 (by simp; omega)
  have hrs := HB0.out.2.below hb2 (by simp)
  have H2 := Lib.hid (And.intro hBw (And.intro hbx hrs))
  have p0 := hbx.cell 0 _ rfl
  have p1 := hbx.cell 1 _ rfl
  clear hb2 hBw hbx hrs
  go_wp2_with fail
  refine (idle_any _ _ l d _ (by exact HA.out.1.below H2.out.1) (by exact HA.out.2.below H2.out.1) HOK.out).mono ?_
  rintro e w3 ⟨vi, rfl, oi, hb3⟩
  obtain ⟨ai, capi, rfl⟩ := own_sliceB oi
  have hz3 : w2.heap.size ≤ w3.heap.size := hb3.size
  have hBw : Below w.heap.size w w3 := by have := H2.out.1; (repeat (first | exact Below.refl _ _ | assumption | refine below_draws ?_ _ | refine Below.drew ?_ | refine below_alloc ?_ _ (by first | omega | (simp; done) | (simp; omega)) | refine Below.setCell ?_ (by first | omega | (simp; done) | (simp; omega)) _ | refine below_at ?_ (by assumption) (by first | omega | (simp; done) | (simp; omega))))
  have hbx := (H2.out.2.1.below hb3 (by omega)).alloc (.cells #[.slice ai (idleL l d).length capi] 60)
  have hrs := (H2.out.2.2.below hb3 (by omega)).alloc (.cells #[.slice ai (idleL l d).length capi] 60)
  have hib := Blk.new w3 #[.slice ai (idleL l d).length capi] 60
  have oi2 := World.ownsRow.alloc (w := w3) oi (.cells #[.slice ai (idleL l d).length capi] 60)
  have hli := idleL_len l d
  have hilt := oi.lt
  have H3 := Lib.hid (And.intro hBw (And.intro hbx (And.intro hrs (And.intro hib (And.intro oi2 hilt)))))
  clear hb3 hBw hbx hrs oi hib oi2 hilt p0 p1
  have p0 := H3.out.2.1.cell 0 _ rfl
  have p1 := H3.out.2.1.cell 1 _ rfl
  go_wp2_with fail
  refine (copied_any _ _ l d _ (by exact HA.out.1.below (by have := H3.out.1; (repeat (first | exact Below.refl _ _ | assumption | refine below_draws ?_ _ | refine Below.drew ?_ | refine below_alloc ?_ _ (by first | omega | (simp; done) | (simp; omega)) | refine Below.setCell ?_ (by first | omega | (simp; done) | (simp; omega)) _ | refine below_at ?_ (by assumption) (by first | omega | (simp; done) | (simp; omega)))))) (by exact HA.out.2.below (by have := H3.out.1; (repeat (first | exact Below.refl _ _ | assumption | refine below_draws ?_ _ | refine Below.drew ?_ | refine below_alloc ?_ _ (by first | omega | (simp; done) | (simp; omega)) | refine Below.setCell ?_ (by first | omega | (simp; done) | (simp; omega)) _ | refine below_at ?_ (by assumption) (by first | omega | (simp; done) | (simp; omega)))))) (by omega) (by omega)).mono ?_
  rintro e w4 ⟨u1, u2, rfl, o1, o2, hap, hb4⟩
  obtain ⟨b1, cap3, rfl⟩ := own_sliceB o1
  obtain ⟨b2, cap4, rfl⟩ := own_sliceB o2
  have hz4 := hb4.size
  simp only [World.size_alloc] at hz4
  have hBw : Below w.heap.size w w4 := by have := H3.out.1; (repeat (first | exact Below.refl _ _ | assumption | refine below_draws ?_ _ | refine Below.drew ?_ | refine below_alloc ?_ _ (by first | omega | (simp; done) | (simp; omega)) | refine Below.setCell ?_ (by first | omega | (simp; done) | (simp; omega)) _ | refine below_at ?_ (by assumption) (by first | omega | (simp; done) | (simp; omega))))
  have hrs := (H3.out.2.2.1.below hb4 (by simp; omega)).alloc (.cells #[.slice b1 l.length cap3, .slice b2 d.length cap4] 29)
  have hib := (H3.out.2.2.2.1.below hb4 (by simp)).alloc (.cells #[.slice b1 l.length cap3, .slice b2 d.length cap4] 29)
  have oi := World.ownsRow.alloc (w := w4) (own_below H3.out.2.2.2.2.1 hb4) (.cells #[.slice b1 l.length cap3, .slice b2 d.length cap4] 29)
  have hox := Blk.new w4 #[.slice b1 l.length cap3, .slice b2 d.length cap4] 29
  have lt1 := o1.lt
  have lt2 := o2.lt
  simp only [World.size_alloc] at lt1 lt2
  have o1 := World.ownsRow.alloc (w := w4) o1 (.cells #[.slice b1 l.length cap3, .slice b2 d.length cap4] 29)
  have o2 := World.ownsRow.alloc (w := w4) o2 (.cells #[.slice b1 l.length cap3, .slice b2 d.length cap4] 29)
  have hB5 : Below w.heap.size w (w4.alloc (.cells #[.slice b1 l.length cap3, .slice b2 d.length cap4] 29)) := by (repeat (first | exact Below.refl _ _ | assumption | refine below_draws ?_ _ | refine Below.drew ?_ | refine below_alloc ?_ _ (by first | omega | (simp; done) | (simp; omega)) | refine Below.setCell ?_ (by first | omega | (simp; done) | (simp; omega)) _ | refine below_at ?_ (by assumption) (by first | omega | (simp; done) | (simp; omega))))
  have H4 := Lib.hid (And.intro hB5 (And.intro hrs (And.intro hib (And.intro oi (And.intro hox (And.intro o1 (And.intro o2 hap)))))))
  have hw5 : w4.heap.size < (w4.alloc (.cells #[.slice b1 l.length cap3, .slice b2 d.length cap4] 29)).heap.size := by simp
  have H4L := Lib.hid (And.intro lt1 lt2)
  clear hb4 hBw hrs oi hib hox o1 o2 hap hB5 lt1 lt2 p0 p1
  have HFN : Hid (∀ (args : Array Value) (w : World), (callFunc 60 args).run Tryz.prog w = .ok (.enter 60 args) w) := run_fn Tryz.func60 (by kernel_rfl) rfl
  have q0 := H4.out.2.2.2.2.1.cell 0 _ rfl
  have q1 := H4.out.2.2.2.2.1.cell 1 _ rfl
  go_wp2_with fail
  refine (deleteFunc_own _ l (idleB l d) _ #[.pointer (some ⟨w3.heap.size, 0, none⟩)] _ _ (by exact H4.out.2.2.2.2.2.1) (by omega) HFN.out ?_).mono ?_
  · intro x w' hx hg
    refine (compClos_any x w3.heap.size _ (idleL l d) w' ?_ (by omega) (idleL_rise d HOK.out.s.rise) ((H4.out.2.2.1.grownK hg ?_).cell 0 _ rfl) (H4.out.2.2.1.grownK hg ?_).lt).mono (fun e w'' h => h)
    · have := H4.out.2.2.2.1.kept hg ?_
      · refine Arr.of_own (cells := strCells) (sz := 1) (l := idleL l d) (fun _ => rfl) (base := w2.heap.size) (e := 9) ?_
        rw [show (idleL l d).flatMap strCells = (idleL l d).map Value.string from flat_one _ _]
        exact this
      · cases hv : (Value.slice ai (idleL l d).length capi).ownBlock with
        | none => exact .inl rfl
        | some c => exact .inr (fun e => by have h1 := (H3.out.2.2.2.2.2 c hv).2; have h2 := (H4L.out.1 c e.symm).1; omega)
    · exact fun e => by have h2 := (H4L.out.1 _ e).1; omega
    · exact fun e => by have h2 := (H4L.out.1 _ e).1; omega
  rintro e w6 ⟨u', rfl, ha6, hg6, hob⟩
  obtain ⟨a', cap', rfl⟩ := ha6.slice
  have hz6 := hg6.size
  have ne1 : (Value.slice b1 l.length cap3).ownBlock ≠ some (w.heap.size + 1) := fun e => by have h2 := (H4L.out.1 _ e).1; omega
  have ne3 : (Value.slice b1 l.length cap3).ownBlock ≠ some w3.heap.size := fun e => by have h2 := (H4L.out.1 _ e).1; omega
  have ne4 : (Value.slice b1 l.length cap3).ownBlock ≠ some w4.heap.size := fun e => by have h2 := (H4L.out.1 _ e).2; omega
  have hrs := H4.out.2.1.grownK hg6 ne1
  have hib := H4.out.2.2.1.grownK hg6 ne3
  have hox := H4.out.2.2.2.2.1.grownK hg6 ne4
  have o2 := H4.out.2.2.2.2.2.2.1.kept hg6 (by
    cases hv : (Value.slice b2 d.length cap4).ownBlock with
    | none => exact .inl rfl
    | some c => exact .inr (fun e => H4.out.2.2.2.2.2.2.2 c e.symm hv))
  have hB6 : Below w.heap.size w w6 := below_grown H4.out.1 H4.out.2.2.2.2.2.1 hg6 (by simp; omega) (by simp; omega)
  have hcl : (compL l d).length = (l.filter fun x => !idleB l d x).length := rfl
  have H6 := Lib.hid (And.intro hB6 (And.intro hrs (And.intro hib (And.intro hox (And.intro o2 (And.intro ha6 hob))))))
  clear q0 q1
  have q0 := hox.cell 0 _ rfl
  have q1 := hox.cell 1 _ rfl
  have qf := fun o => hox.free o
  have i0 := hib.cell 0 _ rfl
  have r0 := hrs.cell 0 _ rfl
  have r1 := hrs.cell 1 _ rfl
  have rf := fun o => hrs.free o
  clear hrs hib hox o2 hB6 ha6 hob hg6
  go_wp2_with fail
  have hlr := H6.out.2.1.lt
  have hox7 : Blk (w6.setCell ⟨w4.heap.size, 0, none⟩ (.slice a' (compL l d).length cap')) w4.heap.size #[.slice a' (compL l d).length cap', .slice b2 d.length cap4] 29 := H6.out.2.2.2.1.set 0 _
  have hib7 := H6.out.2.2.1.setOther (c := w4.heap.size) (by omega) 0 (.slice a' (compL l d).length cap')
  have hrs7 := H6.out.2.1.setOther (c := w4.heap.size) (by omega) 0 (.slice a' (compL l d).length cap')
  have hob := H6.out.2.2.2.2.2.2
  have ha7 : RowV Splt.cells 4 _ (w6.setCell ⟨w4.heap.size, 0, none⟩ (.slice a' (compL l d).length cap')) (.slice a' (compL l d).length cap') (compL l d) := RowV.setNe H6.out.2.2.2.2.2.1 (fun e => ne4 (hob.symm.trans e)) _ _
  have o27 : RowV Drp.cells 3 _ (w6.setCell ⟨w4.heap.size, 0, none⟩ (.slice a' (compL l d).length cap')) (.slice b2 d.length cap4) d := RowV.setNe (RowV.of_own Drp.cells_len H6.out.2.2.2.2.1) (fun e => by have := (H4L.out.2 _ e).2; omega) _ _
  have hB7 : Below w.heap.size w (w6.setCell ⟨w4.heap.size, 0, none⟩ (.slice a' (compL l d).length cap')) := Below.setCell H6.out.1 (by simp; omega) _
  have neA : (Value.slice a' (compL l d).length cap').ownBlock ≠ some (w.heap.size + 1) := fun e => ne1 (hob.symm.trans e)
  have neB : (Value.slice b2 d.length cap4).ownBlock ≠ some (w.heap.size + 1) := fun e => by have h2 := (H4L.out.2 _ e).1; omega
  have hcm : (compL l d).length = (l.filter fun x => !idleB l d x).length := rfl
  rw [← hcm]
  have HN := Lib.hid (And.intro neA neB)
  have hne5 : w.heap.size + 1 ≠ w4.heap.size := by omega
  have hne6 : w.heap.size + 1 ≠ w3.heap.size := by omega
  generalize w6.setCell ⟨w4.heap.size, 0, none⟩ (.slice a' (compL l d).length cap') = w7 at *
  have H7 := Lib.hid (And.intro hB7 (And.intro ha7 (And.intro o27 (And.intro hox7 (And.intro hib7 hrs7)))))
  clear q0 q1 qf i0 r0 r1 rf neA neB
  have q0 := hox7.cell 0 _ rfl
  have q1 := hox7.cell 1 _ rfl
  have i0 := hib7.cell 0 _ rfl
  have r0 := hrs7.cell 0 _ rfl
  have r1 := hrs7.cell 1 _ rfl
  have rf := fun o => hrs7.free o
  clear hB7 ha7 o27 hox7 hib7 hrs7 hob ne1 ne3 ne4
  go_region_held3 (fun w' => w'.cell? ⟨w4.heap.size, 0, none⟩ = some (.slice a' (compL l d).length cap') ∧ w'.cell? ⟨w4.heap.size, 1, none⟩ = some (.slice b2 d.length cap4) ∧ w'.cell? ⟨w3.heap.size, 0, none⟩ = some (.slice ai (idleL l d).length capi)) (go_keep) (fail)
  go_wp2
  refine bodyPost_ret (v := .tuple #[.agg #[.slice a' (compL l d).length cap', .slice b2 d.length cap4], .int .i64 (idleL l d).length, .int .i64 0]) ?_ rfl ⟨_, _, rfl, ?_, ?_, ?_⟩
  · simp [results, go_sem, r0, r1]
    rfl
  · exact RowV.drew (RowV.low (RowV.setNe (RowV.setNe H7.out.2.1 HN.out.1 _ _) HN.out.1 _ _) (by simp only [World.size_alloc]; omega))
  · exact RowV.drew (RowV.low (RowV.setNe (RowV.setNe H7.out.2.2.1 HN.out.2 _ _) HN.out.2 _ _) (by simp only [World.size_alloc]; omega))
  · have := H7.out.1; (repeat (first | exact Below.refl _ _ | assumption | refine below_draws ?_ _ | refine Below.drew ?_ | refine below_alloc ?_ _ (by first | omega | (simp; done) | (simp; omega)) | refine Below.setCell ?_ (by first | omega | (simp; done) | (simp; omega)) _ | refine below_at ?_ (by assumption) (by first | omega | (simp; done) | (simp; omega))))
end Go.Proofs.YtcecpodbmjghhaaGreat
