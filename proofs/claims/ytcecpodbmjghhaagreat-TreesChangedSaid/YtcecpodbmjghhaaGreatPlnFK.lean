/- Texts of one subject in one: PlainF, PlainK, TreeP; what each shows stands at its head. No condition. -/
import Derived.Test.YtcecpodbmjghhaaGreatTreesP
import Derived.Test.YtcecpodbmjghhaaGreatTreeGH
/- Plain: the ports that are used and the free ones add up to all; each customer is below each splitter of its chain. No program. -/
set_option linter.unusedVariables false
set_option linter.unusedSimpArgs false
namespace Go.Proofs.YtcecpodbmjghhaaGreat
/-- the ports at which something is -/
def usedP (l : List Splt) (d : List Drp) : List PortK := (l.filter fun s => decide (s.par.size ≠ 0)).map (fun s => (s.par, s.port)) ++ d.map fun x => (x.spl, x.port)
theorem used_nodup {l : List Splt} {d : List Drp} (h : TOk l d) : (usedP l d).Nodup := by
  have hdr := h.dr
  unfold dropsF at hdr
  split at hdr
  · omega
  split at hdr
  · rename_i h1; exact absurd hdr h1
  split at hdr
  · omega
  rename_i htw
  have htw2 : twiceD l d d.length = false := by simpa using htw
  unfold twiceD at htw2
  rw [List.any_eq_false] at htw2
  have hD : ∀ k (hk : k < d.length), seenD l d k (d[k].spl, d[k].port) = false := fun k hk => by
    have := htw2 k (by simpa using hk)
    rw [dupD_in l d k hk] at this
    simpa using this
  unfold usedP List.Nodup
  rw [List.pairwise_append]
  refine ⟨?_, ?_, ?_⟩
  · rw [List.pairwise_map, List.pairwise_filter, List.pairwise_iff_getElem]
    intro i j hi hj hij pi pj e
    have hB := h.tw
    unfold twiceB at hB
    rw [List.any_eq_false] at hB
    have := hB j (by simpa using hj)
    unfold dupAt at this
    rw [List.getElem?_eq_getElem hj] at this
    simp only [Bool.and_eq_true, not_and] at this
    refine this pj ?_
    unfold seenP
    rw [List.any_eq_true]
    refine ⟨l[i], ?_, ?_⟩
    · rw [List.mem_take_iff_getElem]
      exact ⟨i, by omega, rfl⟩
    · rw [Bool.and_eq_true]
      exact ⟨pi, by simpa using e⟩
  · rw [List.pairwise_map, List.pairwise_iff_getElem]
    intro i j hi hj hij e
    have := hD j hj
    unfold seenD at this
    rw [Bool.or_eq_false_iff] at this
    have h2 := this.2
    rw [List.any_eq_false] at h2
    refine h2 d[i] ?_ (by simpa using e)
    rw [List.mem_take_iff_getElem]
    exact ⟨i, by omega, rfl⟩
  · intro a ha b hb e
    subst e
    obtain ⟨s, hs, rfl⟩ := List.mem_map.1 ha
    obtain ⟨x, hx, e⟩ := List.mem_map.1 hb
    obtain ⟨k, hk, rfl⟩ := List.mem_iff_getElem.1 hx
    have := hD k hk
    unfold seenD at this
    rw [Bool.or_eq_false_iff] at this
    have h1 := this.1
    unfold seenP at h1
    rw [List.take_length, List.any_eq_false] at h1
    obtain ⟨hs1, hs2⟩ := List.mem_filter.1 hs
    refine h1 s hs1 ?_
    rw [Bool.and_eq_true]
    exact ⟨hs2, by simpa using e.symm⟩
/-- customers stand in order -/
theorem TOk.custs {l : List Splt} {d : List Drp} (h : TOk l d) : Rising (d.map (·.cust)) := by
  have h0 := h.dr
  unfold dropsF at h0
  split at h0
  · omega
  split at h0
  · rename_i h1; exact absurd h0 h1
  rename_i h1
  refine rising_of _ (fun k hk => ?_)
  rw [List.length_map] at hk
  have h2 := faultAt_zero.1 (show faultAt (dropFault l d) d.length = 0 by omega) (k + 1) hk
  have hk' : k < d.length := by omega
  have e1 : (d.map (·.cust))[k]?.getD default = d[k].cust := by simp [hk']
  have e2 : (d.map (·.cust))[k + 1]?.getD default = d[k + 1].cust := by simp [hk]
  rw [e1, e2]
  unfold dropFault at h2
  rw [List.getElem?_eq_getElem hk] at h2
  simp only at h2
  split at h2
  · omega
  · split at h2
    · omega
    · split at h2
      · omega
      · have e3 : (d[k + 1 - 1]?.getD default) = d[k] := by simp [hk']
        rw [e3, leB_not] at h2
        cases hx : lessB d[k].cust d[k + 1].cust
        · rw [hx] at h2; simp at h2
        · rfl
theorem custs_ne {d : List Drp} (h : Rising (d.map (·.cust))) : ∀ i j (hi : i < d.length) (hj : j < d.length), i < j → d[i].cust ≠ d[j].cust := by
  intro i j hi hj hij e
  unfold Rising at h
  rw [List.pairwise_map, List.pairwise_iff_getElem] at h
  have h2 := h i j hi hj hij
  rw [e, lessB_irrefl] at h2
  cases h2
/-- each drop is that of its customer -/
theorem dropW_self {d : List Drp} (h : Rising (d.map (·.cust))) {k : Nat} (hk : k < d.length) : dropW d d[k].cust = some d[k] := by
  rcases findD_get d d[k].cust with ⟨_, hn⟩ | ⟨j, hj, _, hg, he⟩
  · unfold dropW at hn
    rw [List.find?_eq_none] at hn
    exact absurd (strB_iff.2 rfl) (hn d[k] (List.getElem_mem _))
  · rw [hg]
    rcases Nat.lt_trichotomy j k with hjk | hjk | hjk
    · exact absurd he (custs_ne h j k hj hk hjk)
    · subst hjk; rfl
    · exact absurd he.symm (custs_ne h k j hk hj hjk)
end Go.Proofs.YtcecpodbmjghhaaGreat
/- Plain: where a customer is connected. No program. -/
namespace Go.Proofs.YtcecpodbmjghhaaGreat
/-- the best port so far, and how often light is halved on the way to it -/
def bestStep (l : List Splt) (d : List Drp) (c : ByteArray) (st : Option (Drp × Int)) (s : Splt) : Option (Drp × Int) :=
  match freeL l d s with
  | [] => st
  | p :: _ => match st with
    | none => some (⟨c, s.key, p⟩, powS (chainV l s.key))
    | some (b, m) => if powS (chainV l s.key) < m then some (⟨c, s.key, p⟩, powS (chainV l s.key)) else some (b, m)
def bestK (l : List Splt) (d : List Drp) (c : ByteArray) (k : Nat) : Option (Drp × Int) := (l.take k).foldl (bestStep l d c) none
theorem bestK_succ {l : List Splt} {d : List Drp} {c : ByteArray} {k : Nat} (hk : k < l.length) : bestK l d c (k + 1) = bestStep l d c (bestK l d c k) l[k] := by
  unfold bestK
  rw [List.take_succ_eq_append_getElem hk, List.foldl_append]; rfl
def bestD (st : Option (Drp × Int)) : Drp := match st with | none => eDrp | some (b, _) => b
def bestN (st : Option (Drp × Int)) : Int := match st with | none => -1 | some (_, m) => m
/-- the error of Connect -/
def conF (l : List Splt) (d : List Drp) (c : ByteArray) : Int :=
  if treeF l d ≠ 0 then treeF l d else if keyB c = false then 5 else if 0 ≤ findD d c then 6 else if bestK l d c l.length = none then 12 else if 5000 ≤ d.length then 2 else 0
def conB (l : List Splt) (d : List Drp) (c : ByteArray) : Drp := if conF l d c = 0 then bestD (bestK l d c l.length) else eDrp
/-- where a customer stands among rising ones -/
def posD (d : List Drp) (c : ByteArray) : Nat := (d.takeWhile fun x => lessB x.cust c).length
theorem posD_le (d : List Drp) (c : ByteArray) : posD d c ≤ d.length := (List.takeWhile_sublist _).length_le
def conS (l : List Splt) (d : List Drp) (c : ByteArray) : List Splt := if conF l d c = 0 then l else []
def conD (l : List Splt) (d : List Drp) (c : ByteArray) : List Drp := if conF l d c = 0 then d.take (posD d c) ++ conB l d c :: d.drop (posD d c) else []
/-- what the search keeps: a free port of a splitter, and its way -/
theorem best_inv {l : List Splt} {d : List Drp} (h : SOk l) (he : ∀ s ∈ l, endsB l l.length s.key = true) (c : ByteArray) : ∀ k, k ≤ l.length → match bestK l d c k with
    | none => ∀ j (hj : j < l.length), j < k → freeL l d l[j] = []
    | some (b, m) => 0 ≤ m ∧ m ≤ 3500 ∧ ∃ s ∈ l, ∃ p r, freeL l d s = p :: r ∧ b = ⟨c, s.key, p⟩ ∧ m = powS (chainV l s.key)
  | 0, _ => by simp [bestK]
  | k + 1, hk => by
    have ih := best_inv (d := d) h he c k (by omega)
    have hs := List.getElem_mem (show k < l.length by omega)
    have hw : ∀ s' ∈ chainV l l[k].key, waysB s'.ways = true := fun s' hs' => (h.keys s' (upC_mem (he _ hs) s' (by unfold chainV at hs'; simpa using hs'))).2
    have hn := powS_nonneg hw
    have hcl : (chainV l l[k].key).length ≤ 500 := by
      have := upC_le (he _ hs)
      have := h.len
      unfold chainV
      rw [List.length_reverse]; omega
    rw [bestK_succ (by omega)]
    unfold bestStep
    cases hf : freeL l d l[k] with
    | nil =>
      cases hb : bestK l d c k with
      | none =>
        rw [hb] at ih
        intro j hj hjk
        rcases Nat.lt_or_ge j k with h1 | h1
        · exact ih j hj h1
        · obtain rfl : j = k := by omega
          exact hf
      | some x => rw [hb] at ih; exact ih
    | cons p r =>
      have hnew : 0 ≤ powS (chainV l l[k].key) ∧ powS (chainV l l[k].key) ≤ 3500 ∧ ∃ s ∈ l, ∃ p' r', freeL l d s = p' :: r' ∧ (⟨c, l[k].key, p⟩ : Drp) = ⟨c, s.key, p'⟩ ∧ powS (chainV l l[k].key) = powS (chainV l s.key) := ⟨hn.1, by omega, _, hs, _, _, hf, rfl, rfl⟩
      cases hb : bestK l d c k with
      | none => exact hnew
      | some x =>
        obtain ⟨b, m⟩ := x
        rw [hb] at ih
        simp only
        by_cases hlt : powS (chainV l l[k].key) < m
        · rw [if_pos hlt]; exact hnew
        · rw [if_neg hlt]; exact ih
end Go.Proofs.YtcecpodbmjghhaaGreat
/- Walks of package tree: the place of a customer among the drops; how often light is halved on the way to a splitter. -/
namespace Go.Proofs.YtcecpodbmjghhaaGreat
open Go Go.RowKit
set_option maxHeartbeats 1000000 in
set_option maxRecDepth 100000 in
theorem bsearch_drp (v tv : Value) (l : List Drp) (c : Drp → Int) (pos : Nat) (F : FuncId) (cp : Array Value) (w : World) (h : Arr Drp.cells 3 w l v) (hl : l.length ≤ 1000000) (hpos : pos ≤ l.length)
    (hmono : ∀ k (hk : k < l.length), (c l[k] < 0 ↔ k < pos)) (hF : ∀ (args : Array Value) (w : World), (callFunc F args).run Tryz.prog w = .ok (.enter F args) w)
    (hcall : ∀ (x : Drp) (w' : World), x ∈ l → Below w.heap.size w w' → Calls Tryz.prog F (#[.agg ⟨Drp.cells x⟩, tv] ++ cp) w' fun e w'' => e = .returned (.int .i64 (c x)) ∧ Below w'.heap.size w' w'') :
    Calls Tryz.prog 51 #[v, tv, .func (.func F) #[] cp] w
      fun e w' => e = .returned (.tuple #[.int .i64 pos, .bool (hitAt c l pos)]) ∧ Below w.heap.size w w' := by
  obtain ⟨a, cap, rfl, hcap, hmax, hc⟩ := h
  have hlen : l.length ≤ maxLen := by omega
  unfold maxLen at hlen hmax
  have HC := Lib.hid (And.intro hcall hmono)
  clear hcall hmono
  go_enter Tryz.func51, Tryz.ntmps51
  go_wp2
  go_loopw [9, 10] (fun i j wr => ∃ a b : Nat, a ≤ pos ∧ pos ≤ b ∧ b ≤ l.length ∧ i = .int .i64 a ∧ j = .int .i64 b ∧ Below w.heap.size w wr) (fun i j _ => (intOf j).toNat - (intOf i).toNat)
  case atStart => exact ⟨0, l.length, by omega, by omega, by omega, rfl, rfl, Below.refl _ _⟩
  case round =>
    obtain ⟨lo, hi, h1, h2, h3, rfl, rfl, hB⟩ := hrel
    have hsz := hB.size
    by_cases hlt : lo < hi
    · have hm : (lo + hi) / 2 < l.length := by omega
      have hm1 : lo ≤ (lo + hi) / 2 := by omega
      have hm2 : (lo + hi) / 2 < hi := by omega
      obtain ⟨b, off, rfl, hb, hcc⟩ := hc ((lo + hi) / 2) hm
      obtain ⟨c0, c1, c2⟩ := drp_at hcc
      replace c0 := (hB.cell (p := ⟨b, _, none⟩) hb).trans c0
      replace c1 := (hB.cell (p := ⟨b, _, none⟩) hb).trans c1
      replace c2 := (hB.cell (p := ⟨b, _, none⟩) hb).trans c2
      have hmo := HC.out.2 ((lo + hi) / 2) hm
      have hmem : l[(lo + hi) / 2] ∈ l := List.getElem_mem _
      clear hc hcc
      have HM := Lib.hid hmem
      clear hmem
      by_cases hx : c l[(lo + hi) / 2] < 0
      · have hp : (lo + hi) / 2 < pos := hmo.1 hx
        clear hmo
        go_wp2_with fail
        refine (HC.out.1 l[(lo + hi) / 2] _ HM.out ?_).mono ?_
        · (repeat (first | exact Below.refl _ _ | assumption | refine below_draws ?_ _ | refine Below.drew ?_ | refine below_alloc ?_ _ (by first | omega | (simp; done) | (simp; omega)) | refine Below.setCell ?_ (by first | omega | (simp; done) | (simp; omega)) _ | refine below_at ?_ (by assumption) (by first | omega | (simp; done) | (simp; omega))))
        rintro e w1 ⟨rfl, hb1⟩
        go_wp2
        exact ⟨⟨(lo + hi) / 2 + 1, hi, by omega, by omega, by omega, by go_num, rfl, by (repeat (first | exact Below.refl _ _ | assumption | refine below_draws ?_ _ | refine Below.drew ?_ | refine below_alloc ?_ _ (by first | omega | (simp; done) | (simp; omega)) | refine Below.setCell ?_ (by first | omega | (simp; done) | (simp; omega)) _ | refine below_at ?_ (by assumption) (by first | omega | (simp; done) | (simp; omega))))⟩, by simp [intOf]; omega⟩
      · have hp : pos ≤ (lo + hi) / 2 := by have := fun h => hx (hmo.2 h); omega
        clear hmo
        go_wp2_with fail
        refine (HC.out.1 l[(lo + hi) / 2] _ HM.out ?_).mono ?_
        · (repeat (first | exact Below.refl _ _ | assumption | refine below_draws ?_ _ | refine Below.drew ?_ | refine below_alloc ?_ _ (by first | omega | (simp; done) | (simp; omega)) | refine Below.setCell ?_ (by first | omega | (simp; done) | (simp; omega)) _ | refine below_at ?_ (by assumption) (by first | omega | (simp; done) | (simp; omega))))
        rintro e w1 ⟨rfl, hb1⟩
        go_wp2
        exact ⟨⟨lo, (lo + hi) / 2, by omega, by omega, by omega, by go_num, by go_num, by (repeat (first | exact Below.refl _ _ | assumption | refine below_draws ?_ _ | refine Below.drew ?_ | refine below_alloc ?_ _ (by first | omega | (simp; done) | (simp; omega)) | refine Below.setCell ?_ (by first | omega | (simp; done) | (simp; omega)) _ | refine below_at ?_ (by assumption) (by first | omega | (simp; done) | (simp; omega))))⟩, by simp [intOf]; omega⟩
    · obtain rfl : lo = pos := by omega
      by_cases hin : lo < l.length
      · obtain ⟨b, off, rfl, hb, hcc⟩ := hc lo hin
        obtain ⟨c0, c1, c2⟩ := drp_at hcc
        replace c0 := (hB.cell (p := ⟨b, _, none⟩) hb).trans c0
        replace c1 := (hB.cell (p := ⟨b, _, none⟩) hb).trans c1
        replace c2 := (hB.cell (p := ⟨b, _, none⟩) hb).trans c2
        have HM : Hid (l[lo] ∈ l) := List.getElem_mem _
        have HG := Lib.hid (hitAt_in (c := c) hin)
        clear hc hcc
        go_wp2_with fail
        refine (HC.out.1 l[lo] _ HM.out ?_).mono ?_
        · (repeat (first | exact Below.refl _ _ | assumption | refine below_draws ?_ _ | refine Below.drew ?_ | refine below_alloc ?_ _ (by first | omega | (simp; done) | (simp; omega)) | refine Below.setCell ?_ (by first | omega | (simp; done) | (simp; omega)) _ | refine below_at ?_ (by assumption) (by first | omega | (simp; done) | (simp; omega))))
        rintro e w1 ⟨rfl, hb1⟩
        go_wp2
        go_ret2
        exact ⟨ret_ib rfl HG.out.symm, by (repeat (first | exact Below.refl _ _ | assumption | refine below_draws ?_ _ | refine Below.drew ?_ | refine below_alloc ?_ _ (by first | omega | (simp; done) | (simp; omega)) | refine Below.setCell ?_ (by first | omega | (simp; done) | (simp; omega)) _ | refine below_at ?_ (by assumption) (by first | omega | (simp; done) | (simp; omega))))⟩
      · have HG := Lib.hid (hitAt_out (c := c) (show l.length ≤ lo by omega))
        go_wp2
        go_ret2
        exact ⟨ret_ib rfl HG.out.symm, hB⟩
set_option maxHeartbeats 1000000 in
theorem conClos_any (s : Drp) (key : ByteArray) (w : World) : Calls Tryz.prog 52 #[.agg #[.string s.cust, .string s.spl, .int .i64 s.port], .string key] w
    fun e w' => e = .returned (.int .i64 (cmpB s.cust key)) ∧ Below w.heap.size w w' := by
  go_enter Tryz.func52, Tryz.ntmps52
  go_wp2_with (go_at_call 53; refine (Tryz.strings_Compare _ _ _).mono ?_; rintro e w' ⟨rfl, rfl⟩)
  go_ret
  exact ⟨rfl, by (repeat (first | exact Below.refl _ _ | assumption | refine below_draws ?_ _ | refine Below.drew ?_ | refine below_alloc ?_ _ (by first | omega | (simp; done) | (simp; omega)) | refine Below.setCell ?_ (by first | omega | (simp; done) | (simp; omega)) _ | refine below_at ?_ (by assumption) (by first | omega | (simp; done) | (simp; omega))))⟩
theorem risingD_mono {d : List Drp} (h : Rising (d.map (·.cust))) (c : ByteArray) : d.Pairwise (fun a b => lessB b.cust c = true → lessB a.cust c = true) := by
  unfold Rising at h
  rw [List.pairwise_map] at h
  exact h.imp fun h1 h2 => lessB_trans h1 h2
set_option maxHeartbeats 1000000 in
theorem place_any (v : Value) (d : List Drp) (c : ByteArray) (w : World) (h : Arr Drp.cells 3 w d v) (hl : d.length ≤ 1000000) (hr : Rising (d.map (·.cust))) :
    Calls Tryz.prog 51 #[v, .string c, .func (.func 52) #[] #[]] w
    fun e w' => (∃ b : Bool, e = .returned (.tuple #[.int .i64 (posD d c), .bool b])) ∧ Below w.heap.size w w' := by
  have hF : ∀ (args : Array Value) (w : World), (callFunc 52 args).run Tryz.prog w = .ok (.enter 52 args) w := run_fn Tryz.func52 (by kernel_rfl) rfl
  have hm : ∀ k (hk : k < d.length), (cmpB d[k].cust c < 0 ↔ k < posD d c) := fun k hk => (cmpB_less _ _).trans (takeWhile_mono (risingD_mono hr c) k hk)
  refine (bsearch_drp v _ d (fun x => cmpB x.cust c) (posD d c) _ #[] w h hl (posD_le d c) hm hF (fun x w' hx hb => (conClos_any x c w').mono fun e w'' h => h)).mono ?_
  rintro e w' ⟨rfl, hb⟩
  exact ⟨⟨_, rfl⟩, hb⟩
theorem powS_takeP {C : List Splt} {k : Nat} (hk : k < C.length) : powS (C.take (k + 1)) = powS (C.take k) + dbl C[k].ways := by
  unfold powS
  rw [List.take_succ_eq_append_getElem hk, List.map_append, List.sum_append]; simp
set_option maxHeartbeats 4000000 in
set_option maxRecDepth 100000 in
theorem pdoublings_any (v1 v2 : Value) (l : List Splt) (s : Splt) (w : World) (h : Arr Splt.cells 4 w l v1) (hs : SOk l) (he : endsB l l.length s.key = true) : Calls Tryz.prog 49 #[.agg #[v1, v2], .agg #[.string s.key, .int .i64 s.ways, .string s.par, .int .i64 s.port]] w
    fun e w' => e = .returned (.int .i64 (powS (chainV l s.key))) ∧ Below w.heap.size w w' := by
  have HA := Lib.hid (And.intro h hs)
  have HW : Hid (∀ s' ∈ chainV l s.key, waysB s'.ways = true) := fun s' hs' => (hs.keys s' (upC_mem he s' (by unfold chainV at hs'; simpa using hs'))).2
  have HE := Lib.hid he
  have hcl : (chainV l s.key).length ≤ 500 := by
    have := upC_le he
    have := hs.len
    unfold chainV
    rw [List.length_reverse]; omega
  have hbx := (Blk.new w #[v1, v2] 29).alloc (.cells #[.string s.key, .int .i64 s.ways, .string s.par, .int .i64 s.port] 58)
  have hsx : Blk ((w.alloc (.cells #[v1, v2] 29)).alloc (.cells #[.string s.key, .int .i64 s.ways, .string s.par, .int .i64 s.port] 58)) (w.heap.size + 1) #[.string s.key, .int .i64 s.ways, .string s.par, .int .i64 s.port] 58 := Blk.newAt (by simp)
  have HBX := Lib.hid (And.intro hbx hsx)
  have p0 := hbx.cell 0 _ rfl
  have p1 := hbx.cell 1 _ rfl
  have s0 := hsx.cell 0 _ rfl
  clear h hs he hbx hsx
  go_enter Tryz.func49, Tryz.ntmps49
  go_wp2_with fail
  refine (chain_any _ _ l s.key _ (by exact HA.out.1.below (by (repeat (first | exact Below.refl _ _ | assumption | refine below_draws ?_ _ | refine Below.drew ?_ | refine below_alloc ?_ _ (by first | omega | (simp; done) | (simp; omega)) | refine Below.setCell ?_ (by first | omega | (simp; done) | (simp; omega)) _ | refine below_at ?_ (by assumption) (by first | omega | (simp; done) | (simp; omega)))))) HA.out.2 HE.out).mono ?_
  rintro e w2 ⟨v, rfl, ⟨hv, -⟩, hb2⟩
  have hz2 := hb2.size
  simp only [World.size_alloc] at hz2
  have hB2 : Below w.heap.size w w2 := by (repeat (first | exact Below.refl _ _ | assumption | refine below_draws ?_ _ | refine Below.drew ?_ | refine below_alloc ?_ _ (by first | omega | (simp; done) | (simp; omega)) | refine Below.setCell ?_ (by first | omega | (simp; done) | (simp; omega)) _ | refine below_at ?_ (by assumption) (by first | omega | (simp; done) | (simp; omega))))
  generalize hCC : chainV l s.key = C at *
  have HCC := Lib.hid hCC
  clear hCC
  obtain ⟨a, cap, rfl, hcap, hmax, hc⟩ := hv
  unfold maxLen at hmax
  have H2 := Lib.hid (And.intro hc hB2)
  clear hc hB2 hb2 p0 p1 s0
  go_wp2
  go_loopw [5, 14] (fun nv i wr => ∃ k : Nat, k ≤ C.length ∧ i = .int .i64 k ∧ nv = .int .i64 (powS (C.take k)) ∧ Below w2.heap.size w2 wr) (fun _ i _ => C.length - (intOf i).toNat)
  case atStart => exact ⟨0, by omega, rfl, by simp [powS], Below.refl _ _⟩
  case round =>
    obtain ⟨k, hk, rfl, rfl, hB⟩ := hrel
    have hsz := hB.size
    have hBw := H2.out.2.trans (hB.mono (by omega))
    have HS := Lib.hid (And.intro hB hBw)
    have hpn := powS_nonneg (c := C.take k) (fun s hs => HW.out s (List.mem_of_mem_take hs))
    rw [List.length_take] at hpn
    clear hB hBw
    by_cases hlt : k < C.length
    · obtain ⟨b, off, rfl, hb, hcc⟩ := H2.out.1 k hlt
      obtain ⟨y0, y1, y2, y3⟩ := splt_at hcc
      replace y0 := (HS.out.1.cell (p := ⟨b, _, none⟩) hb).trans y0
      replace y1 := (HS.out.1.cell (p := ⟨b, _, none⟩) hb).trans y1
      replace y2 := (HS.out.1.cell (p := ⟨b, _, none⟩) hb).trans y2
      replace y3 := (HS.out.1.cell (p := ⟨b, _, none⟩) hb).trans y3
      have HPT := Lib.hid (powS_takeP hlt)
      have hwb := HW.out C[k] (List.getElem_mem _)
      have hdl := dbl_le C[k].ways
      have hdw : Hid (C[k].ways = 2 ^ (dbl C[k].ways).toNat) := by unfold waysB at hwb; exact dbl_pow (by simpa using hwb)
      have hd1 : 1 ≤ dbl C[k].ways := by unfold waysB at hwb; simpa using hwb
      have hX := Blk.new wr #[.string C[k].key, .int .i64 C[k].ways, .string C[k].par, .int .i64 C[k].port] 58
      have x1 := hX.cell 1 _ rfl
      clear hcc hX hwb
      go_wp2
      obtain ⟨wo, rfl⟩ : ∃ wo : World, wo = wr := ⟨_, rfl⟩
      obtain ⟨D, hD⟩ := Int.eq_ofNat_of_zero_le (show 0 ≤ dbl C[k].ways by omega)
      have hD7 : D ≤ 7 := by omega
      have HDW : Hid (C[k].ways = ((2 ^ D : Nat) : Int)) := by
        have := hdw.out
        rw [hD] at this
        rw [this]; push_cast; first | done | rfl
      have HDD := Lib.hid hD
      have hBa : Below w2.heap.size w2 (wo.alloc (.cells #[.string C[k].key, .int .i64 C[k].ways, .string C[k].par, .int .i64 C[k].port] 58)) := below_alloc HS.out.1 _ (by omega)
      have HBa := Lib.hid hBa
      clear hdw hD hdl hd1 hBa x1 y0 y1 y2 y3
      generalize wo.alloc (.cells #[.string C[k].key, .int .i64 C[k].ways, .string C[k].par, .int .i64 C[k].port] 58) = w5 at *
      go_loopw [5, 8] (fun nv wv ws => ∃ m E : Nat, 2 ^ m = E ∧ m ≤ D ∧ nv = .int .i64 (powS (C.take k) + ((D - m : Nat) : Int)) ∧ wv = .int .i64 (E : Int) ∧ ws = w5) (fun _ wv _ => (intOf wv).toNat)
      case atStart => exact ⟨D, _, rfl, Nat.le_refl _, by simp, by rw [HDW.out], rfl⟩
      case round =>
        obtain ⟨m, E, hE, hmD, rfl, rfl, rfl⟩ := hrel
        rcases m with _ | m
        · obtain rfl : E = 1 := hE.symm
          clear hE
          go_wp2
          refine ⟨⟨k + 1, by omega, by go_num, ?_, HBa.out⟩, by simp [intOf]; omega⟩
          rw [HPT.out, HDD.out]; first | done | simp
        · obtain ⟨P, hP⟩ : ∃ P, 2 ^ m = P := ⟨_, rfl⟩
          have hP1 : 1 ≤ P := by rw [← hP]; exact Nat.one_le_two_pow
          have hP2 : P ≤ 64 := by
            have : 2 ^ m ≤ 2 ^ 6 := Nat.pow_le_pow_right (by omega) (by omega)
            rw [hP] at this; exact this
          obtain rfl : E = 2 * P := by rw [← hE, ← hP, Nat.pow_succ]; omega
          have HP := Lib.hid hP
          clear hE hP
          have hg1 : (1 : Int) < ((2 * P : Nat) : Int) := by omega
          have hq1 : Int.tdiv ((2 * P : Nat) : Int) 2 = (P : Int) := by rw [show ((2 * P : Nat) : Int) = 2 * (P : Int) by push_cast; rfl]; exact Int.mul_tdiv_cancel_left _ (by decide)
          go_wp2
          exact ⟨⟨m, P, HP.out, by omega, by congr 1; omega, rfl, trivial⟩, by simp [intOf]; omega⟩
    · obtain rfl : k = C.length := by omega
      go_wp2
      go_ret
      exact ⟨ret_int (by rw [HCC.out, List.take_length]), HS.out.2⟩
end Go.Proofs.YtcecpodbmjghhaaGreat
