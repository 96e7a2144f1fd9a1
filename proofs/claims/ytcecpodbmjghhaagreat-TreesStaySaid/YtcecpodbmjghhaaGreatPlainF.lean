/- Plain: the ports that are used and the free ones add up to all; each customer is below each splitter of its chain. No program. -/
import Derived.Test.YtcecpodbmjghhaaGreatTreesP
set_option linter.unusedVariables false
set_option linter.unusedSimpArgs false
namespace Go.Proofs.YtcecpodbmjghhaaGreat

/-- all ports -/
def allP (l : List Splt) : List PortK := l.flatMap fun s => (List.range s.ways.toNat).map fun (i : Nat) => (s.key, (i : Int) + 1)
/-- the ports at which something is -/
def usedP (l : List Splt) (d : List Drp) : List PortK := (l.filter fun s => decide (s.par.size ≠ 0)).map (fun s => (s.par, s.port)) ++ d.map fun x => (x.spl, x.port)

theorem foldl_sz {α : Type} (c : α → Prop) [DecidablePred c] (g : α → ByteArray) : ∀ (l : List α) (a : Option ByteArray), (∀ x ∈ l, (g x).size ≠ 0) →
    (((l.foldl (fun m x => if c x then some (g x) else m) a).getD ⟨#[]⟩).size = 0 ↔ (a.getD ⟨#[]⟩).size = 0 ∧ ∀ x ∈ l, ¬ c x)
  | [], a, _ => by simp
  | x :: l, a, h => by
    rw [List.foldl_cons, foldl_sz c g l _ (fun y hy => h y (List.mem_cons_of_mem _ hy))]
    by_cases hc : c x
    · rw [if_pos hc]
      have := h x List.mem_cons_self
      constructor
      · rintro ⟨h1, _⟩; exact absurd h1 this
      · rintro ⟨_, h1⟩; exact absurd hc (h1 x List.mem_cons_self)
    · rw [if_neg hc]
      constructor
      · rintro ⟨h1, h2⟩
        refine ⟨h1, fun y hy => ?_⟩
        rcases List.mem_cons.1 hy with rfl | hy
        · exact hc
        · exact h2 y hy
      · rintro ⟨h1, h2⟩
        exact ⟨h1, fun y hy => h2 y (List.mem_cons_of_mem _ hy)⟩
theorem slash_size (k : ByteArray) : ((⟨#[47]⟩ : ByteArray) ++ k).size ≠ 0 := by
  rw [ByteArray.size_append]
  have : (⟨#[47]⟩ : ByteArray).size = 1 := rfl
  omega
theorem atPort_none {l : List Splt} {d : List Drp} (h : TOk l d) (q : PortK) : (atPort l d q).size = 0 ↔ q ∉ usedP l d := by
  unfold atPort takenV takenS
  rw [List.take_length, List.take_length, foldl_sz (fun x : Drp => (x.spl, x.port) = q) (fun x => x.cust) d _ (fun x hx => ?_), foldl_sz (fun s : Splt => s.par.size ≠ 0 ∧ (s.par, s.port) = q) (fun s => ⟨#[47]⟩ ++ s.key) l _ (fun x _ => slash_size _)]
  · unfold usedP
    simp only [List.mem_append, List.mem_map, List.mem_filter, decide_eq_true_eq, not_or, not_exists, not_and]
    constructor
    · rintro ⟨⟨_, h1⟩, h2⟩
      exact ⟨fun s hs e => h1 s hs.1 hs.2 e, fun x hx e => h2 x hx e⟩
    · rintro ⟨h1, h2⟩
      exact ⟨⟨rfl, fun s hs hp e => h1 s ⟨hs, hp⟩ e⟩, fun x hx e => h2 x hx e⟩
  · obtain ⟨k, hk, rfl⟩ := List.mem_iff_getElem.1 hx
    have := (h.drop hk).2.2.2.1
    omega
theorem used_nodup {l : List Splt} {d : List Drp} (h : TOk l d) : (usedP l d).Nodup := by
  have hdr := h.dr
  unfold dropsF at hdr
  split at hdr
  · omega
  split at hdr
  · rename_i h1; exact absurd hdr h1
  split at hdr
  · omega
  rename_i htw
  have htw2 : twiceD l d d.length = false := by simpa using htw
  unfold twiceD at htw2
  rw [List.any_eq_false] at htw2
  have hD : ∀ k (hk : k < d.length), seenD l d k (d[k].spl, d[k].port) = false := fun k hk => by
    have := htw2 k (by simpa using hk)
    rw [dupD_in l d k hk] at this
    simpa using this
  unfold usedP List.Nodup
  rw [List.pairwise_append]
  refine ⟨?_, ?_, ?_⟩
  · rw [List.pairwise_map, List.pairwise_filter, List.pairwise_iff_getElem]
    intro i j hi hj hij pi pj e
    have hB := h.tw
    unfold twiceB at hB
    rw [List.any_eq_false] at hB
    have := hB j (by simpa using hj)
    unfold dupAt at this
    rw [List.getElem?_eq_getElem hj] at this
    simp only [Bool.and_eq_true, not_and] at this
    refine this pj ?_
    unfold seenP
    rw [List.any_eq_true]
    refine ⟨l[i], ?_, ?_⟩
    · rw [List.mem_take_iff_getElem]
      exact ⟨i, by omega, rfl⟩
    · rw [Bool.and_eq_true]
      exact ⟨pi, by simpa using e⟩
  · rw [List.pairwise_map, List.pairwise_iff_getElem]
    intro i j hi hj hij e
    have := hD j hj
    unfold seenD at this
    rw [Bool.or_eq_false_iff] at this
    have h2 := this.2
    rw [List.any_eq_false] at h2
    refine h2 d[i] ?_ (by simpa using e)
    rw [List.mem_take_iff_getElem]
    exact ⟨i, by omega, rfl⟩
  · intro a ha b hb e
    subst e
    obtain ⟨s, hs, rfl⟩ := List.mem_map.1 ha
    obtain ⟨x, hx, e⟩ := List.mem_map.1 hb
    obtain ⟨k, hk, rfl⟩ := List.mem_iff_getElem.1 hx
    have := hD k hk
    unfold seenD at this
    rw [Bool.or_eq_false_iff] at this
    have h1 := this.1
    unfold seenP at h1
    rw [List.take_length, List.any_eq_false] at h1
    obtain ⟨hs1, hs2⟩ := List.mem_filter.1 hs
    refine h1 s hs1 ?_
    rw [Bool.and_eq_true]
    exact ⟨hs2, by simpa using e.symm⟩
theorem keys_ne {l : List Splt} (h : SOk l) : List.Pairwise (fun a b : Splt => a.key ≠ b.key) l := by
  have := h.rise
  unfold Rising at this
  rw [List.pairwise_map] at this
  refine this.imp (fun {a b} hab e => ?_)
  rw [e] at hab
  exact absurd hab (by rw [lessB_irrefl]; simp)
theorem all_nodup {l : List Splt} (h : SOk l) : (allP l).Nodup := by
  unfold allP List.Nodup
  rw [List.pairwise_flatMap]
  refine ⟨fun s _ => ?_, (keys_ne h).imp (fun {a b} hab x hx y hy e => ?_)⟩
  · rw [List.pairwise_map]
    refine List.nodup_range.imp (fun {a b} hab e => ?_)
    simp only [Prod.mk.injEq] at e
    omega
  · obtain ⟨i, _, rfl⟩ := List.mem_map.1 hx
    obtain ⟨j, _, rfl⟩ := List.mem_map.1 hy
    simp only [Prod.mk.injEq] at e
    exact hab e.1
theorem all_mem {l : List Splt} {s : Splt} (hs : s ∈ l) {p : Int} (h1 : 1 ≤ p) (h2 : p ≤ s.ways) : (s.key, p) ∈ allP l := by
  unfold allP
  rw [List.mem_flatMap]
  refine ⟨s, hs, List.mem_map.2 ⟨(p - 1).toNat, by rw [List.mem_range]; omega, ?_⟩⟩
  simp only [Prod.mk.injEq, true_and]; omega
theorem used_all {l : List Splt} {d : List Drp} (h : TOk l d) : ∀ q ∈ usedP l d, q ∈ allP l := by
  intro q hq
  rcases List.mem_append.1 hq with hq | hq
  · obtain ⟨s, hs, rfl⟩ := List.mem_map.1 hq
    obtain ⟨hs1, hs2⟩ := List.mem_filter.1 hs
    have hp : s.par.size ≠ 0 := by simpa using hs2
    obtain ⟨k, hk, rfl⟩ := List.mem_iff_getElem.1 hs1
    have h1 := faultAt_zero.1 h.par k hk
    unfold parFault at h1
    rw [List.getElem?_eq_getElem hk] at h1
    simp only [if_neg hp] at h1
    cases hg : getS l l[k].par with
    | none => rw [hg] at h1; simp at h1
    | some x =>
      rw [hg] at h1
      obtain ⟨_, _, _, hm⟩ := h.s.get hg
      have ho : outB l[k].port 1 x.ways = false := by
        cases ho : outB l[k].port 1 x.ways
        · rfl
        · simp only [ho, if_true] at h1; omega
      have := outB_false.1 ho
      have hk2 := (getS_key hg).1
      rw [← hk2]
      exact all_mem hm this.1 this.2
  · obtain ⟨x, hx, rfl⟩ := List.mem_map.1 hq
    obtain ⟨k, hk, rfl⟩ := List.mem_iff_getElem.1 hx
    obtain ⟨_, p1, _, _, _, s, hs, hg, p2⟩ := h.drop hk
    rw [← (getS_key hg).1]
    exact all_mem hs p1 p2
theorem filter_flat {α β : Type} (p : β → Bool) (f : α → List β) : ∀ l : List α, ((l.flatMap f).filter p).length = (l.map fun x => ((f x).filter p).length).sum
  | [] => rfl
  | x :: l => by rw [List.flatMap_cons, List.filter_append, List.length_append, filter_flat p f l]; rfl
theorem flat_sum {α β : Type} (f : α → List β) : ∀ l : List α, (l.flatMap f).length = (l.map fun x => (f x).length).sum
  | [] => rfl
  | x :: l => by rw [List.flatMap_cons, List.length_append, flat_sum f l]; rfl
def waysSum (l : List Splt) : Nat := (l.map fun s => s.ways.toNat).sum
def innerN (l : List Splt) : Nat := (l.filter fun s => decide (s.par.size ≠ 0)).length
/-- the ports add up -/
theorem ports_sum {l : List Splt} {d : List Drp} (h : TOk l d) : waysSum l = sumK l d l.length + innerN l + d.length := by
  have e1 : (allP l).length = waysSum l := by
    unfold allP waysSum
    rw [flat_sum]; simp
  have e2 : (usedP l d).length = innerN l + d.length := by
    unfold usedP innerN
    rw [List.length_append, List.length_map, List.length_map]
  have e3 : ((allP l).filter fun q => decide ((atPort l d q).size = 0)).length = sumK l d l.length := by
    unfold allP sumK
    rw [filter_flat, List.take_length]
    congr 1
    apply List.map_congr_left
    intro s _
    unfold freeN freeL
    rw [List.filter_map, List.length_map, List.length_map]; rfl
  have e4 : ((allP l).filter fun q => !decide ((atPort l d q).size = 0)).length = (usedP l d).length := by
    apply Nat.le_antisymm
    · refine nodup_le _ _ ((all_nodup h.s).filter _) (fun q hq => ?_)
      have := (List.mem_filter.1 hq).2
      refine Classical.byContradiction fun hn => ?_
      have h2 := (atPort_none h q).2 hn
      simp [h2] at this
    · refine nodup_le _ _ (used_nodup h) (fun q hq => ?_)
      refine List.mem_filter.2 ⟨used_all h q hq, ?_⟩
      cases hz : decide ((atPort l d q).size = 0)
      · rfl
      · have := (atPort_none h q).1 (by simpa using hz)
        exact absurd hq this
  have e5 : ∀ (p : PortK → Bool) (m : List PortK), m.length = (m.filter p).length + (m.filter fun q => !p q).length := by
    intro p m
    induction m with
    | nil => rfl
    | cons x m ih =>
      cases hp : p x <;> simp [List.filter_cons, hp] <;> omega
  have := e5 (fun q => decide ((atPort l d q).size = 0)) (allP l)
  omega
/-- each customer is below each splitter of its chain -/
theorem below_chain {l : List Splt} {d : List Drp} {x : Drp} (hx : x ∈ d) : ∀ s ∈ chainV l x.spl, x.cust ∈ belowL l d s.key := by
  intro s hs
  unfold belowL
  refine List.mem_map.2 ⟨x, List.mem_filter.2 ⟨hx, ?_⟩, rfl⟩
  unfold isUp
  rw [List.any_eq_true]
  unfold chainV at hs
  exact ⟨s, List.mem_reverse.1 hs, by simp⟩
/-- the chain to a customer ends with its splitter -/
theorem chain_last {l : List Splt} {k : ByteArray} {s : Splt} (hk : k.size ≠ 0) (hl : l.length ≠ 0) (hg : getS l k = some s) : ∃ r, chainV l k = r ++ [s] := by
  obtain ⟨n, hn⟩ : ∃ n, l.length = n + 1 := ⟨l.length - 1, by omega⟩
  unfold chainV
  rw [hn, upC_cons hk hg, List.reverse_cons]
  exact ⟨_, rfl⟩

theorem waysSum_succ {l : List Splt} {k : Nat} (hk : k < l.length) : waysSum (l.take (k + 1)) = waysSum (l.take k) + l[k].ways.toNat := by
  unfold waysSum
  rw [List.take_succ_eq_append_getElem hk, List.map_append, List.sum_append]; simp
theorem innerN_succ {l : List Splt} {k : Nat} (hk : k < l.length) : innerN (l.take (k + 1)) = innerN (l.take k) + (if l[k].par.size = 0 then 0 else 1) := by
  unfold innerN
  rw [List.take_succ_eq_append_getElem hk, List.filter_append, List.length_append]
  congr 1
  by_cases h : l[k].par.size = 0
  · rw [if_pos h, List.filter_cons_of_neg (by simpa using h)]; rfl
  · rw [if_neg h, List.filter_cons_of_pos (by simpa using h)]; rfl
theorem waysSum_le {l : List Splt} (h : SOk l) : ∀ k, k ≤ l.length → waysSum (l.take k) ≤ 128 * k
  | 0, _ => by simp [waysSum]
  | k + 1, hk => by
    have ih := waysSum_le h k (by omega)
    have := waysB_le (h.keys l[k] (List.getElem_mem _)).2
    rw [waysSum_succ (by omega)]; omega
theorem innerN_le (l : List Splt) (k : Nat) : innerN (l.take k) ≤ k := by
  unfold innerN
  have h1 := List.length_filter_le (fun s : Splt => decide (s.par.size ≠ 0)) (l.take k)
  rw [List.length_take] at h1; omega
/-- customers stand in order -/
theorem TOk.custs {l : List Splt} {d : List Drp} (h : TOk l d) : Rising (d.map (·.cust)) := by
  have h0 := h.dr
  unfold dropsF at h0
  split at h0
  · omega
  split at h0
  · rename_i h1; exact absurd h0 h1
  rename_i h1
  refine rising_of _ (fun k hk => ?_)
  rw [List.length_map] at hk
  have h2 := faultAt_zero.1 (show faultAt (dropFault l d) d.length = 0 by omega) (k + 1) hk
  have hk' : k < d.length := by omega
  have e1 : (d.map (·.cust))[k]?.getD default = d[k].cust := by simp [hk']
  have e2 : (d.map (·.cust))[k + 1]?.getD default = d[k + 1].cust := by simp [hk]
  rw [e1, e2]
  unfold dropFault at h2
  rw [List.getElem?_eq_getElem hk] at h2
  simp only at h2
  split at h2
  · omega
  · split at h2
    · omega
    · split at h2
      · omega
      · have e3 : (d[k + 1 - 1]?.getD default) = d[k] := by simp [hk']
        rw [e3, leB_not] at h2
        cases hx : lessB d[k].cust d[k + 1].cust
        · rw [hx] at h2; simp at h2
        · rfl
theorem custs_ne {d : List Drp} (h : Rising (d.map (·.cust))) : ∀ i j (hi : i < d.length) (hj : j < d.length), i < j → d[i].cust ≠ d[j].cust := by
  intro i j hi hj hij e
  unfold Rising at h
  rw [List.pairwise_map, List.pairwise_iff_getElem] at h
  have h2 := h i j hi hj hij
  rw [e, lessB_irrefl] at h2
  cases h2
/-- each drop is that of its customer -/
theorem dropW_self {d : List Drp} (h : Rising (d.map (·.cust))) {k : Nat} (hk : k < d.length) : dropW d d[k].cust = some d[k] := by
  rcases findD_get d d[k].cust with ⟨_, hn⟩ | ⟨j, hj, _, hg, he⟩
  · unfold dropW at hn
    rw [List.find?_eq_none] at hn
    exact absurd (strB_iff.2 rfl) (hn d[k] (List.getElem_mem _))
  · rw [hg]
    rcases Nat.lt_trichotomy j k with hjk | hjk | hjk
    · exact absurd he (custs_ne h j k hj hk hjk)
    · subst hjk; rfl
    · exact absurd he.symm (custs_ne h k j hk hj hjk)
theorem ask_self {l : List Splt} {d : List Drp} (h : treeF l d = 0) {k : Nat} (hk : k < d.length) : askF l d d[k].cust = 0 ∧ askK l d d[k].cust = keysC l d[k].spl := by
  have ok := tok_of h
  have hw := dropW_self ok.custs hk
  have e1 : askF l d d[k].cust = 0 := by
    rcases findD_get d d[k].cust with ⟨_, h2⟩ | ⟨j, hj, h1, h2, _⟩
    · rw [hw] at h2; cases h2
    · unfold askF; rw [if_neg (by omega), if_neg (by omega)]
  have e2 : askC l d d[k].cust = chainV l d[k].spl := by unfold askC; rw [if_neg (by omega), hw]
  exact ⟨e1, by unfold askK keysC; rw [e2]⟩
/-- the keys of a chain: each is a splitter's, the customer is below it; the last one is the drop's own -/
theorem keysC_at {l : List Splt} {d : List Drp} (h : treeF l d = 0) {k : Nat} (hk : k < d.length) : 1 ≤ (keysC l d[k].spl).length ∧ (keysC l d[k].spl).length ≤ 500 ∧ (keysC l d[k].spl)[(keysC l d[k].spl).length - 1]? = some d[k].spl ∧
    ∀ b ∈ keysC l d[k].spl, splitterF l d b = 0 ∧ belowP l d b = belowL l d b ∧ d[k].cust ∈ belowL l d b := by
  have ok := tok_of h
  obtain ⟨_, _, _, _, _, s, hs, hg, _⟩ := ok.drop hk
  have hen := ok.ends hg
  have hks := keyB_size (ok.s.keys s hs).1
  have hkey := getS_key hg
  have hl : l.length ≠ 0 := by
    intro e
    have := List.length_eq_zero_iff.1 e
    rw [this] at hs; cases hs
  obtain ⟨r, hr⟩ := chain_last (l := l) (k := d[k].spl) (s := s) (by rw [← hkey.1]; omega) hl hg
  refine ⟨?_, keysC_len ok hen, ?_, fun b hb => ?_⟩
  · unfold keysC; rw [hr]; simp
  · unfold keysC
    rw [hr]
    simp [hkey.1]
  · unfold keysC at hb
    obtain ⟨x, hx, rfl⟩ := List.mem_map.1 hb
    have hx2 : getS l x.key = some x := by
      unfold chainV at hx
      obtain ⟨i, hi, rfl⟩ := List.mem_iff_getElem.1 (List.mem_reverse.1 hx)
      obtain ⟨m, _, h2, _⟩ := upC_at hen i hi
      exact h2
    have e1 : splitterF l d x.key = 0 := by unfold splitterF; rw [if_neg (by omega), hx2]; rfl
    exact ⟨e1, by unfold belowP; rw [if_pos e1], below_chain (List.getElem_mem _) x hx⟩
end Go.Proofs.YtcecpodbmjghhaaGreat
