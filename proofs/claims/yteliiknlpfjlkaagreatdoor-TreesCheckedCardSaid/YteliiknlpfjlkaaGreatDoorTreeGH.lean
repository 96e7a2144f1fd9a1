/- Texts of one subject in one: TreeG, TreeH; what each shows stands at its head. No condition. -/
import Derived.Test.YteliiknlpfjlkaaGreatDoorTreeAll
import Derived.Test.YteliiknlpfjlkaaGreatDoorTreesP
import Derived.Test.YteliiknlpfjlkaaGreatDoorShelfD
import Derived.Test.YteliiknlpfjlkaaGreatDoorKeepA
import Derived.RegionTactic
/- Walks of package tree: the splitters from the office to one. -/
set_option linter.unusedVariables false
set_option linter.unusedSimpArgs false
namespace Go.Proofs.YteliiknlpfjlkaaGreatDoor
open Go Go.RowKit Go.Sort

theorem below_putRowG {α : Type} [Inhabited α] (enc : α → List Value) (k : Nat) (w : World) (n g off base : Nat) (d : Array α) (hg : base ≤ g) : Below base w (putRowK enc k (Sort.ahead w n) g off d) := by
  refine ⟨rfl, rfl, rfl, ?_, fun b hb => ?_⟩
  · unfold putRowK; simp
  · unfold putRowK putRow mapBlock
    simp only [Array.getElem?_modify]
    rw [if_neg (by omega)]
    rfl
section
variable {α : Type} [Inhabited α] {cells : α → List Value} {sz : Nat}
theorem Arr.of_holdsG (hlen : ∀ x, (cells x).length = sz) (hs : 0 < sz) {l : List α} {w : World} {g cap : Nat} (h : HoldsK cells sz w g 0 l.toArray) (hc : l.length ≤ cap) (hm : cap ≤ maxLen) : Arr cells sz w l (.slice (some ⟨g, 0, none⟩) l.length cap) := by
  refine ⟨_, cap, rfl, hc, hm, fun k hk => ⟨g, 0, rfl, ?_, fun j u hu => ?_⟩⟩
  · exact World.block_lt_of_cell? _ _ (h.cell (i := k) (c := 0) (by simpa using hk) hs).1
  · have hj : j < sz := by have := (List.getElem?_eq_some_iff.1 hu).1; rwa [hlen] at this
    have h1 := (h.cell (i := k) (c := j) (by simpa using hk) hj).1
    rw [h1]
    have h2 : l.toArray[k]! = l[k] := by simp [hk]
    rw [h2, ← hu, getElem!_pos (cells l[k]) j (by rw [hlen]; exact hj), List.getElem?_eq_getElem]
theorem holdsG_of_own (hlen : ∀ x, (cells x).length = sz) (hs : 0 < sz) {l : List α} {w : World} {g : Nat} {cur : Array Value} {e : TypeId} (hh : w.heap[g]? = some (.cells cur e (0, 0))) (ht : cur.toList.take (l.length * sz) = l.flatMap cells) : HoldsK cells sz w g 0 l.toArray := by
  intro j hj
  rw [size_flatK] at hj
  have hj' : j < l.length * sz := by simpa using hj
  have hk : j / sz < l.length := Nat.div_lt_of_lt_mul (by rw [Nat.mul_comm]; exact hj')
  have hm : j % sz < sz := Nat.mod_lt _ hs
  refine ⟨?_, by simp [World.frozen?, hh]⟩
  rw [get_flatK _ _ _ _ hj]
  have h2 : l.toArray[j / sz]! = l[j / sz] := by simp [hk]
  have h3 := flat_at hlen l (j / sz) hk (j % sz) hm
  rw [show j / sz * sz + j % sz = j from by rw [Nat.mul_comm]; exact Nat.div_add_mod j sz, ← ht, List.getElem?_take_of_lt hj'] at h3
  rw [h2, getElem!_pos (cells l[j / sz]) (j % sz) (by rw [hlen]; exact hm)]
  rw [show (cells l[j / sz])[j % sz]? = some ((cells l[j / sz])[j % sz]'(by rw [hlen]; exact hm)) from List.getElem?_eq_getElem _] at h3
  simp only [World.cell?, hh, Nat.zero_add, id]
  simpa using h3
end
theorem infoSplt : (Tryz.prog.info? 100).map (fun i => (i.zero, i.size, i.bytes)) = some (some (.agg #[.string ⟨#[]⟩, .int .i64 0, .string ⟨#[]⟩, .int .i64 0]), 4, 48) := by kernel_rfl
theorem bfreeAt {B : Nat} {W w1 : World} (hb : Below B W w1) (b : Nat) (h : b < B) : ∀ o, w1.frozen? ⟨b, o, none⟩ = W.frozen? ⟨b, o, none⟩ := fun o => hb.frozen (p := ⟨b, o, none⟩) h
def lenV (v : Value) : Nat := match v with | .slice _ n _ => n | _ => 0
theorem nlen {W : World} {B sz n : Nat} {e : TypeId} {v : Value} {xs : List Value} (h : W.ownsRow B e sz v n xs) : lenV v = n := by
  rcases h.2 with ⟨rfl, h0⟩ | ⟨g, cap, cur, rfl, _⟩
  · exact h0.symm
  · rfl
end Go.Proofs.YteliiknlpfjlkaaGreatDoor
/- Walks: copies of splitters, of drops, of trees; whether two trees that are the same are told so. -/
set_option linter.unusedVariables false
set_option linter.unusedSimpArgs false
namespace Go.Proofs.YteliiknlpfjlkaaGreatDoor
open Go Go.RowKit

theorem splt_one (l : List Splt) : ∀ u ∈ l.flatMap Splt.cells, u.oneCell' = true := by
  intro u hu
  obtain ⟨c, _, hc⟩ := List.mem_flatMap.1 hu
  simp [Splt.cells] at hc
  rcases hc with rfl | rfl | rfl | rfl <;> rfl
theorem drp_one (l : List Drp) : ∀ u ∈ l.flatMap Drp.cells, u.oneCell' = true := by
  intro u hu
  obtain ⟨c, _, hc⟩ := List.mem_flatMap.1 hu
  simp [Drp.cells] at hc
  rcases hc with rfl | rfl | rfl <;> rfl
theorem infoDrpH : (Tryz.prog.info? 102).map (fun i => (i.zero, i.size, i.bytes)) = some (some (.agg #[.string ⟨#[]⟩, .string ⟨#[]⟩, .int .i64 0]), 3, 40) := by kernel_rfl
set_option maxHeartbeats 1000000 in
set_option maxRecDepth 100000 in
theorem same_splt (v1 v2 : Value) (l : List Splt) (w : World) (h1 : Arr Splt.cells 4 w l v1) (h2 : Arr Splt.cells 4 w l v2) : Calls Tryz.prog 90 #[v1, v2] w
    fun e w' => e = .returned (.bool true) ∧ Below w.heap.size w w' := by
  obtain ⟨a, cap, rfl, hcap, hmax, hc⟩ := h1
  obtain ⟨a2, cap2, rfl, hcap2, hmax2, hc2⟩ := h2
  have hlen : l.length ≤ maxLen := by omega
  unfold maxLen at hlen hmax hmax2
  go_enter Tryz.func90, Tryz.ntmps90
  go_wp2
  go_loopw [13] (fun i wr => ∃ k : Nat, k ≤ l.length ∧ i = .int .i64 k ∧ Below w.heap.size w wr) (fun i _ => l.length - (intOf i).toNat)
  case atStart => exact ⟨0, by omega, rfl, Below.refl _ _⟩
  case round =>
    obtain ⟨k, hk, rfl, hB⟩ := hrel
    have hsz := hB.size
    by_cases hlt : k < l.length
    · obtain ⟨b, off, rfl, hb, hcc⟩ := hc k hlt
      obtain ⟨c0, c1, c2, c3⟩ := splt_at hcc
      replace c0 := (hB.cell (p := ⟨b, _, none⟩) hb).trans c0; replace c1 := (hB.cell (p := ⟨b, _, none⟩) hb).trans c1; replace c2 := (hB.cell (p := ⟨b, _, none⟩) hb).trans c2; replace c3 := (hB.cell (p := ⟨b, _, none⟩) hb).trans c3
      obtain ⟨b2, off2, rfl, hb2, hcc2⟩ := hc2 k hlt
      obtain ⟨d0, d1, d2, d3⟩ := splt_at hcc2
      replace d0 := (hB.cell (p := ⟨b2, _, none⟩) hb2).trans d0; replace d1 := (hB.cell (p := ⟨b2, _, none⟩) hb2).trans d1; replace d2 := (hB.cell (p := ⟨b2, _, none⟩) hb2).trans d2; replace d3 := (hB.cell (p := ⟨b2, _, none⟩) hb2).trans d3
      clear hc hcc hc2 hcc2
      go_wp2_with fail
      go_region
      go_wp2
      go_roundw
      case rel => exact ⟨k + 1, by omega, by go_num, by (repeat (first | exact Below.refl _ _ | assumption | refine below_draws ?_ _ | refine Below.drew ?_ | refine below_alloc ?_ _ (by first | omega | (simp; done) | (simp; omega)) | refine Below.setCell ?_ (by first | omega | (simp; done) | (simp; omega)) _ | refine below_at ?_ (by assumption) (by first | omega | (simp; done) | (simp; omega))))⟩
      case measure => simp [intOf]; omega
    · go_wp2
      go_ret
      exact ⟨rfl, by (repeat (first | exact Below.refl _ _ | assumption | refine below_draws ?_ _ | refine Below.drew ?_ | refine below_alloc ?_ _ (by first | omega | (simp; done) | (simp; omega)) | refine Below.setCell ?_ (by first | omega | (simp; done) | (simp; omega)) _ | refine below_at ?_ (by assumption) (by first | omega | (simp; done) | (simp; omega))))⟩
set_option maxHeartbeats 1000000 in
set_option maxRecDepth 100000 in
theorem same_drp (v1 v2 : Value) (l : List Drp) (w : World) (h1 : Arr Drp.cells 3 w l v1) (h2 : Arr Drp.cells 3 w l v2) : Calls Tryz.prog 91 #[v1, v2] w
    fun e w' => e = .returned (.bool true) ∧ Below w.heap.size w w' := by
  obtain ⟨a, cap, rfl, hcap, hmax, hc⟩ := h1
  obtain ⟨a2, cap2, rfl, hcap2, hmax2, hc2⟩ := h2
  have hlen : l.length ≤ maxLen := by omega
  unfold maxLen at hlen hmax hmax2
  go_enter Tryz.func91, Tryz.ntmps91
  go_wp2
  go_loopw [13] (fun i wr => ∃ k : Nat, k ≤ l.length ∧ i = .int .i64 k ∧ Below w.heap.size w wr) (fun i _ => l.length - (intOf i).toNat)
  case atStart => exact ⟨0, by omega, rfl, Below.refl _ _⟩
  case round =>
    obtain ⟨k, hk, rfl, hB⟩ := hrel
    have hsz := hB.size
    by_cases hlt : k < l.length
    · obtain ⟨b, off, rfl, hb, hcc⟩ := hc k hlt
      obtain ⟨c0, c1, c2⟩ := drp_at hcc
      replace c0 := (hB.cell (p := ⟨b, _, none⟩) hb).trans c0; replace c1 := (hB.cell (p := ⟨b, _, none⟩) hb).trans c1; replace c2 := (hB.cell (p := ⟨b, _, none⟩) hb).trans c2
      obtain ⟨b2, off2, rfl, hb2, hcc2⟩ := hc2 k hlt
      obtain ⟨d0, d1, d2⟩ := drp_at hcc2
      replace d0 := (hB.cell (p := ⟨b2, _, none⟩) hb2).trans d0; replace d1 := (hB.cell (p := ⟨b2, _, none⟩) hb2).trans d1; replace d2 := (hB.cell (p := ⟨b2, _, none⟩) hb2).trans d2
      clear hc hcc hc2 hcc2
      go_wp2_with fail
      go_region
      go_wp2
      go_roundw
      case rel => exact ⟨k + 1, by omega, by go_num, by (repeat (first | exact Below.refl _ _ | assumption | refine below_draws ?_ _ | refine Below.drew ?_ | refine below_alloc ?_ _ (by first | omega | (simp; done) | (simp; omega)) | refine Below.setCell ?_ (by first | omega | (simp; done) | (simp; omega)) _ | refine below_at ?_ (by assumption) (by first | omega | (simp; done) | (simp; omega))))⟩
      case measure => simp [intOf]; omega
    · go_wp2
      go_ret
      exact ⟨rfl, by (repeat (first | exact Below.refl _ _ | assumption | refine below_draws ?_ _ | refine Below.drew ?_ | refine below_alloc ?_ _ (by first | omega | (simp; done) | (simp; omega)) | refine Below.setCell ?_ (by first | omega | (simp; done) | (simp; omega)) _ | refine below_at ?_ (by assumption) (by first | omega | (simp; done) | (simp; omega))))⟩

set_option maxHeartbeats 1000000 in
theorem sameTree_any (v1 v2 u1 u2 : Value) (l : List Splt) (d : List Drp) (w : World) (h1 : Arr Splt.cells 4 w l v1) (h2 : Arr Drp.cells 3 w d v2) (g1 : Arr Splt.cells 4 w l u1) (g2 : Arr Drp.cells 3 w d u2) : Calls Tryz.prog 37 #[.agg #[v1, v2], .agg #[u1, u2]] w
    fun e w' => e = .returned (.bool true) ∧ Below w.heap.size w w' := by
  have HA := Lib.hid (And.intro h1 (And.intro h2 (And.intro g1 g2)))
  clear h1 h2 g1 g2
  go_enter Tryz.func37, Tryz.ntmps37
  go_wp2_with fail
  refine (same_splt _ _ l _ (by exact HA.out.1.below (by (repeat (first | exact Below.refl _ _ | assumption | refine below_draws ?_ _ | refine Below.drew ?_ | refine below_alloc ?_ _ (by first | omega | (simp; done) | (simp; omega)) | refine Below.setCell ?_ (by first | omega | (simp; done) | (simp; omega)) _ | refine below_at ?_ (by assumption) (by first | omega | (simp; done) | (simp; omega)))))) (by exact HA.out.2.2.1.below (by (repeat (first | exact Below.refl _ _ | assumption | refine below_draws ?_ _ | refine Below.drew ?_ | refine below_alloc ?_ _ (by first | omega | (simp; done) | (simp; omega)) | refine Below.setCell ?_ (by first | omega | (simp; done) | (simp; omega)) _ | refine below_at ?_ (by assumption) (by first | omega | (simp; done) | (simp; omega))))))).mono ?_
  rintro e w1 ⟨rfl, hb1⟩
  have hz1 := hb1.size
  simp only [World.size_alloc] at hz1
  have hB1 : Below w.heap.size w w1 := by (repeat (first | exact Below.refl _ _ | assumption | refine below_draws ?_ _ | refine Below.drew ?_ | refine below_alloc ?_ _ (by first | omega | (simp; done) | (simp; omega)) | refine Below.setCell ?_ (by first | omega | (simp; done) | (simp; omega)) _ | refine below_at ?_ (by assumption) (by first | omega | (simp; done) | (simp; omega))))
  have k1 := ((Blk.new w #[v1, v2] 60).alloc (.cells #[u1, u2] 60)).below hb1 (by simp; omega)
  have k2 := (Blk.newAt (w := w.alloc (.cells #[v1, v2] 60)) (b := w.heap.size + 1) (cs := #[u1, u2]) (t := 60) (by simp)).below hb1 (by simp)
  have a0 := k1.cell 1 _ rfl
  have a1 := k2.cell 1 _ rfl
  have l1 := k1.lt
  have l2 := k2.lt
  clear hb1 k1 k2
  go_wp2_with fail
  refine (same_drp _ _ d _ (by exact HA.out.2.1.below hB1) (by exact HA.out.2.2.2.below hB1)).mono ?_
  rintro e w2 ⟨rfl, hb2⟩
  go_wp2
  go_ret
  exact ⟨rfl, by (repeat (first | exact Below.refl _ _ | assumption | refine below_draws ?_ _ | refine Below.drew ?_ | refine below_alloc ?_ _ (by first | omega | (simp; done) | (simp; omega)) | refine Below.setCell ?_ (by first | omega | (simp; done) | (simp; omega)) _ | refine below_at ?_ (by assumption) (by first | omega | (simp; done) | (simp; omega))))⟩
theorem own_setOtherH {W : World} {B sz n : Nat} {e : TypeId} {v : Value} {xs : List Value} (h : W.ownsRow B e sz v n xs) {c : Nat} (hc : c < B) (o : Nat) (u : Value) : (W.setCell ⟨c, o, none⟩ u).ownsRow B e sz v n xs := by
  refine h.kept (row := some c) (grown_setCells c [u] o W) ?_
  cases hv : v.ownBlock with
  | none => exact .inl rfl
  | some k => right; have := (h.lt k hv).1; simp; omega
theorem own_baseH {B B' : Nat} {W : World} {v : Value} {e : TypeId} {n sz : Nat} {xs : List Value} (h : W.ownsRow B e sz v n xs) (hB : B' ≤ B) : W.ownsRow B' e sz v n xs := by
  rcases h with ⟨h0, h1 | ⟨g, cap, cur, hv, hg, hr⟩⟩
  · exact ⟨h0, .inl h1⟩
  · exact ⟨h0, .inr ⟨g, cap, cur, hv, Nat.le_trans hB hg, hr⟩⟩
theorem own_sliceH {W : World} {B sz n : Nat} {e : TypeId} {v : Value} {xs : List Value} (h : W.ownsRow B e sz v n xs) : ∃ a cap, v = .slice a n cap := by
  rcases h.2 with ⟨hv, h0⟩ | ⟨g, cap, cur, rfl, _⟩
  · exact ⟨none, 0, by rw [hv, h0]⟩
  · exact ⟨_, cap, rfl⟩
/-- a tree in memory of its own -/
def CopyPost (l : List Splt) (d : List Drp) (w : World) (e : Ending) (w' : World) : Prop := ∃ v1 v2, e = .returned (.agg #[v1, v2]) ∧
  w'.ownsRow w.heap.size 100 4 v1 l.length (l.flatMap Splt.cells) ∧ w'.ownsRow w.heap.size 102 3 v2 d.length (d.flatMap Drp.cells) ∧ (∀ k, v1.ownBlock = some k → v2.ownBlock ≠ some k) ∧ Below w.heap.size w w'
end Go.Proofs.YteliiknlpfjlkaaGreatDoor
