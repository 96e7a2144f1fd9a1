/- Walk: base.Numbers. -/
import Derived.Test.YteliiknlpfjlkaaGreatDoorTxAll
import Derived.Test.YteliiknlpfjlkaaGreatDoorAppA
import Derived.Test.YteliiknlpfjlkaaGreatDoorAskAll
set_option linter.unusedVariables false
set_option linter.unusedSimpArgs false
namespace Go.Proofs.YteliiknlpfjlkaaGreatDoor
open Go Go.RowKit

def NumsPost (most : Nat) (L : List ByteArray) (w : World) (e : Ending) (w' : World) : Prop :=
  ((∃ (ns : List Int) (v : Value), L.map (fun x => numL most x.data.toList) = ns.map some ∧ e = .returned (.tuple #[v, .bool true]) ∧ w'.ownsRow w.heap.size 3 1 v ns.length (ns.map (Value.int .i64))) ∨
    ((∃ x ∈ L, numL most x.data.toList = none) ∧ e = .returned (.tuple #[.slice none 0 0, .bool false]))) ∧ Below w.heap.size w w'
theorem map_take_num {L : List ByteArray} {f : ByteArray → Option Int} {k : Nat} (hk : k < L.length) {ns : List Int} {n : Int} (h : (L.take k).map f = ns.map some) (hn : f L[k] = some n) : (L.take (k + 1)).map f = (ns ++ [n]).map some := by
  rw [List.take_succ_eq_append_getElem hk, List.map_append, h, List.map_append]
  simp [hn]
set_option maxHeartbeats 2000000 in
set_option maxRecDepth 100000 in
theorem nums_any (v : Value) (L : List ByteArray) (most : Nat) (hm : most ≤ 17) (w : World) (h : Arr strCells 1 w L v) (hs : ∀ x ∈ L, x.size ≤ 1000000) (hL : L.length ≤ 1000000) : Calls Tryz.prog 115 #[v, .int .i64 most] w (NumsPost most L w) := by
  obtain ⟨i0, hi, hz0, hz1, hz2⟩ := info_parts infoIntF
  obtain ⟨a, cap, rfl, hcap, hmax, hc⟩ := h
  have hlen : L.length ≤ maxLen := by omega
  unfold maxLen at hlen hmax
  have HS := Lib.hid hs
  have HC := Lib.hid hc
  clear hs hc
  go_enter Tryz.func115, Tryz.ntmps115
  go_wp2
  go_loopw [6, 13] (fun v i wr => ∃ (k : Nat) (ns : List Int), k ≤ L.length ∧ i = .int .i64 k ∧ (L.take k).map (fun x => numL most x.data.toList) = ns.map some ∧ wr.ownsRow w.heap.size 3 1 v k (ns.map (Value.int .i64)) ∧ Below w.heap.size w wr) (fun _ i _ => L.length - (intOf i).toNat)
  case atStart => exact ⟨0, [], by omega, rfl, rfl, World.ownsRow_nil _ _ _ _, Below.refl _ _⟩
  case round =>
    obtain ⟨k, ns, hk, rfl, hns, ho, hbe⟩ := hrel
    have HR := Lib.hid (And.intro hns (And.intro ho hbe))
    have hz := hbe.size
    clear hns ho hbe
    by_cases hlt : k < L.length
    · obtain ⟨b, off, rfl, hb, hcc⟩ := HC.out k hlt
      have c0 := hcc 0 _ rfl
      simp only [Nat.mul_one, Nat.add_zero] at c0
      replace c0 := (HR.out.2.2.cell (p := ⟨b, _, none⟩) hb).trans c0
      have HX := Lib.hid (HS.out L[k] (List.getElem_mem hlt))
      clear hcc
      rcases hn : numL most L[k].data.toList with _ | n
      · have HN : Hid (∃ x ∈ L, numL most x.data.toList = none) := ⟨L[k], List.getElem_mem hlt, hn⟩
        have HN2 := Lib.hid hn
        clear hn
        go_wp2_with fail
        refine (number_any L[k] most hm _ HX.out).mono ?_
        unfold NumPost
        rw [HN2.out]
        rintro e w1 ⟨rfl, hb1⟩
        have H1 := Lib.hid (below_at HR.out.2.2 hb1 hz)
        clear hb1
        simp only [Option.getD_none, Option.isSome_none]
        go_wp2
        go_ret2
        exact ⟨.inr ⟨HN.out, rfl⟩, H1.out⟩
      · have HN := Lib.hid (map_take_num hlt HR.out.1 hn)
        have HN2 := Lib.hid hn
        clear hn
        go_wp2_with fail
        refine (number_any L[k] most hm _ HX.out).mono ?_
        unfold NumPost
        rw [HN2.out]
        rintro e w1 ⟨rfl, hb1⟩
        have hy1 := hb1.size
        have H1 := Lib.hid (And.intro (below_at HR.out.2.2 hb1 hz) (own_below HR.out.2.1 hb1))
        clear hb1
        simp only [Option.getD_some, Option.isSome_some]
        go_wp2_with ((at_builtin; go_must (refine wpList_append_own _ rfl _ _ 22 rfl _ 3 _ (.int .i64 0) 1 8 Tryz.underlying22 hi hz0 hz1 hz2 rfl (by decide) _ _ _ rfl (H1.out.2.alloc _) ⟨w1.heap.size, 0, none⟩ 1 1 [.int .i64 n] rfl rfl (by exact news_at (by first | rfl | simp) (by rfl)) (by simp [Value.oneCell']) (by unfold maxLen; omega) (by omega) (by first | omega | (simp; done) | (simp; omega)) ?_)); intro v' w3 hown1 hgrow _)
        refine ⟨⟨k + 1, ns ++ [n], by omega, by go_num, HN.out, ?_, ?_⟩, by simp [intOf]; omega⟩
        · rw [List.map_append]; exact hown1
        · exact below_grown (below_alloc H1.out.1 _ (by omega)) (H1.out.2.alloc _) hgrow (Nat.le_refl _) (by simp; omega)
    · obtain rfl : k = L.length := by omega
      go_wp2
      go_ret2
      have h1 := HR.out.1
      rw [List.take_length] at h1
      have h2 := congrArg List.length h1
      rw [List.length_map, List.length_map] at h2
      exact ⟨.inl ⟨ns, _, h1, rfl, by rw [← h2]; exact HR.out.2.1⟩, HR.out.2.2⟩
theorem nums_u (v : Value) (L : List ByteArray) (most : Nat) (hm : most ≤ 17) (w : World) (h : Arr strCells 1 w L v) (hs : ∀ x ∈ L, x.size ≤ 1000000) (hL : L.length ≤ 1000000) : Calls Tryz.prog 115 #[v, .int .i64 most] w
    fun e w' => ∃ (v' : Value) (b : Bool), e = .returned (.tuple #[v', .bool b]) ∧ Below w.heap.size w w' ∧ (b = true → ∃ ns : List Int, L.map (fun x => numL most x.data.toList) = ns.map some ∧ w'.ownsRow w.heap.size 3 1 v' ns.length (ns.map (Value.int .i64))) ∧ (b = false → ∃ x ∈ L, numL most x.data.toList = none) := by
  refine (nums_any v L most hm w h hs hL).mono ?_
  rintro e w' ⟨⟨ns, v', h1, rfl, h2⟩ | ⟨h1, rfl⟩, hb⟩
  · exact ⟨v', true, rfl, hb, fun _ => ⟨ns, h1, h2⟩, fun h => by cases h⟩
  · exact ⟨_, false, rfl, hb, (fun h => by cases h), fun _ => h1⟩
end Go.Proofs.YteliiknlpfjlkaaGreatDoor
