/- For the walk of TreesAsked: the keys that are drawn, whether two lists of names with numbers are told the same, the state of the walk. -/
import Derived.Test.YtafjikoeolacgaaDoorTreeH
import Derived.Test.YtafjikoeolacgaaDoorAskRef
import Derived.Test.YtafjikoeolacgaaDoorEqual
import Derived.Test.YtafjikoeolacgaaDoorGrown
import Derived.Test.YtafjikoeolacgaaDoorStreamY
import Derived.Test.YtafjikoeolacgaaDoorLawHead
set_option linter.unusedVariables false
set_option linter.unusedSimpArgs false
namespace Go.Proofs.YtafjikoeolacgaaDoor
open Go Go.RowKit

def StrIs (v : Value) (_ : World) : Prop := ∃ b : ByteArray, v = .string b
set_option maxHeartbeats 1000000 in
theorem asplitter_any (s m : Nat) (w : World) (h : Strm w s m) (hm : m ≤ 1000000) : Calls Tryd.prog 5 #[.pointer (some ⟨s, 0, none⟩)] w (Draw StrIs s m 1 w) := by
  have hl := h.lt
  go_enter Tryd.func5, Tryd.ntmps5
  go_wp2_with fail
  refine (some_any s m _ [⟨#[115, 49]⟩, ⟨#[115, 49]⟩, ⟨#[115, 50]⟩, ⟨#[115, 51]⟩, ⟨#[115, 52]⟩, ⟨#[122, 122]⟩, ⟨#[]⟩] _ (h.alloc _) (by omega) (Arr.litAt (cells := strCells) (sz := 1) (fun _ => rfl) (by first | rfl | simp) (by rfl) (by rfl) (by simp [maxLen])) (by simp) (by simp) (fun n cap off e => by simp only [Value.slice.injEq, Option.some.injEq, Addr.mk.injEq] at e; omega)).mono ?_
  rintro e w1 ⟨v, rfl, ⟨x, rfl, -⟩, hs, hg⟩
  have hg2 := grown_trans (World.grownBy_alloc w _ (some s)) hg
  go_wp2
  go_ret
  exact ⟨_, rfl, ⟨x, rfl⟩, hs, hg2⟩
set_option maxHeartbeats 1000000 in
theorem acustomer_any (s m : Nat) (w : World) (h : Strm w s m) (hm : m ≤ 1000000) : Calls Tryd.prog 6 #[.pointer (some ⟨s, 0, none⟩)] w (Draw StrIs s m 1 w) := by
  have hl := h.lt
  go_enter Tryd.func6, Tryd.ntmps6
  go_wp2_with fail
  refine (some_any s m _ [⟨#[107, 49]⟩, ⟨#[107, 50]⟩, ⟨#[107, 51]⟩, ⟨#[107, 53]⟩, ⟨#[107, 57]⟩, ⟨#[]⟩] _ (h.alloc _) (by omega) (Arr.litAt (cells := strCells) (sz := 1) (fun _ => rfl) (by first | rfl | simp) (by rfl) (by rfl) (by simp [maxLen])) (by simp) (by simp) (fun n cap off e => by simp only [Value.slice.injEq, Option.some.injEq, Addr.mk.injEq] at e; omega)).mono ?_
  rintro e w1 ⟨v, rfl, ⟨x, rfl, -⟩, hs, hg⟩
  have hg2 := grown_trans (World.grownBy_alloc w _ (some s)) hg
  go_wp2
  go_ret
  exact ⟨_, rfl, ⟨x, rfl⟩, hs, hg2⟩

theorem pair_at {w : World} {b off k : Nat} {x : ByteArray × Nat} (h : ∀ j u, (pairCells x)[j]? = some u → w.cell? ⟨b, off + k * 2 + j, none⟩ = some u) : w.cell? ⟨b, off + k * 2, none⟩ = some (.string x.1) ∧ w.cell? ⟨b, off + k * 2 + 1, none⟩ = some (.string (itoaB x.2)) := ⟨h 0 _ rfl, h 1 _ rfl⟩
set_option maxHeartbeats 1000000 in
set_option maxRecDepth 100000 in
theorem same_pair (v1 v2 : Value) (l : List (ByteArray × Nat)) (w : World) (h1 : Arr pairCells 2 w l v1) (h2 : Arr pairCells 2 w l v2) : Calls Tryd.prog 24 #[v1, v2] w
    fun e w' => e = .returned (.bool true) ∧ Below w.heap.size w w' := by
  obtain ⟨a, cap, rfl, hcap, hmax, hc⟩ := h1
  obtain ⟨a2, cap2, rfl, hcap2, hmax2, hc2⟩ := h2
  have hlen : l.length ≤ maxLen := by omega
  unfold maxLen at hlen hmax hmax2
  go_enter Tryd.func24, Tryd.ntmps24
  go_wp2
  go_loopw [13] (fun i wr => ∃ k : Nat, k ≤ l.length ∧ i = .int .i64 k ∧ Below w.heap.size w wr) (fun i _ => l.length - (intOf i).toNat)
  case atStart => exact ⟨0, by omega, rfl, Below.refl _ _⟩
  case round =>
    obtain ⟨k, hk, rfl, hB⟩ := hrel
    have hsz := hB.size
    by_cases hlt : k < l.length
    · obtain ⟨b, off, rfl, hb, hcc⟩ := hc k hlt
      obtain ⟨c0, c1⟩ := pair_at hcc
      replace c0 := (hB.cell (p := ⟨b, _, none⟩) hb).trans c0; replace c1 := (hB.cell (p := ⟨b, _, none⟩) hb).trans c1
      obtain ⟨b2, off2, rfl, hb2, hcc2⟩ := hc2 k hlt
      obtain ⟨d0, d1⟩ := pair_at hcc2
      replace d0 := (hB.cell (p := ⟨b2, _, none⟩) hb2).trans d0; replace d1 := (hB.cell (p := ⟨b2, _, none⟩) hb2).trans d1
      clear hc hcc hc2 hcc2
      go_wp2_with fail
      go_region
      go_wp2
      go_roundw
      case rel => exact ⟨k + 1, by omega, by go_num, by (repeat (first | exact Below.refl _ _ | assumption | refine below_draws ?_ _ | refine Below.drew ?_ | refine below_alloc ?_ _ (by first | omega | (simp; done) | (simp; omega)) | refine Below.setCell ?_ (by first | omega | (simp; done) | (simp; omega)) _ | refine below_at ?_ (by assumption) (by first | omega | (simp; done) | (simp; omega))))⟩
      case measure => simp [intOf]; omega
    · go_wp2
      go_ret
      exact ⟨rfl, by (repeat (first | exact Below.refl _ _ | assumption | refine below_draws ?_ _ | refine Below.drew ?_ | refine below_alloc ?_ _ (by first | omega | (simp; done) | (simp; omega)) | refine Below.setCell ?_ (by first | omega | (simp; done) | (simp; omega)) _ | refine below_at ?_ (by assumption) (by first | omega | (simp; done) | (simp; omega))))⟩

theorem askF_bad {l : List Splt} {d : List Drp} (h : treeF l d ≠ 0) (c k : ByteArray) : askF l d c = treeF l d ∧ askK l d c = [] ∧ askR l d c = (0, treeF l d) ∧ splitterF l d k = treeF l d ∧ portsL l d k = [] ∧ freeP l d = [] ∧ sumP l d = 0 ∧ belowP l d k = [] ∧ idleP l d = [] := by
  have e1 : askF l d c = treeF l d := by unfold askF; rw [if_pos h]
  have e2 : askC l d c = [] := by unfold askC; rw [if_pos (by rw [e1]; exact h)]
  have e3 : splitterF l d k = treeF l d := by unfold splitterF; rw [if_pos h]
  refine ⟨e1, by unfold askK; rw [e2]; rfl, ?_, e3, ?_, ?_, ?_, ?_, ?_⟩
  · unfold askR; rw [if_pos (by rw [e1]; exact h), e1]
  · unfold portsL; rw [if_neg (by rw [e3]; exact h)]
  · unfold freeP; rw [if_neg h]
  · unfold sumP; rw [if_neg h]
  · unfold belowP; rw [if_neg (by rw [e3]; exact h)]
  · unfold idleP; rw [if_neg h]
theorem askF_good {l : List Splt} {d : List Drp} (h : treeF l d = 0) : freeP l d = freeK l d l.length ∧ sumP l d = sumK l d l.length ∧ idleP l d = idleL l d := by
  refine ⟨?_, ?_, ?_⟩
  · unfold freeP; rw [if_pos h]
  · unfold sumP; rw [if_pos h]
  · unfold idleP; rw [if_pos h]
theorem ask_none {l : List Splt} {d : List Drp} (h : treeF l d = 0) {c : ByteArray} (hd : dropW d c = none) : askF l d c = 8 ∧ askK l d c = [] ∧ askR l d c = (0, 8) := by
  have hn : findD d c < 0 := by
    rcases findD_get d c with ⟨h1, _⟩ | ⟨k, hk, _, h2, _⟩
    · exact h1
    · rw [hd] at h2; cases h2
  have e1 : askF l d c = 8 := by unfold askF; rw [if_neg (by omega), if_pos hn]
  refine ⟨e1, ?_, ?_⟩
  · unfold askK askC; rw [if_pos (by omega)]; rfl
  · unfold askR; rw [if_pos (by omega), e1]
theorem ask_some {l : List Splt} {d : List Drp} (h : treeF l d = 0) {c : ByteArray} {x : Drp} (hd : dropW d c = some x) : askF l d c = 0 ∧ askK l d c = keysC l x.spl ∧ askR l d c = ratioC (powS (chainV l x.spl)) ∧ endsB l l.length x.spl = true := by
  rcases findD_get d c with ⟨_, h2⟩ | ⟨k, hk, h1, h2, _⟩
  · rw [hd] at h2; cases h2
  · rw [hd] at h2
    obtain rfl := Option.some.inj h2
    have e1 : askF l d c = 0 := by unfold askF; rw [if_neg (by omega), if_neg (by omega)]
    have e2 : askC l d c = chainV l d[k].spl := by unfold askC; rw [if_neg (by omega), hd]
    have ok := tok_of h
    obtain ⟨_, _, _, _, _, s, _, hg, _⟩ := ok.drop hk
    refine ⟨e1, by unfold askK keysC; rw [e2], ?_, ok.ends hg⟩
    unfold askR
    rw [if_neg (by omega), e2]
    exact ratioV_pow ok hg
theorem at_none {l : List Splt} {d : List Drp} (h : treeF l d = 0) {k : ByteArray} (hg : getS l k = none) : splitterF l d k = 8 ∧ portsL l d k = [] ∧ belowP l d k = [] := by
  have e1 : splitterF l d k = 8 := by unfold splitterF; rw [if_neg (by omega), hg]; rfl
  refine ⟨e1, ?_, ?_⟩
  · unfold portsL; rw [if_neg (by omega)]
  · unfold belowP; rw [if_neg (by omega)]
theorem at_some {l : List Splt} {d : List Drp} (h : treeF l d = 0) {k : ByteArray} {s : Splt} (hg : getS l k = some s) : splitterF l d k = 0 ∧ portsL l d k = portsV l d k ∧ belowP l d k = belowL l d k := by
  have e1 : splitterF l d k = 0 := by unfold splitterF; rw [if_neg (by omega), hg]; rfl
  refine ⟨e1, ?_, ?_⟩
  · unfold portsL; rw [if_pos e1]
  · unfold belowP; rw [if_pos e1]
theorem one_is {l : List Splt} {d : List Drp} (h : treeF l d = 0) (c : ByteArray) : noneV (dropW d c).isNone = askF l d c := by
  cases hd : dropW d c with
  | none => rw [(ask_none h hd).1]; rfl
  | some x => rw [(ask_some h hd).1]; rfl
theorem two_is {l : List Splt} {d : List Drp} (h : treeF l d = 0) (k : ByteArray) : noneV (getS l k).isNone = splitterF l d k := by
  cases hg : getS l k with
  | none => rw [(at_none h hg).1]; rfl
  | some x => rw [(at_some h hg).1]; rfl
end Go.Proofs.YtafjikoeolacgaaDoor
