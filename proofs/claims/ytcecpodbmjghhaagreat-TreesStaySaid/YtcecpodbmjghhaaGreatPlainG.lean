/- Plain: what Merge answers; a tree merged with itself. No program. -/
import Derived.Test.YtcecpodbmjghhaaGreatCmpAll
import Derived.Test.YtcecpodbmjghhaaGreatPlainF
set_option linter.unusedVariables false
set_option linter.unusedSimpArgs false
namespace Go.Proofs.YtcecpodbmjghhaaGreat

/-- neighbours with one key -/
def AdjK {α : Type} (key : α → ByteArray) (L : List α) : Prop := ∃ j, ∃ h : j + 1 < L.length, key L[j] = key L[j + 1]
/-- what Merge answers: n; S and D are the parts of the tree if n is 0 -/
def MergeIs (l : List Splt) (d : List Drp) (l' : List Splt) (d' : List Drp) (n : Int) (S : List Splt) (D : List Drp) : Prop :=
  (treeF l d ≠ 0 ∧ n = treeF l d) ∨ (treeF l d = 0 ∧ treeF l' d' ≠ 0 ∧ n = treeF l' d') ∨
  (treeF l d = 0 ∧ treeF l' d' = 0 ∧ ∃ L M, L.Perm (l ++ l') ∧ SortTo Splt.key L L.length ∧ M.Perm (d ++ d') ∧ SortTo Drp.cust M M.length ∧ S = ccL L ∧ D = ccL M ∧
    ((AdjK Splt.key S ∨ AdjK Drp.cust D) ∧ n = 13 ∨ ¬ AdjK Splt.key S ∧ ¬ AdjK Drp.cust D ∧ n = treeF S D))
theorem rise_pw {α : Type} {key : α → ByteArray} {l : List α} (h : Rising (l.map key)) : l.Pairwise (fun a b => lessB (key a) (key b) = true) := by
  unfold Rising at h
  exact List.pairwise_map.1 h
theorem rise_adj {α : Type} {key : α → ByteArray} {l : List α} (h : Rising (l.map key)) : ¬ AdjK key l := by
  rintro ⟨j, hj, e⟩
  have := List.pairwise_iff_getElem.1 (rise_pw h) j (j + 1) (by omega) hj (by omega)
  rw [e, lessB_irrefl] at this; cases this
theorem merge_self_is {l : List Splt} {d : List Drp} {n : Int} {S : List Splt} {D : List Drp} (hf : treeF l d = 0) (h : MergeIs l d l d n S D) : n = 0 ∧ S = l ∧ D = d := by
  have ok := tok_of hf
  rcases h with ⟨h, _⟩ | ⟨_, h, _⟩ | ⟨_, _, L, M, h1, h2, h3, h4, h5, h6, h7⟩
  · exact absurd hf h
  · exact absurd hf h
  · have hs : S = l := h5.trans (merge_self (rise_pw ok.s.rise) h1 h2)
    have hd : D = d := h6.trans (merge_self (rise_pw ok.custs) h3 h4)
    subst hs hd
    rcases h7 with ⟨h7, _⟩ | ⟨_, _, h7⟩
    · rcases h7 with h7 | h7
      · exact absurd h7 (rise_adj ok.s.rise)
      · exact absurd h7 (rise_adj ok.custs)
    · exact ⟨h7.trans hf, rfl, rfl⟩
end Go.Proofs.YtcecpodbmjghhaaGreat
