/- append of a whole row of data onto what the call owns, a nil row too, as a step of a region that draws. No program. -/
import Derived.Test.YtcecpodbmjghhaaGreatMemAll
import Derived.Deep.AppendLies
set_option linter.unusedVariables false
set_option linter.unusedSimpArgs false
namespace Go.Proofs.YtcecpodbmjghhaaGreat
open Go Go.RowKit
section
variable {P : Program}
theorem run_append_none (w : World) (t ty e : TypeId) (i : TypeInfo) (ht : P.underlying t = some (.slice e)) (hi : P.info? e = some i) (a : Option Addr) (n cap c : Nat) (hc : n ≤ cap) :
    (Builtin.append_ #[t, t] ty #[.slice a n cap, .slice none 0 c]).run P w = .ok (.slice a n cap) w := by
  cases a <;> simp [Builtin.append_, run_underlying ht, sizeOf, typeInfo, hi, Builtin.lenOf, hc, run_firstCells_none, storeCells]
theorem run_append_arr {α : Type} {cells : α → List Value} {sz : Nat} (clen : ∀ x, (cells x).length = sz) {l : List α} {vx : Value} {w : World} (hA : Arr cells sz w l vx)
    (t ty base e : TypeId) (i : TypeInfo) (z : Value) (bytes : Nat) (ht : P.underlying t = some (.slice e)) (hi : P.info? e = some i) (hz : i.zero = some z)
    (hsize : i.size = sz) (hby : i.bytes = bytes) (hzs : z.cells.size = sz) (hsz : 0 < sz) (v : Value) (n : Nat) (xs : List Value) (hown : w.ownsRow base e sz v n xs)
    (h1 : ∀ u ∈ l.flatMap cells, u.oneCell' = true) (h63 : n + l.length ≤ maxLen) (hbytes : (n + l.length) * bytes ≤ 140737488355328) (hbase : base ≤ w.heap.size) :
    ∃ v' w', (Builtin.append_ #[t, t] ty #[v, vx]).run P w = .ok v' w' ∧ w'.ownsRow base e sz v' (n + l.length) (xs ++ l.flatMap cells) ∧ w.grownBy w' v.ownBlock := by
  have hA' := hA
  obtain ⟨a, cap, rfl, hcap, hmax, hc⟩ := hA
  cases a with
  | some ad =>
    obtain ⟨v', w', hr, h2, h3, _, _⟩ := run_append_own_at (P := P) w base t ty e i z sz bytes ht hi hz hsize hby hzs hsz v n xs hown ad l.length cap (l.flatMap cells) (flat_len clen l) (hA'.news clen) h1 h63 hbytes hbase
    exact ⟨v', w', hr, h2, h3⟩
  | none =>
    have h0 : l = [] := by
      rcases Nat.eq_zero_or_pos l.length with h | h
      · exact List.length_eq_zero_iff.1 h
      · obtain ⟨_, _, e, _⟩ := hc 0 h; cases e
    subst h0
    refine ⟨v, w, ?_, by simpa using hown, ⟨rfl, rfl, rfl, Nat.le_refl _, fun _ _ _ => rfl⟩⟩
    rcases hown.2 with ⟨rfl, rfl⟩ | ⟨g, c2, cur, rfl, _, _, hle, _⟩
    · exact run_append_none w t ty e i ht hi none 0 0 cap (Nat.le_refl _)
    · exact run_append_none w t ty e i ht hi _ _ _ cap hle
end
end Go.Proofs.YtcecpodbmjghhaaGreat
