/- Maps that a call makes: which value stands at which key; look-ups, updates. Over any program. No condition. -/
import Derived.Test.YtcecpodbmjghhaaGreatBase
import Derived.Maps.OwnSet
import Derived.Maps.OwnOps
import Derived.DeepKeys4
set_option linter.unusedVariables false
set_option linter.unusedSimpArgs false
namespace Go.Proofs.YtcecpodbmjghhaaGreat
open Go Go.RowKit
open Go.Maps (Keyed)
/-- an element of a map is read as itself -/
def asIs (v : Value) : Option (DataW Value × List MemPlace) := some (.held v, [])
/-- block b is a map of at most n entries that holds m a at the key kv a -/
def MapIs {α : Type} (P : Program) (k : TypeId) (kv : α → Value) (w : World) (b n : Nat) (m : α → Option Value) : Prop :=
  ∃ D : DataW Value, w.ownsMap P k asIs b n D ∧ Maps.IsMap D ∧ ∀ a kl, keyOf P k (kv a) = some kl → (∀ z, D.atKey kl (.held z) = .held ((m a).getD z)) ∧ Maps.has D kl = (m a).isSome
def setM {α : Type} [DecidableEq α] (m : α → Option Value) (a : α) (v : Value) : α → Option Value := fun x => if x = a then some v else m x
section
variable {α : Type} {P : Program} {k : TypeId} {kv : α → Value} {w w' : World} {b n : Nat} {m : α → Option Value}
theorem MapIs.made (w : World) (P : Program) (k : TypeId) (kv : α → Value) : MapIs P k kv (w.alloc (.map #[] 0)) w.heap.size 0 (fun _ => none) :=
  ⟨.map [], World.ownsMap_made w P k asIs, Maps.isMap_empty, fun _ _ _ => ⟨fun _ => rfl, rfl⟩⟩
theorem MapIs.lt (h : MapIs P k kv w b n m) : b < w.heap.size := by obtain ⟨D, h, _⟩ := h; exact h.lt
theorem MapIs.mono (h : MapIs P k kv w b n m) {n' : Nat} (hn : n ≤ n') : MapIs P k kv w b n' m := by
  obtain ⟨D, h1, h2⟩ := h
  exact ⟨D, h1.mono hn, h2⟩
theorem MapIs.kept {row : Option Nat} (h : MapIs P k kv w b n m) (hg : w.grownBy w' row) (hne : some b ≠ row) : MapIs P k kv w' b n m := by
  obtain ⟨D, h1, h2⟩ := h
  exact ⟨D, h1.kept hg hne, h2⟩
theorem MapIs.below {B : Nat} (h : MapIs P k kv w b n m) (hB : Below B w w') (hb : b < B) : MapIs P k kv w' b n m := by
  obtain ⟨D, ⟨es, clock, h0, h1⟩, h2⟩ := h
  exact ⟨D, ⟨es, clock, (hB.block b hb).trans h0, h1⟩, h2⟩
theorem MapIs.alloc (h : MapIs P k kv w b n m) (o : Obj) : MapIs P k kv (w.alloc o) b n m := h.kept (World.grownBy_alloc w o none) (by simp)
theorem MapIs.drew (h : MapIs P k kv w b n m) : MapIs P k kv w.drew b n m := h
theorem MapIs.drewN (h : MapIs P k kv w b n m) (j : Nat) : MapIs P k kv (w.drewN j) b n m := h
theorem MapIs.congr (h : MapIs P k kv w b n m) {m' : α → Option Value} (hm : ∀ a, m a = m' a) : MapIs P k kv w b n m' := by
  obtain ⟨D, h1, h2, h3⟩ := h
  exact ⟨D, h1, h2, fun a kl hk => by rw [← hm a]; exact h3 a kl hk⟩
theorem MapIs.look {t e : TypeId} (h : MapIs P k kv w b n m) (K : Keyed P k) (ht : P.underlying t = some (.map k e)) {z : Value} (hz : (zeroValue e).run P w = .ok z w) (a : α) {kl : Lit} (hkey : keyOf P k (kv a) = some kl) :
    (Instr.lookup t (.map (some b)) (kv a) false).run P w = .ok ((m a).getD z) w := by
  obtain ⟨D, h1, _, h3⟩ := h
  obtain ⟨v, ps, hrun, hv⟩ := h1.lookup K ht hz (zd := .held z) (zp := []) rfl hkey
  have hat := (h3 a kl hkey).1 z
  rw [hat] at hv
  simp only [asIs, Option.some.injEq, Prod.mk.injEq, DataW.held.injEq] at hv
  rw [hrun, hv.1]
theorem MapIs.store [DecidableEq α] {t e : TypeId} (h : MapIs P k kv w b n m) (K : Keyed P k) (hinj : ∀ a a', kv a = kv a' → a = a') (ht : P.underlying t = some (.map k e)) (hn : n < maxLen) (a : α) {kl : Lit} (hkey : keyOf P k (kv a) = some kl) (v : Value) :
    ∃ w', (Instr.mapUpdate t (.map (some b)) (kv a) v).run P w = .ok () w' ∧ MapIs P k kv w' b (n + 1) (setM m a v) ∧ w.grownBy w' (some b) := by
  obtain ⟨D, h1, h2, h3⟩ := h
  obtain ⟨w', hrun, hown, hg⟩ := h1.update K ht hn (val := v) (d := .held v) (ps := []) hkey rfl
  refine ⟨w', hrun, ⟨_, hown, h2.put _ _, fun x kx hkx => ?_⟩, hg⟩
  by_cases hx : x = a
  · subst hx
    obtain rfl : kl = kx := Option.some.inj (hkey.symm.trans hkx)
    have hs : setM m x v x = some v := by simp [setM]
    rw [hs]
    exact ⟨fun z => Maps.atKey_put_same h2 (K.key hkey) _ _, Maps.has_put_same h2 (K.key hkey) _⟩
  · have hs : setM m a v x = m x := by simp [setM, hx]
    have hne : kx ≠ kl := fun e => hx (hinj _ _ (K.inj hkx (e ▸ hkey)))
    rw [hs]
    obtain ⟨q1, q2⟩ := h3 x kx hkx
    exact ⟨fun z => by rw [Maps.atKey_put_other hne]; exact q1 z, by rw [Maps.has_put_other hne]; exact q2⟩
end
section
variable {α : Type} {P : Program} {w : World} {ops : Array Oper} {rest : List Oper} {o : Oper} {a : Act} {Q : Exit → Act → World → Prop}
theorem wpList_wanted (hg : Region.wanted o (yielded ops a.tmps) = true)
    (h : ∀ K : Act → World → Prop, (∀ a w, wpList P ops Q rest a w → K a w) → o.wp P a w K Q) : wpList P ops Q (o :: rest) a w :=
  wpList_step fun K hK => by rw [if_pos hg]; exact h K hK
/-- a look-up at the operation -/
theorem wpList_look (hg : Region.wanted o (yielded ops a.tmps) = true) (mo x : Operand) (t : TypeId) (hop : o.op = Op.lookup t mo x false) {k e : TypeId} (K : Keyed P k) (ht : P.underlying t = some (.map k e)) {z : Value} (hz : (zeroValue e).run P w = .ok z w)
    {kv : α → Value} {b n : Nat} {m : α → Option Value} (hown : MapIs P k kv w b n m) (hm : a.eval mo = .map (some b)) (q : α) {kl : Lit} (hkey : keyOf P k (kv q) = some kl) (hx : a.eval x = kv q) {v : Value} (hv : (m q).getD z = v)
    (hK : wpList P ops Q rest (a.put o.dst v) w) : wpList P ops Q (o :: rest) a w := by
  refine wpList_wanted hg fun K' hK' => ?_
  have hrun := hown.look K ht hz q hkey
  rw [hv] at hrun
  unfold Oper.wp
  simp [execOp, hop, hm, hx, hrun, Result.andThen]
  exact hK' _ _ hK
/-- an update at the operation -/
theorem wpList_update [DecidableEq α] (hg : Region.wanted o (yielded ops a.tmps) = true) (mo x v : Operand) (t : TypeId) (hop : o.op = Op.mapUpdate t mo x v) {k e : TypeId} (K : Keyed P k) (ht : P.underlying t = some (.map k e))
    {kv : α → Value} (hinj : ∀ a a', kv a = kv a' → a = a') {b n : Nat} {m : α → Option Value} (hown : MapIs P k kv w b n m) (hn : n < maxLen) (hm : a.eval mo = .map (some b)) (q : α) {kl : Lit} (hkey : keyOf P k (kv q) = some kl) (hx : a.eval x = kv q) (val : Value) (hv : a.eval v = val)
    (hK : ∀ w', MapIs P k kv w' b (n + 1) (setM m q val) → w.grownBy w' (some b) → wpList P ops Q rest (a.put o.dst undef) w') : wpList P ops Q (o :: rest) a w := by
  refine wpList_wanted hg fun K' hK' => ?_
  obtain ⟨w', hrun, r1, r2⟩ := hown.store K hinj ht hn q hkey val
  unfold Oper.wp
  simp [execOp, hop, hm, hx, hv, hrun, Result.andThen]
  exact hK' _ _ (hK w' r1 r2)
end
/-- a key of a string and a number -/
theorem keyOf_pair {P : Program} {k ts ti : TypeId} {fs : Array Go.Field} (hk : P.underlying k = some (.struct fs)) (hs : P.underlying ts = some .string) (hi : P.underlying ti = some (.int .i64))
    (hkt : P.keyType k = true) (hcells : P.cellsOf k = 2) (hc1 : P.cellsOf ts = 1) (hc2 : P.cellsOf ti = 1) (hsz : 1 ≤ P.types.size) (hfs : fs.toList.map (fun f => (f.type, f.offset)) = [(ts, 0), (ti, 1)]) (hn : fs.all (fun f => f.name != "_") = true)
    (s : ByteArray) (n : Int) (h1 : s.size ≤ maxLen) (h2 : (Lit.int .i64 n).wf = true) : ∃ kl, keyOf P k (.agg #[.string s, .int .i64 n]) = some kl := by
  obtain ⟨d, hd⟩ : ∃ d, P.types.size = d + 1 := ⟨P.types.size - 1, by omega⟩
  obtain ⟨f0, f1, hf⟩ : ∃ f0 f1, fs.toList = [f0, f1] := by
    match hl : fs.toList, hfs with
    | [a, b], _ => exact ⟨a, b, rfl⟩
    | [], h => simp at h
    | [_], h => simp at h
    | _ :: _ :: _ :: _, h => simp at h
  rw [hf] at hfs
  simp only [List.map_cons, List.map_nil, List.cons.injEq, Prod.mk.injEq, and_true] at hfs
  obtain ⟨⟨a1, a2⟩, b1, b2⟩ := hfs
  refine Option.isSome_iff_exists.1 ?_
  unfold keyOf
  rw [hk]
  simp only [hkt, Value.formed, hk, hcells, Bool.true_and]
  simp only [Value.cells, hd, Program.keyLits, hk, hcells, hf, hn]
  simp [a1, a2, b1, b2, hc1, hc2, hs, hi, h1, h2]
end Go.Proofs.YtcecpodbmjghhaaGreat
