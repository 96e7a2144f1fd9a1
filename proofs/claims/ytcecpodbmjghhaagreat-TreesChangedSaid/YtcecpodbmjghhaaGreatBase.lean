/- Words and small laws that all walks of this seat share: what a slice reads as, what stays below a block number, cells of a block. No condition. -/
import Derived.WalkKit
import Derived.WalkLawsBesides
import Derived.WalkSpells
import Derived.Deep.QuietTactic
import Derived.BigQuiet
import Derived.Deep.RegionHeld3
import Derived.Lib.Hide
import Derived.KernelRfl
set_option linter.unusedVariables false
set_option linter.unusedSimpArgs false
namespace Go.Proofs.YtcecpodbmjghhaaGreat
open Go Go.RowKit
theorem ret_int {k : IntKind} {a b : Int} (h : a = b) : Ending.returned (.int k a) = .returned (.int k b) := by rw [h]
theorem ret_bool {a b : Bool} (h : a = b) : Ending.returned (.bool a) = .returned (.bool b) := by rw [h]
/-- the same of one block: the walk needs no bound to use it -/
theorem bcellAt {B : Nat} {W w1 : World} (hb : Below B W w1) (b : Nat) (h : b < B) : ∀ o, w1.cell? ⟨b, o, none⟩ = W.cell? ⟨b, o, none⟩ := fun o => hb.cell (p := ⟨b, o, none⟩) h
theorem below_at {B B' : Nat} {a w w' : World} (h : Below B a w) (k : Below B' w w') (hB : B ≤ B') : Below B a w' := h.trans (k.mono hB)
/-- block b of w is the cells cs, none of them frozen -/
def Blk (w : World) (b : Nat) (cs : Array Value) (t : TypeId) : Prop := w.heap[b]? = some (.cells cs t (0, 0))
theorem Blk.lt {w : World} {b : Nat} {cs : Array Value} {t : TypeId} (h : Blk w b cs t) : b < w.heap.size := by
  unfold Blk at h
  exact (Array.getElem?_eq_some_iff.1 h).1
theorem Blk.below {B : Nat} {w w' : World} {b : Nat} {cs : Array Value} {t : TypeId} (h : Blk w b cs t) (hB : Below B w w') (hb : b < B) : Blk w' b cs t := by
  unfold Blk at *; rw [hB.block b hb]; exact h
theorem Blk.new (w : World) (cs : Array Value) (t : TypeId) : Blk (w.alloc (.cells cs t)) w.heap.size cs t := heap_alloc_new w _
theorem Blk.newAt {w : World} {b : Nat} {cs : Array Value} {t : TypeId} (hb : b = w.heap.size) : Blk (w.alloc (.cells cs t)) b cs t := by subst hb; exact Blk.new w cs t
theorem Blk.drew {w : World} {b : Nat} {cs : Array Value} {t : TypeId} (h : Blk w b cs t) : Blk w.drew b cs t := h
theorem Blk.alloc {w : World} {b : Nat} {cs : Array Value} {t : TypeId} (h : Blk w b cs t) (o : Obj) : Blk (w.alloc o) b cs t := by
  have := h.lt
  unfold Blk at *; rw [Below.heap_alloc _ _ _ this]; exact h
theorem Blk.drewN {w : World} {b : Nat} {cs : Array Value} {t : TypeId} (h : Blk w b cs t) (n : Nat) : Blk (w.drewN n) b cs t := h
theorem Blk.grown {w w' : World} {b : Nat} {cs : Array Value} {t : TypeId} {row : Option Nat} (h : Blk w b cs t) (hg : w.grownBy w' row) (hne : some b ≠ row) : Blk w' b cs t := by
  have := h.lt
  unfold Blk at *; rw [hg.block b this hne]; exact h
theorem Blk.cell {w : World} {b : Nat} {cs : Array Value} {t : TypeId} (h : Blk w b cs t) (j : Nat) (v : Value) (hv : cs[j]? = some v) : w.cell? ⟨b, j, none⟩ = some v := by
  unfold Blk at h; simp [World.cell?, h, hv]
theorem Blk.free {w : World} {b : Nat} {cs : Array Value} {t : TypeId} (h : Blk w b cs t) (j : Nat) : w.frozen? ⟨b, j, none⟩ = false := by
  unfold Blk at h; simp [World.frozen?, h]
theorem Blk.set {w : World} {b : Nat} {cs : Array Value} {t : TypeId} (h : Blk w b cs t) (j : Nat) (v : Value) : Blk (w.setCell ⟨b, j, none⟩ v) b (cs.setIfInBounds j v) t := by
  unfold Blk at *
  simp [World.setCell, Array.getElem?_modify, h]
theorem Blk.setOther {w : World} {b : Nat} {cs : Array Value} {t : TypeId} (h : Blk w b cs t) {c : Nat} (hc : b ≠ c) (j : Nat) (v : Value) : Blk (w.setCell ⟨c, j, none⟩ v) b cs t := by
  unfold Blk at *; rw [Below.heap_setCell _ _ _ _ hc]; exact h
/-- v reads as a slice of the data l, each of them sz cells wide -/
def Arr {α : Type} (cells : α → List Value) (sz : Nat) (w : World) (l : List α) (v : Value) : Prop :=
  ∃ a cap, v = .slice a l.length cap ∧ l.length ≤ cap ∧ cap ≤ maxLen ∧
    ∀ k (hk : k < l.length), ∃ b off, a = some ⟨b, off, none⟩ ∧ b < w.heap.size ∧ ∀ j u, (cells l[k])[j]? = some u → w.cell? ⟨b, off + k * sz + j, none⟩ = some u
theorem Arr.below {α : Type} {cells : α → List Value} {sz : Nat} {w w' : World} {l : List α} {v : Value} (h : Arr cells sz w l v) (hB : Below w.heap.size w w') : Arr cells sz w' l v := by
  obtain ⟨a, cap, h1, h2, h3, h4⟩ := h
  refine ⟨a, cap, h1, h2, h3, fun k hk => ?_⟩
  obtain ⟨b, off, ha, hb, hc⟩ := h4 k hk
  exact ⟨b, off, ha, Nat.lt_of_lt_of_le hb hB.size, fun j u hu => (hB.cell (p := ⟨b, _, none⟩) hb).trans (hc j u hu)⟩
theorem Arr.nil {α : Type} (cells : α → List Value) (sz : Nat) (w : World) : Arr cells sz w [] (.slice none 0 0) :=
  ⟨none, 0, rfl, Nat.le_refl _, by simp [maxLen], fun k hk => by simp at hk⟩
theorem flat_at {α : Type} {cells : α → List Value} {sz : Nat} (h : ∀ x, (cells x).length = sz) : ∀ (l : List α) (k : Nat) (hk : k < l.length) (j : Nat), j < sz → (l.flatMap cells)[k * sz + j]? = (cells l[k])[j]?
  | x :: l, 0, _, j, hj => by simp [List.flatMap_cons, List.getElem?_append_left, h x, hj]
  | x :: l, k + 1, hk, j, hj => by
    have e : (k + 1) * sz + j = sz + (k * sz + j) := by rw [Nat.succ_mul]; omega
    rw [List.flatMap_cons, e, List.getElem?_append_right (by rw [h x]; omega), h x, Nat.add_sub_cancel_left, flat_at h l k (by simpa using hk) j hj]
    simp
theorem flat_len {α : Type} {cells : α → List Value} {sz : Nat} (h : ∀ x, (cells x).length = sz) : ∀ (l : List α), (l.flatMap cells).length = l.length * sz
  | [] => by simp
  | x :: l => by rw [List.flatMap_cons, List.length_append, flat_len h l, h x, List.length_cons, Nat.succ_mul, Nat.add_comm]
/-- what the call owns reads as data -/
theorem Arr.of_own {α : Type} {cells : α → List Value} {sz : Nat} (h : ∀ x, (cells x).length = sz) {w : World} {base : Nat} {e : TypeId} {l : List α} {v : Value}
    (ho : w.ownsRow base e sz v l.length (l.flatMap cells)) : Arr cells sz w l v := by
  have hcs := fun (g : Nat) (hg : v.ownBlock = some g) => ho.cells hg
  have hlt := ho.lt
  obtain ⟨_, h2⟩ := ho
  rcases h2 with ⟨rfl, hn⟩ | ⟨g, cap, cur, rfl, hg, hh, hc, hm, hs, ht⟩
  · obtain rfl : l = [] := List.length_eq_zero_iff.1 hn
    exact Arr.nil _ _ _
  · refine ⟨_, cap, rfl, hc, hm, fun k hk => ⟨g, 0, rfl, (hlt g rfl).2, fun j u hu => ?_⟩⟩
    have hj : j < sz := by rw [← h l[k]]; exact (List.getElem?_eq_some_iff.1 hu).1
    have := hcs g rfl (k * sz + j) u (by rw [flat_at h l k hk j hj]; exact hu)
    have e : ((⟨g, 0, none⟩ : Addr).add (k * sz + j)) = ⟨g, 0 + k * sz + j, none⟩ := by
      unfold Addr.add
      split
      · rename_i h0; simp [h0, Nat.add_assoc]
      · simp [Nat.add_assoc]
    rwa [e] at this
/-- a plain list of cells one wide -/
def intCells (n : Int) : List Value := [.int .i64 n]
def strCells (s : ByteArray) : List Value := [.string s]
theorem Arr.len {α : Type} {cells : α → List Value} {sz : Nat} {w : World} {l : List α} {v : Value} (h : Arr cells sz w l v) : l.length ≤ maxLen := by
  obtain ⟨a, cap, _, h2, h3, _⟩ := h; omega
theorem flat_one {α : Type} (f : α → Value) (l : List α) : l.flatMap (fun x => [f x]) = l.map f := by
  induction l with
  | nil => rfl
  | cons x l ih => simp [List.flatMap_cons, ih]
theorem Arr.lit {α : Type} {cells : α → List Value} {sz : Nat} (h : ∀ x, (cells x).length = sz) (w : World) (l : List α) (cs : Array Value) (t : TypeId) (n : Nat)
    (hcs : cs.toList = l.flatMap cells) (hn : n = l.length) (hm : n ≤ maxLen) : Arr cells sz (w.alloc (.cells cs t)) l (.slice (some ⟨w.heap.size, 0, none⟩) n n) := by
  subst hn
  refine ⟨_, _, rfl, Nat.le_refl _, hm, fun k hk => ⟨_, 0, rfl, by simp, fun j u hu => ?_⟩⟩
  have hj : j < sz := by rw [← h l[k]]; exact (List.getElem?_eq_some_iff.1 hu).1
  have := flat_at h l k hk j hj
  rw [← hcs, Array.getElem?_toList] at this
  have hb := Blk.new w cs t
  rw [Nat.zero_add]
  exact hb.cell _ _ (by rw [this]; exact hu)
theorem Arr.litAt {α : Type} {cells : α → List Value} {sz : Nat} (h : ∀ x, (cells x).length = sz) {w : World} {l : List α} {cs : Array Value} {t : TypeId} {n b : Nat}
    (hb : b = w.heap.size) (hcs : cs.toList = l.flatMap cells) (hn : n = l.length) (hm : n ≤ maxLen) : Arr cells sz (w.alloc (.cells cs t)) l (.slice (some ⟨b, 0, none⟩) n n) := by
  subst hb; exact Arr.lit h w l cs t n hcs hn hm
theorem Arr.drew {α : Type} {cells : α → List Value} {sz : Nat} {w : World} {l : List α} {v : Value} (h : Arr cells sz w l v) : Arr cells sz w.drew l v := h
theorem Arr.drewN {α : Type} {cells : α → List Value} {sz : Nat} {w : World} {l : List α} {v : Value} (h : Arr cells sz w l v) (n : Nat) : Arr cells sz (w.drewN n) l v := h
theorem own_below {w w' : World} {base : Nat} {e : TypeId} {size : Nat} {v : Value} {n : Nat} {xs : List Value} (h : w.ownsRow base e size v n xs) (hB : Below w.heap.size w w') : w'.ownsRow base e size v n xs := by
  refine h.kept (row := none) ⟨hB.os, hB.tape, hB.output, hB.size, fun k hk _ => hB.block k hk⟩ ?_
  cases hv : v.ownBlock with
  | none => exact .inl rfl
  | some k => exact .inr (by simp)
theorem news_new (w : World) (cs : Array Value) (t : TypeId) : ∀ j u, cs.toList[j]? = some u → (w.alloc (.cells cs t)).cell? ((⟨w.heap.size, 0, none⟩ : Addr).add j) = some u := by
  intro j u hu
  have hb := Blk.new w cs t
  have e : ((⟨w.heap.size, 0, none⟩ : Addr).add j) = ⟨w.heap.size, j, none⟩ := by
    unfold Addr.add
    split
    · rename_i h0; simp [h0]
    · simp
  rw [e]
  exact hb.cell j u (by simpa using hu)
theorem news_at {w : World} {b : Nat} {cs : Array Value} {news : List Value} {t : TypeId} (hb : b = w.heap.size) (hcs : cs.toList = news) : ∀ j u, news[j]? = some u → (w.alloc (.cells cs t)).cell? ((⟨b, 0, none⟩ : Addr).add j) = some u := by
  subst hb hcs; exact news_new w cs t
/-- behind an append to what the call owns: below the base nothing has turned -/
theorem below_grown {B base : Nat} {a w w' : World} {e : TypeId} {size : Nat} {v : Value} {n : Nat} {xs : List Value} (h : Below B a w) (ho : w.ownsRow base e size v n xs) (hg : w.grownBy w' v.ownBlock) (hB : B ≤ base) (hb : base ≤ w.heap.size) : Below B a w' :=
  h.grown hg (by omega) fun k hk => by have := (ho.lt k hk).1; omega
/-- owned integers read as integers -/
theorem Arr.of_ints {w : World} {base : Nat} {e : TypeId} {l : List Int} {v : Value} {n : Nat} (ho : w.ownsRow base e 1 v n (l.map (Value.int .i64))) : Arr intCells 1 w l v := by
  have hn : n = l.length := by have := ho.1; simp at this; omega
  subst hn
  refine Arr.of_own (cells := intCells) (fun _ => rfl) (base := base) (e := e) ?_
  show w.ownsRow _ _ _ _ _ (l.flatMap fun n => [Value.int .i64 n])
  rw [flat_one]; exact ho
/-- a value is returned of which P holds; nothing that was there has turned -/
def Ret (P : Value → World → Prop) (w : World) (e : Ending) (w' : World) : Prop := ∃ v, e = .returned v ∧ P v w' ∧ Below w.heap.size w w'
/-- the index of the first element for which p holds, or -1 -/
def idxF {α : Type} (p : α → Bool) : List α → Int
  | [] => -1
  | x :: l => if p x then 0 else if idxF p l < 0 then -1 else idxF p l + 1
theorem idxF_none {α : Type} {p : α → Bool} : ∀ {l : List α}, l.any p = false → idxF p l = -1
  | [], _ => rfl
  | x :: l, h => by
    simp only [List.any_cons, Bool.or_eq_false_iff] at h
    have := idxF_none h.2
    simp [idxF, h.1, this]
theorem idxF_hit {α : Type} {p : α → Bool} : ∀ {l : List α} {k : Nat} (h : k < l.length), (l.take k).any p = false → p l[k] = true → idxF p l = k
  | x :: l, 0, _, _, h1 => by simp at h1; simp [idxF, h1]
  | x :: l, k + 1, h, h0, h1 => by
    simp only [List.take_succ_cons, List.any_cons, Bool.or_eq_false_iff] at h0
    have := idxF_hit (l := l) (k := k) (by simpa using h) h0.2 (by simpa using h1)
    simp only [idxF, h0.1, this]
    simp; omega
theorem idxF_range {α : Type} (p : α → Bool) : ∀ (l : List α), -1 ≤ idxF p l ∧ idxF p l < l.length
  | [] => by simp [idxF]
  | x :: l => by
    have := idxF_range p l
    simp only [idxF, List.length_cons]
    split
    · omega
    · split <;> omega
theorem idxF_nonneg {α : Type} (p : α → Bool) : ∀ (l : List α), (0 ≤ idxF p l ↔ l.any p = true)
  | [] => by simp [idxF]
  | x :: l => by
    have h1 := idxF_nonneg p l
    have h2 := idxF_range p l
    simp only [idxF, List.any_cons, Bool.or_eq_true]
    by_cases hx : p x = true
    · simp [hx]
    · rw [if_neg hx]
      constructor
      · intro h
        split at h
        · omega
        · exact .inr (h1.1 (by omega))
      · rintro (h | h)
        · exact absurd h hx
        · have := h1.2 h
          rw [if_neg (by omega)]; omega
theorem any_take_succ {α : Type} (p : α → Bool) (l : List α) (k : Nat) (h : k < l.length) (h0 : (l.take k).any p = false) : (l.take (k + 1)).any p = p l[k] := by
  rw [List.take_succ_eq_append_getElem h, List.any_append, h0]; simp
theorem any_take_all {α : Type} {p : α → Bool} {l : List α} {k : Nat} (h : l.length ≤ k) (h0 : (l.take k).any p = false) : l.any p = false := by rwa [List.take_of_length_le h] at h0
theorem below_alloc {B : Nat} {a w : World} (h : Below B a w) (o : Obj) (hB : B ≤ w.heap.size) : Below B a (w.alloc o) := h.alloc hB o
theorem below_draws {B : Nat} {a w : World} (h : Below B a w) (n : Nat) : Below B a (w.drewN n) := below_drewN h n
/-- short names for rules that the walks repeat -/
theorem pu1 {α : Type _} (l : List α) (i : Nat) (a : α) : l.toArray.setIfInBounds i a = (l.set i a).toArray := List.setIfInBounds_toArray ..
theorem pu2 {α : Type _} (a b : α) (l : List α) : (a :: l).set 0 b = b :: l := rfl
theorem pu3 {α : Type _} (a b : α) (l : List α) (n : Nat) : (a :: l).set (n + 1) b = a :: l.set n b := rfl
theorem pu4 {α : Type _} {l : List α} {i : Nat} (h : i < l.toArray.size) : l.toArray[i] = l[i]'(by simpa using h) := by simp
theorem pu5 {α : Type _} (a : α) (l : List α) (i : Nat) (h : i + 1 < (a :: l).length) : (a :: l)[i + 1] = l[i]'(Nat.lt_of_succ_lt_succ h) := rfl
theorem pu6 {α : Type _} (a : α) (l : List α) (h : 0 < (a :: l).length) : (a :: l)[0] = a := rfl
end Go.Proofs.YtcecpodbmjghhaaGreat
