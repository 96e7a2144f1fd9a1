/- Walks: the functions that the properties of light budgets hand round. -/
import Derived.Test.YtagpcgnlbgndmaaKeepA
import Derived.Test.YtagpcgnlbgndmaaWalkB5
import Derived.Test.YtagpcgnlbgndmaaOrders
import Derived.Deep.AppendLies
set_option linter.unusedVariables false
set_option linter.unusedSimpArgs false
namespace Go.Proofs.Ytagpcgnlbgndmaa
open Go Go.RowKit

theorem addr_plus (b off i : Nat) : ((⟨b, off, none⟩ : Addr).add i) = ⟨b, off + i, none⟩ := by
  unfold Addr.add
  split
  · rename_i h; simp [h]
  · rfl
theorem news_later {w w' : World} {b : Nat} {cs : Array Value} {news : List Value} {t : TypeId} (hb : b = w.heap.size) (hcs : cs.toList = news) (h : Below (w.alloc (.cells cs t)).heap.size (w.alloc (.cells cs t)) w') : ∀ j u, news[j]? = some u → w'.cell? ((⟨b, 0, none⟩ : Addr).add j) = some u := by
  intro j u hu
  have h1 := news_at (w := w) (t := t) hb hcs j u hu
  rw [addr_plus] at h1 ⊢
  exact (h.cell (p := ⟨b, _, none⟩) (by subst hb; simp)).trans h1
/-- parts with one more -/
theorem own_more {w : World} {base g cap : Nat} {p : List Part} {q : Part} (h : w.ownsRow base 81 2 (.slice (some ⟨g, 0, none⟩) (p.length + 1) cap) (p.length + 1) (p.flatMap Part.cells ++ [.int .i64 q.kind, .int .i64 q.amt])) : Arr Part.cells 2 w (p ++ [q]) (.slice (some ⟨g, 0, none⟩) (p.length + 1) cap) := by
  refine Arr.of_own Part.cells_len (base := base) (e := 81) ?_
  simp only [List.length_append, List.length_cons, List.length_nil, List.flatMap_append, List.flatMap_cons, List.flatMap_nil, List.append_nil]
  exact h

def withV (p : List Part) (x : Losses) (o : Optics) (n : Int) : Int := if faultF (p ++ [⟨2, n⟩]) x o ≠ 0 then o.most + 1 else recvV (p ++ [⟨2, n⟩]) x o

/-- the boxes that a function value has caught -/
structure Caught (p : List Part) (x : Losses) (o : Optics) (v : Value) (bp bx bo : Nat) (W : World) : Prop where
  P : Arr Part.cells 2 W p v
  kp : Blk W bp #[v] 26
  kx : Blk W bx #[.int .i64 x.perKm, .int .i64 x.conn, .int .i64 x.dblg, .int .i64 x.exc] 29
  ko : Blk W bo #[.int .i64 o.launch, .int .i64 o.least, .int .i64 o.most] 32
theorem Caught.below {p : List Part} {x : Losses} {o : Optics} {v : Value} {bp bx bo : Nat} {W W' : World} (h : Caught p x o v bp bx bo W) (hb : Below W.heap.size W W') : Caught p x o v bp bx bo W' :=
  ⟨h.P.below hb, h.kp.below hb h.kp.lt, h.kx.below hb h.kx.lt, h.ko.below hb h.ko.lt⟩
/-- what is read -/
def CaughtS (v : Value) (x : Losses) (o : Optics) (bp bx bo : Nat) (W : World) : Prop := W.cell? ⟨bp, 0, none⟩ = some v ∧ (W.cell? ⟨bx, 0, none⟩ = some (.int .i64 x.perKm) ∧ W.cell? ⟨bx, 1, none⟩ = some (.int .i64 x.conn) ∧ W.cell? ⟨bx, 2, none⟩ = some (.int .i64 x.dblg) ∧ W.cell? ⟨bx, 3, none⟩ = some (.int .i64 x.exc)) ∧ (W.cell? ⟨bo, 0, none⟩ = some (.int .i64 o.launch) ∧ W.cell? ⟨bo, 1, none⟩ = some (.int .i64 o.least) ∧ W.cell? ⟨bo, 2, none⟩ = some (.int .i64 o.most))
theorem Caught.s {p : List Part} {x : Losses} {o : Optics} {v : Value} {bp bx bo : Nat} {W : World} (h : Caught p x o v bp bx bo W) : CaughtS v x o bp bx bo W :=
  ⟨h.kp.cell 0 _ rfl, ⟨h.kx.cell 0 _ rfl, h.kx.cell 1 _ rfl, h.kx.cell 2 _ rfl, h.kx.cell 3 _ rfl⟩, h.ko.cell 0 _ rfl, h.ko.cell 1 _ rfl, h.ko.cell 2 _ rfl⟩

set_option maxHeartbeats 4000000 in
set_option maxRecDepth 100000 in
theorem withClos_any (p : List Part) (x : Losses) (o : Optics) (v : Value) (bp bx bo : Nat) (n : Int) (w : World) (hp : p.length ≤ 100) (hn : -1000000000 ≤ n ∧ n ≤ 1000000000) (hm : -1000000000 ≤ o.most ∧ o.most ≤ 1000000000) (H : Caught p x o v bp bx bo w) :
    Calls Try.prog 65 #[.int .i64 n, .pointer (some ⟨bp, 0, none⟩), .pointer (some ⟨bx, 0, none⟩), .pointer (some ⟨bo, 0, none⟩)] w fun e w' => e = .returned (.int .i64 (withV p x o n)) ∧ Below w.heap.size w w' := by
  obtain ⟨hm1, hm2⟩ := hm
  have HC := Lib.hid H
  have l1 := H.kp.lt
  have l2 := H.kx.lt
  have l3 := H.ko.lt
  clear H
  obtain ⟨i0, hi, hz0, hz1, hz2⟩ := info_parts infoPart
  go_enter Try.func65, Try.ntmps65
  go_wp2
  refine WalkT.start (CaughtS v x o bp bx bo) [] (by kernel_rfl) ?_
  have HS0 : Hid (CaughtS v x o bp bx bo w.drew) := HC.out.s
  refine WalkT.take (i := 0) (v := ?_) rfl (by kernel_rfl) (by kernel_rfl) (by kernel_rfl) (by kernel_rfl) (fun _ _ _ h => h) HS0.out (Or.inl ⟨by rfl, ?_⟩) ?_; rotate_left; (· (intro wS hSw; (try unfold CaughtS at hSw); obtain ⟨s0, ⟨s1, s2, s3, s4⟩, s5, s6, s7⟩ := hSw; go_simp; try with_reducible rfl)); try simp only [Act.put, List.setIfInBounds_toArray, List.set_cons_zero, List.set_cons_succ, List.getElem_toArray, List.getElem_cons_succ, List.getElem_cons_zero]
  refine WalkT.take (i := 6) (v := ?_) rfl (by kernel_rfl) (by kernel_rfl) (by kernel_rfl) (by kernel_rfl) (fun _ _ _ h => h) HS0.out (Or.inl ⟨by rfl, ?_⟩) ?_; rotate_left; (· (intro wS hSw; (try unfold CaughtS at hSw); obtain ⟨s0, ⟨s1, s2, s3, s4⟩, s5, s6, s7⟩ := hSw; go_simp; try with_reducible rfl)); try simp only [Act.put, List.setIfInBounds_toArray, List.set_cons_zero, List.set_cons_succ, List.getElem_toArray, List.getElem_cons_succ, List.getElem_cons_zero]
  refine WalkT.take (i := 7) (v := ?_) rfl (by kernel_rfl) (by kernel_rfl) (by kernel_rfl) (by kernel_rfl) (fun _ _ _ h => h) HS0.out (Or.inl ⟨by rfl, ?_⟩) ?_; rotate_left; (· (intro wS hSw; (try unfold CaughtS at hSw); obtain ⟨s0, ⟨s1, s2, s3, s4⟩, s5, s6, s7⟩ := hSw; go_simp; try with_reducible rfl)); try simp only [Act.put, List.setIfInBounds_toArray, List.set_cons_zero, List.set_cons_succ, List.getElem_toArray, List.getElem_cons_succ, List.getElem_cons_zero]
  refine WalkT.quiet (i := 2) (v := ?_) rfl (by kernel_rfl) (by kernel_rfl) (by kernel_rfl) (fun _ _ _ h => h) (Or.inl ⟨by rfl, ?_⟩) ?_; rotate_left; (· (intro wS hSw; (try dsimp only at hSw); go_simp; try with_reducible rfl)); try simp only [Act.put, List.setIfInBounds_toArray, List.set_cons_zero, List.set_cons_succ, List.getElem_toArray, List.getElem_cons_succ, List.getElem_cons_zero]
  refine WalkT.quiet (i := 3) (v := ?_) rfl (by kernel_rfl) (by kernel_rfl) (by kernel_rfl) (fun _ _ _ h => h) (Or.inl ⟨by rfl, ?_⟩) ?_; rotate_left; (· (intro wS hSw; (try dsimp only at hSw); go_simp; try with_reducible rfl)); try simp only [Act.put, List.setIfInBounds_toArray, List.set_cons_zero, List.set_cons_succ, List.getElem_toArray, List.getElem_cons_succ, List.getElem_cons_zero]
  refine WalkT.ready (rs := [1, 4]) (by kernel_rfl) (by simp) (AllT.cons rfl (fun K hK => ?_) (AllT.cons rfl (fun K hK => ?_) AllT.nil))
  · go_simp
    refine (clone_part _ p _ (by exact HC.out.P.below (by (repeat (first | exact Below.refl _ _ | assumption | refine below_draws ?_ _ | refine Below.drew ?_ | refine below_alloc ?_ _ (by first | omega | (simp; done) | (simp; omega)) | refine Below.setCell ?_ (by first | omega | (simp; done) | (simp; omega)) _ | refine below_at ?_ (by assumption) (by first | omega | (simp; done) | (simp; omega)))))) (by omega)).mono ?_
    rintro e w1 ⟨v1, rfl, hcl, hb1⟩
    have hz1' : w.heap.size ≤ w1.heap.size := hb1.size
    have hBw1 : Below w.heap.size w w1 := by (repeat (first | exact Below.refl _ _ | assumption | refine below_draws ?_ _ | refine Below.drew ?_ | refine below_alloc ?_ _ (by first | omega | (simp; done) | (simp; omega)) | refine Below.setCell ?_ (by first | omega | (simp; done) | (simp; omega)) _ | refine below_at ?_ (by assumption) (by first | omega | (simp; done) | (simp; omega))))
    have H1 := Lib.hid (And.intro hcl hBw1)
    clear hcl hBw1
    refine hK.out _ _ (fun _ _ => (HC.out.below H1.out.2).s) ?_; clear hK K; try simp only [Act.put, List.setIfInBounds_toArray, List.set_cons_zero, List.set_cons_succ, List.getElem_toArray, List.getElem_cons_succ, List.getElem_cons_zero]
    refine WalkT.ready (rs := [4]) (by kernel_rfl) (by simp) (AllT.cons rfl (fun K hK => ?_) AllT.nil); go_simp
    have hBw2 : Below w.heap.size w (w1.alloc (.cells #[.int .i64 2, .int .i64 n] 81)) := below_alloc H1.out.2 _ hz1'
    refine hK.out _ _ (fun _ _ => (HC.out.below hBw2).s) ?_; clear hK K; try simp only [Act.put, List.setIfInBounds_toArray, List.set_cons_zero, List.set_cons_succ, List.getElem_toArray, List.getElem_cons_succ, List.getElem_cons_zero]
    refine WalkT.ready (rs := [5]) (by kernel_rfl) (by simp) (AllT.cons rfl (fun K hK => ?_) AllT.nil); refine step_append_lies _ (by rfl) _ _ _ (by rfl) _ 81 _ _ 2 16 Try.underlying26 hi hz0 hz1 hz2 rfl (by decide) _ p.length _ (by rfl) (H1.out.1.1.alloc _) ⟨_, 0, none⟩ 1 1 [.int .i64 2, .int .i64 n] (by rfl) rfl (news_at rfl rfl) (by simp [Value.oneCell']) (by omega) (by unfold maxLen; omega) (by omega) (by first | omega | (simp; done) | (simp; omega)) _ rfl ?_; intro g cap w3 hown3 hg3 hat3 hlt3
    have hBw3 : Below w.heap.size w w3 := below_grown hBw2 (H1.out.1.1.alloc _) hg3 (Nat.le_refl _) (by simp; omega)
    clear hg3 hBw2 hat3 hlt3
    have hA3 := own_more (q := ⟨2, n⟩) hown3
    have hz3 := hBw3.size
    have H3 := Lib.hid (And.intro hA3 hBw3)
    clear hown3 hA3 hBw3
    refine hK.out _ _ (fun _ _ => (HC.out.below H3.out.2).s) ?_; clear hK K; try simp only [Act.put, List.setIfInBounds_toArray, List.set_cons_zero, List.set_cons_succ, List.getElem_toArray, List.getElem_cons_succ, List.getElem_cons_zero]
    refine WalkT.ready (rs := [8]) (by kernel_rfl) (by simp) (AllT.cons rfl (fun K hK => ?_) AllT.nil); go_simp
    refine (received_any _ (p ++ [⟨2, n⟩]) x o _ (by exact H3.out.1)).mono ?_
    rintro e w5 ⟨rfl, hb5⟩
    have hz5 := hb5.size
    have hBw5 : Below w.heap.size w w5 := by have h3 := H3.out.2; (repeat (first | exact Below.refl _ _ | assumption | refine below_draws ?_ _ | refine Below.drew ?_ | refine below_alloc ?_ _ (by first | omega | (simp; done) | (simp; omega)) | refine Below.setCell ?_ (by first | omega | (simp; done) | (simp; omega)) _ | refine below_at ?_ (by assumption) (by first | omega | (simp; done) | (simp; omega))))
    have H5 := Lib.hid hBw5
    clear hBw5 hb5
    refine hK.out _ _ (fun _ _ => (HC.out.below H5.out).s) ?_; clear hK K; try simp only [Act.put, List.setIfInBounds_toArray, List.set_cons_zero, List.set_cons_succ, List.getElem_toArray, List.getElem_cons_succ, List.getElem_cons_zero]
    refine WalkT.quiet (i := 9) (v := ?_) rfl (by kernel_rfl) (by kernel_rfl) (by kernel_rfl) (fun _ _ _ h => h) (Or.inl ⟨by rfl, ?_⟩) ?_; rotate_left; (· (intro wS hSw; (try dsimp only at hSw); go_simp; try with_reducible rfl)); try simp only [Act.put, List.setIfInBounds_toArray, List.set_cons_zero, List.set_cons_succ, List.getElem_toArray, List.getElem_cons_succ, List.getElem_cons_zero]
    refine WalkT.quiet (i := 10) (v := ?_) rfl (by kernel_rfl) (by kernel_rfl) (by kernel_rfl) (fun _ _ _ h => h) (Or.inl ⟨by rfl, ?_⟩) ?_; rotate_left; (· (intro wS hSw; (try dsimp only at hSw); go_simp; try with_reducible rfl)); try simp only [Act.put, List.setIfInBounds_toArray, List.set_cons_zero, List.set_cons_succ, List.getElem_toArray, List.getElem_cons_succ, List.getElem_cons_zero]
    refine WalkT.quiet (i := 11) (v := ?_) rfl (by kernel_rfl) (by kernel_rfl) (by kernel_rfl) (fun _ _ _ h => h) (Or.inl ⟨by rfl, ?_⟩) ?_; rotate_left; (· (intro wS hSw; (try dsimp only at hSw); go_simp; try with_reducible rfl)); try simp only [Act.put, List.setIfInBounds_toArray, List.set_cons_zero, List.set_cons_succ, List.getElem_toArray, List.getElem_cons_succ, List.getElem_cons_zero]
    refine WalkT.quiet (i := 12) (v := ?_) rfl (by kernel_rfl) (by kernel_rfl) (by kernel_rfl) (fun _ _ _ h => h) (Or.inl ⟨by rfl, ?_⟩) ?_; rotate_left; (· (intro wS hSw; (try dsimp only at hSw); go_simp; try with_reducible rfl)); try simp only [Act.put, List.setIfInBounds_toArray, List.set_cons_zero, List.set_cons_succ, List.getElem_toArray, List.getElem_cons_succ, List.getElem_cons_zero]
    refine WalkT.quiet (i := 13) (v := ?_) rfl (by kernel_rfl) (by kernel_rfl) (by kernel_rfl) (fun _ _ _ h => h) (Or.inl ⟨by rfl, ?_⟩) ?_; rotate_left; (· (intro wS hSw; (try dsimp only at hSw); go_simp; try with_reducible rfl)); try simp only [Act.put, List.setIfInBounds_toArray, List.set_cons_zero, List.set_cons_succ, List.getElem_toArray, List.getElem_cons_succ, List.getElem_cons_zero]
    refine WalkT.done (by kernel_rfl) ?_
    obtain ⟨s0, ⟨s1, s2, s3, s4⟩, s5, s6, s7⟩ := (HC.out.below H5.out).s
    by_cases hf : faultF (p ++ [⟨2, n⟩]) x o = 0
    · have hf1 : (faultF (p ++ [⟨2, n⟩]) x o != 0) = false := by simp [hf]
      have HR : Hid (withV p x o n = recvV (p ++ [⟨2, n⟩]) x o) := by unfold withV; rw [if_neg (by omega)]; exact rfl
      clear hf
      go_wp2
      go_ret
      exact ⟨ret_int HR.out.symm, H5.out⟩
    · have hf1 : (faultF (p ++ [⟨2, n⟩]) x o != 0) = true := by simp [hf]
      have HR : Hid (withV p x o n = o.most + 1) := by unfold withV; rw [if_pos hf]; exact rfl
      clear hf
      go_wp2
      go_ret
      exact ⟨ret_int HR.out.symm, H5.out⟩
  · go_simp
    have hBw0 : Below w.heap.size w (w.alloc (.cells #[.int .i64 2, .int .i64 n] 81)).drew := by (repeat (first | exact Below.refl _ _ | assumption | refine below_draws ?_ _ | refine Below.drew ?_ | refine below_alloc ?_ _ (by first | omega | (simp; done) | (simp; omega)) | refine Below.setCell ?_ (by first | omega | (simp; done) | (simp; omega)) _ | refine below_at ?_ (by assumption) (by first | omega | (simp; done) | (simp; omega))))
    refine hK.out _ _ (fun _ _ => (HC.out.below hBw0).s) ?_; clear hK K; try simp only [Act.put, List.setIfInBounds_toArray, List.set_cons_zero, List.set_cons_succ, List.getElem_toArray, List.getElem_cons_succ, List.getElem_cons_zero]
    refine WalkT.ready (rs := [1]) (by kernel_rfl) (by simp) (AllT.cons rfl (fun K hK => ?_) AllT.nil); go_simp
    refine (clone_part _ p _ (by exact HC.out.P.below hBw0) (by omega)).mono ?_
    rintro e w1 ⟨v1, rfl, hcl, hb1⟩
    have hz1' : w.heap.size + 1 ≤ w1.heap.size := by have := hb1.size; simpa using this
    have hBw1 : Below w.heap.size w w1 := by (repeat (first | exact Below.refl _ _ | assumption | refine below_draws ?_ _ | refine Below.drew ?_ | refine below_alloc ?_ _ (by first | omega | (simp; done) | (simp; omega)) | refine Below.setCell ?_ (by first | omega | (simp; done) | (simp; omega)) _ | refine below_at ?_ (by assumption) (by first | omega | (simp; done) | (simp; omega))))
    have hnw := news_later (w := w) (b := w.heap.size) (cs := #[.int .i64 2, .int .i64 n]) (t := 81) (news := [.int .i64 2, .int .i64 n]) rfl rfl (w' := w1) (by have := hb1; (repeat (first | exact Below.refl _ _ | assumption | refine below_draws ?_ _ | refine Below.drew ?_ | refine below_alloc ?_ _ (by first | omega | (simp; done) | (simp; omega)) | refine Below.setCell ?_ (by first | omega | (simp; done) | (simp; omega)) _ | refine below_at ?_ (by assumption) (by first | omega | (simp; done) | (simp; omega)))))
    have H1 := Lib.hid (And.intro hcl (And.intro hBw1 hnw))
    clear hcl hBw1 hnw hBw0
    refine hK.out _ _ (fun _ _ => (HC.out.below H1.out.2.1).s) ?_; clear hK K; try simp only [Act.put, List.setIfInBounds_toArray, List.set_cons_zero, List.set_cons_succ, List.getElem_toArray, List.getElem_cons_succ, List.getElem_cons_zero]
    refine WalkT.ready (rs := [5]) (by kernel_rfl) (by simp) (AllT.cons rfl (fun K hK => ?_) AllT.nil); refine step_append_lies _ (by rfl) _ _ _ (by rfl) _ 81 _ _ 2 16 Try.underlying26 hi hz0 hz1 hz2 rfl (by decide) _ p.length _ (by rfl) (H1.out.1.1) ⟨_, 0, none⟩ 1 1 [.int .i64 2, .int .i64 n] (by rfl) rfl (H1.out.2.2) (by simp [Value.oneCell']) (by omega) (by unfold maxLen; omega) (by omega) (by first | omega | (simp; done) | (simp; omega)) _ rfl ?_; intro g cap w3 hown3 hg3 hat3 hlt3
    have hBw3 : Below w.heap.size w w3 := below_grown H1.out.2.1 H1.out.1.1 hg3 (by simp) (by simp; omega)
    clear hg3 hat3 hlt3
    have hA3 := own_more (q := ⟨2, n⟩) hown3
    have hz3 := hBw3.size
    have H3 := Lib.hid (And.intro hA3 hBw3)
    clear hown3 hA3 hBw3
    refine hK.out _ _ (fun _ _ => (HC.out.below H3.out.2).s) ?_; clear hK K; try simp only [Act.put, List.setIfInBounds_toArray, List.set_cons_zero, List.set_cons_succ, List.getElem_toArray, List.getElem_cons_succ, List.getElem_cons_zero]
    refine WalkT.ready (rs := [8]) (by kernel_rfl) (by simp) (AllT.cons rfl (fun K hK => ?_) AllT.nil); go_simp
    refine (received_any _ (p ++ [⟨2, n⟩]) x o _ (by exact H3.out.1)).mono ?_
    rintro e w5 ⟨rfl, hb5⟩
    have hz5 := hb5.size
    have hBw5 : Below w.heap.size w w5 := by have h3 := H3.out.2; (repeat (first | exact Below.refl _ _ | assumption | refine below_draws ?_ _ | refine Below.drew ?_ | refine below_alloc ?_ _ (by first | omega | (simp; done) | (simp; omega)) | refine Below.setCell ?_ (by first | omega | (simp; done) | (simp; omega)) _ | refine below_at ?_ (by assumption) (by first | omega | (simp; done) | (simp; omega))))
    have H5 := Lib.hid hBw5
    clear hBw5 hb5
    refine hK.out _ _ (fun _ _ => (HC.out.below H5.out).s) ?_; clear hK K; try simp only [Act.put, List.setIfInBounds_toArray, List.set_cons_zero, List.set_cons_succ, List.getElem_toArray, List.getElem_cons_succ, List.getElem_cons_zero]
    refine WalkT.quiet (i := 9) (v := ?_) rfl (by kernel_rfl) (by kernel_rfl) (by kernel_rfl) (fun _ _ _ h => h) (Or.inl ⟨by rfl, ?_⟩) ?_; rotate_left; (· (intro wS hSw; (try dsimp only at hSw); go_simp; try with_reducible rfl)); try simp only [Act.put, List.setIfInBounds_toArray, List.set_cons_zero, List.set_cons_succ, List.getElem_toArray, List.getElem_cons_succ, List.getElem_cons_zero]
    refine WalkT.quiet (i := 10) (v := ?_) rfl (by kernel_rfl) (by kernel_rfl) (by kernel_rfl) (fun _ _ _ h => h) (Or.inl ⟨by rfl, ?_⟩) ?_; rotate_left; (· (intro wS hSw; (try dsimp only at hSw); go_simp; try with_reducible rfl)); try simp only [Act.put, List.setIfInBounds_toArray, List.set_cons_zero, List.set_cons_succ, List.getElem_toArray, List.getElem_cons_succ, List.getElem_cons_zero]
    refine WalkT.quiet (i := 11) (v := ?_) rfl (by kernel_rfl) (by kernel_rfl) (by kernel_rfl) (fun _ _ _ h => h) (Or.inl ⟨by rfl, ?_⟩) ?_; rotate_left; (· (intro wS hSw; (try dsimp only at hSw); go_simp; try with_reducible rfl)); try simp only [Act.put, List.setIfInBounds_toArray, List.set_cons_zero, List.set_cons_succ, List.getElem_toArray, List.getElem_cons_succ, List.getElem_cons_zero]
    refine WalkT.quiet (i := 12) (v := ?_) rfl (by kernel_rfl) (by kernel_rfl) (by kernel_rfl) (fun _ _ _ h => h) (Or.inl ⟨by rfl, ?_⟩) ?_; rotate_left; (· (intro wS hSw; (try dsimp only at hSw); go_simp; try with_reducible rfl)); try simp only [Act.put, List.setIfInBounds_toArray, List.set_cons_zero, List.set_cons_succ, List.getElem_toArray, List.getElem_cons_succ, List.getElem_cons_zero]
    refine WalkT.quiet (i := 13) (v := ?_) rfl (by kernel_rfl) (by kernel_rfl) (by kernel_rfl) (fun _ _ _ h => h) (Or.inl ⟨by rfl, ?_⟩) ?_; rotate_left; (· (intro wS hSw; (try dsimp only at hSw); go_simp; try with_reducible rfl)); try simp only [Act.put, List.setIfInBounds_toArray, List.set_cons_zero, List.set_cons_succ, List.getElem_toArray, List.getElem_cons_succ, List.getElem_cons_zero]
    refine WalkT.done (by kernel_rfl) ?_
    obtain ⟨s0, ⟨s1, s2, s3, s4⟩, s5, s6, s7⟩ := (HC.out.below H5.out).s
    by_cases hf : faultF (p ++ [⟨2, n⟩]) x o = 0
    · have hf1 : (faultF (p ++ [⟨2, n⟩]) x o != 0) = false := by simp [hf]
      have HR : Hid (withV p x o n = recvV (p ++ [⟨2, n⟩]) x o) := by unfold withV; rw [if_neg (by omega)]; exact rfl
      clear hf
      go_wp2
      go_ret
      exact ⟨ret_int HR.out.symm, H5.out⟩
    · have hf1 : (faultF (p ++ [⟨2, n⟩]) x o != 0) = true := by simp [hf]
      have HR : Hid (withV p x o n = o.most + 1) := by unfold withV; rw [if_pos hf]; exact rfl
      clear hf
      go_wp2
      go_ret
      exact ⟨ret_int HR.out.symm, H5.out⟩
end Go.Proofs.Ytagpcgnlbgndmaa
