/- Texts of one subject in one: TreeG, TreeH; what each shows stands at its head. No condition. -/
import Derived.Test.YtcecpodbmjghhaaGreatTreeAll
import Derived.Test.YtcecpodbmjghhaaGreatTreesP
import Derived.Test.YtcecpodbmjghhaaGreatShelfD
import Derived.Test.YtcecpodbmjghhaaGreatKeepA
import Derived.RegionTactic
/- Walks of package tree: the splitters from the office to one. -/
set_option linter.unusedVariables false
set_option linter.unusedSimpArgs false
namespace Go.Proofs.YtcecpodbmjghhaaGreat
open Go Go.RowKit Go.Sort
theorem below_putRowG {α : Type} [Inhabited α] (enc : α → List Value) (k : Nat) (w : World) (n g off base : Nat) (d : Array α) (hg : base ≤ g) : Below base w (putRowK enc k (Sort.ahead w n) g off d) := by
  refine ⟨rfl, rfl, rfl, ?_, fun b hb => ?_⟩
  · unfold putRowK; simp
  · unfold putRowK putRow mapBlock
    simp only [Array.getElem?_modify]
    rw [if_neg (by omega)]
    rfl
section
variable {α : Type} [Inhabited α] {cells : α → List Value} {sz : Nat}
theorem Arr.of_holdsG (hlen : ∀ x, (cells x).length = sz) (hs : 0 < sz) {l : List α} {w : World} {g cap : Nat} (h : HoldsK cells sz w g 0 l.toArray) (hc : l.length ≤ cap) (hm : cap ≤ maxLen) : Arr cells sz w l (.slice (some ⟨g, 0, none⟩) l.length cap) := by
  refine ⟨_, cap, rfl, hc, hm, fun k hk => ⟨g, 0, rfl, ?_, fun j u hu => ?_⟩⟩
  · exact World.block_lt_of_cell? _ _ (h.cell (i := k) (c := 0) (by simpa using hk) hs).1
  · have hj : j < sz := by have := (List.getElem?_eq_some_iff.1 hu).1; rwa [hlen] at this
    have h1 := (h.cell (i := k) (c := j) (by simpa using hk) hj).1
    rw [h1]
    have h2 : l.toArray[k]! = l[k] := by simp [hk]
    rw [h2, ← hu, getElem!_pos (cells l[k]) j (by rw [hlen]; exact hj), List.getElem?_eq_getElem]
theorem holdsG_of_own (hlen : ∀ x, (cells x).length = sz) (hs : 0 < sz) {l : List α} {w : World} {g : Nat} {cur : Array Value} {e : TypeId} (hh : w.heap[g]? = some (.cells cur e (0, 0))) (ht : cur.toList.take (l.length * sz) = l.flatMap cells) : HoldsK cells sz w g 0 l.toArray := by
  intro j hj
  rw [size_flatK] at hj
  have hj' : j < l.length * sz := by simpa using hj
  have hk : j / sz < l.length := Nat.div_lt_of_lt_mul (by rw [Nat.mul_comm]; exact hj')
  have hm : j % sz < sz := Nat.mod_lt _ hs
  refine ⟨?_, by simp [World.frozen?, hh]⟩
  rw [get_flatK _ _ _ _ hj]
  have h2 : l.toArray[j / sz]! = l[j / sz] := by simp [hk]
  have h3 := flat_at hlen l (j / sz) hk (j % sz) hm
  rw [show j / sz * sz + j % sz = j from by rw [Nat.mul_comm]; exact Nat.div_add_mod j sz, ← ht, List.getElem?_take_of_lt hj'] at h3
  rw [h2, getElem!_pos (cells l[j / sz]) (j % sz) (by rw [hlen]; exact hm)]
  rw [show (cells l[j / sz])[j % sz]? = some ((cells l[j / sz])[j % sz]'(by rw [hlen]; exact hm)) from List.getElem?_eq_getElem _] at h3
  simp only [World.cell?, hh, Nat.zero_add, id]
  simpa using h3
end
theorem reverse_splt (v : Value) (l : List Splt) (w : World) (base : Nat) (h : w.ownsRow base 58 4 v l.length (l.flatMap Splt.cells)) (hl : l.length ≤ 1000000) :
    Calls Tryz.prog 129 #[v] w fun e w' => e = .returned (.tuple #[]) ∧ Arr Splt.cells 4 w' l.reverse v ∧ Below base w w' := by
  obtain ⟨hlen, h | ⟨g, cap, cur, rfl, hg, hh, hc, hm, hs, ht⟩⟩ := h
  · obtain ⟨rfl, h0⟩ := h
    obtain rfl : l = [] := List.length_eq_zero_iff.1 h0
    refine (AnyQ.slices_Reverse_empty Tryz.revSplt none 0 w).mono ?_
    rintro e w' ⟨rfl, rfl⟩
    exact ⟨rfl, Arr.nil _ _ _, Below.refl _ _⟩
  · have hH := holdsG_of_own (l := l) Splt.cells_len (by omega) hh ht
    refine (AnyQ.slices_Reverse Tryz.revSplt 4 Tryz.isAgg58 Tryz.sizeOf58 Splt.cells Splt.cells_len ?_ g 0 cap l.toArray w hH (by simp; omega)).mono ?_
    · intro x u hu
      simp [Splt.cells] at hu
      rcases hu with rfl | rfl | rfl | rfl <;> rfl
    rintro e w' ⟨rfl, n, rfl⟩
    refine ⟨rfl, ?_, below_putRowG _ _ _ _ _ _ _ _ hg⟩
    have h2 : HoldsK Splt.cells 4 (putRowK Splt.cells 4 (Sort.ahead w n) g 0 l.toArray.reverse) g 0 l.toArray.reverse := holdsK_putRowK _ _ _ _ _ l.toArray _ (holdsK_ahead _ _ _ _ _ _ _ hH) (by simp)
    rw [List.reverse_toArray] at h2 ⊢
    have h3 := Arr.of_holdsG (cap := cap) Splt.cells_len (by omega) h2 (by simpa using hc) hm
    rwa [List.length_reverse] at h3
theorem infoSplt : (Tryz.prog.info? 58).map (fun i => (i.zero, i.size, i.bytes)) = some (some (.agg #[.string ⟨#[]⟩, .int .i64 0, .string ⟨#[]⟩, .int .i64 0]), 4, 48) := by kernel_rfl
theorem bfreeAt {B : Nat} {W w1 : World} (hb : Below B W w1) (b : Nat) (h : b < B) : ∀ o, w1.frozen? ⟨b, o, none⟩ = W.frozen? ⟨b, o, none⟩ := fun o => hb.frozen (p := ⟨b, o, none⟩) h
def lenV (v : Value) : Nat := match v with | .slice _ n _ => n | _ => 0
theorem nlen {W : World} {B sz n : Nat} {e : TypeId} {v : Value} {xs : List Value} (h : W.ownsRow B e sz v n xs) : lenV v = n := by
  rcases h.2 with ⟨rfl, h0⟩ | ⟨g, cap, cur, rfl, _⟩
  · exact h0.symm
  · rfl
set_option maxHeartbeats 1000000 in
set_option maxRecDepth 100000 in
theorem chain_any (v1 v2 : Value) (l : List Splt) (key : ByteArray) (w : World) (h : Arr Splt.cells 4 w l v1) (hs : SOk l) (he : endsB l l.length key = true) : Calls Tryz.prog 99 #[.agg #[v1, v2], .string key] w
    (Ret (fun v w' => Arr Splt.cells 4 w' (chainV l key) v ∧ ∀ b off n cap, v = .slice (some ⟨b, off, none⟩) n cap → w.heap.size ≤ b) w) := by
  have HA := Lib.hid (And.intro h hs)
  obtain ⟨a, cap, rfl, hcap, hmax, hc⟩ := h
  unfold maxLen at hmax
  have HC := Lib.hid hc
  have hl5 := hs.len
  obtain ⟨i0, hi, hz0, hz1, hz2⟩ := info_parts infoSplt
  have HE := Lib.hid he
  clear hc hs he
  go_enter Tryz.func99, Tryz.ntmps99
  go_wp2
  go_loopw [1, 5] (fun kv ov wr => ∃ (pre : List Splt) (key' : ByteArray) (m : Nat), kv = .string key' ∧ (pre.length + m = l.length ∧ endsB l m key' = true ∧ pre ++ upC l m key' = upC l l.length key) ∧ wr.ownsRow (w.heap.size + 1) 58 4 ov pre.length (pre.flatMap Splt.cells) ∧ Below (w.heap.size + 1) (w.alloc (.cells #[.slice a l.length cap, v2] 29)) wr) (fun _ ov _ => l.length - lenV ov)
  case atStart => exact ⟨[], key, l.length, rfl, ⟨by simp, HE.out, rfl⟩, World.ownsRow_nil _ _ _ _, Below.refl _ _⟩
  case round =>
    obtain ⟨pre, key', m, rfl, hP, hown, hB⟩ := hrel
    have hsz := hB.size
    simp only [World.size_alloc] at hsz
    have hbx : Blk wr w.heap.size #[.slice a l.length cap, v2] 29 := (Blk.new w _ _).below hB (by omega)
    have hBw : Below w.heap.size w wr := below_at (below_alloc (Below.refl _ _) _ (Nat.le_refl _)) hB (by omega)
    have HO := Lib.hid (And.intro hown (And.intro hB (And.intro hbx hBw)))
    have hpm := hP.1
    have HP := Lib.hid hP
    have p0 := hbx.cell 0 _ rfl
    have p1 := hbx.cell 1 _ rfl
    have hlt0 : w.heap.size < wr.heap.size := by omega
    clear hown hB hbx hBw hP
    by_cases hk : key'.size = 0
    · have hem : key'.toList.isEmpty = true := by rw [isEmpty_size]; simp [hk]
      have HK := Lib.hid hk
      clear hk
      have hpre : pre = upC l l.length key := by
        have := HP.out.2.2
        rw [upC_empty l m HK.out, List.append_nil] at this
        exact this
      go_wp2_with fail
      refine (reverse_splt _ pre _ (w.heap.size + 1) HO.out.1 (by omega)).mono ?_
      rintro e w2 ⟨rfl, hr, hb2⟩
      go_wp2
      go_ret
      exact ⟨_, rfl, ⟨by unfold chainV; rw [← hpre]; exact hr, fun b off n cap e => by have := (HO.out.1.lt b (congrArg Value.ownBlock e)).1; omega⟩, HO.out.2.2.2.trans (hb2.mono (by omega))⟩
    · have hem : key'.toList.isEmpty = false := by rw [isEmpty_size]; simp [hk]
      obtain ⟨s, m', hm, hg, he'⟩ : ∃ s m', m = m' + 1 ∧ getS l key' = some s ∧ endsB l m' s.par = true := by
        rcases endsB_cases HP.out.2.1 with h0 | ⟨s, m', a1, _, a3, a4⟩
        · exact absurd h0 hk
        · exact ⟨s, m', a1, a3, a4⟩
      have hup := HP.out.2.2
      rw [hm, upC_cons hk hg] at hup
      rcases findS_get l key' with ⟨_, hnone⟩ | ⟨j, hj, hfj, hget, -⟩
      · rw [hnone] at hg; cases hg
      rw [hget] at hg
      simp only [Option.some.injEq] at hg
      have HJ := Lib.hid (And.intro hfj (And.intro hg (And.intro hup he')))
      obtain ⟨b, off, rfl, hb, hcc⟩ := HC.out j hj
      obtain ⟨d0, d1, d2, d3⟩ := splt_at hcc
      replace d0 := (HO.out.2.2.2.cell (p := ⟨b, _, none⟩) hb).trans d0
      replace d1 := (HO.out.2.2.2.cell (p := ⟨b, _, none⟩) hb).trans d1
      replace d2 := (HO.out.2.2.2.cell (p := ⟨b, _, none⟩) hb).trans d2
      replace d3 := (HO.out.2.2.2.cell (p := ⟨b, _, none⟩) hb).trans d3
      have hbr : b < wr.heap.size := by omega
      have hj1 : (0 : Int) ≤ (j : Int) := by omega
      have hj3 : (j : Int) < (l.length : Int) := by omega
      clear hcc hfj hget hg hup he' hk
      have ne1 : wr.heap.size ≠ w.heap.size := by omega
      have ne2 : wr.heap.size ≠ b := by omega
      go_wp2_with fail
      go_region_held3 (fun w' => w'.cell? ⟨w.heap.size, 0, none⟩ = some (.slice (some ⟨b, off, none⟩) l.length cap) ∧ w'.cell? ⟨w.heap.size, 1, none⟩ = some v2 ∧ w'.cell? ⟨b, off + j * 4, none⟩ = some (.string l[j].key) ∧ w'.cell? ⟨b, off + j * 4 + 1, none⟩ = some (.int .i64 l[j].ways) ∧ w'.cell? ⟨b, off + j * 4 + 2, none⟩ = some (.string l[j].par) ∧ w'.cell? ⟨b, off + j * 4 + 3, none⟩ = some (.int .i64 l[j].port)) (go_keep)
        (first
          | (go_at_call 57; refine (find_any _ _ l key' _ ?_ ?_ ?_).mono ?_; (exact HA.out.1.below (by have h3 := HO.out.2.2.2; (repeat (first | exact Below.refl _ _ | assumption | refine below_draws ?_ _ | refine Below.drew ?_ | refine below_alloc ?_ _ (by first | omega | (simp; done) | (simp; omega)) | refine Below.setCell ?_ (by first | omega | (simp; done) | (simp; omega)) _ | refine below_at ?_ (by assumption) (by first | omega | (simp; done) | (simp; omega)))))); (omega); (exact HA.out.2.rise); rintro e w4 ⟨rfl, hb4⟩; rw [HJ.out.1]; have hc4 := bcellAt hb4 w.heap.size (by first | omega | (simp; done) | (simp; omega)); have hc5 := bcellAt hb4 b (by first | omega | (simp; done) | (simp; omega)); (try have hc6 := bcellAt hb4 wr.heap.size (by first | omega | (simp; done) | (simp; omega))); (try have hc7 := bfreeAt hb4 wr.heap.size (by first | omega | (simp; done) | (simp; omega))); have s4 := hb4.size; (try simp at s4); have ne3 : w4.heap.size ≠ w.heap.size := (by omega); have ne4 : w4.heap.size ≠ b := (by omega)))
      · have hX := Blk.new w4 #[.string l[j].key, .int .i64 l[j].ways, .string l[j].par, .int .i64 l[j].port] 58
        have hB5 : Below (w.heap.size + 1) (w.alloc (.cells #[.slice (some ⟨b, off, none⟩) l.length cap, v2] 29)) (w4.alloc (.cells #[.string l[j].key, .int .i64 l[j].ways, .string l[j].par, .int .i64 l[j].port] 58)) := below_alloc (below_at (Below.drew HO.out.2.1) hb4 (by simp; omega)) _ (by omega)
        have ho5 := (own_below (w := wr.drew) HO.out.1 hb4).alloc (.cells #[.string l[j].key, .int .i64 l[j].ways, .string l[j].par, .int .i64 l[j].port] 58)
        have hne5 : some w4.heap.size ≠ u5.ownBlock := fun e => by
          have := (HO.out.1.lt _ e.symm).2
          omega
        have hs5 : w4.heap.size < (w4.alloc (.cells #[.string l[j].key, .int .i64 l[j].ways, .string l[j].par, .int .i64 l[j].port] 58)).heap.size := by simp
        generalize w4.heap.size = nb at *
        generalize w4.alloc (.cells #[.string l[j].key, .int .i64 l[j].ways, .string l[j].par, .int .i64 l[j].port] 58) = w5 at *
        have H5 := Lib.hid (And.intro hX (And.intro hB5 (And.intro ho5 hne5)))
        have x0 := hX.cell 0 _ rfl
        have x1 := hX.cell 1 _ rfl
        have x2 := hX.cell 2 _ rfl
        have x3 := hX.cell 3 _ rfl
        have hz5 := hB5.size
        simp only [World.size_alloc] at hz5
        clear hX hB5 ho5 hne5
        (try clear hb4)
        (try clear hc4 hc5)
        (try clear hc6 hc7)
        clear d0 d1 d2 d3 p0 p1
        go_wp2_with ((at_builtin; go_must (refine wpList_append_own _ rfl _ _ 26 rfl _ 58 _ (.agg #[.string ⟨#[]⟩, .int .i64 0, .string ⟨#[]⟩, .int .i64 0]) 4 48 Tryz.underlying26 hi hz0 hz1 hz2 rfl (by decide) _ _ _ rfl (H5.out.2.2.1.alloc _) ⟨w5.heap.size, 0, none⟩ 1 1 [.string l[j].key, .int .i64 l[j].ways, .string l[j].par, .int .i64 l[j].port] rfl rfl (by exact news_at (by first | rfl | simp) (by rfl)) (by simp [Value.oneCell']) (by unfold maxLen; omega) (by omega) (by first | omega | (simp; done) | (simp; omega)) ?_)); intro v' w6 hown6 hgrow _; have y2 := hgrow.cell ((H5.out.1.alloc (.cells #[.string l[j].key, .int .i64 l[j].ways, .string l[j].par, .int .i64 l[j].port] 58)).cell 2 _ rfl) H5.out.2.2.2)
        refine ⟨⟨pre ++ [l[j]], l[j].par, m', rfl, ⟨by rw [List.length_append, List.length_singleton]; omega, by rw [HJ.out.2.1]; exact HJ.out.2.2.2, by rw [List.append_assoc, List.singleton_append]; have := HJ.out.2.2.1; rw [← HJ.out.2.1] at this; exact this⟩, ?_, ?_⟩, ?_⟩
        · rw [List.length_append, List.length_singleton, List.flatMap_append]; exact hown6
        · exact below_grown (below_alloc H5.out.2.1 _ (by omega)) (H5.out.2.2.1.alloc (.cells #[.string l[j].key, .int .i64 l[j].ways, .string l[j].par, .int .i64 l[j].port] 58)) hgrow (Nat.le_refl _) (by simp; omega)
        · have e1 := nlen HO.out.1; have e2 := nlen hown6; rw [e1, e2]; omega
      · have hX : Blk ((((w4.setCell ⟨wr.heap.size, 0, none⟩ (.string l[j].key)).setCell ⟨wr.heap.size, 1, none⟩ (.int .i64 l[j].ways)).setCell ⟨wr.heap.size, 2, none⟩ (.string l[j].par)).setCell ⟨wr.heap.size, 3, none⟩ (.int .i64 l[j].port)) wr.heap.size #[.string l[j].key, .int .i64 l[j].ways, .string l[j].par, .int .i64 l[j].port] 58 := (((((Blk.new wr.drew #[.string ⟨#[]⟩, .int .i64 0, .string ⟨#[]⟩, .int .i64 0] 58).below hb4 (by simp)).set 0 _).set 1 _).set 2 _).set 3 _
        have hB5 : Below (w.heap.size + 1) (w.alloc (.cells #[.slice (some ⟨b, off, none⟩) l.length cap, v2] 29)) ((((w4.setCell ⟨wr.heap.size, 0, none⟩ (.string l[j].key)).setCell ⟨wr.heap.size, 1, none⟩ (.int .i64 l[j].ways)).setCell ⟨wr.heap.size, 2, none⟩ (.string l[j].par)).setCell ⟨wr.heap.size, 3, none⟩ (.int .i64 l[j].port)) := Below.setCell (Below.setCell (Below.setCell (Below.setCell (below_at (below_alloc (Below.drew HO.out.2.1) _ (by simp; omega)) hb4 (by simp; omega)) (by simp; omega) _) (by simp; omega) _) (by simp; omega) _) (by simp; omega) _
        have hne5 : some wr.heap.size ≠ u5.ownBlock := fun e => by
          have := (HO.out.1.lt _ e.symm).2
          omega
        have ho5 := (own_below (World.ownsRow.alloc (w := wr.drew) HO.out.1 _) hb4).kept (grown_setCells wr.heap.size [.string l[j].key, .int .i64 l[j].ways, .string l[j].par, .int .i64 l[j].port] 0 w4) (Or.inr hne5.symm)
        replace ho5 : ((((w4.setCell ⟨wr.heap.size, 0, none⟩ (.string l[j].key)).setCell ⟨wr.heap.size, 1, none⟩ (.int .i64 l[j].ways)).setCell ⟨wr.heap.size, 2, none⟩ (.string l[j].par)).setCell ⟨wr.heap.size, 3, none⟩ (.int .i64 l[j].port)).ownsRow (w.heap.size + 1) 58 4 u5 pre.length (pre.flatMap Splt.cells) := ho5
        have hs5 := hX.lt
        generalize (((w4.setCell ⟨wr.heap.size, 0, none⟩ (.string l[j].key)).setCell ⟨wr.heap.size, 1, none⟩ (.int .i64 l[j].ways)).setCell ⟨wr.heap.size, 2, none⟩ (.string l[j].par)).setCell ⟨wr.heap.size, 3, none⟩ (.int .i64 l[j].port) = w5 at *
        generalize wr.heap.size = nb at *
        have H5 := Lib.hid (And.intro hX (And.intro hB5 (And.intro ho5 hne5)))
        have x0 := hX.cell 0 _ rfl
        have x1 := hX.cell 1 _ rfl
        have x2 := hX.cell 2 _ rfl
        have x3 := hX.cell 3 _ rfl
        have hz5 := hB5.size
        simp only [World.size_alloc] at hz5
        clear hX hB5 ho5 hne5
        (try clear hb4)
        (try clear hc4 hc5)
        (try clear hc6 hc7)
        clear d0 d1 d2 d3 p0 p1
        go_wp2_with ((at_builtin; go_must (refine wpList_append_own _ rfl _ _ 26 rfl _ 58 _ (.agg #[.string ⟨#[]⟩, .int .i64 0, .string ⟨#[]⟩, .int .i64 0]) 4 48 Tryz.underlying26 hi hz0 hz1 hz2 rfl (by decide) _ _ _ rfl (H5.out.2.2.1.alloc _) ⟨w5.heap.size, 0, none⟩ 1 1 [.string l[j].key, .int .i64 l[j].ways, .string l[j].par, .int .i64 l[j].port] rfl rfl (by exact news_at (by first | rfl | simp) (by rfl)) (by simp [Value.oneCell']) (by unfold maxLen; omega) (by omega) (by first | omega | (simp; done) | (simp; omega)) ?_)); intro v' w6 hown6 hgrow _; have y2 := hgrow.cell ((H5.out.1.alloc (.cells #[.string l[j].key, .int .i64 l[j].ways, .string l[j].par, .int .i64 l[j].port] 58)).cell 2 _ rfl) H5.out.2.2.2)
        refine ⟨⟨pre ++ [l[j]], l[j].par, m', rfl, ⟨by rw [List.length_append, List.length_singleton]; omega, by rw [HJ.out.2.1]; exact HJ.out.2.2.2, by rw [List.append_assoc, List.singleton_append]; have := HJ.out.2.2.1; rw [← HJ.out.2.1] at this; exact this⟩, ?_, ?_⟩, ?_⟩
        · rw [List.length_append, List.length_singleton, List.flatMap_append]; exact hown6
        · exact below_grown (below_alloc H5.out.2.1 _ (by omega)) (H5.out.2.2.1.alloc (.cells #[.string l[j].key, .int .i64 l[j].ways, .string l[j].par, .int .i64 l[j].port] 58)) hgrow (Nat.le_refl _) (by simp; omega)
        · have e1 := nlen HO.out.1; have e2 := nlen hown6; rw [e1, e2]; omega
end Go.Proofs.YtcecpodbmjghhaaGreat
/- Walks: copies of splitters, of drops, of trees; whether two trees that are the same are told so. -/
namespace Go.Proofs.YtcecpodbmjghhaaGreat
open Go Go.RowKit
theorem splt_one (l : List Splt) : ∀ u ∈ l.flatMap Splt.cells, u.oneCell' = true := by
  intro u hu
  obtain ⟨c, _, hc⟩ := List.mem_flatMap.1 hu
  simp [Splt.cells] at hc
  rcases hc with rfl | rfl | rfl | rfl <;> rfl
theorem drp_one (l : List Drp) : ∀ u ∈ l.flatMap Drp.cells, u.oneCell' = true := by
  intro u hu
  obtain ⟨c, _, hc⟩ := List.mem_flatMap.1 hu
  simp [Drp.cells] at hc
  rcases hc with rfl | rfl | rfl <;> rfl
theorem infoDrpH : (Tryz.prog.info? 36).map (fun i => (i.zero, i.size, i.bytes)) = some (some (.agg #[.string ⟨#[]⟩, .string ⟨#[]⟩, .int .i64 0]), 3, 40) := by kernel_rfl
set_option maxHeartbeats 1000000 in
set_option maxRecDepth 100000 in
theorem clone_splt (v : Value) (l : List Splt) (w : World) (h : Arr Splt.cells 4 w l v) (hl : l.length ≤ 100000000) : Calls Tryz.prog 27 #[v] w
    (Ret (fun v' w' => Cloned Splt.cells 4 58 w.heap.size l v' w') w) := by
  have h' := h
  obtain ⟨a, cap, rfl, hcap, hmax, hc⟩ := h
  obtain ⟨i0, hi, hz0, hz1, hz2⟩ := info_parts infoSplt
  have heq := fun (w : World) (a : Option Addr) (n c n' c' : Nat) => Lib.run_eql_slice_nil (P := Tryz.prog) w 26 58 a n c n' c' Tryz.underlying26
  cases a with
  | none =>
    have h0 : l = [] := by
      rcases Nat.eq_zero_or_pos l.length with h | h
      · exact List.length_eq_zero_iff.1 h
      · obtain ⟨_, _, e, _⟩ := hc 0 h; cases e
    subst h0
    go_enter Tryz.func27, Tryz.ntmps27
    go_wp2
    go_ret
    exact ⟨_, rfl, ⟨World.ownsRow_nil _ _ _ _, .inl ⟨rfl, rfl⟩⟩, by (repeat (first | exact Below.refl _ _ | assumption | refine below_draws ?_ _ | refine Below.drew ?_ | refine below_alloc ?_ _ (by first | omega | (simp; done) | (simp; omega)) | refine Below.setCell ?_ (by first | omega | (simp; done) | (simp; omega)) _ | refine below_at ?_ (by assumption) (by first | omega | (simp; done) | (simp; omega))))⟩
  | some ad =>
    have hnews := h'.news Splt.cells_len
    have HN := Lib.hid hnews
    clear hnews hc h'
    have hsl : (l.flatMap Splt.cells).length = l.length * 4 := flat_len Splt.cells_len l
    have HSL := Lib.hid hsl
    clear hsl
    go_enter Tryz.func27, Tryz.ntmps27
    go_wp2_with (at_builtin; go_must (refine wpList_append_own _ rfl _ _ 26 rfl w.heap.size 58 _ _ 4 48 Tryz.underlying26 hi hz0 hz1 hz2 rfl (by decide) _ 0 [] rfl (World.ownsRow_lit w #[] 0 (Nat.le_refl _) (by simp [maxLen]) rfl) ad l.length cap (l.flatMap Splt.cells) rfl HSL.out (fun j u hu => Lib.cell?_alloc_some _ (HN.out j u hu)) (splt_one l) (by unfold maxLen; omega) (by omega) (by first | omega | (simp; done) | (simp; omega)) ?_); intro v' w1 hown1 hgrow hnil)
    go_ret
    refine ⟨_, rfl, ⟨?_, .inr ?_⟩, ?_⟩
    · have := hown1; rw [Nat.zero_add, List.nil_append] at this; exact this
    · exact own_form hown1 (fun e => by have := (hnil.1 e).1; cases this)
    · exact below_grown (by (repeat (first | exact Below.refl _ _ | assumption | refine below_draws ?_ _ | refine Below.drew ?_ | refine below_alloc ?_ _ (by first | omega | (simp; done) | (simp; omega)) | refine Below.setCell ?_ (by first | omega | (simp; done) | (simp; omega)) _ | refine below_at ?_ (by assumption) (by first | omega | (simp; done) | (simp; omega))))) (World.ownsRow_lit (e := 58) (size := 4) w #[] 0 (Nat.le_refl _) (by simp [maxLen]) rfl) hgrow (Nat.le_refl _) (by first | omega | (simp; done) | (simp; omega))
set_option maxHeartbeats 1000000 in
set_option maxRecDepth 100000 in
theorem clone_drp (v : Value) (l : List Drp) (w : World) (h : Arr Drp.cells 3 w l v) (hl : l.length ≤ 100000000) : Calls Tryz.prog 28 #[v] w
    (Ret (fun v' w' => Cloned Drp.cells 3 36 w.heap.size l v' w') w) := by
  have h' := h
  obtain ⟨a, cap, rfl, hcap, hmax, hc⟩ := h
  obtain ⟨i0, hi, hz0, hz1, hz2⟩ := info_parts infoDrpH
  have heq := fun (w : World) (a : Option Addr) (n c n' c' : Nat) => Lib.run_eql_slice_nil (P := Tryz.prog) w 27 36 a n c n' c' Tryz.underlying27
  cases a with
  | none =>
    have h0 : l = [] := by
      rcases Nat.eq_zero_or_pos l.length with h | h
      · exact List.length_eq_zero_iff.1 h
      · obtain ⟨_, _, e, _⟩ := hc 0 h; cases e
    subst h0
    go_enter Tryz.func28, Tryz.ntmps28
    go_wp2
    go_ret
    exact ⟨_, rfl, ⟨World.ownsRow_nil _ _ _ _, .inl ⟨rfl, rfl⟩⟩, by (repeat (first | exact Below.refl _ _ | assumption | refine below_draws ?_ _ | refine Below.drew ?_ | refine below_alloc ?_ _ (by first | omega | (simp; done) | (simp; omega)) | refine Below.setCell ?_ (by first | omega | (simp; done) | (simp; omega)) _ | refine below_at ?_ (by assumption) (by first | omega | (simp; done) | (simp; omega))))⟩
  | some ad =>
    have hnews := h'.news Drp.cells_len
    have HN := Lib.hid hnews
    clear hnews hc h'
    have hsl : (l.flatMap Drp.cells).length = l.length * 3 := flat_len Drp.cells_len l
    have HSL := Lib.hid hsl
    clear hsl
    go_enter Tryz.func28, Tryz.ntmps28
    go_wp2_with (at_builtin; go_must (refine wpList_append_own _ rfl _ _ 27 rfl w.heap.size 36 _ _ 3 40 Tryz.underlying27 hi hz0 hz1 hz2 rfl (by decide) _ 0 [] rfl (World.ownsRow_lit w #[] 0 (Nat.le_refl _) (by simp [maxLen]) rfl) ad l.length cap (l.flatMap Drp.cells) rfl HSL.out (fun j u hu => Lib.cell?_alloc_some _ (HN.out j u hu)) (drp_one l) (by unfold maxLen; omega) (by omega) (by first | omega | (simp; done) | (simp; omega)) ?_); intro v' w1 hown1 hgrow hnil)
    go_ret
    refine ⟨_, rfl, ⟨?_, .inr ?_⟩, ?_⟩
    · have := hown1; rw [Nat.zero_add, List.nil_append] at this; exact this
    · exact own_form hown1 (fun e => by have := (hnil.1 e).1; cases this)
    · exact below_grown (by (repeat (first | exact Below.refl _ _ | assumption | refine below_draws ?_ _ | refine Below.drew ?_ | refine below_alloc ?_ _ (by first | omega | (simp; done) | (simp; omega)) | refine Below.setCell ?_ (by first | omega | (simp; done) | (simp; omega)) _ | refine below_at ?_ (by assumption) (by first | omega | (simp; done) | (simp; omega))))) (World.ownsRow_lit (e := 36) (size := 3) w #[] 0 (Nat.le_refl _) (by simp [maxLen]) rfl) hgrow (Nat.le_refl _) (by first | omega | (simp; done) | (simp; omega))
set_option maxHeartbeats 1000000 in
set_option maxRecDepth 100000 in
theorem same_splt (v1 v2 : Value) (l : List Splt) (w : World) (h1 : Arr Splt.cells 4 w l v1) (h2 : Arr Splt.cells 4 w l v2) : Calls Tryz.prog 62 #[v1, v2] w
    fun e w' => e = .returned (.bool true) ∧ Below w.heap.size w w' := by
  obtain ⟨a, cap, rfl, hcap, hmax, hc⟩ := h1
  obtain ⟨a2, cap2, rfl, hcap2, hmax2, hc2⟩ := h2
  have hlen : l.length ≤ maxLen := by omega
  unfold maxLen at hlen hmax hmax2
  go_enter Tryz.func62, Tryz.ntmps62
  go_wp2
  go_loopw [13] (fun i wr => ∃ k : Nat, k ≤ l.length ∧ i = .int .i64 k ∧ Below w.heap.size w wr) (fun i _ => l.length - (intOf i).toNat)
  case atStart => exact ⟨0, by omega, rfl, Below.refl _ _⟩
  case round =>
    obtain ⟨k, hk, rfl, hB⟩ := hrel
    have hsz := hB.size
    by_cases hlt : k < l.length
    · obtain ⟨b, off, rfl, hb, hcc⟩ := hc k hlt
      obtain ⟨c0, c1, c2, c3⟩ := splt_at hcc
      replace c0 := (hB.cell (p := ⟨b, _, none⟩) hb).trans c0; replace c1 := (hB.cell (p := ⟨b, _, none⟩) hb).trans c1; replace c2 := (hB.cell (p := ⟨b, _, none⟩) hb).trans c2; replace c3 := (hB.cell (p := ⟨b, _, none⟩) hb).trans c3
      obtain ⟨b2, off2, rfl, hb2, hcc2⟩ := hc2 k hlt
      obtain ⟨d0, d1, d2, d3⟩ := splt_at hcc2
      replace d0 := (hB.cell (p := ⟨b2, _, none⟩) hb2).trans d0; replace d1 := (hB.cell (p := ⟨b2, _, none⟩) hb2).trans d1; replace d2 := (hB.cell (p := ⟨b2, _, none⟩) hb2).trans d2; replace d3 := (hB.cell (p := ⟨b2, _, none⟩) hb2).trans d3
      clear hc hcc hc2 hcc2
      go_wp2_with fail
      go_region
      go_wp2
      go_roundw
      case rel => exact ⟨k + 1, by omega, by go_num, by (repeat (first | exact Below.refl _ _ | assumption | refine below_draws ?_ _ | refine Below.drew ?_ | refine below_alloc ?_ _ (by first | omega | (simp; done) | (simp; omega)) | refine Below.setCell ?_ (by first | omega | (simp; done) | (simp; omega)) _ | refine below_at ?_ (by assumption) (by first | omega | (simp; done) | (simp; omega))))⟩
      case measure => simp [intOf]; omega
    · go_wp2
      go_ret
      exact ⟨rfl, by (repeat (first | exact Below.refl _ _ | assumption | refine below_draws ?_ _ | refine Below.drew ?_ | refine below_alloc ?_ _ (by first | omega | (simp; done) | (simp; omega)) | refine Below.setCell ?_ (by first | omega | (simp; done) | (simp; omega)) _ | refine below_at ?_ (by assumption) (by first | omega | (simp; done) | (simp; omega))))⟩
set_option maxHeartbeats 1000000 in
set_option maxRecDepth 100000 in
theorem same_drp (v1 v2 : Value) (l : List Drp) (w : World) (h1 : Arr Drp.cells 3 w l v1) (h2 : Arr Drp.cells 3 w l v2) : Calls Tryz.prog 63 #[v1, v2] w
    fun e w' => e = .returned (.bool true) ∧ Below w.heap.size w w' := by
  obtain ⟨a, cap, rfl, hcap, hmax, hc⟩ := h1
  obtain ⟨a2, cap2, rfl, hcap2, hmax2, hc2⟩ := h2
  have hlen : l.length ≤ maxLen := by omega
  unfold maxLen at hlen hmax hmax2
  go_enter Tryz.func63, Tryz.ntmps63
  go_wp2
  go_loopw [13] (fun i wr => ∃ k : Nat, k ≤ l.length ∧ i = .int .i64 k ∧ Below w.heap.size w wr) (fun i _ => l.length - (intOf i).toNat)
  case atStart => exact ⟨0, by omega, rfl, Below.refl _ _⟩
  case round =>
    obtain ⟨k, hk, rfl, hB⟩ := hrel
    have hsz := hB.size
    by_cases hlt : k < l.length
    · obtain ⟨b, off, rfl, hb, hcc⟩ := hc k hlt
      obtain ⟨c0, c1, c2⟩ := drp_at hcc
      replace c0 := (hB.cell (p := ⟨b, _, none⟩) hb).trans c0; replace c1 := (hB.cell (p := ⟨b, _, none⟩) hb).trans c1; replace c2 := (hB.cell (p := ⟨b, _, none⟩) hb).trans c2
      obtain ⟨b2, off2, rfl, hb2, hcc2⟩ := hc2 k hlt
      obtain ⟨d0, d1, d2⟩ := drp_at hcc2
      replace d0 := (hB.cell (p := ⟨b2, _, none⟩) hb2).trans d0; replace d1 := (hB.cell (p := ⟨b2, _, none⟩) hb2).trans d1; replace d2 := (hB.cell (p := ⟨b2, _, none⟩) hb2).trans d2
      clear hc hcc hc2 hcc2
      go_wp2_with fail
      go_region
      go_wp2
      go_roundw
      case rel => exact ⟨k + 1, by omega, by go_num, by (repeat (first | exact Below.refl _ _ | assumption | refine below_draws ?_ _ | refine Below.drew ?_ | refine below_alloc ?_ _ (by first | omega | (simp; done) | (simp; omega)) | refine Below.setCell ?_ (by first | omega | (simp; done) | (simp; omega)) _ | refine below_at ?_ (by assumption) (by first | omega | (simp; done) | (simp; omega))))⟩
      case measure => simp [intOf]; omega
    · go_wp2
      go_ret
      exact ⟨rfl, by (repeat (first | exact Below.refl _ _ | assumption | refine below_draws ?_ _ | refine Below.drew ?_ | refine below_alloc ?_ _ (by first | omega | (simp; done) | (simp; omega)) | refine Below.setCell ?_ (by first | omega | (simp; done) | (simp; omega)) _ | refine below_at ?_ (by assumption) (by first | omega | (simp; done) | (simp; omega))))⟩
set_option maxHeartbeats 1000000 in
theorem sameTree_any (v1 v2 u1 u2 : Value) (l : List Splt) (d : List Drp) (w : World) (h1 : Arr Splt.cells 4 w l v1) (h2 : Arr Drp.cells 3 w d v2) (g1 : Arr Splt.cells 4 w l u1) (g2 : Arr Drp.cells 3 w d u2) : Calls Tryz.prog 14 #[.agg #[v1, v2], .agg #[u1, u2]] w
    fun e w' => e = .returned (.bool true) ∧ Below w.heap.size w w' := by
  have HA := Lib.hid (And.intro h1 (And.intro h2 (And.intro g1 g2)))
  clear h1 h2 g1 g2
  go_enter Tryz.func14, Tryz.ntmps14
  go_wp2_with fail
  refine (same_splt _ _ l _ (by exact HA.out.1.below (by (repeat (first | exact Below.refl _ _ | assumption | refine below_draws ?_ _ | refine Below.drew ?_ | refine below_alloc ?_ _ (by first | omega | (simp; done) | (simp; omega)) | refine Below.setCell ?_ (by first | omega | (simp; done) | (simp; omega)) _ | refine below_at ?_ (by assumption) (by first | omega | (simp; done) | (simp; omega)))))) (by exact HA.out.2.2.1.below (by (repeat (first | exact Below.refl _ _ | assumption | refine below_draws ?_ _ | refine Below.drew ?_ | refine below_alloc ?_ _ (by first | omega | (simp; done) | (simp; omega)) | refine Below.setCell ?_ (by first | omega | (simp; done) | (simp; omega)) _ | refine below_at ?_ (by assumption) (by first | omega | (simp; done) | (simp; omega))))))).mono ?_
  rintro e w1 ⟨rfl, hb1⟩
  have hz1 := hb1.size
  simp only [World.size_alloc] at hz1
  have hB1 : Below w.heap.size w w1 := by (repeat (first | exact Below.refl _ _ | assumption | refine below_draws ?_ _ | refine Below.drew ?_ | refine below_alloc ?_ _ (by first | omega | (simp; done) | (simp; omega)) | refine Below.setCell ?_ (by first | omega | (simp; done) | (simp; omega)) _ | refine below_at ?_ (by assumption) (by first | omega | (simp; done) | (simp; omega))))
  have k1 := ((Blk.new w #[v1, v2] 29).alloc (.cells #[u1, u2] 29)).below hb1 (by simp; omega)
  have k2 := (Blk.newAt (w := w.alloc (.cells #[v1, v2] 29)) (b := w.heap.size + 1) (cs := #[u1, u2]) (t := 29) (by simp)).below hb1 (by simp)
  have a0 := k1.cell 1 _ rfl
  have a1 := k2.cell 1 _ rfl
  have l1 := k1.lt
  have l2 := k2.lt
  clear hb1 k1 k2
  go_wp2_with fail
  refine (same_drp _ _ d _ (by exact HA.out.2.1.below hB1) (by exact HA.out.2.2.2.below hB1)).mono ?_
  rintro e w2 ⟨rfl, hb2⟩
  go_wp2
  go_ret
  exact ⟨rfl, by (repeat (first | exact Below.refl _ _ | assumption | refine below_draws ?_ _ | refine Below.drew ?_ | refine below_alloc ?_ _ (by first | omega | (simp; done) | (simp; omega)) | refine Below.setCell ?_ (by first | omega | (simp; done) | (simp; omega)) _ | refine below_at ?_ (by assumption) (by first | omega | (simp; done) | (simp; omega))))⟩
theorem own_setOtherH {W : World} {B sz n : Nat} {e : TypeId} {v : Value} {xs : List Value} (h : W.ownsRow B e sz v n xs) {c : Nat} (hc : c < B) (o : Nat) (u : Value) : (W.setCell ⟨c, o, none⟩ u).ownsRow B e sz v n xs := by
  refine h.kept (row := some c) (grown_setCells c [u] o W) ?_
  cases hv : v.ownBlock with
  | none => exact .inl rfl
  | some k => right; have := (h.lt k hv).1; simp; omega
theorem own_baseH {B B' : Nat} {W : World} {v : Value} {e : TypeId} {n sz : Nat} {xs : List Value} (h : W.ownsRow B e sz v n xs) (hB : B' ≤ B) : W.ownsRow B' e sz v n xs := by
  rcases h with ⟨h0, h1 | ⟨g, cap, cur, hv, hg, hr⟩⟩
  · exact ⟨h0, .inl h1⟩
  · exact ⟨h0, .inr ⟨g, cap, cur, hv, Nat.le_trans hB hg, hr⟩⟩
theorem own_sliceH {W : World} {B sz n : Nat} {e : TypeId} {v : Value} {xs : List Value} (h : W.ownsRow B e sz v n xs) : ∃ a cap, v = .slice a n cap := by
  rcases h.2 with ⟨hv, h0⟩ | ⟨g, cap, cur, rfl, _⟩
  · exact ⟨none, 0, by rw [hv, h0]⟩
  · exact ⟨_, cap, rfl⟩
/-- a tree in memory of its own -/
def CopyPost (l : List Splt) (d : List Drp) (w : World) (e : Ending) (w' : World) : Prop := ∃ v1 v2, e = .returned (.agg #[v1, v2]) ∧
  w'.ownsRow w.heap.size 58 4 v1 l.length (l.flatMap Splt.cells) ∧ w'.ownsRow w.heap.size 36 3 v2 d.length (d.flatMap Drp.cells) ∧ (∀ k, v1.ownBlock = some k → v2.ownBlock ≠ some k) ∧ Below w.heap.size w w'
set_option maxHeartbeats 4000000 in
set_option maxRecDepth 100000 in
theorem copied_any (v1 v2 : Value) (l : List Splt) (d : List Drp) (w : World) (h1 : Arr Splt.cells 4 w l v1) (h2 : Arr Drp.cells 3 w d v2) (hl : l.length ≤ 1000000) (hd : d.length ≤ 1000000) : Calls Tryz.prog 50 #[.agg #[v1, v2]] w (CopyPost l d w) := by
  have HA := Lib.hid (And.intro h1 h2)
  obtain ⟨a1, cap1, rfl, -, -, -⟩ := h1
  obtain ⟨a2, cap2, rfl, -, -, -⟩ := h2
  go_enter Tryz.func50, Tryz.ntmps50
  go_wp2_with fail
  go_region_held3 (fun w' => w'.cell? ⟨w.heap.size, 0, none⟩ = some (.slice a1 l.length cap1) ∧ w'.cell? ⟨w.heap.size, 1, none⟩ = some (.slice a2 d.length cap2)) (go_keep)
    (first
      | (go_at_call 27; refine (clone_splt _ l _ ?_ (by omega)).mono ?_; (exact HA.out.1.below (by (repeat (first | exact Below.refl _ _ | assumption | refine below_draws ?_ _ | refine Below.drew ?_ | refine below_alloc ?_ _ (by first | omega | (simp; done) | (simp; omega)) | refine Below.setCell ?_ (by first | omega | (simp; done) | (simp; omega)) _ | refine below_at ?_ (by assumption) (by first | omega | (simp; done) | (simp; omega)))))); rintro e w1 ⟨u1, rfl, hcl1, hb1⟩; have hz1 := hb1.size; (try simp at hz1); have hc1 := bcellAt hb1 w.heap.size (by first | omega | (simp; done) | (simp; omega)); have hd1 := bcellAt hb1 (w.heap.size + 1) (by first | omega | (simp; done) | (simp; omega)); have hf1 := bfreeAt hb1 (w.heap.size + 1) (by first | omega | (simp; done) | (simp; omega)); obtain ⟨b1, k1, rfl⟩ := own_sliceH hcl1.1)
      | (go_at_call 28; refine (clone_drp _ d _ ?_ (by omega)).mono ?_; (exact HA.out.2.below (by (repeat (first | exact Below.refl _ _ | assumption | refine below_draws ?_ _ | refine Below.drew ?_ | refine below_alloc ?_ _ (by first | omega | (simp; done) | (simp; omega)) | refine Below.setCell ?_ (by first | omega | (simp; done) | (simp; omega)) _ | refine below_at ?_ (by assumption) (by first | omega | (simp; done) | (simp; omega)))))); rintro e w2 ⟨u2, rfl, hcl2, hb2⟩; have hz2 := hb2.size; have hc2 := bcellAt hb2 w.heap.size (by first | omega | (simp; done) | (simp; omega)); have hd2 := bcellAt hb2 (w.heap.size + 1) (by first | omega | (simp; done) | (simp; omega)); have hf2 := bfreeAt hb2 (w.heap.size + 1) (by first | omega | (simp; done) | (simp; omega)); obtain ⟨b2, k2, rfl⟩ := own_sliceH hcl2.1))
  have o1 := own_below hcl1.1 hb2
  have o2 := hcl2.1
  have lt1 := hcl1.1.lt
  have lt2 := hcl2.1.lt
  have ge1 : w.heap.size + 2 ≤ (((w.alloc (.cells #[.slice a1 l.length cap1, .slice a2 d.length cap2] 29)).alloc (.cells #[.slice none 0 0, .slice none 0 0] 29)).drew).heap.size := by simp
  have r0 : w2.cell? ⟨w.heap.size + 1, 0, none⟩ = some (.slice none 0 0) := by rw [hd2, hd1]; exact (Blk.newAt (w := w.alloc _) (b := w.heap.size + 1) (cs := #[.slice none 0 0, .slice none 0 0]) (t := 29) (by simp)).cell 0 _ rfl
  have r1 : w2.cell? ⟨w.heap.size + 1, 1, none⟩ = some (.slice none 0 0) := by rw [hd2, hd1]; exact (Blk.newAt (w := w.alloc _) (b := w.heap.size + 1) (cs := #[.slice none 0 0, .slice none 0 0]) (t := 29) (by simp)).cell 1 _ rfl
  have hB : Below w.heap.size w w2 := by (repeat (first | exact Below.refl _ _ | assumption | refine below_draws ?_ _ | refine Below.drew ?_ | refine below_alloc ?_ _ (by first | omega | (simp; done) | (simp; omega)) | refine Below.setCell ?_ (by first | omega | (simp; done) | (simp; omega)) _ | refine below_at ?_ (by assumption) (by first | omega | (simp; done) | (simp; omega))))
  have H := Lib.hid (And.intro o1 (And.intro o2 (And.intro lt1 (And.intro lt2 (And.intro hB ge1)))))
  clear o1 o2 lt1 lt2 hB ge1 hcl1 hcl2 hb1 hb2 hc1 hd1 hf1 hc2 hd2 hf2
  go_wp2
  refine bodyPost_ret (v := .agg #[.slice b1 l.length k1, .slice b2 d.length k2]) ?_ rfl ⟨_, _, rfl, ?_, ?_, ?_, ?_⟩
  · simp [results, go_sem, r0, r1]
  · refine own_baseH (own_setOtherH (own_setOtherH H.out.1 ?_ _ _) ?_ _ _) ?_
    · have := H.out.2.2.2.2.2; omega
    · have := H.out.2.2.2.2.2; omega
    · have := H.out.2.2.2.2.2; omega
  · exact own_baseH (own_setOtherH (own_setOtherH H.out.2.1 (by omega) _ _) (by omega) _ _) (by omega)
  · intro k e1 e2
    have h1 := (H.out.2.2.1 k e1).2
    have h2 := (H.out.2.2.2.1 k e2).1
    omega
  · have := H.out.2.2.2.2.1
    (repeat (first | exact Below.refl _ _ | assumption | refine below_draws ?_ _ | refine Below.drew ?_ | refine below_alloc ?_ _ (by first | omega | (simp; done) | (simp; omega)) | refine Below.setCell ?_ (by first | omega | (simp; done) | (simp; omega)) _ | refine below_at ?_ (by assumption) (by first | omega | (simp; done) | (simp; omega))))
end Go.Proofs.YtcecpodbmjghhaaGreat
