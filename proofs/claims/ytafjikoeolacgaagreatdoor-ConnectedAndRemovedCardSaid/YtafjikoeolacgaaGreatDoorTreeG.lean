/- Walks of package tree: the splitters from the office to one. -/
import Derived.Test.YtafjikoeolacgaaGreatDoorTreeAll
import Derived.Test.YtafjikoeolacgaaGreatDoorTreesP
import Derived.Test.YtafjikoeolacgaaGreatDoorShelfD
set_option linter.unusedVariables false
set_option linter.unusedSimpArgs false
namespace Go.Proofs.YtafjikoeolacgaaGreatDoor
open Go Go.RowKit Go.Sort

theorem below_putRowG {α : Type} [Inhabited α] (enc : α → List Value) (k : Nat) (w : World) (n g off base : Nat) (d : Array α) (hg : base ≤ g) : Below base w (putRowK enc k (Sort.ahead w n) g off d) := by
  refine ⟨rfl, rfl, rfl, ?_, fun b hb => ?_⟩
  · unfold putRowK; simp
  · unfold putRowK putRow mapBlock
    simp only [Array.getElem?_modify]
    rw [if_neg (by omega)]
    rfl
section
variable {α : Type} [Inhabited α] {cells : α → List Value} {sz : Nat}
theorem Arr.of_holdsG (hlen : ∀ x, (cells x).length = sz) (hs : 0 < sz) {l : List α} {w : World} {g cap : Nat} (h : HoldsK cells sz w g 0 l.toArray) (hc : l.length ≤ cap) (hm : cap ≤ maxLen) : Arr cells sz w l (.slice (some ⟨g, 0, none⟩) l.length cap) := by
  refine ⟨_, cap, rfl, hc, hm, fun k hk => ⟨g, 0, rfl, ?_, fun j u hu => ?_⟩⟩
  · exact World.block_lt_of_cell? _ _ (h.cell (i := k) (c := 0) (by simpa using hk) hs).1
  · have hj : j < sz := by have := (List.getElem?_eq_some_iff.1 hu).1; rwa [hlen] at this
    have h1 := (h.cell (i := k) (c := j) (by simpa using hk) hj).1
    rw [h1]
    have h2 : l.toArray[k]! = l[k] := by simp [hk]
    rw [h2, ← hu, getElem!_pos (cells l[k]) j (by rw [hlen]; exact hj), List.getElem?_eq_getElem]
theorem holdsG_of_own (hlen : ∀ x, (cells x).length = sz) (hs : 0 < sz) {l : List α} {w : World} {g : Nat} {cur : Array Value} {e : TypeId} (hh : w.heap[g]? = some (.cells cur e (0, 0))) (ht : cur.toList.take (l.length * sz) = l.flatMap cells) : HoldsK cells sz w g 0 l.toArray := by
  intro j hj
  rw [size_flatK] at hj
  have hj' : j < l.length * sz := by simpa using hj
  have hk : j / sz < l.length := Nat.div_lt_of_lt_mul (by rw [Nat.mul_comm]; exact hj')
  have hm : j % sz < sz := Nat.mod_lt _ hs
  refine ⟨?_, by simp [World.frozen?, hh]⟩
  rw [get_flatK _ _ _ _ hj]
  have h2 : l.toArray[j / sz]! = l[j / sz] := by simp [hk]
  have h3 := flat_at hlen l (j / sz) hk (j % sz) hm
  rw [show j / sz * sz + j % sz = j from by rw [Nat.mul_comm]; exact Nat.div_add_mod j sz, ← ht, List.getElem?_take_of_lt hj'] at h3
  rw [h2, getElem!_pos (cells l[j / sz]) (j % sz) (by rw [hlen]; exact hm)]
  rw [show (cells l[j / sz])[j % sz]? = some ((cells l[j / sz])[j % sz]'(by rw [hlen]; exact hm)) from List.getElem?_eq_getElem _] at h3
  simp only [World.cell?, hh, Nat.zero_add, id]
  simpa using h3
end
theorem reverse_splt (v : Value) (l : List Splt) (w : World) (base : Nat) (h : w.ownsRow base 36 4 v l.length (l.flatMap Splt.cells)) (hl : l.length ≤ 1000000) :
    Calls Tryz.prog 152 #[v] w fun e w' => e = .returned (.tuple #[]) ∧ Arr Splt.cells 4 w' l.reverse v ∧ Below base w w' := by
  obtain ⟨hlen, h | ⟨g, cap, cur, rfl, hg, hh, hc, hm, hs, ht⟩⟩ := h
  · obtain ⟨rfl, h0⟩ := h
    obtain rfl : l = [] := List.length_eq_zero_iff.1 h0
    refine (AnyQ.slices_Reverse_empty Tryz.revSplt none 0 w).mono ?_
    rintro e w' ⟨rfl, rfl⟩
    exact ⟨rfl, Arr.nil _ _ _, Below.refl _ _⟩
  · have hH := holdsG_of_own (l := l) Splt.cells_len (by omega) hh ht
    refine (AnyQ.slices_Reverse Tryz.revSplt 4 Tryz.isAgg36 Tryz.sizeOf36 Splt.cells Splt.cells_len ?_ g 0 cap l.toArray w hH (by simp; omega)).mono ?_
    · intro x u hu
      simp [Splt.cells] at hu
      rcases hu with rfl | rfl | rfl | rfl <;> rfl
    rintro e w' ⟨rfl, n, rfl⟩
    refine ⟨rfl, ?_, below_putRowG _ _ _ _ _ _ _ _ hg⟩
    have h2 : HoldsK Splt.cells 4 (putRowK Splt.cells 4 (Sort.ahead w n) g 0 l.toArray.reverse) g 0 l.toArray.reverse := holdsK_putRowK _ _ _ _ _ l.toArray _ (holdsK_ahead _ _ _ _ _ _ _ hH) (by simp)
    rw [List.reverse_toArray] at h2 ⊢
    have h3 := Arr.of_holdsG (cap := cap) Splt.cells_len (by omega) h2 (by simpa using hc) hm
    rwa [List.length_reverse] at h3

theorem infoSplt : (Tryz.prog.info? 36).map (fun i => (i.zero, i.size, i.bytes)) = some (some (.agg #[.string ⟨#[]⟩, .int .i64 0, .string ⟨#[]⟩, .int .i64 0]), 4, 48) := by kernel_rfl
theorem bfreeAt {B : Nat} {W w1 : World} (hb : Below B W w1) (b : Nat) (h : b < B) : ∀ o, w1.frozen? ⟨b, o, none⟩ = W.frozen? ⟨b, o, none⟩ := fun o => hb.frozen (p := ⟨b, o, none⟩) h
def lenV (v : Value) : Nat := match v with | .slice _ n _ => n | _ => 0
theorem nlen {W : World} {B sz n : Nat} {e : TypeId} {v : Value} {xs : List Value} (h : W.ownsRow B e sz v n xs) : lenV v = n := by
  rcases h.2 with ⟨rfl, h0⟩ | ⟨g, cap, cur, rfl, _⟩
  · exact h0.symm
  · rfl
set_option maxHeartbeats 1000000 in
set_option maxRecDepth 100000 in
theorem chain_any (v1 v2 : Value) (l : List Splt) (key : ByteArray) (w : World) (h : Arr Splt.cells 4 w l v1) (hs : SOk l) (he : endsB l l.length key = true) : Calls Tryz.prog 121 #[.agg #[v1, v2], .string key] w
    (Ret (fun v w' => Arr Splt.cells 4 w' (chainV l key) v ∧ ∀ b off n cap, v = .slice (some ⟨b, off, none⟩) n cap → w.heap.size ≤ b) w) := by
  have HA := Lib.hid (And.intro h hs)
  obtain ⟨a, cap, rfl, hcap, hmax, hc⟩ := h
  unfold maxLen at hmax
  have HC := Lib.hid hc
  have hl5 := hs.len
  obtain ⟨i0, hi, hz0, hz1, hz2⟩ := info_parts infoSplt
  have HE := Lib.hid he
  clear hc hs he
  go_enter Tryz.func121, Tryz.ntmps121
  go_wp2
  go_loopw [1, 5] (fun kv ov wr => ∃ (pre : List Splt) (key' : ByteArray) (m : Nat), kv = .string key' ∧ (pre.length + m = l.length ∧ endsB l m key' = true ∧ pre ++ upC l m key' = upC l l.length key) ∧ wr.ownsRow (w.heap.size + 1) 36 4 ov pre.length (pre.flatMap Splt.cells) ∧ Below (w.heap.size + 1) (w.alloc (.cells #[.slice a l.length cap, v2] 29)) wr) (fun _ ov _ => l.length - lenV ov)
  case atStart => exact ⟨[], key, l.length, rfl, ⟨by simp, HE.out, rfl⟩, World.ownsRow_nil _ _ _ _, Below.refl _ _⟩
  case round =>
    obtain ⟨pre, key', m, rfl, hP, hown, hB⟩ := hrel
    have hsz := hB.size
    simp only [World.size_alloc] at hsz
    have hbx : Blk wr w.heap.size #[.slice a l.length cap, v2] 29 := (Blk.new w _ _).below hB (by omega)
    have hBw : Below w.heap.size w wr := below_at (below_alloc (Below.refl _ _) _ (Nat.le_refl _)) hB (by omega)
    have HO := Lib.hid (And.intro hown (And.intro hB (And.intro hbx hBw)))
    have hpm := hP.1
    have HP := Lib.hid hP
    have p0 := hbx.cell 0 _ rfl
    have p1 := hbx.cell 1 _ rfl
    have hlt0 : w.heap.size < wr.heap.size := by omega
    clear hown hB hbx hBw hP
    by_cases hk : key'.size = 0
    · have hem : key'.toList.isEmpty = true := by rw [isEmpty_size]; simp [hk]
      have HK := Lib.hid hk
      clear hk
      have hpre : pre = upC l l.length key := by
        have := HP.out.2.2
        rw [upC_empty l m HK.out, List.append_nil] at this
        exact this
      go_wp2_with fail
      refine (reverse_splt _ pre _ (w.heap.size + 1) HO.out.1 (by omega)).mono ?_
      rintro e w2 ⟨rfl, hr, hb2⟩
      go_wp2
      go_ret
      exact ⟨_, rfl, ⟨by unfold chainV; rw [← hpre]; exact hr, fun b off n cap e => by have := (HO.out.1.lt b (congrArg Value.ownBlock e)).1; omega⟩, HO.out.2.2.2.trans (hb2.mono (by omega))⟩
    · have hem : key'.toList.isEmpty = false := by rw [isEmpty_size]; simp [hk]
      obtain ⟨s, m', hm, hg, he'⟩ : ∃ s m', m = m' + 1 ∧ getS l key' = some s ∧ endsB l m' s.par = true := by
        rcases endsB_cases HP.out.2.1 with h0 | ⟨s, m', a1, _, a3, a4⟩
        · exact absurd h0 hk
        · exact ⟨s, m', a1, a3, a4⟩
      have hup := HP.out.2.2
      rw [hm, upC_cons hk hg] at hup
      rcases findS_get l key' with ⟨_, hnone⟩ | ⟨j, hj, hfj, hget, -⟩
      · rw [hnone] at hg; cases hg
      rw [hget] at hg
      simp only [Option.some.injEq] at hg
      have HJ := Lib.hid (And.intro hfj (And.intro hg (And.intro hup he')))
      obtain ⟨b, off, rfl, hb, hcc⟩ := HC.out j hj
      obtain ⟨d0, d1, d2, d3⟩ := splt_at hcc
      replace d0 := (HO.out.2.2.2.cell (p := ⟨b, _, none⟩) hb).trans d0
      replace d1 := (HO.out.2.2.2.cell (p := ⟨b, _, none⟩) hb).trans d1
      replace d2 := (HO.out.2.2.2.cell (p := ⟨b, _, none⟩) hb).trans d2
      replace d3 := (HO.out.2.2.2.cell (p := ⟨b, _, none⟩) hb).trans d3
      have hbr : b < wr.heap.size := by omega
      have hj1 : (0 : Int) ≤ (j : Int) := by omega
      have hj3 : (j : Int) < (l.length : Int) := by omega
      clear hcc hfj hget hg hup he' hk
      have ne1 : wr.heap.size ≠ w.heap.size := by omega
      have ne2 : wr.heap.size ≠ b := by omega
      go_wp2_with fail
      go_region_held3 (fun w' => w'.cell? ⟨w.heap.size, 0, none⟩ = some (.slice (some ⟨b, off, none⟩) l.length cap) ∧ w'.cell? ⟨w.heap.size, 1, none⟩ = some v2 ∧ w'.cell? ⟨b, off + j * 4, none⟩ = some (.string l[j].key) ∧ w'.cell? ⟨b, off + j * 4 + 1, none⟩ = some (.int .i64 l[j].ways) ∧ w'.cell? ⟨b, off + j * 4 + 2, none⟩ = some (.string l[j].par) ∧ w'.cell? ⟨b, off + j * 4 + 3, none⟩ = some (.int .i64 l[j].port)) (go_keep)
        (first
          | (go_at_call 119; refine (find_any _ _ l key' _ ?_ ?_ ?_).mono ?_; (exact HA.out.1.below (by have h3 := HO.out.2.2.2; (repeat (first | exact Below.refl _ _ | assumption | refine below_draws ?_ _ | refine Below.drew ?_ | refine below_alloc ?_ _ (by first | omega | (simp; done) | (simp; omega)) | refine Below.setCell ?_ (by first | omega | (simp; done) | (simp; omega)) _ | refine below_at ?_ (by assumption) (by first | omega | (simp; done) | (simp; omega)))))); (omega); (exact HA.out.2.rise); rintro e w4 ⟨rfl, hb4⟩; rw [HJ.out.1]; have hc4 := bcellAt hb4 w.heap.size (by first | omega | (simp; done) | (simp; omega)); have hc5 := bcellAt hb4 b (by first | omega | (simp; done) | (simp; omega)); (try have hc6 := bcellAt hb4 wr.heap.size (by first | omega | (simp; done) | (simp; omega))); (try have hc7 := bfreeAt hb4 wr.heap.size (by first | omega | (simp; done) | (simp; omega))); have s4 := hb4.size; (try simp at s4); have ne3 : w4.heap.size ≠ w.heap.size := (by omega); have ne4 : w4.heap.size ≠ b := (by omega)))
      · have hX := Blk.new w4 #[.string l[j].key, .int .i64 l[j].ways, .string l[j].par, .int .i64 l[j].port] 36
        have hB5 : Below (w.heap.size + 1) (w.alloc (.cells #[.slice (some ⟨b, off, none⟩) l.length cap, v2] 29)) (w4.alloc (.cells #[.string l[j].key, .int .i64 l[j].ways, .string l[j].par, .int .i64 l[j].port] 36)) := below_alloc (below_at (Below.drew HO.out.2.1) hb4 (by simp; omega)) _ (by omega)
        have ho5 := (own_below (w := wr.drew) HO.out.1 hb4).alloc (.cells #[.string l[j].key, .int .i64 l[j].ways, .string l[j].par, .int .i64 l[j].port] 36)
        have hne5 : some w4.heap.size ≠ u5.ownBlock := fun e => by
          have := (HO.out.1.lt _ e.symm).2
          omega
        have hs5 : w4.heap.size < (w4.alloc (.cells #[.string l[j].key, .int .i64 l[j].ways, .string l[j].par, .int .i64 l[j].port] 36)).heap.size := by simp
        generalize w4.heap.size = nb at *
        generalize w4.alloc (.cells #[.string l[j].key, .int .i64 l[j].ways, .string l[j].par, .int .i64 l[j].port] 36) = w5 at *
        have H5 := Lib.hid (And.intro hX (And.intro hB5 (And.intro ho5 hne5)))
        have x0 := hX.cell 0 _ rfl
        have x1 := hX.cell 1 _ rfl
        have x2 := hX.cell 2 _ rfl
        have x3 := hX.cell 3 _ rfl
        have hz5 := hB5.size
        simp only [World.size_alloc] at hz5
        clear hX hB5 ho5 hne5
        (try clear hb4)
        (try clear hc4 hc5)
        (try clear hc6 hc7)
        clear d0 d1 d2 d3 p0 p1
        go_wp2_with ((at_builtin; go_must (refine wpList_append_own _ rfl _ _ 26 rfl _ 36 _ (.agg #[.string ⟨#[]⟩, .int .i64 0, .string ⟨#[]⟩, .int .i64 0]) 4 48 Tryz.underlying26 hi hz0 hz1 hz2 rfl (by decide) _ _ _ rfl (H5.out.2.2.1.alloc _) ⟨w5.heap.size, 0, none⟩ 1 1 [.string l[j].key, .int .i64 l[j].ways, .string l[j].par, .int .i64 l[j].port] rfl rfl (by exact news_at (by first | rfl | simp) (by rfl)) (by simp [Value.oneCell']) (by unfold maxLen; omega) (by omega) (by first | omega | (simp; done) | (simp; omega)) ?_)); intro v' w6 hown6 hgrow _; have y2 := hgrow.cell ((H5.out.1.alloc (.cells #[.string l[j].key, .int .i64 l[j].ways, .string l[j].par, .int .i64 l[j].port] 36)).cell 2 _ rfl) H5.out.2.2.2)
        refine ⟨⟨pre ++ [l[j]], l[j].par, m', rfl, ⟨by rw [List.length_append, List.length_singleton]; omega, by rw [HJ.out.2.1]; exact HJ.out.2.2.2, by rw [List.append_assoc, List.singleton_append]; have := HJ.out.2.2.1; rw [← HJ.out.2.1] at this; exact this⟩, ?_, ?_⟩, ?_⟩
        · rw [List.length_append, List.length_singleton, List.flatMap_append]; exact hown6
        · exact below_grown (below_alloc H5.out.2.1 _ (by omega)) (H5.out.2.2.1.alloc (.cells #[.string l[j].key, .int .i64 l[j].ways, .string l[j].par, .int .i64 l[j].port] 36)) hgrow (Nat.le_refl _) (by simp; omega)
        · have e1 := nlen HO.out.1; have e2 := nlen hown6; rw [e1, e2]; omega
      · have hX : Blk ((((w4.setCell ⟨wr.heap.size, 0, none⟩ (.string l[j].key)).setCell ⟨wr.heap.size, 1, none⟩ (.int .i64 l[j].ways)).setCell ⟨wr.heap.size, 2, none⟩ (.string l[j].par)).setCell ⟨wr.heap.size, 3, none⟩ (.int .i64 l[j].port)) wr.heap.size #[.string l[j].key, .int .i64 l[j].ways, .string l[j].par, .int .i64 l[j].port] 36 := (((((Blk.new wr.drew #[.string ⟨#[]⟩, .int .i64 0, .string ⟨#[]⟩, .int .i64 0] 36).below hb4 (by simp)).set 0 _).set 1 _).set 2 _).set 3 _
        have hB5 : Below (w.heap.size + 1) (w.alloc (.cells #[.slice (some ⟨b, off, none⟩) l.length cap, v2] 29)) ((((w4.setCell ⟨wr.heap.size, 0, none⟩ (.string l[j].key)).setCell ⟨wr.heap.size, 1, none⟩ (.int .i64 l[j].ways)).setCell ⟨wr.heap.size, 2, none⟩ (.string l[j].par)).setCell ⟨wr.heap.size, 3, none⟩ (.int .i64 l[j].port)) := Below.setCell (Below.setCell (Below.setCell (Below.setCell (below_at (below_alloc (Below.drew HO.out.2.1) _ (by simp; omega)) hb4 (by simp; omega)) (by simp; omega) _) (by simp; omega) _) (by simp; omega) _) (by simp; omega) _
        have hne5 : some wr.heap.size ≠ u5.ownBlock := fun e => by
          have := (HO.out.1.lt _ e.symm).2
          omega
        have ho5 := (own_below (World.ownsRow.alloc (w := wr.drew) HO.out.1 _) hb4).kept (grown_setCells wr.heap.size [.string l[j].key, .int .i64 l[j].ways, .string l[j].par, .int .i64 l[j].port] 0 w4) (Or.inr hne5.symm)
        replace ho5 : ((((w4.setCell ⟨wr.heap.size, 0, none⟩ (.string l[j].key)).setCell ⟨wr.heap.size, 1, none⟩ (.int .i64 l[j].ways)).setCell ⟨wr.heap.size, 2, none⟩ (.string l[j].par)).setCell ⟨wr.heap.size, 3, none⟩ (.int .i64 l[j].port)).ownsRow (w.heap.size + 1) 36 4 u5 pre.length (pre.flatMap Splt.cells) := ho5
        have hs5 := hX.lt
        generalize (((w4.setCell ⟨wr.heap.size, 0, none⟩ (.string l[j].key)).setCell ⟨wr.heap.size, 1, none⟩ (.int .i64 l[j].ways)).setCell ⟨wr.heap.size, 2, none⟩ (.string l[j].par)).setCell ⟨wr.heap.size, 3, none⟩ (.int .i64 l[j].port) = w5 at *
        generalize wr.heap.size = nb at *
        have H5 := Lib.hid (And.intro hX (And.intro hB5 (And.intro ho5 hne5)))
        have x0 := hX.cell 0 _ rfl
        have x1 := hX.cell 1 _ rfl
        have x2 := hX.cell 2 _ rfl
        have x3 := hX.cell 3 _ rfl
        have hz5 := hB5.size
        simp only [World.size_alloc] at hz5
        clear hX hB5 ho5 hne5
        (try clear hb4)
        (try clear hc4 hc5)
        (try clear hc6 hc7)
        clear d0 d1 d2 d3 p0 p1
        go_wp2_with ((at_builtin; go_must (refine wpList_append_own _ rfl _ _ 26 rfl _ 36 _ (.agg #[.string ⟨#[]⟩, .int .i64 0, .string ⟨#[]⟩, .int .i64 0]) 4 48 Tryz.underlying26 hi hz0 hz1 hz2 rfl (by decide) _ _ _ rfl (H5.out.2.2.1.alloc _) ⟨w5.heap.size, 0, none⟩ 1 1 [.string l[j].key, .int .i64 l[j].ways, .string l[j].par, .int .i64 l[j].port] rfl rfl (by exact news_at (by first | rfl | simp) (by rfl)) (by simp [Value.oneCell']) (by unfold maxLen; omega) (by omega) (by first | omega | (simp; done) | (simp; omega)) ?_)); intro v' w6 hown6 hgrow _; have y2 := hgrow.cell ((H5.out.1.alloc (.cells #[.string l[j].key, .int .i64 l[j].ways, .string l[j].par, .int .i64 l[j].port] 36)).cell 2 _ rfl) H5.out.2.2.2)
        refine ⟨⟨pre ++ [l[j]], l[j].par, m', rfl, ⟨by rw [List.length_append, List.length_singleton]; omega, by rw [HJ.out.2.1]; exact HJ.out.2.2.2, by rw [List.append_assoc, List.singleton_append]; have := HJ.out.2.2.1; rw [← HJ.out.2.1] at this; exact this⟩, ?_, ?_⟩, ?_⟩
        · rw [List.length_append, List.length_singleton, List.flatMap_append]; exact hown6
        · exact below_grown (below_alloc H5.out.2.1 _ (by omega)) (H5.out.2.2.1.alloc (.cells #[.string l[j].key, .int .i64 l[j].ways, .string l[j].par, .int .i64 l[j].port] 36)) hgrow (Nat.le_refl _) (by simp; omega)
        · have e1 := nlen HO.out.1; have e2 := nlen hown6; rw [e1, e2]; omega
end Go.Proofs.YtafjikoeolacgaaGreatDoor
