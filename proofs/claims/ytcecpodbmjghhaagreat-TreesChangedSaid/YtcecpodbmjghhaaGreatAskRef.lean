/- Texts of one subject in one: AskS, AskT, AskU; what each shows stands at its head. No condition. -/
import Derived.Test.YtcecpodbmjghhaaGreatAskRN
import Derived.Test.YtcecpodbmjghhaaGreatAskAll
import Derived.Test.YtcecpodbmjghhaaGreatMemAll
import Derived.Test.YtcecpodbmjghhaaGreatShelfB
import Derived.Test.YtcecpodbmjghhaaGreatLibB
/- Walks of the reference's tree functions: the keys from the office to a splitter, the product of ways; who is below. -/
set_option linter.unusedVariables false
set_option linter.unusedSimpArgs false
namespace Go.Proofs.YtcecpodbmjghhaaGreat
open Go Go.RowKit Go.Sort
theorem reverse_str (v : Value) (l : List ByteArray) (w : World) (base : Nat) (h : w.ownsRow base 9 1 v l.length (l.map Value.string)) (hl : l.length ≤ 1000000) :
    Calls Tryz.prog 133 #[v] w fun e w' => e = .returned (.tuple #[]) ∧ Arr strCells 1 w' l.reverse v ∧ Below base w w' := by
  obtain ⟨hlen, h | ⟨g, cap, cur, rfl, hg, hh, hc, hm, hs, ht⟩⟩ := h
  · obtain ⟨rfl, h0⟩ := h
    obtain rfl : l = [] := List.length_eq_zero_iff.1 h0
    refine (Tryz.slices_Reverse_string_empty none 0 w).mono ?_
    rintro e w' ⟨rfl, rfl⟩
    exact ⟨rfl, Arr.nil _ _ _, Below.refl _ _⟩
  · have hb : Blk w g cur 9 := hh
    have hcs : ∀ j (hj : j < l.length), cur[j]? = some (.string l[j]) := fun j hj => by
      have : (cur.toList.take (l.length * 1))[j]? = (l.map Value.string)[j]? := by rw [ht]
      rw [List.getElem?_take_of_lt (by omega), List.getElem?_map, List.getElem?_eq_getElem hj] at this
      simpa using this
    have hsz : l.length ≤ cur.size := by
      rcases Nat.eq_zero_or_pos l.length with h0 | h0
      · omega
      · have := (Array.getElem?_eq_some_iff.1 (hcs (l.length - 1) (by omega))).1
        omega
    refine (Tryz.slices_Reverse_string_cells g 0 l.length cap (fun i => l.getD i ⟨#[]⟩) w (by omega) ?_ ?_).mono ?_
    · intro i hi
      rw [Nat.zero_add]
      refine hb.cell i _ ?_
      rw [hcs i hi, List.getD_eq_getElem?_getD, List.getElem?_eq_getElem hi]; rfl
    · intro j _; exact hb.free _
    rintro e w' ⟨rfl, q, rfl⟩
    have hrev : (Lib.strsOf (fun i => l.getD i ⟨#[]⟩) l.length).reverse.map encStr = l.reverse.map Value.string := by
      have e1 : (Lib.strsOf (fun i => l.getD i ⟨#[]⟩) l.length).map encStr = l.map Value.string := by
        apply List.ext_getElem
        · simp [Lib.strsOf]
        · intro i h1 h2
          have hi : i < l.length := by simpa using h2
          simp [Lib.strsOf, encStr, hi]
      rw [List.map_reverse, e1, List.map_reverse]
    rw [hrev]
    obtain ⟨cs', k1, k2, k3⟩ := cell_setCells_hit g (l.reverse.map Value.string) 0 (w.drewN q) cur 9 (hb.drewN q) (by simp; omega)
    refine ⟨rfl, ⟨_, cap, by simp, by simpa using hc, hm, fun k hk => ⟨g, 0, rfl, k1.lt, fun j u hu => ?_⟩⟩, ?_⟩
    · have hj : j = 0 := by
        have := (List.getElem?_eq_some_iff.1 hu).1
        simp [strCells] at this; omega
      subst hj
      refine k1.cell _ _ ?_
      have hk' : k < l.length := by simpa using hk
      rw [k3, if_pos (by simp; omega)]
      simp only [Nat.zero_add, Nat.mul_one, Nat.add_zero, Nat.sub_zero]
      rw [List.getElem?_map, List.getElem?_eq_getElem hk]
      simpa [strCells] using hu
    · have := grown_setCells g (l.reverse.map Value.string) 0 (w.drewN q)
      exact below_at (below_draws (Below.refl base w) q) (grown_row this hg (by have := hb.lt; show base ≤ (w.drewN q).heap.size; have e : (w.drewN q).heap.size = w.heap.size := rfl; omega)) (Nat.le_refl _)
theorem chainV_at {l : List Splt} {k : ByteArray} (h : endsB l l.length k = true) : ∀ s ∈ chainV l k, getS l s.key = some s := by
  intro s hs
  unfold chainV at hs
  obtain ⟨i, hi, rfl⟩ := List.mem_iff_getElem.1 (List.mem_reverse.1 hs)
  obtain ⟨m, _, h2, _⟩ := upC_at h i hi
  exact h2
theorem ne_own {W : World} {B sz n c : Nat} {e : TypeId} {v : Value} {xs : List Value} (h : W.ownsRow B e sz v n xs) (hc : c < B) : some c ≠ v.ownBlock := fun e => by
  have := (h.lt c e.symm).1
  omega
set_option maxHeartbeats 4000000 in
set_option maxRecDepth 100000 in
theorem chainTo_any (v1 v2 : Value) (l : List Splt) (key : ByteArray) (w : World) (h : Arr Splt.cells 4 w l v1) (hl : l.length ≤ 500) (he : endsB l l.length key = true) : Calls Tryz.prog 108 #[.agg #[v1, v2], .string key] w
    (Ret (fun v w' => Arr strCells 1 w' (keysC l key) v ∧ ∀ b off n cap, v = .slice (some ⟨b, off, none⟩) n cap → w.heap.size ≤ b) w) := by
  have HA := Lib.hid h
  obtain ⟨i0, hi, hz0, hz1, hz2⟩ := info_parts infoStrB
  have HE := Lib.hid he
  clear h he
  go_enter Tryz.func108, Tryz.ntmps108
  go_wp2
  go_loopw [1, 5] (fun kv ov wr => ∃ (pre : List Splt) (key' : ByteArray) (m : Nat), kv = .string key' ∧ (pre.length + m = l.length ∧ endsB l m key' = true ∧ pre ++ upC l m key' = upC l l.length key) ∧ wr.ownsRow (w.heap.size + 1) 9 1 ov pre.length ((pre.map (·.key)).map Value.string) ∧ Below (w.heap.size + 1) (w.alloc (.cells #[v1, v2] 29)) wr) (fun _ ov _ => l.length - lenV ov)
  case atStart => exact ⟨[], key, l.length, rfl, ⟨by simp, HE.out, rfl⟩, World.ownsRow_nil _ _ _ _, Below.refl _ _⟩
  case round =>
    obtain ⟨pre, key', m, rfl, hP, hown, hB⟩ := hrel
    have hsz := hB.size
    simp only [World.size_alloc] at hsz
    have hbx : Blk wr w.heap.size #[v1, v2] 29 := (Blk.new w _ _).below hB (by omega)
    have hBw : Below w.heap.size w wr := below_at (below_alloc (Below.refl _ _) _ (Nat.le_refl _)) hB (by omega)
    have HO := Lib.hid (And.intro hown (And.intro hB (And.intro hbx hBw)))
    have hpm := hP.1
    have HP := Lib.hid hP
    clear hown hB hbx hBw hP
    by_cases hk : key'.size = 0
    · have hem : key'.toList.isEmpty = true := by rw [isEmpty_size]; simp [hk]
      have HK := Lib.hid hk
      clear hk
      have hpre : pre = upC l l.length key := by
        have := HP.out.2.2
        rw [upC_empty l m HK.out, List.append_nil] at this
        exact this
      go_wp2_with fail
      refine (reverse_str _ (pre.map (·.key)) _ (w.heap.size + 1) (by rw [List.length_map]; exact HO.out.1) (by rw [List.length_map]; omega)).mono ?_
      rintro e w2 ⟨rfl, hr, hb2⟩
      go_wp2
      go_ret
      refine ⟨_, rfl, ⟨?_, fun b off n cap e => by have := (HO.out.1.lt b (congrArg Value.ownBlock e)).1; omega⟩, HO.out.2.2.2.trans (hb2.mono (by omega))⟩
      unfold keysC chainV
      rw [← hpre, List.map_reverse]; exact hr
    · have hem : key'.toList.isEmpty = false := by rw [isEmpty_size]; simp [hk]
      obtain ⟨s, m', hm, hg, he'⟩ : ∃ s m', m = m' + 1 ∧ getS l key' = some s ∧ endsB l m' s.par = true := by
        rcases endsB_cases HP.out.2.1 with h0 | ⟨s, m', a1, _, a3, a4⟩
        · exact absurd h0 hk
        · exact ⟨s, m', a1, a3, a4⟩
      have hup := HP.out.2.2
      rw [hm, upC_cons hk hg] at hup
      have HJ := Lib.hid (And.intro hg (And.intro hup (And.intro he' (getS_key hg).1)))
      clear hg hup he' hk
      go_wp2_with ((at_builtin; go_must (refine wpList_append_own _ rfl _ _ 60 rfl _ 9 _ (.string ⟨#[]⟩) 1 16 Tryz.underlying60 hi hz0 hz1 hz2 rfl (by decide) _ _ _ rfl (HO.out.1.alloc _) ⟨wr.heap.size, 0, none⟩ 1 1 [.string key'] rfl rfl (by exact news_at (by first | rfl | simp) (by rfl)) (by simp [Value.oneCell']) (by unfold maxLen; omega) (by omega) (by first | omega | (simp; done) | (simp; omega)) ?_)); intro v' w4 hown4 hg4 _; have hbx4 := (HO.out.2.2.1.alloc (.cells #[.string key'] 9)).grown hg4 (ne_own HO.out.1 (by omega)); have hB4 := below_grown (below_alloc HO.out.2.1 (.cells #[.string key'] 9) (by omega)) (HO.out.1.alloc (.cells #[.string key'] 9)) hg4 (Nat.le_refl _) (by simp; omega); have p0 := hbx4.cell 0 _ rfl; have p1 := hbx4.cell 1 _ rfl; have H4 := Lib.hid (And.intro hown4 (And.intro hbx4 hB4)); clear hown4 hg4 hbx4 hB4)
      have hz4 := H4.out.2.2.size
      simp only [World.size_alloc] at hz4
      refine (splitterOf_any _ _ l key' _ (by exact HA.out.below (below_at (below_alloc (Below.refl _ _) _ (Nat.le_refl _)) H4.out.2.2 (by omega)))).mono ?_
      rintro e w5 ⟨rfl, hb5⟩
      have hz5 := hb5.size
      rw [HJ.out.1]
      simp only [Option.getD_some]
      have ho5 := (own_below H4.out.1 hb5).alloc (.cells #[.string s.key, .int .i64 s.ways, .string s.par, .int .i64 s.port] 58)
      have hB5 := below_alloc (below_at H4.out.2.2 hb5 (by omega)) (.cells #[.string s.key, .int .i64 s.ways, .string s.par, .int .i64 s.port] 58) (by omega)
      have hX := Blk.new w5 #[.string s.key, .int .i64 s.ways, .string s.par, .int .i64 s.port] 58
      have x2 := hX.cell 2 _ rfl
      have H5 := Lib.hid (And.intro ho5 hB5)
      clear hb5 ho5 hB5 hX p0 p1
      go_wp2
      have e0 := nlen HO.out.1
      have e1 := nlen H5.out.1
      refine ⟨⟨pre ++ [s], s.par, m', rfl, ⟨by rw [List.length_append, List.length_singleton]; omega, HJ.out.2.2.1, by rw [List.append_assoc, List.singleton_append]; exact HJ.out.2.1⟩, ?_, H5.out.2⟩, ?_⟩
      · rw [List.length_append, List.length_singleton, List.map_append, List.map_append]
        have := H5.out.1
        rw [← HJ.out.2.2.2] at this
        exact this
      · rw [e0, e1]; omega
theorem powS_take {C : List Splt} {k : Nat} (hk : k < C.length) : powS (C.take (k + 1)) = powS (C.take k) + dbl C[k].ways := by
  unfold powS
  rw [List.take_succ_eq_append_getElem hk, List.map_append, List.sum_append]; simp
set_option maxHeartbeats 4000000 in
set_option maxRecDepth 100000 in
theorem power_any (v1 v2 : Value) (l : List Splt) (key : ByteArray) (w : World) (h : Arr Splt.cells 4 w l v1) (hs : SOk l) (he : endsB l l.length key = true) : Calls Tryz.prog 67 #[.agg #[v1, v2], .string key] w
    fun e w' => e = .returned (.int .i64 (powS (chainV l key))) ∧ Below w.heap.size w w' := by
  have HA := Lib.hid (And.intro h hs)
  have HC := Lib.hid (chainV_at he)
  have HW : Hid (∀ s ∈ chainV l key, waysB s.ways = true) := fun s hs' => (hs.keys s (upC_mem he s (by unfold chainV at hs'; simpa using hs'))).2
  have HE := Lib.hid he
  have HK : Hid (keysC l key = (chainV l key).map (·.key)) := rfl
  have hcl : (chainV l key).length ≤ 500 := by
    have := upC_le he
    have := hs.len
    unfold chainV
    rw [List.length_reverse]; omega
  have hbx := Blk.new w #[v1, v2] 29
  have HBX := Lib.hid hbx
  clear h hs he hbx
  go_enter Tryz.func67, Tryz.ntmps67
  go_wp2_with fail
  refine (chainTo_any _ _ l key _ (by exact HA.out.1.below (by (repeat (first | exact Below.refl _ _ | assumption | refine below_draws ?_ _ | refine Below.drew ?_ | refine below_alloc ?_ _ (by first | omega | (simp; done) | (simp; omega)) | refine Below.setCell ?_ (by first | omega | (simp; done) | (simp; omega)) _ | refine below_at ?_ (by assumption) (by first | omega | (simp; done) | (simp; omega)))))) HA.out.2.len HE.out).mono ?_
  rintro e w2 ⟨v, rfl, ⟨hv, -⟩, hb2⟩
  have hz2 := hb2.size
  simp only [World.size_alloc] at hz2
  have hB2 : Below w.heap.size w w2 := by (repeat (first | exact Below.refl _ _ | assumption | refine below_draws ?_ _ | refine Below.drew ?_ | refine below_alloc ?_ _ (by first | omega | (simp; done) | (simp; omega)) | refine Below.setCell ?_ (by first | omega | (simp; done) | (simp; omega)) _ | refine below_at ?_ (by assumption) (by first | omega | (simp; done) | (simp; omega))))
  have hbx2 := HBX.out.below hb2 (by simp)
  rw [HK.out] at hv
  generalize hCC : chainV l key = C at *
  have HCC := Lib.hid hCC
  clear hCC
  obtain ⟨a, cap, rfl, hcap, hmax, hc⟩ := hv
  rw [List.length_map] at *
  unfold maxLen at hmax
  have H2 := Lib.hid (And.intro hc (And.intro hB2 hbx2))
  clear hc hB2 hbx2 hb2
  go_wp2
  go_loopw [5, 14] (fun nv i wr => ∃ k : Nat, k ≤ C.length ∧ i = .int .i64 k ∧ nv = .int .i64 (powS (C.take k)) ∧ Below w2.heap.size w2 wr) (fun _ i _ => C.length - (intOf i).toNat)
  case atStart => exact ⟨0, by omega, rfl, by simp [powS], Below.refl _ _⟩
  case round =>
    obtain ⟨k, hk, rfl, rfl, hB⟩ := hrel
    have hsz := hB.size
    have hbx := H2.out.2.2.below hB (by omega)
    have p0 := hbx.cell 0 _ rfl
    have p1 := hbx.cell 1 _ rfl
    have hBw := H2.out.2.1.trans (hB.mono (by omega))
    have HS := Lib.hid (And.intro hB hBw)
    have hpn := powS_nonneg (c := C.take k) (fun s hs => HW.out s (List.mem_of_mem_take hs))
    rw [List.length_take] at hpn
    clear hB hbx hBw
    by_cases hlt : k < C.length
    · obtain ⟨b, off, rfl, hb, hcc⟩ := H2.out.1 k (by simpa using hlt)
      have c0 := hcc 0 (.string C[k].key) (by simp [strCells])
      simp only [Nat.mul_one, Nat.add_zero] at c0
      replace c0 := (HS.out.1.cell (p := ⟨b, _, none⟩) hb).trans c0
      have HG := Lib.hid (HC.out C[k] (List.getElem_mem _))
      have HPT := Lib.hid (powS_take hlt)
      have hdb := dbl_le C[k].ways
      clear hcc
      go_wp2_with fail
      refine (splitterOf_any _ _ l C[k].key _ (by exact HA.out.1.below HS.out.2)).mono ?_
      rintro e w3 ⟨rfl, hb3⟩
      have hz3 := hb3.size
      rw [HG.out]
      simp only [Option.getD_some]
      have hX := Blk.new w3 #[.string C[k].key, .int .i64 C[k].ways, .string C[k].par, .int .i64 C[k].port] 58
      have x1 := hX.cell 1 _ rfl
      have HB3 := Lib.hid (below_at HS.out.1 hb3 hsz)
      clear hb3 hX p0 p1 c0
      go_wp2_with fail
      refine (doublings_any _ _).mono ?_
      rintro e w4 ⟨rfl, hb4⟩
      have hz4 : w3.heap.size + 1 ≤ w4.heap.size := by have := hb4.size; simpa using this
      have HB4 := Lib.hid (below_at (below_alloc HB3.out (.cells #[.string C[k].key, .int .i64 C[k].ways, .string C[k].par, .int .i64 C[k].port] 58) (by omega)) hb4 (by simp; omega))
      clear hb4 x1
      go_wp2
      exact ⟨⟨k + 1, by omega, by go_num, by rw [HPT.out], HB4.out⟩, by simp [intOf]; omega⟩
    · obtain rfl : k = C.length := by omega
      go_wp2
      go_ret
      exact ⟨by rw [HCC.out, List.take_length]; rfl, HS.out.2⟩
end Go.Proofs.YtcecpodbmjghhaaGreat
/- Walks of the reference's tree functions: the chain of a customer, what is at ports, free ports, who is below, who is idle. -/
namespace Go.Proofs.YtcecpodbmjghhaaGreat
open Go Go.RowKit
theorem grown_noneT {a b : World} {B : Nat} (h : a.grownBy b none) (hB : B ≤ a.heap.size) : Below B a b := ⟨h.os, h.tape, h.output, h.size, fun k hk => h.block k (by omega) (by simp)⟩
theorem made_strs (c : Nat) : (madeCells (Value.string ⟨#[]⟩).cells (c * 1)).toList = (List.replicate c (⟨#[]⟩ : ByteArray)).flatMap strCells := by
  rw [Nat.mul_one, show (List.replicate c (⟨#[]⟩ : ByteArray)).flatMap strCells = (List.replicate c (⟨#[]⟩ : ByteArray)).map Value.string from flat_one Value.string _]
  apply List.ext_getElem
  · simp [madeCells]
  · intro i h1 h2
    simp [madeCells, Value.cells, Nat.mod_one]
theorem row_setS {w : World} {g : Nat} {l : List ByteArray} (h : Row strCells 1 w g l) {k : Nat} (hk : k < l.length) (x : ByteArray) : Row strCells 1 (w.setCell ⟨g, k, none⟩ (.string x)) g (l.set k x) := by
  have := Row.set (cells := strCells) (sz := 1) (fun _ => rfl) h k hk x
  rwa [Nat.mul_one] at this
theorem row_str {w : World} {g : Nat} {L : List ByteArray} (h : Row strCells 1 w g L) {k : Nat} (hk : k < L.length) : w.cell? ⟨g, k, none⟩ = some (.string L[k]) := by
  have := h.1 k hk 0 _ rfl
  simpa using this
theorem portsD_succ {d : List Drp} {key : ByteArray} {o : List ByteArray} {k : Nat} (hk : k < d.length) : portsD (d.take (k + 1)) key o = if d[k].spl = key then (portsD (d.take k) key o).set (d[k].port - 1).toNat d[k].cust else portsD (d.take k) key o := by
  unfold portsD
  rw [List.take_succ_eq_append_getElem hk, List.foldl_append]
  simp
theorem portsP_succ {l : List Splt} {key : ByteArray} {o : List ByteArray} {k : Nat} (hk : k < l.length) : portsP (l.take (k + 1)) key o = if l[k].par = key then (portsP (l.take k) key o).set (l[k].port - 1).toNat (⟨#[47]⟩ ++ l[k].key) else portsP (l.take k) key o := by
  unfold portsP
  rw [List.take_succ_eq_append_getElem hk, List.foldl_append]
  simp
theorem portsD_len (d : List Drp) (key : ByteArray) (o : List ByteArray) : (portsD d key o).length = o.length := foldl_set_len _ _ _ d o
theorem portsP_len (l : List Splt) (key : ByteArray) (o : List ByteArray) : (portsP l key o).length = o.length := foldl_set_len _ _ _ l o
theorem drop_port {l : List Splt} {d : List Drp} (h : TOk l d) {k : Nat} (hk : k < d.length) {s : Splt} (hg : getS l d[k].spl = some s) : 1 ≤ d[k].port ∧ d[k].port ≤ s.ways := by
  obtain ⟨_, p1, _, _, _, x, _, hx, p2⟩ := h.drop hk
  rw [hg] at hx
  obtain rfl := Option.some.inj hx
  exact ⟨p1, p2⟩
theorem par_port {l : List Splt} {d : List Drp} (h : TOk l d) {k : Nat} (hk : k < l.length) (hp : l[k].par.size ≠ 0) {s : Splt} (hg : getS l l[k].par = some s) : 1 ≤ l[k].port ∧ l[k].port ≤ s.ways := by
  have h1 := faultAt_zero.1 h.par k hk
  unfold parFault at h1
  rw [List.getElem?_eq_getElem hk] at h1
  simp only [if_neg hp] at h1
  rw [hg] at h1
  have ho : outB l[k].port 1 s.ways = false := by
    cases ho : outB l[k].port 1 s.ways
    · rfl
    · simp only [ho, if_true] at h1; omega
  exact outB_false.1 ho
set_option maxHeartbeats 8000000 in
set_option maxRecDepth 100000 in
theorem portsOfB_any (v1 v2 : Value) (l : List Splt) (d : List Drp) (key : ByteArray) (s : Splt) (w : World) (h1 : Arr Splt.cells 4 w l v1) (h2 : Arr Drp.cells 3 w d v2) (ok : TOk l d) (hg : getS l key = some s) : Calls Tryz.prog 66 #[.agg #[v1, v2], .string key] w
    (Ret (fun v w' => Arr strCells 1 w' (portsV l d key) v ∧ ∀ b off m cap, v = .slice (some ⟨b, off, none⟩) m cap → w.heap.size ≤ b) w) := by
  obtain ⟨sk, sw, sp, so⟩ := s
  have hw0 := (ok.s.get hg).2.1
  simp only at hw0
  obtain ⟨n, rfl⟩ : ∃ n : Nat, sw = n := ⟨sw.toNat, by omega⟩
  have HA := Lib.hid (And.intro h1 (And.intro h2 (And.intro ok hg)))
  have HR : Hid (portsP l key (portsD d key (List.replicate n ⟨#[]⟩)) = portsV l d key) := by
    have := refPorts_eq ok hg
    unfold refPorts wayN at this
    rw [hg] at this
    exact this
  obtain ⟨g1, g2, g3, g4⟩ := ok.s.get hg
  have hks : key.size ≠ 0 := by
    have := keyB_size (ok.s.keys _ g4).1
    rw [(getS_key hg).1] at this
    omega
  simp only at g2 g3
  have HD : Hid (∀ k (hk : k < d.length), d[k].spl = key → 1 ≤ d[k].port ∧ d[k].port ≤ n) := fun k hk e => by
    have := drop_port ok hk (s := ⟨sk, n, sp, so⟩) (by rw [e]; exact hg)
    simp only at this
    omega
  have HP : Hid (∀ k (hk : k < l.length), l[k].par = key → 1 ≤ l[k].port ∧ l[k].port ≤ n) := fun k hk e => by
    have := par_port ok hk (by rw [e]; exact hks) (s := ⟨sk, n, sp, so⟩) (by rw [e]; exact hg)
    simp only at this
    omega
  obtain ⟨a1, cap1, rfl, hcap1, hmax1, hc1⟩ := h1
  obtain ⟨a2, cap2, rfl, hcap2, hmax2, hc2⟩ := h2
  unfold maxLen at hmax1 hmax2
  have HC := Lib.hid (And.intro hc1 hc2)
  obtain ⟨i0, hi, hz0, hz1, hz2⟩ := info_parts infoStrB
  have hbx := Blk.new w #[.slice a1 l.length cap1, .slice a2 d.length cap2] 29
  have HBX := Lib.hid hbx
  clear hc1 hc2 ok hg hbx g1 g4 hks hw0
  go_enter Tryz.func66, Tryz.ntmps66
  go_wp2_with fail
  refine (splitterOf_any _ _ l key _ (by exact HA.out.1.below (by (repeat (first | exact Below.refl _ _ | assumption | refine below_draws ?_ _ | refine Below.drew ?_ | refine below_alloc ?_ _ (by first | omega | (simp; done) | (simp; omega)) | refine Below.setCell ?_ (by first | omega | (simp; done) | (simp; omega)) _ | refine below_at ?_ (by assumption) (by first | omega | (simp; done) | (simp; omega))))))).mono ?_
  rintro e w2 ⟨rfl, hb2⟩
  have hz2' := hb2.size
  simp only [World.size_alloc] at hz2'
  rw [HA.out.2.2.2]
  simp only [Option.getD_some]
  have hX := Blk.new w2 #[.string sk, .int .i64 n, .string sp, .int .i64 so] 58
  have x1 := hX.cell 1 _ rfl
  have hbx2 := (HBX.out.below hb2 (by simp)).alloc (.cells #[.string sk, .int .i64 n, .string sp, .int .i64 so] 58)
  have hB2 : Below w.heap.size w (w2.alloc (.cells #[.string sk, .int .i64 n, .string sp, .int .i64 so] 58)) := by (repeat (first | exact Below.refl _ _ | assumption | refine below_draws ?_ _ | refine Below.drew ?_ | refine below_alloc ?_ _ (by first | omega | (simp; done) | (simp; omega)) | refine Below.setCell ?_ (by first | omega | (simp; done) | (simp; omega)) _ | refine below_at ?_ (by assumption) (by first | omega | (simp; done) | (simp; omega))))
  have H2 := Lib.hid (And.intro hbx2 hB2)
  clear hb2 hX hbx2 hB2
  go_wp2_with ((at_make; go_must (refine wpList_make_full _ rfl _ _ _ rfl (w2.heap.size + 1) _ _ _ _ Tryz.underlying60 hi hz0 hz1 _ _ _ _ n rfl rfl rfl rfl ?b1 ?b2 ?b3 ?_); (case b1 => rw [hz2]; omega); (case b2 => unfold maxLen; omega); (case b3 => exact (by first | omega | (simp; done) | (simp; omega))); intro w3 hown hg3; have hbx3 := H2.out.1.grown hg3 (by simp); have p0 := hbx3.cell 0 _ rfl; have p1 := hbx3.cell 1 _ rfl))
  have hz3 := hg3.size
  simp only [World.size_alloc] at hz3
  have hown2 : w3.ownsRow (w2.heap.size + 1) 9 1 (.slice (some ⟨w2.heap.size + 1, 0, none⟩) n n) n ((List.replicate n (⟨#[]⟩ : ByteArray)).flatMap strCells) := by
    rw [← made_strs]; simpa using hown
  have hrow := Row.of_own (cells := strCells) (sz := 1) (fun _ => rfl) hown2 (by simp)
  have hgl := hrow.2.2
  have hB3 : Below (w2.heap.size + 1) (w2.alloc (.cells #[.string sk, .int .i64 n, .string sp, .int .i64 so] 58)) w3 := grown_noneT hg3 (by simp)
  have H3 := Lib.hid (And.intro hrow (And.intro hbx3 (below_at H2.out.2 hB3 (by omega))))
  clear hown hown2 hrow hg3 hbx3 hB3 x1
  have hgw : w.heap.size < w2.heap.size + 1 := by omega
  generalize w2.heap.size + 1 = g at *
  go_wp2
  go_loopw [24] (fun i wr => ∃ k : Nat, k ≤ d.length ∧ i = .int .i64 k ∧ Row strCells 1 wr g (portsD (d.take k) key (List.replicate n ⟨#[]⟩)) ∧ Below g w3 wr) (fun i _ => d.length - (intOf i).toNat)
  case atStart => exact ⟨0, by omega, rfl, by simpa [portsD] using H3.out.1, Below.refl _ _⟩
  case round =>
    obtain ⟨k, hk, rfl, hR, hB⟩ := hrel
    have hsz := hB.size
    have hgl2 := hR.2.2
    have hbx := H3.out.2.1.below hB hgw
    have hBw := H3.out.2.2.trans (hB.mono (by omega))
    have HS := Lib.hid (And.intro hR (And.intro hB (And.intro hbx hBw)))
    clear hR hB hbx hBw p0 p1
    by_cases hlt : k < d.length
    · obtain ⟨b, off, rfl, hb, hcc⟩ := HC.out.2 k hlt
      obtain ⟨c0, c1, c2⟩ := drp_at hcc
      replace c0 := (HS.out.2.2.2.cell (p := ⟨b, _, none⟩) hb).trans c0
      replace c1 := (HS.out.2.2.2.cell (p := ⟨b, _, none⟩) hb).trans c1
      replace c2 := (HS.out.2.2.2.cell (p := ⟨b, _, none⟩) hb).trans c2
      have hX := Blk.new wr #[.string d[k].cust, .string d[k].spl, .int .i64 d[k].port] 36
      have x0 := hX.cell 0 _ rfl
      have x1 := hX.cell 1 _ rfl
      have x2 := hX.cell 2 _ rfl
      have hs5 := portsD_succ (key := key) (o := List.replicate n ⟨#[]⟩) hlt
      have HX := Lib.hid hs5
      clear hcc hX hs5
      by_cases hx : d[k].spl = key
      · have hx' : (d[k].spl.toList == key.toList) = true := by simp [hx]
        obtain ⟨q1, q2⟩ := HD.out k hlt hx
        obtain ⟨p, hpe⟩ : ∃ p : Nat, d[k].port - 1 = (p : Int) := ⟨(d[k].port - 1).toNat, by omega⟩
        have hpn : p < n := by omega
        have hR2 := row_setS HS.out.1 (k := p) (by rw [portsD_len, List.length_replicate]; omega) d[k].cust
        have f2 := HS.out.1.2.1 p
        have e2 := row_str HS.out.1 (k := p) (by rw [portsD_len, List.length_replicate]; omega)
        have HR2 := Lib.hid (And.intro hR2 hx)
        rw [show (d[k].port - 1).toNat = p by omega] at HX
        clear hR2 hx
        go_wp2
        refine ⟨⟨k + 1, by omega, by go_num, ?_, ?_⟩, by simp [intOf]; omega⟩
        · rw [HX.out, if_pos HR2.out.2]; exact Row.below HR2.out.1 (below_alloc (Below.refl _ _) _ (Nat.le_refl _)) HR2.out.1.2.2
        · exact below_alloc (Below.setCell HS.out.2.1 (Nat.le_refl _) _) _ (by simp [World.setCell]; omega)
      · have hx' : (d[k].spl.toList == key.toList) = false := by
          cases h : (d[k].spl.toList == key.toList)
          · rfl
          · exact absurd (strB_iff.1 h) hx
        have HT : Hid (portsD (d.take (k + 1)) key (List.replicate n ⟨#[]⟩) = portsD (d.take k) key (List.replicate n ⟨#[]⟩)) := by rw [HX.out, if_neg hx]; exact rfl
        clear hx
        go_wp2
        refine ⟨⟨k + 1, by omega, by go_num, ?_, below_alloc HS.out.2.1 _ (by omega)⟩, by simp [intOf]; omega⟩
        rw [HT.out]; exact Row.below HS.out.1 (below_alloc (Below.refl _ _) _ (Nat.le_refl _)) hgl2
    · obtain rfl : k = d.length := by omega
      have r0 := HS.out.2.2.1.cell 0 _ rfl
      have hR0 := HS.out.1
      rw [List.take_length] at hR0
      have HR0 := Lib.hid (And.intro hR0 (And.intro HS.out.2.1 HS.out.2.2))
      clear hR0 HS
      go_wp2
      obtain ⟨wo, rfl⟩ : ∃ wo : World, wo = wr := ⟨_, rfl⟩
      go_loopw [43] (fun i wr => ∃ k : Nat, k ≤ l.length ∧ i = .int .i64 k ∧ Row strCells 1 wr g (portsP (l.take k) key (portsD d key (List.replicate n ⟨#[]⟩))) ∧ Below g wo wr) (fun i _ => l.length - (intOf i).toNat)
      case atStart => exact ⟨0, by omega, rfl, by simpa [portsP] using HR0.out.1, Below.refl _ _⟩
      case round =>
        obtain ⟨k, hk, rfl, hR, hB⟩ := hrel
        have hsz2 := hB.size
        have hgl3 := hR.2.2
        have hBw := HR0.out.2.2.2.trans (hB.mono (by omega))
        have HS := Lib.hid (And.intro hR (And.intro hB hBw))
        clear hR hB hBw r0
        by_cases hlt : k < l.length
        · obtain ⟨b, off, rfl, hb, hcc⟩ := HC.out.1 k hlt
          obtain ⟨c0, c1, c2, c3⟩ := splt_at hcc
          replace c0 := (HS.out.2.2.cell (p := ⟨b, _, none⟩) hb).trans c0
          replace c1 := (HS.out.2.2.cell (p := ⟨b, _, none⟩) hb).trans c1
          replace c2 := (HS.out.2.2.cell (p := ⟨b, _, none⟩) hb).trans c2
          replace c3 := (HS.out.2.2.cell (p := ⟨b, _, none⟩) hb).trans c3
          have hX := Blk.new wr #[.string l[k].key, .int .i64 l[k].ways, .string l[k].par, .int .i64 l[k].port] 58
          have x0 := hX.cell 0 _ rfl
          have x2 := hX.cell 2 _ rfl
          have x3 := hX.cell 3 _ rfl
          have hs5 := portsP_succ (key := key) (o := portsD d key (List.replicate n ⟨#[]⟩)) hlt
          have HX := Lib.hid hs5
          clear hcc hX hs5
          have hksz := (keyB_size (HA.out.2.2.1.s.keys l[k] (List.getElem_mem _)).1).2
          by_cases hx : l[k].par = key
          · have hx' : (l[k].par.toList == key.toList) = true := by simp [hx]
            obtain ⟨q1, q2⟩ := HP.out k hlt hx
            obtain ⟨p, hpe⟩ : ∃ p : Nat, l[k].port - 1 = (p : Int) := ⟨(l[k].port - 1).toNat, by omega⟩
            have hpn : p < n := by omega
            have hR2 := row_setS HS.out.1 (k := p) (by rw [portsP_len, portsD_len, List.length_replicate]; omega) (⟨#[47]⟩ ++ l[k].key)
            have f2 := HS.out.1.2.1 p
            have e2 := row_str HS.out.1 (k := p) (by rw [portsP_len, portsD_len, List.length_replicate]; omega)
            have HR2 := Lib.hid (And.intro hR2 hx)
            rw [show (l[k].port - 1).toNat = p by omega] at HX
            clear hR2 hx
            go_wp2
            refine ⟨⟨k + 1, by omega, by go_num, ?_, ?_⟩, by simp [intOf]; omega⟩
            · rw [HX.out, if_pos HR2.out.2]; exact Row.below HR2.out.1 (below_alloc (Below.refl _ _) _ (Nat.le_refl _)) HR2.out.1.2.2
            · exact below_alloc (Below.setCell HS.out.2.1 (Nat.le_refl _) _) _ (by simp [World.setCell]; omega)
          · have hx' : (l[k].par.toList == key.toList) = false := by
              cases h : (l[k].par.toList == key.toList)
              · rfl
              · exact absurd (strB_iff.1 h) hx
            have HT : Hid (portsP (l.take (k + 1)) key (portsD d key (List.replicate n ⟨#[]⟩)) = portsP (l.take k) key (portsD d key (List.replicate n ⟨#[]⟩))) := by rw [HX.out, if_neg hx]; exact rfl
            clear hx
            go_wp2
            refine ⟨⟨k + 1, by omega, by go_num, ?_, below_alloc HS.out.2.1 _ (by omega)⟩, by simp [intOf]; omega⟩
            rw [HT.out]; exact Row.below HS.out.1 (below_alloc (Below.refl _ _) _ (Nat.le_refl _)) hgl3
        · obtain rfl : k = l.length := by omega
          go_wp2
          go_ret
          refine ⟨_, rfl, ⟨?_, fun b off m cap e => ?_⟩, HS.out.2.2⟩
          rotate_left
          · have e2 : some g = some b := congrArg Value.ownBlock e
            have e3 := Option.some.inj e2
            omega
          have h := HS.out.1
          rw [List.take_length, HR.out] at h
          have hlen : (portsV l d key).length = n := by rw [← HR.out, portsP_len, portsD_len, List.length_replicate]
          exact h.arr hlen (Nat.le_refl _) (by unfold maxLen; omega)
end Go.Proofs.YtcecpodbmjghhaaGreat
/- Walks of the reference's tree functions: who is below, who is idle, the free ports. -/
namespace Go.Proofs.YtcecpodbmjghhaaGreat
open Go Go.RowKit
theorem belowL_take_succ {l : List Splt} {d : List Drp} {k : Nat} (hk : k < d.length) (key : ByteArray) : belowL l (d.take (k + 1)) key = belowL l (d.take k) key ++ (if isUp l key d[k] = true then [d[k].cust] else []) := by
  unfold belowL
  rw [List.take_succ_eq_append_getElem hk, List.filter_append, List.map_append]
  congr 1
  by_cases h : isUp l key d[k] = true
  · simp [h]
  · simp [h]
theorem belowL_take_len (l : List Splt) (d : List Drp) (k : Nat) (key : ByteArray) : (belowL l (d.take k) key).length ≤ k := by
  unfold belowL
  rw [List.length_map]
  have h1 := List.length_filter_le (isUp l key) (d.take k)
  rw [List.length_take] at h1; omega
theorem TOk.len5 {l : List Splt} {d : List Drp} (h : TOk l d) : d.length ≤ 5000 := by
  have := h.dr
  unfold dropsF at this
  split at this <;> omega
set_option maxHeartbeats 4000000 in
set_option maxRecDepth 100000 in
theorem belowOf_any (v1 v2 : Value) (l : List Splt) (d : List Drp) (key : ByteArray) (w : World) (h1 : Arr Splt.cells 4 w l v1) (h2 : Arr Drp.cells 3 w d v2) (ok : TOk l d) : Calls Tryz.prog 111 #[.agg #[v1, v2], .string key] w
    (Ret (fun v w' => Arr strCells 1 w' (belowL l d key) v) w) := by
  have HA := Lib.hid (And.intro h1 (And.intro h2 ok))
  obtain ⟨a2, cap2, rfl, hcap2, hmax2, hc2⟩ := h2
  unfold maxLen at hmax2
  have HC := Lib.hid hc2
  have hd5 := ok.len5
  obtain ⟨i0, hi, hz0, hz1, hz2⟩ := info_parts infoStrB
  have hbx := Blk.new w #[v1, .slice a2 d.length cap2] 29
  have HBX := Lib.hid hbx
  have b1 := hbx.cell 1 _ rfl
  clear h1 hc2 ok hbx
  go_enter Tryz.func111, Tryz.ntmps111
  go_wp2
  go_loopw [5, 11] (fun ov i wr => ∃ k : Nat, k ≤ d.length ∧ i = .int .i64 k ∧ wr.ownsRow (w.heap.size + 1) 9 1 ov (belowL l (d.take k) key).length ((belowL l (d.take k) key).map Value.string) ∧ Below (w.heap.size + 1) (w.alloc (.cells #[v1, .slice a2 d.length cap2] 29)) wr) (fun _ i _ => d.length - (intOf i).toNat)
  case atStart => exact ⟨0, by omega, rfl, World.ownsRow_nil _ _ _ _, Below.refl _ _⟩
  case round =>
    obtain ⟨k, hk, rfl, hown, hB⟩ := hrel
    have hsz := hB.size
    simp only [World.size_alloc] at hsz
    have hlt0 : w.heap.size < wr.heap.size := by omega
    have hbx := HBX.out.below hB (by omega)
    have p0 := hbx.cell 0 _ rfl
    have p1 := hbx.cell 1 _ rfl
    have hBw : Below w.heap.size w wr := below_at (below_alloc (Below.refl _ _) _ (Nat.le_refl _)) hB (by omega)
    have HS := Lib.hid (And.intro hown (And.intro hB hBw))
    have hbl := belowL_take_len l d k key
    clear hown hB hbx hBw
    by_cases hlt : k < d.length
    · obtain ⟨b, off, rfl, hb, hcc⟩ := HC.out k hlt
      obtain ⟨c0, c1, c2⟩ := drp_at hcc
      replace c0 := (HS.out.2.2.cell (p := ⟨b, _, none⟩) hb).trans c0
      replace c1 := (HS.out.2.2.cell (p := ⟨b, _, none⟩) hb).trans c1
      replace c2 := (HS.out.2.2.cell (p := ⟨b, _, none⟩) hb).trans c2
      have hX := Blk.new wr #[.string d[k].cust, .string d[k].spl, .int .i64 d[k].port] 36
      have x0 := hX.cell 0 _ rfl
      have x1 := hX.cell 1 _ rfl
      have HSU := Lib.hid (belowL_take_succ (l := l) hlt key)
      have HEN : Hid (endsB l l.length d[k].spl = true) := by
        obtain ⟨_, _, _, _, _, s, _, hg, _⟩ := HA.out.2.2.drop hlt
        exact HA.out.2.2.ends hg
      have HHX := Lib.hid hX
      clear hcc hX
      go_wp2_with fail
      refine (chainTo_any _ _ l d[k].spl _ (by exact HA.out.1.below (below_alloc HS.out.2.2 _ (by omega))) HA.out.2.2.s.len HEN.out).mono ?_
      rintro e w3 ⟨v, rfl, ⟨hv, -⟩, hb3⟩
      have hz3 : wr.heap.size + 1 ≤ w3.heap.size := by have := hb3.size; simpa using this
      have hx3 := HHX.out.below hb3 (by simp)
      have y0 := hx3.cell 0 _ rfl
      have hB3 := below_at (below_alloc HS.out.2.1 (.cells #[.string d[k].cust, .string d[k].spl, .int .i64 d[k].port] 36) (by omega)) hb3 (by simp; omega)
      have ho3 := own_below (HS.out.1.alloc (.cells #[.string d[k].cust, .string d[k].spl, .int .i64 d[k].port] 36)) hb3
      have H3 := Lib.hid (And.intro ho3 hB3)
      clear hb3 hx3 hB3 ho3 x0 x1 c0 c1 c2 p0 p1 b1
      go_wp2_with fail
      refine (contains_str_any v (keysC l d[k].spl) key _ hv).mono ?_
      rintro e w4 ⟨rfl, rfl⟩
      rw [keysC_has]
      clear hv
      cases hup : isUp l key d[k]
      · have HU : Hid (belowL l (d.take (k + 1)) key = belowL l (d.take k) key) := by rw [HSU.out, hup, if_neg (by simp), List.append_nil]; exact rfl
        clear hup
        go_wp2
        refine ⟨⟨k + 1, by omega, by go_num, ?_, H3.out.2⟩, by simp [intOf]; omega⟩
        rw [HU.out]; exact H3.out.1
      · have HU : Hid (belowL l (d.take (k + 1)) key = belowL l (d.take k) key ++ [d[k].cust]) := by rw [HSU.out, hup, if_pos rfl]; exact rfl
        clear hup
        go_wp2_with ((at_builtin; go_must (refine wpList_append_own _ rfl _ _ 60 rfl _ 9 _ (.string ⟨#[]⟩) 1 16 Tryz.underlying60 hi hz0 hz1 hz2 rfl (by decide) _ _ _ rfl (H3.out.1.alloc _) ⟨w3.heap.size, 0, none⟩ 1 1 [.string d[k].cust] rfl rfl (by exact news_at (by first | rfl | simp) (by rfl)) (by simp [Value.oneCell']) (by unfold maxLen; omega) (by omega) (by first | omega | (simp; done) | (simp; omega)) ?_)); intro v' w6 hown6 hgrow _)
        refine ⟨⟨k + 1, by omega, by go_num, ?_, ?_⟩, by simp [intOf]; omega⟩
        · rw [HU.out, List.length_append, List.length_singleton, List.map_append]; exact hown6
        · exact below_grown (below_alloc H3.out.2 _ (by omega)) (H3.out.1.alloc _) hgrow (Nat.le_refl _) (by simp; omega)
    · obtain rfl : k = d.length := by omega
      go_wp2
      go_ret
      have h := HS.out.1
      rw [List.take_length] at h
      exact ⟨_, rfl, Arr.of_strs h, HS.out.2.2⟩
set_option maxHeartbeats 4000000 in
set_option maxRecDepth 100000 in
theorem idleOf_any (v1 v2 : Value) (l : List Splt) (d : List Drp) (w : World) (h1 : Arr Splt.cells 4 w l v1) (h2 : Arr Drp.cells 3 w d v2) (ok : TOk l d) : Calls Tryz.prog 73 #[.agg #[v1, v2]] w
    (Ret (fun v w' => Arr strCells 1 w' (idleL l d) v) w) := by
  have HA := Lib.hid (And.intro h1 (And.intro h2 ok))
  obtain ⟨a1, cap1, rfl, hcap1, hmax1, hc1⟩ := h1
  unfold maxLen at hmax1
  have HC := Lib.hid hc1
  have hl5 := ok.s.len
  have hd5 := ok.len5
  obtain ⟨i0, hi, hz0, hz1, hz2⟩ := info_parts infoStrB
  have hbx := Blk.new w #[.slice a1 l.length cap1, v2] 29
  have HBX := Lib.hid hbx
  have b0 := hbx.cell 0 _ rfl
  clear h2 hc1 ok hbx
  go_enter Tryz.func73, Tryz.ntmps73
  go_wp2
  go_loopw [3, 9] (fun ov i wr => ∃ k : Nat, k ≤ l.length ∧ i = .int .i64 k ∧ wr.ownsRow (w.heap.size + 1) 9 1 ov (idleK l d k).length ((idleK l d k).map Value.string) ∧ Below (w.heap.size + 1) (w.alloc (.cells #[.slice a1 l.length cap1, v2] 29)) wr) (fun _ i _ => l.length - (intOf i).toNat)
  case atStart => exact ⟨0, by omega, rfl, World.ownsRow_nil _ _ _ _, Below.refl _ _⟩
  case round =>
    obtain ⟨k, hk, rfl, hown, hB⟩ := hrel
    have hsz := hB.size
    simp only [World.size_alloc] at hsz
    have hlt0 : w.heap.size < wr.heap.size := by omega
    have hbx := HBX.out.below hB (by omega)
    have p0 := hbx.cell 0 _ rfl
    have p1 := hbx.cell 1 _ rfl
    have hBw : Below w.heap.size w wr := below_at (below_alloc (Below.refl _ _) _ (Nat.le_refl _)) hB (by omega)
    have HS := Lib.hid (And.intro hown (And.intro hB hBw))
    have hil := idleK_len l d k
    clear hown hB hbx hBw
    by_cases hlt : k < l.length
    · obtain ⟨b, off, rfl, hb, hcc⟩ := HC.out k hlt
      obtain ⟨y0, y1, y2, y3⟩ := splt_at hcc
      replace y0 := (HS.out.2.2.cell (p := ⟨b, _, none⟩) hb).trans y0
      replace y1 := (HS.out.2.2.cell (p := ⟨b, _, none⟩) hb).trans y1
      replace y2 := (HS.out.2.2.cell (p := ⟨b, _, none⟩) hb).trans y2
      replace y3 := (HS.out.2.2.cell (p := ⟨b, _, none⟩) hb).trans y3
      have hX := Blk.new wr #[.string l[k].key, .int .i64 l[k].ways, .string l[k].par, .int .i64 l[k].port] 58
      have x0 := hX.cell 0 _ rfl
      have hs5 := idleK_succ (d := d) hlt
      have hem : (belowL l d l[k].key).isEmpty = decide ((belowL l d l[k].key).length = 0) := by cases belowL l d l[k].key <;> simp
      have HX := Lib.hid (And.intro hs5 hem)
      have HHX := Lib.hid hX
      clear hcc hX hs5 hem
      go_wp2_with fail
      refine (belowOf_any _ _ l d l[k].key _ (by exact HA.out.1.below (below_alloc HS.out.2.2 _ (by omega))) (by exact HA.out.2.1.below (below_alloc HS.out.2.2 _ (by omega))) HA.out.2.2).mono ?_
      rintro e w3 ⟨v, rfl, hv, hb3⟩
      have hz3 : wr.heap.size + 1 ≤ w3.heap.size := by have := hb3.size; simpa using this
      have hx3 := HHX.out.below hb3 (by simp)
      have z0 := hx3.cell 0 _ rfl
      have hB3 := below_at (below_alloc HS.out.2.1 (.cells #[.string l[k].key, .int .i64 l[k].ways, .string l[k].par, .int .i64 l[k].port] 58) (by omega)) hb3 (by simp; omega)
      have ho3 := own_below (HS.out.1.alloc (.cells #[.string l[k].key, .int .i64 l[k].ways, .string l[k].par, .int .i64 l[k].port] 58)) hb3
      have H3 := Lib.hid (And.intro ho3 hB3)
      obtain ⟨av, cv, rfl, -, hmv, -⟩ := hv
      unfold maxLen at hmv
      clear hb3 hx3 hB3 ho3 x0 y0 y1 y2 y3 p0 p1 b0
      generalize hbl : (belowL l d l[k].key).length = bl at *
      have HBL := Lib.hid hbl
      clear hbl
      by_cases h0 : bl = 0
      · subst h0
        have e0 : (belowL l d l[k].key).isEmpty = true := by rw [HX.out.2]; simp
        have e1 := HX.out.1
        rw [e0, if_pos rfl] at e1
        have HE1 := Lib.hid e1
        clear e0 e1
        go_wp2_with ((at_builtin; go_must (refine wpList_append_own _ rfl _ _ 60 rfl _ 9 _ (.string ⟨#[]⟩) 1 16 Tryz.underlying60 hi hz0 hz1 hz2 rfl (by decide) _ _ _ rfl (H3.out.1.alloc _) ⟨w3.heap.size, 0, none⟩ 1 1 [.string l[k].key] rfl rfl (by exact news_at (by first | rfl | simp) (by rfl)) (by simp [Value.oneCell']) (by unfold maxLen; omega) (by omega) (by first | omega | (simp; done) | (simp; omega)) ?_)); intro v' w6 hown6 hgrow _)
        refine ⟨⟨k + 1, by omega, by go_num, ?_, ?_⟩, by simp [intOf]; omega⟩
        · rw [HE1.out, List.length_append, List.length_singleton, List.map_append]; exact hown6
        · exact below_grown (below_alloc H3.out.2 _ (by omega)) (H3.out.1.alloc _) hgrow (Nat.le_refl _) (by simp; omega)
      · have e0 : (belowL l d l[k].key).isEmpty = false := by rw [HX.out.2]; simp [h0]
        have e1 := HX.out.1
        rw [e0, if_neg (by simp), List.append_nil] at e1
        have HE1 := Lib.hid e1
        have hne : ¬ ((bl : Int) = 0) := by omega
        clear e0 e1
        go_wp2
        refine ⟨⟨k + 1, by omega, by go_num, ?_, H3.out.2⟩, by simp [intOf]; omega⟩
        rw [HE1.out]; exact H3.out.1
    · obtain rfl : k = l.length := by omega
      go_wp2
      go_ret
      refine ⟨_, rfl, ?_, HS.out.2.2⟩
      have h := HS.out.1
      unfold idleK at h
      rw [List.take_length] at h
      exact Arr.of_strs h
end Go.Proofs.YtcecpodbmjghhaaGreat
