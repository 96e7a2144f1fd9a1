/- Walks: the checks of classes of losses, the program's and the reference's. -/
import Derived.Test.YtagpcgnlbgndmaaFuncs
import Derived.Test.YtagpcgnlbgndmaaPlainC
import Derived.Test.YtagpcgnlbgndmaaKeysR
set_option linter.unusedVariables false
set_option linter.unusedSimpArgs false
namespace Go.Proofs.Ytagpcgnlbgndmaa
open Go Go.RowKit

set_option maxHeartbeats 1000000 in
theorem clsClosP_any (y x : Class) (b : Nat) (w : World) (k : Blk w b #[.string x.key, .int .i64 x.min, .int .i64 x.max] 119) :
    Calls Try.prog 139 (#[.agg ⟨Class.cells y⟩] ++ #[.pointer (some ⟨b, 0, none⟩)]) w fun e w' => e = .returned (.bool (strB y.key x.key)) ∧ Below w.heap.size w w' := by
  have hb := k.lt
  have c0 := k.cell 0 _ rfl
  show Calls Try.prog 139 #[.agg #[.string y.key, .int .i64 y.min, .int .i64 y.max], .pointer (some ⟨b, 0, none⟩)] w _
  go_enter Try.func139, Try.ntmps139
  go_wp2
  go_ret
  exact ⟨rfl, by (repeat (first | exact Below.refl _ _ | assumption | refine below_draws ?_ _ | refine Below.drew ?_ | refine below_alloc ?_ _ (by first | omega | (simp; done) | (simp; omega)) | refine Below.setCell ?_ (by first | omega | (simp; done) | (simp; omega)) _ | refine below_at ?_ (by assumption) (by first | omega | (simp; done) | (simp; omega))))⟩

set_option maxHeartbeats 1000000 in
set_option maxRecDepth 100000 in
theorem classesFault_any (v : Value) (l : List Class) (w : World) (h : Arr Class.cells 3 w l v) : Calls Try.prog 87 #[v] w
    fun e w' => e = .returned (.int .i64 (classesF l)) ∧ Below w.heap.size w w' := by
  have h' := h
  obtain ⟨a, cap, rfl, hcap, hmax, hc⟩ := h
  have hlen : l.length ≤ maxLen := by omega
  unfold maxLen at hlen hmax
  by_cases hbig : 20 < l.length
  · go_enter Try.func87, Try.ntmps87
    go_wp2
    go_ret
    exact ⟨ret_int (by simp [classesF, hbig]), by (repeat (first | exact Below.refl _ _ | assumption | refine below_draws ?_ _ | refine Below.drew ?_ | refine below_alloc ?_ _ (by first | omega | (simp; done) | (simp; omega)) | refine Below.setCell ?_ (by first | omega | (simp; done) | (simp; omega)) _ | refine below_at ?_ (by assumption) (by first | omega | (simp; done) | (simp; omega))))⟩
  have hF := run_fn Try.func139 (by kernel_rfl) rfl
  have HF := Lib.hid hF
  clear hF
  go_enter Try.func87, Try.ntmps87
  go_wp2
  go_loopw [10] (fun i wr => ∃ k : Nat, k ≤ l.length ∧ i = .int .i64 k ∧ firstF ((clsFaults l).take k) = 0 ∧ Below w.heap.size w wr) (fun i _ => l.length - (intOf i).toNat)
  case atStart => exact ⟨0, by omega, rfl, rfl, Below.refl _ _⟩
  case round =>
    obtain ⟨k, hk, rfl, hz, hB⟩ := hrel
    have HZ := Lib.hid hz
    clear hz
    have hsz := hB.size
    by_cases hlt : k < l.length
    · have hA := (h'.below hB).take k hk
      obtain ⟨b, off, rfl, hb, hcc⟩ := hc k hlt
      obtain ⟨c0, c1, c2⟩ := class_at hcc
      replace c0 := (hB.cell (p := ⟨b, _, none⟩) hb).trans c0
      replace c1 := (hB.cell (p := ⟨b, _, none⟩) hb).trans c1
      replace c2 := (hB.cell (p := ⟨b, _, none⟩) hb).trans c2
      have hcl : k < (clsFaults l).length := by rw [clsFaults_len]; exact hlt
      have HT := Lib.hid (firstF_take_succ _ k hcl HZ.out)
      have HAt := Lib.hid (clsFaults_at l k hlt hcl)
      have HHit : Hid (clsFault (l.take k) l[k] ≠ 0 → classesF l = clsFault (l.take k) l[k]) := fun hne => by
        unfold classesF
        rw [if_neg hbig, firstF_hit _ k hcl HZ.out (by rw [HAt.out]; exact hne), HAt.out]
      have HLe : Hid (l.take k = l.take k) := rfl
      clear hc hcc
      generalize hx : l[k] = x at *
      have HX := Lib.hid hx
      clear hx
      cases hkey : keyB x.key
      · have hf : clsFault (l.take k) x = 5 := by unfold clsFault; rw [hkey]; rfl
        have HR := Lib.hid (HHit.out (by rw [hf]; decide))
        have HFv := Lib.hid hf
        clear hf
        go_wp2_with (go_at_call 133; refine (key_any _ _).mono ?_; rintro e w' ⟨rfl, rfl⟩)
        go_ret
        exact ⟨ret_int (by rw [HR.out, HFv.out]), by (repeat (first | exact Below.refl _ _ | assumption | refine below_draws ?_ _ | refine Below.drew ?_ | refine below_alloc ?_ _ (by first | omega | (simp; done) | (simp; omega)) | refine Below.setCell ?_ (by first | omega | (simp; done) | (simp; omega)) _ | refine below_at ?_ (by assumption) (by first | omega | (simp; done) | (simp; omega))))⟩
      · cases hany : (l.take k).any (fun y => strB y.key x.key)
        · have HAny := Lib.hid hany
          clear hany
          cases ho : outB x.min 0 x.max
          · by_cases hm : 10000 < x.max
            · skip
              have hf : clsFault (l.take k) x = 1 := by unfold clsFault; rw [hkey, HAny.out]; simp [ho, hm]
              have HFv := Lib.hid hf
              have HR := Lib.hid (HHit.out (by rw [hf]; decide))
              clear hf
              go_wp2_with (go_at_call 133; refine (key_any _ _).mono ?_; rintro e w' ⟨rfl, rfl⟩)
              refine (containsFunc_class _ (l.take k) (fun y => strB y.key x.key) 139 _ _ (hA.below ?_) HF.out ?_).mono ?_
              · (repeat (first | exact Below.refl _ _ | assumption | refine below_draws ?_ _ | refine Below.drew ?_ | refine below_alloc ?_ _ (by first | omega | (simp; done) | (simp; omega)) | refine Below.setCell ?_ (by first | omega | (simp; done) | (simp; omega)) _ | refine below_at ?_ (by assumption) (by first | omega | (simp; done) | (simp; omega))))
              · intro y w' _ hB'
                exact clsClosP_any y x _ w' ((Blk.new wr _ _).below hB' (by first | omega | (simp; done) | (simp; omega)))
              · rw [HAny.out]
                rintro e w1 ⟨rfl, hb1⟩
                have hc1 := bcellAt hb1 wr.heap.size (by first | omega | (simp; done) | (simp; omega))
                go_wp2_with (go_at_call 83; refine (out_any _ _ _ _).mono ?_; rintro e w' ⟨rfl, rfl⟩)
                go_ret
                exact ⟨ret_int (by rw [HR.out, HFv.out]), by (repeat (first | exact Below.refl _ _ | assumption | refine below_draws ?_ _ | refine Below.drew ?_ | refine below_alloc ?_ _ (by first | omega | (simp; done) | (simp; omega)) | refine Below.setCell ?_ (by first | omega | (simp; done) | (simp; omega)) _ | refine below_at ?_ (by assumption) (by first | omega | (simp; done) | (simp; omega))))⟩
            · skip
              have hf : clsFault (l.take k) x = 0 := by unfold clsFault; rw [hkey, HAny.out]; simp [ho, hm]
              have HFv := Lib.hid hf
            
              clear hf
              go_wp2_with (go_at_call 133; refine (key_any _ _).mono ?_; rintro e w' ⟨rfl, rfl⟩)
              refine (containsFunc_class _ (l.take k) (fun y => strB y.key x.key) 139 _ _ (hA.below ?_) HF.out ?_).mono ?_
              · (repeat (first | exact Below.refl _ _ | assumption | refine below_draws ?_ _ | refine Below.drew ?_ | refine below_alloc ?_ _ (by first | omega | (simp; done) | (simp; omega)) | refine Below.setCell ?_ (by first | omega | (simp; done) | (simp; omega)) _ | refine below_at ?_ (by assumption) (by first | omega | (simp; done) | (simp; omega))))
              · intro y w' _ hB'
                exact clsClosP_any y x _ w' ((Blk.new wr _ _).below hB' (by first | omega | (simp; done) | (simp; omega)))
              · rw [HAny.out]
                rintro e w1 ⟨rfl, hb1⟩
                have hc1 := bcellAt hb1 wr.heap.size (by first | omega | (simp; done) | (simp; omega))
                go_wp2_with (go_at_call 83; refine (out_any _ _ _ _).mono ?_; rintro e w' ⟨rfl, rfl⟩)
                exact ⟨⟨k + 1, by omega, by go_num, by rw [HT.out, HAt.out, HFv.out], by (repeat (first | exact Below.refl _ _ | assumption | refine below_draws ?_ _ | refine Below.drew ?_ | refine below_alloc ?_ _ (by first | omega | (simp; done) | (simp; omega)) | refine Below.setCell ?_ (by first | omega | (simp; done) | (simp; omega)) _ | refine below_at ?_ (by assumption) (by first | omega | (simp; done) | (simp; omega))))⟩, by simp [intOf]; omega⟩
          · skip
            have hf : clsFault (l.take k) x = 1 := by unfold clsFault; rw [hkey, HAny.out]; simp [ho]
            have HFv := Lib.hid hf
            have HR := Lib.hid (HHit.out (by rw [hf]; decide))
            clear hf
            go_wp2_with (go_at_call 133; refine (key_any _ _).mono ?_; rintro e w' ⟨rfl, rfl⟩)
            refine (containsFunc_class _ (l.take k) (fun y => strB y.key x.key) 139 _ _ (hA.below ?_) HF.out ?_).mono ?_
            · (repeat (first | exact Below.refl _ _ | assumption | refine below_draws ?_ _ | refine Below.drew ?_ | refine below_alloc ?_ _ (by first | omega | (simp; done) | (simp; omega)) | refine Below.setCell ?_ (by first | omega | (simp; done) | (simp; omega)) _ | refine below_at ?_ (by assumption) (by first | omega | (simp; done) | (simp; omega))))
            · intro y w' _ hB'
              exact clsClosP_any y x _ w' ((Blk.new wr _ _).below hB' (by first | omega | (simp; done) | (simp; omega)))
            · rw [HAny.out]
              rintro e w1 ⟨rfl, hb1⟩
              have hc1 := bcellAt hb1 wr.heap.size (by first | omega | (simp; done) | (simp; omega))
              go_wp2_with (go_at_call 83; refine (out_any _ _ _ _).mono ?_; rintro e w' ⟨rfl, rfl⟩)
              go_ret
              exact ⟨ret_int (by rw [HR.out, HFv.out]), by (repeat (first | exact Below.refl _ _ | assumption | refine below_draws ?_ _ | refine Below.drew ?_ | refine below_alloc ?_ _ (by first | omega | (simp; done) | (simp; omega)) | refine Below.setCell ?_ (by first | omega | (simp; done) | (simp; omega)) _ | refine below_at ?_ (by assumption) (by first | omega | (simp; done) | (simp; omega))))⟩
        · have hf : clsFault (l.take k) x = 6 := by unfold clsFault; rw [hkey, hany]; rfl
          have HR := Lib.hid (HHit.out (by rw [hf]; decide))
          have HFv := Lib.hid hf
          have HAny := Lib.hid hany
          clear hf hany
          go_wp2_with (go_at_call 133; refine (key_any _ _).mono ?_; rintro e w' ⟨rfl, rfl⟩)
          refine (containsFunc_class _ (l.take k) (fun y => strB y.key x.key) 139 _ _ (hA.below ?_) HF.out ?_).mono ?_
          · (repeat (first | exact Below.refl _ _ | assumption | refine below_draws ?_ _ | refine Below.drew ?_ | refine below_alloc ?_ _ (by first | omega | (simp; done) | (simp; omega)) | refine Below.setCell ?_ (by first | omega | (simp; done) | (simp; omega)) _ | refine below_at ?_ (by assumption) (by first | omega | (simp; done) | (simp; omega))))
          · intro y w' _ hB'
            exact clsClosP_any y x _ w' ((Blk.new wr _ _).below hB' (by first | omega | (simp; done) | (simp; omega)))
          · rw [HAny.out]
            rintro e w1 ⟨rfl, hb1⟩
            go_wp2
            go_ret
            exact ⟨ret_int (by rw [HR.out, HFv.out]), by (repeat (first | exact Below.refl _ _ | assumption | refine below_draws ?_ _ | refine Below.drew ?_ | refine below_alloc ?_ _ (by first | omega | (simp; done) | (simp; omega)) | refine Below.setCell ?_ (by first | omega | (simp; done) | (simp; omega)) _ | refine below_at ?_ (by assumption) (by first | omega | (simp; done) | (simp; omega))))⟩
    · go_wp2
      go_ret
      exact ⟨ret_int (by have := HZ.out; rw [List.take_of_length_le (by rw [clsFaults_len]; omega)] at this; unfold classesF; rw [if_neg hbig, this]), by (repeat (first | exact Below.refl _ _ | assumption | refine below_draws ?_ _ | refine Below.drew ?_ | refine below_alloc ?_ _ (by first | omega | (simp; done) | (simp; omega)) | refine Below.setCell ?_ (by first | omega | (simp; done) | (simp; omega)) _ | refine below_at ?_ (by assumption) (by first | omega | (simp; done) | (simp; omega))))⟩

set_option maxHeartbeats 1000000 in
theorem clsClosR_any (y x : Class) (b : Nat) (w : World) (k : Blk w b #[.string x.key, .int .i64 x.min, .int .i64 x.max] 119) :
    Calls Try.prog 89 (#[.agg ⟨Class.cells y⟩] ++ #[.pointer (some ⟨b, 0, none⟩)]) w fun e w' => e = .returned (.bool (strB y.key x.key)) ∧ Below w.heap.size w w' := by
  have hb := k.lt
  have c0 := k.cell 0 _ rfl
  show Calls Try.prog 89 #[.agg #[.string y.key, .int .i64 y.min, .int .i64 y.max], .pointer (some ⟨b, 0, none⟩)] w _
  go_enter Try.func89, Try.ntmps89
  go_wp2
  go_ret
  exact ⟨rfl, by (repeat (first | exact Below.refl _ _ | assumption | refine below_draws ?_ _ | refine Below.drew ?_ | refine below_alloc ?_ _ (by first | omega | (simp; done) | (simp; omega)) | refine Below.setCell ?_ (by first | omega | (simp; done) | (simp; omega)) _ | refine below_at ?_ (by assumption) (by first | omega | (simp; done) | (simp; omega))))⟩

set_option maxHeartbeats 1000000 in
set_option maxRecDepth 100000 in
theorem rclassesFault_any (v : Value) (l : List Class) (w : World) (h : Arr Class.cells 3 w l v) : Calls Try.prog 29 #[v] w
    fun e w' => e = .returned (.int .i64 (classesF l)) ∧ Below w.heap.size w w' := by
  have h' := h
  obtain ⟨a, cap, rfl, hcap, hmax, hc⟩ := h
  have hlen : l.length ≤ maxLen := by omega
  unfold maxLen at hlen hmax
  by_cases hbig : 20 < l.length
  · go_enter Try.func29, Try.ntmps29
    go_wp2
    go_ret
    exact ⟨ret_int (by simp [classesF, hbig]), by (repeat (first | exact Below.refl _ _ | assumption | refine below_draws ?_ _ | refine Below.drew ?_ | refine below_alloc ?_ _ (by first | omega | (simp; done) | (simp; omega)) | refine Below.setCell ?_ (by first | omega | (simp; done) | (simp; omega)) _ | refine below_at ?_ (by assumption) (by first | omega | (simp; done) | (simp; omega))))⟩
  have hF := run_fn Try.func89 (by kernel_rfl) rfl
  have HF := Lib.hid hF
  clear hF
  go_enter Try.func29, Try.ntmps29
  go_wp2
  go_loopw [10] (fun i wr => ∃ k : Nat, k ≤ l.length ∧ i = .int .i64 k ∧ firstF ((clsFaults l).take k) = 0 ∧ Below w.heap.size w wr) (fun i _ => l.length - (intOf i).toNat)
  case atStart => exact ⟨0, by omega, rfl, rfl, Below.refl _ _⟩
  case round =>
    obtain ⟨k, hk, rfl, hz, hB⟩ := hrel
    have HZ := Lib.hid hz
    clear hz
    have hsz := hB.size
    by_cases hlt : k < l.length
    · have hA := (h'.below hB).take k hk
      obtain ⟨b, off, rfl, hb, hcc⟩ := hc k hlt
      obtain ⟨c0, c1, c2⟩ := class_at hcc
      replace c0 := (hB.cell (p := ⟨b, _, none⟩) hb).trans c0
      replace c1 := (hB.cell (p := ⟨b, _, none⟩) hb).trans c1
      replace c2 := (hB.cell (p := ⟨b, _, none⟩) hb).trans c2
      have hcl : k < (clsFaults l).length := by rw [clsFaults_len]; exact hlt
      have HT := Lib.hid (firstF_take_succ _ k hcl HZ.out)
      have HAt := Lib.hid (clsFaults_at l k hlt hcl)
      have HHit : Hid (clsFault (l.take k) l[k] ≠ 0 → classesF l = clsFault (l.take k) l[k]) := fun hne => by
        unfold classesF
        rw [if_neg hbig, firstF_hit _ k hcl HZ.out (by rw [HAt.out]; exact hne), HAt.out]
      have HLe : Hid (l.take k = l.take k) := rfl
      clear hc hcc
      generalize hx : l[k] = x at *
      have HX := Lib.hid hx
      clear hx
      cases hkey : keyB x.key
      · have hf : clsFault (l.take k) x = 5 := by unfold clsFault; rw [hkey]; rfl
        have HR := Lib.hid (HHit.out (by rw [hf]; decide))
        have HFv := Lib.hid hf
        clear hf
        go_wp2_with (go_at_call 47; refine (rkey_any _ _).mono ?_; rintro e w' ⟨rfl, rfl⟩)
        go_ret
        exact ⟨ret_int (by rw [HR.out, HFv.out]), by (repeat (first | exact Below.refl _ _ | assumption | refine below_draws ?_ _ | refine Below.drew ?_ | refine below_alloc ?_ _ (by first | omega | (simp; done) | (simp; omega)) | refine Below.setCell ?_ (by first | omega | (simp; done) | (simp; omega)) _ | refine below_at ?_ (by assumption) (by first | omega | (simp; done) | (simp; omega))))⟩
      · cases hany : (l.take k).any (fun y => strB y.key x.key)
        · have HAny := Lib.hid hany
          clear hany
          cases ho : outB x.min 0 10000
          · cases ho2 : outB x.max x.min 10000
            · skip
              have hf : clsFault (l.take k) x = 0 := by unfold clsFault; rw [hkey, HAny.out]; (have q1 := outB_false.1 ho; have q2 := outB_false.1 ho2; unfold outB; simp; omega)
              have HFv := Lib.hid hf
            
              clear hf
              go_wp2_with (go_at_call 47; refine (rkey_any _ _).mono ?_; rintro e w' ⟨rfl, rfl⟩)
              refine (containsFunc_class _ (l.take k) (fun y => strB y.key x.key) 89 _ _ (hA.below ?_) HF.out ?_).mono ?_
              · (repeat (first | exact Below.refl _ _ | assumption | refine below_draws ?_ _ | refine Below.drew ?_ | refine below_alloc ?_ _ (by first | omega | (simp; done) | (simp; omega)) | refine Below.setCell ?_ (by first | omega | (simp; done) | (simp; omega)) _ | refine below_at ?_ (by assumption) (by first | omega | (simp; done) | (simp; omega))))
              · intro y w' _ hB'
                exact clsClosR_any y x _ w' ((Blk.new wr _ _).below hB' (by first | omega | (simp; done) | (simp; omega)))
              · rw [HAny.out]
                rintro e w1 ⟨rfl, hb1⟩
                have hc1 := bcellAt hb1 wr.heap.size (by first | omega | (simp; done) | (simp; omega))
                go_wp2_with (go_at_call 80; refine (rin_any _ _ _ _).mono ?_; rintro e w' ⟨rfl, rfl⟩)
                exact ⟨⟨k + 1, by omega, by go_num, by rw [HT.out, HAt.out, HFv.out], by (repeat (first | exact Below.refl _ _ | assumption | refine below_draws ?_ _ | refine Below.drew ?_ | refine below_alloc ?_ _ (by first | omega | (simp; done) | (simp; omega)) | refine Below.setCell ?_ (by first | omega | (simp; done) | (simp; omega)) _ | refine below_at ?_ (by assumption) (by first | omega | (simp; done) | (simp; omega))))⟩, by simp [intOf]; omega⟩
            · skip
              have hf : clsFault (l.take k) x = 1 := by unfold clsFault; rw [hkey, HAny.out]; (have q1 := outB_false.1 ho; have q2 := outB_true.1 ho2; unfold outB; simp; omega)
              have HFv := Lib.hid hf
              have HR := Lib.hid (HHit.out (by rw [hf]; decide))
              clear hf
              go_wp2_with (go_at_call 47; refine (rkey_any _ _).mono ?_; rintro e w' ⟨rfl, rfl⟩)
              refine (containsFunc_class _ (l.take k) (fun y => strB y.key x.key) 89 _ _ (hA.below ?_) HF.out ?_).mono ?_
              · (repeat (first | exact Below.refl _ _ | assumption | refine below_draws ?_ _ | refine Below.drew ?_ | refine below_alloc ?_ _ (by first | omega | (simp; done) | (simp; omega)) | refine Below.setCell ?_ (by first | omega | (simp; done) | (simp; omega)) _ | refine below_at ?_ (by assumption) (by first | omega | (simp; done) | (simp; omega))))
              · intro y w' _ hB'
                exact clsClosR_any y x _ w' ((Blk.new wr _ _).below hB' (by first | omega | (simp; done) | (simp; omega)))
              · rw [HAny.out]
                rintro e w1 ⟨rfl, hb1⟩
                have hc1 := bcellAt hb1 wr.heap.size (by first | omega | (simp; done) | (simp; omega))
                go_wp2_with (go_at_call 80; refine (rin_any _ _ _ _).mono ?_; rintro e w' ⟨rfl, rfl⟩)
                go_ret
                exact ⟨ret_int (by rw [HR.out, HFv.out]), by (repeat (first | exact Below.refl _ _ | assumption | refine below_draws ?_ _ | refine Below.drew ?_ | refine below_alloc ?_ _ (by first | omega | (simp; done) | (simp; omega)) | refine Below.setCell ?_ (by first | omega | (simp; done) | (simp; omega)) _ | refine below_at ?_ (by assumption) (by first | omega | (simp; done) | (simp; omega))))⟩
          · skip
            have hf : clsFault (l.take k) x = 1 := by unfold clsFault; rw [hkey, HAny.out]; (have q1 := outB_true.1 ho; unfold outB; simp; omega)
            have HFv := Lib.hid hf
            have HR := Lib.hid (HHit.out (by rw [hf]; decide))
            clear hf
            go_wp2_with (go_at_call 47; refine (rkey_any _ _).mono ?_; rintro e w' ⟨rfl, rfl⟩)
            refine (containsFunc_class _ (l.take k) (fun y => strB y.key x.key) 89 _ _ (hA.below ?_) HF.out ?_).mono ?_
            · (repeat (first | exact Below.refl _ _ | assumption | refine below_draws ?_ _ | refine Below.drew ?_ | refine below_alloc ?_ _ (by first | omega | (simp; done) | (simp; omega)) | refine Below.setCell ?_ (by first | omega | (simp; done) | (simp; omega)) _ | refine below_at ?_ (by assumption) (by first | omega | (simp; done) | (simp; omega))))
            · intro y w' _ hB'
              exact clsClosR_any y x _ w' ((Blk.new wr _ _).below hB' (by first | omega | (simp; done) | (simp; omega)))
            · rw [HAny.out]
              rintro e w1 ⟨rfl, hb1⟩
              have hc1 := bcellAt hb1 wr.heap.size (by first | omega | (simp; done) | (simp; omega))
              go_wp2_with (go_at_call 80; refine (rin_any _ _ _ _).mono ?_; rintro e w' ⟨rfl, rfl⟩)
              go_ret
              exact ⟨ret_int (by rw [HR.out, HFv.out]), by (repeat (first | exact Below.refl _ _ | assumption | refine below_draws ?_ _ | refine Below.drew ?_ | refine below_alloc ?_ _ (by first | omega | (simp; done) | (simp; omega)) | refine Below.setCell ?_ (by first | omega | (simp; done) | (simp; omega)) _ | refine below_at ?_ (by assumption) (by first | omega | (simp; done) | (simp; omega))))⟩
        · have hf : clsFault (l.take k) x = 6 := by unfold clsFault; rw [hkey, hany]; rfl
          have HR := Lib.hid (HHit.out (by rw [hf]; decide))
          have HFv := Lib.hid hf
          have HAny := Lib.hid hany
          clear hf hany
          go_wp2_with (go_at_call 47; refine (rkey_any _ _).mono ?_; rintro e w' ⟨rfl, rfl⟩)
          refine (containsFunc_class _ (l.take k) (fun y => strB y.key x.key) 89 _ _ (hA.below ?_) HF.out ?_).mono ?_
          · (repeat (first | exact Below.refl _ _ | assumption | refine below_draws ?_ _ | refine Below.drew ?_ | refine below_alloc ?_ _ (by first | omega | (simp; done) | (simp; omega)) | refine Below.setCell ?_ (by first | omega | (simp; done) | (simp; omega)) _ | refine below_at ?_ (by assumption) (by first | omega | (simp; done) | (simp; omega))))
          · intro y w' _ hB'
            exact clsClosR_any y x _ w' ((Blk.new wr _ _).below hB' (by first | omega | (simp; done) | (simp; omega)))
          · rw [HAny.out]
            rintro e w1 ⟨rfl, hb1⟩
            go_wp2
            go_ret
            exact ⟨ret_int (by rw [HR.out, HFv.out]), by (repeat (first | exact Below.refl _ _ | assumption | refine below_draws ?_ _ | refine Below.drew ?_ | refine below_alloc ?_ _ (by first | omega | (simp; done) | (simp; omega)) | refine Below.setCell ?_ (by first | omega | (simp; done) | (simp; omega)) _ | refine below_at ?_ (by assumption) (by first | omega | (simp; done) | (simp; omega))))⟩
    · go_wp2
      go_ret
      exact ⟨ret_int (by have := HZ.out; rw [List.take_of_length_le (by rw [clsFaults_len]; omega)] at this; unfold classesF; rw [if_neg hbig, this]), by (repeat (first | exact Below.refl _ _ | assumption | refine below_draws ?_ _ | refine Below.drew ?_ | refine below_alloc ?_ _ (by first | omega | (simp; done) | (simp; omega)) | refine Below.setCell ?_ (by first | omega | (simp; done) | (simp; omega)) _ | refine below_at ?_ (by assumption) (by first | omega | (simp; done) | (simp; omega))))⟩
end Go.Proofs.Ytagpcgnlbgndmaa
