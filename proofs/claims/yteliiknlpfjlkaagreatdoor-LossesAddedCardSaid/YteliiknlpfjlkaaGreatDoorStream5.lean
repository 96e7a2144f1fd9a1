/- Walks of the stream: what draws powers. (Written by genopt.py from opt.head.) -/
import Derived.Test.YteliiknlpfjlkaaGreatDoorStreamL
import Derived.Test.YteliiknlpfjlkaaGreatDoorOrders
set_option linter.unusedVariables false
set_option linter.unusedSimpArgs false
namespace Go.Proofs.YteliiknlpfjlkaaGreatDoor
open Go Go.RowKit

def OptIs (v : Value) (_ : World) : Prop := ∃ o : Optics, v = .agg #[.int .i64 o.launch, .int .i64 o.least, .int .i64 o.most]


theorem genLit {C : World → Prop} {W : World} {cs : Array Value} {t : TypeId} (s n : Nat) (l : List Int) (hcs : cs.toList = l.map (Value.int .i64)) (hn : n = l.length) (hl : l.length ≤ 1000000)
    (h : ∀ W', W.grownBy W' (some s) → (∀ m, Strm W s m → Strm W' s m) → Arr intCells 1 W' l (.slice (some ⟨W.heap.size, 0, none⟩) n n) → C W') : C (W.alloc (.cells cs t)) :=
  h _ (World.grownBy_alloc W _ _) (fun _ hs => hs.alloc _) (arr_ints_lit rfl hn hcs hl)
theorem slice_ne {s q k : Nat} (h : s < q) : ∀ n cap off, Value.slice (some ⟨q, 0, none⟩) k k ≠ .slice (some ⟨s, off, none⟩) n cap := by
  intro n cap off e
  simp only [Value.slice.injEq, Option.some.injEq, Addr.mk.injEq] at e
  omega

/-- the state behind the first draws -/
structure OptSt (s m : Nat) (w : World) (b : Nat) (W : World) (a0 a1 a2 : Int) : Prop where
  st : Strm W s m
  gr : w.grownBy W (some s)
  z : Blk W w.heap.size #[.int .i64 0, .int .i64 0, .int .i64 0] 32
  x : Blk W b #[.int .i64 a0, .int .i64 a1, .int .i64 a2] 32
  l1 : s < w.heap.size
  l2 : s < b
theorem OptSt.step {s m m' : Nat} {w W W' : World} {b : Nat} {a0 a1 a2 : Int} (h : OptSt s m w b W a0 a1 a2) (hs : Strm W' s m') (hg : W.grownBy W' (some s)) : OptSt s m' w b W' a0 a1 a2 :=
  ⟨hs, grown_trans h.gr hg, h.z.grown hg (by have := h.l1; simp; omega), h.x.grown hg (by have := h.l2; simp; omega), h.l1, h.l2⟩
theorem OptSt.s {s m : Nat} {w W : World} {b : Nat} {a0 a1 a2 : Int} (h : OptSt s m w b W a0 a1 a2) : W.cell? ⟨b, 1, none⟩ = some (.int .i64 a1) ∧ W.cell? ⟨b, 2, none⟩ = some (.int .i64 a2) := ⟨h.x.cell 1 _ rfl, h.x.cell 2 _ rfl⟩


set_option maxHeartbeats 8000000 in
set_option maxRecDepth 100000 in
theorem opticsOf_any (s m : Nat) (w : World) (h : Strm w s m) (hm : m ≤ 1000000) : Calls Tryz.prog 9 #[.pointer (some ⟨s, 0, none⟩)] w
    (Draw OptIs s m 9 w) := by
  have hl := h.lt
  go_enter Tryz.func9, Tryz.ntmps9
  go_wp2_with fail
  refine (pick_lit s (m) [200, 500, 0] _ (h.alloc _) (by omega) (by simp) (by simp) (by first | rfl | simp) (by rfl) (by rfl)).mono ?_
  rintro e w1 ⟨v, rfl, ⟨r1, rfl, hr1⟩, hs1, hg1⟩
  go_wp2_with fail
  refine (pick_lit s (m + 1) [-2800, -1000, -300, -2000] _ (hs1) (by omega) (by simp) (by simp) (by first | rfl | simp) (by rfl) (by rfl)).mono ?_
  rintro e w2 ⟨v, rfl, ⟨r2, rfl, hr2⟩, hs2, hg2⟩
  go_wp2_with fail
  refine (pick_lit s (m + 1 + 1) [-800, -100, 500] _ (hs2) (by omega) (by simp) (by simp) (by first | rfl | simp) (by rfl) (by rfl)).mono ?_
  rintro e w3 ⟨v, rfl, ⟨r3, rfl, hr3⟩, hs3, hg3⟩
  have l1 := hg1.size
  have l2 := hg2.size
  have l3 := hg3.size
  simp only [World.size_alloc] at l1
  have hz : Blk w3 w.heap.size #[.int .i64 0, .int .i64 0, .int .i64 0] 32 := ((((Blk.new w _ _).grown hg1 (by simp; omega)).grown hg2 (by simp; omega)).grown hg3 (by simp; omega))
  have hg03 : w.grownBy w3 (some s) := grown_trans (World.grownBy_alloc w _ _) (grown_trans hg1 (grown_trans hg2 hg3))
  have hne : w.heap.size < w3.heap.size := by omega
  have b2 : -3000 ≤ r2 ∧ r2 ≤ 0 := by simp only [List.mem_cons, List.not_mem_nil, or_false] at hr2; omega
  obtain ⟨b21, b22⟩ := b2
  have hS0 : ∀ c : Int, OptSt s (m + 1 + 1 + 1) w w3.heap.size (w3.alloc (.cells #[.int .i64 r1, .int .i64 r2, .int .i64 c] 32)) r1 r2 c := fun c => ⟨hs3.alloc _, grown_alloc hg03 _, hz.alloc _, Blk.new w3 _ _, hl, by omega⟩
  have HS0 := Lib.hid (hS0 r3)
  have HS1 := Lib.hid (hS0 r2)
  clear hz hg03 hg1 hg2 hg3 hs1 hs2 hs3 l1 l2 l3 hr1 hr2 hr3 hS0
  have n1 := HS0.out.x.cell 1 _ rfl
  have n2 := HS0.out.x.cell 2 _ rfl
  have nf := fun o => HS0.out.x.free o
  generalize hb : w3.heap.size = b at *
  have hneb : w.heap.size ≤ b := by omega
  by_cases hlt : r3 < r2
  · go_wp2_with fail
    refine (flip_any s (m + 1 + 1 + 1) _ _ HS1.out.st (by omega) (by omega) (by omega)).mono ?_
    rintro e w6 ⟨v, rfl, ⟨fb, rfl⟩, hs6, hg6⟩
    have HS := Lib.hid (HS1.out.step hs6 hg6)
    clear hs6 hg6 HS1 n1 n2 nf
    cases fb
    · have x0 := HS.out.x.cell 0 _ rfl
      have x1 := HS.out.x.cell 1 _ rfl
      have x2 := HS.out.x.cell 2 _ rfl
      have z0 := HS.out.z.cell 0 _ rfl
      have z1 := HS.out.z.cell 1 _ rfl
      have z2 := HS.out.z.cell 2 _ rfl
      have zf := fun o => HS.out.z.free o
      go_wp2
      refine bodyPost_ret (v := .agg #[.int .i64 r1, .int .i64 r2, .int .i64 r2]) ?_ rfl ⟨_, rfl, ⟨⟨r1, r2, r2⟩, rfl⟩, ?_, ?_⟩
      · simp [results, go_sem, z0, z1, z2]
      · exact (((HS.out.st.mono (by omega)).setOther (by omega) _ _).setOther (by omega) _ _).setOther (by omega) _ _
      · exact grown_setOwn (grown_setOwn (grown_setOwn HS.out.gr (Nat.le_refl _) _ _) (Nat.le_refl _) _ _) (Nat.le_refl _) _ _
    · have w1' : IntKind.i64.wrap (r2 - 1) = r2 - 1 := IntWalk.i64_in _ (by omega)
      go_wp2_with fail
      have SW0 : OptSt s (m + 1 + 1 + 1 + 1) w b w6.drew r1 r2 r2 := ⟨HS.out.st.drew, grown_drew HS.out.gr, HS.out.z.drew, HS.out.x.drew, HS.out.l1, HS.out.l2⟩
      clear HS
      have HS := Lib.hid SW0
      refine WalkT.start (fun w' => w'.cell? ⟨b, 1, none⟩ = some (.int .i64 r2) ∧ w'.cell? ⟨b, 2, none⟩ = some (.int .i64 r2)) [16, 18, 20] (by kernel_rfl) ?_
      generalize w6.drew = W0 at *
      refine WalkT.quiet (i := 0) (v := ?_) rfl (by kernel_rfl) (by kernel_rfl) (by kernel_rfl) (fun _ _ _ h => h) (Or.inl ⟨by rfl, ?_⟩) ?_
      rotate_left
      · (intro wS hSw; (try dsimp only at hSw); go_simp; try with_reducible rfl)
      try simp only [Act.put, List.setIfInBounds_toArray, List.set_cons_zero, List.set_cons_succ]
      refine WalkT.quiet (i := 2) (v := ?_) rfl (by kernel_rfl) (by kernel_rfl) (by kernel_rfl) (fun _ _ _ h => h) (Or.inl ⟨by rfl, ?_⟩) ?_
      rotate_left
      · (intro wS hSw; (try dsimp only at hSw); go_simp; try with_reducible rfl)
      try simp only [Act.put, List.setIfInBounds_toArray, List.set_cons_zero, List.set_cons_succ]
      refine WalkT.quiet (i := 3) (v := ?_) rfl (by kernel_rfl) (by kernel_rfl) (by kernel_rfl) (fun _ _ _ h => h) (Or.inl ⟨by rfl, ?_⟩) ?_
      rotate_left
      · (intro wS hSw; (try dsimp only at hSw); go_simp; try with_reducible rfl)
      try simp only [Act.put, List.setIfInBounds_toArray, List.set_cons_zero, List.set_cons_succ]
      refine WalkT.take (i := 4) (v := ?_) rfl (by kernel_rfl) (by kernel_rfl) (by kernel_rfl) (by kernel_rfl) (fun _ _ _ h => h) HS.out.s (Or.inl ⟨by rfl, ?_⟩) ?_
      rotate_left
      · (intro wS hSw; (try dsimp only at hSw); go_simp; try with_reducible rfl)
      try simp only [Act.put, List.setIfInBounds_toArray, List.set_cons_zero, List.set_cons_succ]
      refine WalkT.quiet (i := 7) (v := ?_) rfl (by kernel_rfl) (by kernel_rfl) (by kernel_rfl) (fun _ _ _ h => h) (Or.inl ⟨by rfl, ?_⟩) ?_
      rotate_left
      · (intro wS hSw; (try dsimp only at hSw); go_simp; try with_reducible rfl)
      try simp only [Act.put, List.setIfInBounds_toArray, List.set_cons_zero, List.set_cons_succ]
      refine WalkT.quiet (i := 8) (v := ?_) rfl (by kernel_rfl) (by kernel_rfl) (by kernel_rfl) (fun _ _ _ h => h) (Or.inl ⟨by rfl, ?_⟩) ?_
      rotate_left
      · (intro wS hSw; (try dsimp only at hSw); go_simp; try with_reducible rfl)
      try simp only [Act.put, List.setIfInBounds_toArray, List.set_cons_zero, List.set_cons_succ]
      refine WalkT.take (i := 9) (v := ?_) rfl (by kernel_rfl) (by kernel_rfl) (by kernel_rfl) (by kernel_rfl) (fun _ _ _ h => h) HS.out.s (Or.inl ⟨by rfl, ?_⟩) ?_
      rotate_left
      · (intro wS hSw; (try dsimp only at hSw); go_simp; try with_reducible rfl)
      try simp only [Act.put, List.setIfInBounds_toArray, List.set_cons_zero, List.set_cons_succ]
      refine WalkT.quiet (i := 10) (v := ?_) rfl (by kernel_rfl) (by kernel_rfl) (by kernel_rfl) (fun _ _ _ h => h) (Or.inl ⟨by rfl, ?_⟩) ?_
      rotate_left
      · (intro wS hSw; (try dsimp only at hSw); go_simp; try with_reducible rfl)
      try simp only [Act.put, List.setIfInBounds_toArray, List.set_cons_zero, List.set_cons_succ]
      refine WalkT.take (i := 11) (v := ?_) rfl (by kernel_rfl) (by kernel_rfl) (by kernel_rfl) (by kernel_rfl) (fun _ _ _ h => h) HS.out.s (Or.inl ⟨by rfl, ?_⟩) ?_
      rotate_left
      · (intro wS hSw; (try dsimp only at hSw); go_simp; try with_reducible rfl)
      try simp only [Act.put, List.setIfInBounds_toArray, List.set_cons_zero, List.set_cons_succ]
      refine WalkT.quiet (i := 12) (v := ?_) rfl (by kernel_rfl) (by kernel_rfl) (by kernel_rfl) (fun _ _ _ h => h) (Or.inl ⟨by rfl, ?_⟩) ?_
      rotate_left
      · (intro wS hSw; (try dsimp only at hSw); go_simp; try with_reducible rfl)
      try simp only [Act.put, List.setIfInBounds_toArray, List.set_cons_zero, List.set_cons_succ]
      refine WalkT.ready (rs := [1, 5, 13]) (by kernel_rfl) (by simp) ?_
      refine AllT.cons rfl (fun K hK => ?_) ?_
      · go_simp
        go_wp2_with (go_at_call 46; refine (odd_any s (m + 1 + 1 + 1 + 1) (-10000) 10000 _ SW0.st (by omega) (by omega) (by omega) (by omega)).mono ?_; rintro e W1 ⟨v, rfl, ⟨rO, rfl, -⟩, tW1, gW1⟩)
        have SW1 := SW0.step tW1 gW1
        refine hK.out _ _ (fun _ _ => SW1.s) ?_
        clear hK K SW0 gW1 tW1
        try simp only [Act.put, List.setIfInBounds_toArray, List.set_cons_zero, List.set_cons_succ]
        refine WalkT.quiet (i := 15) (v := ?_) rfl (by kernel_rfl) (by kernel_rfl) (by kernel_rfl) (fun _ _ _ h => h) (Or.inl ⟨by rfl, ?_⟩) ?_
        rotate_left
        · (intro wS hSw; (try dsimp only at hSw); go_simp; try with_reducible rfl)
        try simp only [Act.put, List.setIfInBounds_toArray, List.set_cons_zero, List.set_cons_succ]
        refine WalkT.ready (rs := [5, 13]) (by kernel_rfl) (by simp) ?_
        refine AllT.cons rfl (fun K hK => ?_) ?_
        · go_simp
          refine genLit (C := fun W' => K _ W') s 2 [r2, -10001] (by rfl) (by rfl) (by simp) ?_
          intro W2 gW2 tW2 AW2
          have SW2 := SW1.step (tW2 _ SW1.st) gW2
          have qW2 : s < W1.heap.size := SW1.st.lt
          refine hK.out _ _ (fun _ _ => SW2.s) ?_
          clear hK K SW1 gW2 tW2
          try simp only [Act.put, List.setIfInBounds_toArray, List.set_cons_zero, List.set_cons_succ]
          refine WalkT.ready (rs := [6, 13]) (by kernel_rfl) (by simp) ?_
          refine AllT.cons rfl (fun K hK => ?_) ?_
          · go_simp
            go_wp2_with (go_at_call 44; refine (pick_any s (m + 1 + 1 + 1 + 1 + 2) _ [r2, -10001] _ SW2.st (by omega) AW2 (by simp) (by simp) (slice_ne qW2)).mono ?_; rintro e W3 ⟨v, rfl, ⟨rA, rfl, -⟩, tW3, gW3⟩)
            have SW3 := SW2.step tW3 gW3
            have BW3_5 := Arr.grown AW2 gW3 (Nat.ne_of_gt qW2)
            refine hK.out _ _ (fun _ _ => SW3.s) ?_
            clear hK K SW2 gW3 tW3 AW2
            try simp only [Act.put, List.setIfInBounds_toArray, List.set_cons_zero, List.set_cons_succ]
            refine WalkT.ready (rs := [13]) (by kernel_rfl) (by simp) ?_
            refine AllT.cons rfl (fun K hK => ?_) ?_
            · go_simp
              refine genLit (C := fun W' => K _ W') s 3 [r2, r2 - 1, 10001] (by rfl) (by rfl) (by simp) ?_
              intro W4 gW4 tW4 AW4
              have SW4 := SW3.step (tW4 _ SW3.st) gW4
              have qW4 : s < W3.heap.size := SW3.st.lt
              have BW4_5 := Arr.grown BW3_5 gW4 (Nat.ne_of_gt qW2)
              refine hK.out _ _ (fun _ _ => SW4.s) ?_
              clear hK K SW3 gW4 tW4 BW3_5
              try simp only [Act.put, List.setIfInBounds_toArray, List.set_cons_zero, List.set_cons_succ]
              refine WalkT.ready (rs := [14]) (by kernel_rfl) (by simp) ?_
              refine AllT.cons rfl (fun K hK => ?_) ?_
              · go_simp
                go_wp2_with (go_at_call 44; refine (pick_any s (m + 1 + 1 + 1 + 1 + 2 + 1) _ [r2, r2 - 1, 10001] _ SW4.st (by omega) AW4 (by simp) (by simp) (slice_ne qW4)).mono ?_; rintro e W5 ⟨v, rfl, ⟨rB, rfl, -⟩, tW5, gW5⟩)
                have SW5 := SW4.step tW5 gW5
                have BW5_5 := Arr.grown BW4_5 gW5 (Nat.ne_of_gt qW2)
                have BW5_13 := Arr.grown AW4 gW5 (Nat.ne_of_gt qW4)
                refine hK.out _ _ (fun _ _ => SW5.s) ?_
                clear hK K SW4 gW5 tW5 BW4_5 AW4
                try simp only [Act.put, List.setIfInBounds_toArray, List.set_cons_zero, List.set_cons_succ]
                have x0 := SW5.x.cell 0 _ rfl
                have x1 := SW5.x.cell 1 _ rfl
                have x2 := SW5.x.cell 2 _ rfl
                have xf := fun o => SW5.x.free o
                have z0 := SW5.z.cell 0 _ rfl
                have z1 := SW5.z.cell 1 _ rfl
                have z2 := SW5.z.cell 2 _ rfl
                have zf := fun o => SW5.z.free o
                have SF := Lib.hid SW5
                clear SW5
                refine WalkT.ready (rs := [16]) (by kernel_rfl) (by simp) (AllT.cons rfl (fun K hK => ?_) AllT.nil)
                go_simp
                refine hK.out _ _ (fun h => absurd h (by decide)) ?_
                clear hK K
                try simp only [Act.put, List.setIfInBounds_toArray, List.set_cons_zero, List.set_cons_succ]
                refine WalkT.quiet (i := 17) (v := ?_) rfl (by kernel_rfl) (by kernel_rfl) (by kernel_rfl) (fun _ _ _ h => h) (Or.inl ⟨by rfl, ?_⟩) ?_
                rotate_left
                · (intro wS hSw; (try dsimp only at hSw); go_simp; try with_reducible rfl)
                try simp only [Act.put, List.setIfInBounds_toArray, List.set_cons_zero, List.set_cons_succ]
                refine WalkT.ready (rs := [18]) (by kernel_rfl) (by simp) (AllT.cons rfl (fun K hK => ?_) AllT.nil)
                go_simp
                refine hK.out _ _ (fun h => absurd h (by decide)) ?_
                clear hK K
                try simp only [Act.put, List.setIfInBounds_toArray, List.set_cons_zero, List.set_cons_succ]
                refine WalkT.quiet (i := 19) (v := ?_) rfl (by kernel_rfl) (by kernel_rfl) (by kernel_rfl) (fun _ _ _ h => h) (Or.inl ⟨by rfl, ?_⟩) ?_
                rotate_left
                · (intro wS hSw; (try dsimp only at hSw); go_simp; try with_reducible rfl)
                try simp only [Act.put, List.setIfInBounds_toArray, List.set_cons_zero, List.set_cons_succ]
                refine WalkT.ready (rs := [20]) (by kernel_rfl) (by simp) (AllT.cons rfl (fun K hK => ?_) AllT.nil)
                go_simp
                refine hK.out _ _ (fun h => absurd h (by decide)) ?_
                clear hK K
                try simp only [Act.put, List.setIfInBounds_toArray, List.set_cons_zero, List.set_cons_succ]
                refine WalkT.done (by kernel_rfl) ?_
                go_wp2
                refine bodyPost_ret (v := .agg #[.int .i64 rO, .int .i64 rA, .int .i64 rB]) ?_ rfl ⟨_, rfl, ⟨⟨rO, rA, rB⟩, rfl⟩, ?_, ?_⟩
                · simp [results, go_sem, z0, z1, z2]
                · exact (((((((SF.out.st.mono (by omega)).setOther SF.out.l2 _ _).setOther SF.out.l2 _ _).setOther SF.out.l2 _ _).setOther SF.out.l1 _ _).setOther SF.out.l1 _ _).setOther SF.out.l1 _ _)
                · exact grown_setOwn (grown_setOwn (grown_setOwn (grown_setOwn (grown_setOwn (grown_setOwn SF.out.gr hneb _ _) hneb _ _) hneb _ _) (Nat.le_refl _) _ _) (Nat.le_refl _) _ _) (Nat.le_refl _) _ _
              exact AllT.nil
            exact AllT.nil
          refine AllT.cons rfl (fun K hK => ?_) ?_
          · go_simp
            refine genLit (C := fun W' => K _ W') s 3 [r2, r2 - 1, 10001] (by rfl) (by rfl) (by simp) ?_
            intro W6 gW6 tW6 AW6
            have SW6 := SW2.step (tW6 _ SW2.st) gW6
            have qW6 : s < W2.heap.size := SW2.st.lt
            have BW6_5 := Arr.grown AW2 gW6 (Nat.ne_of_gt qW2)
            refine hK.out _ _ (fun _ _ => SW6.s) ?_
            clear hK K SW2 gW6 tW6 AW2
            try simp only [Act.put, List.setIfInBounds_toArray, List.set_cons_zero, List.set_cons_succ]
            refine WalkT.ready (rs := [6]) (by kernel_rfl) (by simp) ?_
            refine AllT.cons rfl (fun K hK => ?_) ?_
            · go_simp
              go_wp2_with (go_at_call 44; refine (pick_any s (m + 1 + 1 + 1 + 1 + 2) _ [r2, -10001] _ SW6.st (by omega) BW6_5 (by simp) (by simp) (slice_ne qW2)).mono ?_; rintro e W7 ⟨v, rfl, ⟨rA, rfl, -⟩, tW7, gW7⟩)
              have SW7 := SW6.step tW7 gW7
              have BW7_5 := Arr.grown BW6_5 gW7 (Nat.ne_of_gt qW2)
              have BW7_13 := Arr.grown AW6 gW7 (Nat.ne_of_gt qW6)
              refine hK.out _ _ (fun _ _ => SW7.s) ?_
              clear hK K SW6 gW7 tW7 BW6_5 AW6
              try simp only [Act.put, List.setIfInBounds_toArray, List.set_cons_zero, List.set_cons_succ]
              refine WalkT.ready (rs := [14]) (by kernel_rfl) (by simp) ?_
              refine AllT.cons rfl (fun K hK => ?_) ?_
              · go_simp
                go_wp2_with (go_at_call 44; refine (pick_any s (m + 1 + 1 + 1 + 1 + 2 + 1) _ [r2, r2 - 1, 10001] _ SW7.st (by omega) BW7_13 (by simp) (by simp) (slice_ne qW6)).mono ?_; rintro e W8 ⟨v, rfl, ⟨rB, rfl, -⟩, tW8, gW8⟩)
                have SW8 := SW7.step tW8 gW8
                have BW8_5 := Arr.grown BW7_5 gW8 (Nat.ne_of_gt qW2)
                have BW8_13 := Arr.grown BW7_13 gW8 (Nat.ne_of_gt qW6)
                refine hK.out _ _ (fun _ _ => SW8.s) ?_
                clear hK K SW7 gW8 tW8 BW7_5 BW7_13
                try simp only [Act.put, List.setIfInBounds_toArray, List.set_cons_zero, List.set_cons_succ]
                have x0 := SW8.x.cell 0 _ rfl
                have x1 := SW8.x.cell 1 _ rfl
                have x2 := SW8.x.cell 2 _ rfl
                have xf := fun o => SW8.x.free o
                have z0 := SW8.z.cell 0 _ rfl
                have z1 := SW8.z.cell 1 _ rfl
                have z2 := SW8.z.cell 2 _ rfl
                have zf := fun o => SW8.z.free o
                have SF := Lib.hid SW8
                clear SW8
                refine WalkT.ready (rs := [16]) (by kernel_rfl) (by simp) (AllT.cons rfl (fun K hK => ?_) AllT.nil)
                go_simp
                refine hK.out _ _ (fun h => absurd h (by decide)) ?_
                clear hK K
                try simp only [Act.put, List.setIfInBounds_toArray, List.set_cons_zero, List.set_cons_succ]
                refine WalkT.quiet (i := 17) (v := ?_) rfl (by kernel_rfl) (by kernel_rfl) (by kernel_rfl) (fun _ _ _ h => h) (Or.inl ⟨by rfl, ?_⟩) ?_
                rotate_left
                · (intro wS hSw; (try dsimp only at hSw); go_simp; try with_reducible rfl)
                try simp only [Act.put, List.setIfInBounds_toArray, List.set_cons_zero, List.set_cons_succ]
                refine WalkT.ready (rs := [18]) (by kernel_rfl) (by simp) (AllT.cons rfl (fun K hK => ?_) AllT.nil)
                go_simp
                refine hK.out _ _ (fun h => absurd h (by decide)) ?_
                clear hK K
                try simp only [Act.put, List.setIfInBounds_toArray, List.set_cons_zero, List.set_cons_succ]
                refine WalkT.quiet (i := 19) (v := ?_) rfl (by kernel_rfl) (by kernel_rfl) (by kernel_rfl) (fun _ _ _ h => h) (Or.inl ⟨by rfl, ?_⟩) ?_
                rotate_left
                · (intro wS hSw; (try dsimp only at hSw); go_simp; try with_reducible rfl)
                try simp only [Act.put, List.setIfInBounds_toArray, List.set_cons_zero, List.set_cons_succ]
                refine WalkT.ready (rs := [20]) (by kernel_rfl) (by simp) (AllT.cons rfl (fun K hK => ?_) AllT.nil)
                go_simp
                refine hK.out _ _ (fun h => absurd h (by decide)) ?_
                clear hK K
                try simp only [Act.put, List.setIfInBounds_toArray, List.set_cons_zero, List.set_cons_succ]
                refine WalkT.done (by kernel_rfl) ?_
                go_wp2
                refine bodyPost_ret (v := .agg #[.int .i64 rO, .int .i64 rA, .int .i64 rB]) ?_ rfl ⟨_, rfl, ⟨⟨rO, rA, rB⟩, rfl⟩, ?_, ?_⟩
                · simp [results, go_sem, z0, z1, z2]
                · exact (((((((SF.out.st.mono (by omega)).setOther SF.out.l2 _ _).setOther SF.out.l2 _ _).setOther SF.out.l2 _ _).setOther SF.out.l1 _ _).setOther SF.out.l1 _ _).setOther SF.out.l1 _ _)
                · exact grown_setOwn (grown_setOwn (grown_setOwn (grown_setOwn (grown_setOwn (grown_setOwn SF.out.gr hneb _ _) hneb _ _) hneb _ _) (Nat.le_refl _) _ _) (Nat.le_refl _) _ _) (Nat.le_refl _) _ _
              exact AllT.nil
            exact AllT.nil
          exact AllT.nil
        refine AllT.cons rfl (fun K hK => ?_) ?_
        · go_simp
          refine genLit (C := fun W' => K _ W') s 3 [r2, r2 - 1, 10001] (by rfl) (by rfl) (by simp) ?_
          intro W9 gW9 tW9 AW9
          have SW9 := SW1.step (tW9 _ SW1.st) gW9
          have qW9 : s < W1.heap.size := SW1.st.lt
          refine hK.out _ _ (fun _ _ => SW9.s) ?_
          clear hK K SW1 gW9 tW9
          try simp only [Act.put, List.setIfInBounds_toArray, List.set_cons_zero, List.set_cons_succ]
          refine WalkT.ready (rs := [5]) (by kernel_rfl) (by simp) ?_
          refine AllT.cons rfl (fun K hK => ?_) ?_
          · go_simp
            refine genLit (C := fun W' => K _ W') s 2 [r2, -10001] (by rfl) (by rfl) (by simp) ?_
            intro W10 gW10 tW10 AW10
            have SW10 := SW9.step (tW10 _ SW9.st) gW10
            have qW10 : s < W9.heap.size := SW9.st.lt
            have BW10_13 := Arr.grown AW9 gW10 (Nat.ne_of_gt qW9)
            refine hK.out _ _ (fun _ _ => SW10.s) ?_
            clear hK K SW9 gW10 tW10 AW9
            try simp only [Act.put, List.setIfInBounds_toArray, List.set_cons_zero, List.set_cons_succ]
            refine WalkT.ready (rs := [6]) (by kernel_rfl) (by simp) ?_
            refine AllT.cons rfl (fun K hK => ?_) ?_
            · go_simp
              go_wp2_with (go_at_call 44; refine (pick_any s (m + 1 + 1 + 1 + 1 + 2) _ [r2, -10001] _ SW10.st (by omega) AW10 (by simp) (by simp) (slice_ne qW10)).mono ?_; rintro e W11 ⟨v, rfl, ⟨rA, rfl, -⟩, tW11, gW11⟩)
              have SW11 := SW10.step tW11 gW11
              have BW11_13 := Arr.grown BW10_13 gW11 (Nat.ne_of_gt qW9)
              have BW11_5 := Arr.grown AW10 gW11 (Nat.ne_of_gt qW10)
              refine hK.out _ _ (fun _ _ => SW11.s) ?_
              clear hK K SW10 gW11 tW11 BW10_13 AW10
              try simp only [Act.put, List.setIfInBounds_toArray, List.set_cons_zero, List.set_cons_succ]
              refine WalkT.ready (rs := [14]) (by kernel_rfl) (by simp) ?_
              refine AllT.cons rfl (fun K hK => ?_) ?_
              · go_simp
                go_wp2_with (go_at_call 44; refine (pick_any s (m + 1 + 1 + 1 + 1 + 2 + 1) _ [r2, r2 - 1, 10001] _ SW11.st (by omega) BW11_13 (by simp) (by simp) (slice_ne qW9)).mono ?_; rintro e W12 ⟨v, rfl, ⟨rB, rfl, -⟩, tW12, gW12⟩)
                have SW12 := SW11.step tW12 gW12
                have BW12_13 := Arr.grown BW11_13 gW12 (Nat.ne_of_gt qW9)
                have BW12_5 := Arr.grown BW11_5 gW12 (Nat.ne_of_gt qW10)
                refine hK.out _ _ (fun _ _ => SW12.s) ?_
                clear hK K SW11 gW12 tW12 BW11_13 BW11_5
                try simp only [Act.put, List.setIfInBounds_toArray, List.set_cons_zero, List.set_cons_succ]
                have x0 := SW12.x.cell 0 _ rfl
                have x1 := SW12.x.cell 1 _ rfl
                have x2 := SW12.x.cell 2 _ rfl
                have xf := fun o => SW12.x.free o
                have z0 := SW12.z.cell 0 _ rfl
                have z1 := SW12.z.cell 1 _ rfl
                have z2 := SW12.z.cell 2 _ rfl
                have zf := fun o => SW12.z.free o
                have SF := Lib.hid SW12
                clear SW12
                refine WalkT.ready (rs := [16]) (by kernel_rfl) (by simp) (AllT.cons rfl (fun K hK => ?_) AllT.nil)
                go_simp
                refine hK.out _ _ (fun h => absurd h (by decide)) ?_
                clear hK K
                try simp only [Act.put, List.setIfInBounds_toArray, List.set_cons_zero, List.set_cons_succ]
                refine WalkT.quiet (i := 17) (v := ?_) rfl (by kernel_rfl) (by kernel_rfl) (by kernel_rfl) (fun _ _ _ h => h) (Or.inl ⟨by rfl, ?_⟩) ?_
                rotate_left
                · (intro wS hSw; (try dsimp only at hSw); go_simp; try with_reducible rfl)
                try simp only [Act.put, List.setIfInBounds_toArray, List.set_cons_zero, List.set_cons_succ]
                refine WalkT.ready (rs := [18]) (by kernel_rfl) (by simp) (AllT.cons rfl (fun K hK => ?_) AllT.nil)
                go_simp
                refine hK.out _ _ (fun h => absurd h (by decide)) ?_
                clear hK K
                try simp only [Act.put, List.setIfInBounds_toArray, List.set_cons_zero, List.set_cons_succ]
                refine WalkT.quiet (i := 19) (v := ?_) rfl (by kernel_rfl) (by kernel_rfl) (by kernel_rfl) (fun _ _ _ h => h) (Or.inl ⟨by rfl, ?_⟩) ?_
                rotate_left
                · (intro wS hSw; (try dsimp only at hSw); go_simp; try with_reducible rfl)
                try simp only [Act.put, List.setIfInBounds_toArray, List.set_cons_zero, List.set_cons_succ]
                refine WalkT.ready (rs := [20]) (by kernel_rfl) (by simp) (AllT.cons rfl (fun K hK => ?_) AllT.nil)
                go_simp
                refine hK.out _ _ (fun h => absurd h (by decide)) ?_
                clear hK K
                try simp only [Act.put, List.setIfInBounds_toArray, List.set_cons_zero, List.set_cons_succ]
                refine WalkT.done (by kernel_rfl) ?_
                go_wp2
                refine bodyPost_ret (v := .agg #[.int .i64 rO, .int .i64 rA, .int .i64 rB]) ?_ rfl ⟨_, rfl, ⟨⟨rO, rA, rB⟩, rfl⟩, ?_, ?_⟩
                · simp [results, go_sem, z0, z1, z2]
                · exact (((((((SF.out.st.mono (by omega)).setOther SF.out.l2 _ _).setOther SF.out.l2 _ _).setOther SF.out.l2 _ _).setOther SF.out.l1 _ _).setOther SF.out.l1 _ _).setOther SF.out.l1 _ _)
                · exact grown_setOwn (grown_setOwn (grown_setOwn (grown_setOwn (grown_setOwn (grown_setOwn SF.out.gr hneb _ _) hneb _ _) hneb _ _) (Nat.le_refl _) _ _) (Nat.le_refl _) _ _) (Nat.le_refl _) _ _
              exact AllT.nil
            exact AllT.nil
          exact AllT.nil
        exact AllT.nil
      refine AllT.cons rfl (fun K hK => ?_) ?_
      · go_simp
        refine genLit (C := fun W' => K _ W') s 2 [r2, -10001] (by rfl) (by rfl) (by simp) ?_
        intro W13 gW13 tW13 AW13
        have SW13 := SW0.step (tW13 _ SW0.st) gW13
        have qW13 : s < W0.heap.size := SW0.st.lt
        refine hK.out _ _ (fun _ _ => SW13.s) ?_
        clear hK K SW0 gW13 tW13
        try simp only [Act.put, List.setIfInBounds_toArray, List.set_cons_zero, List.set_cons_succ]
        refine WalkT.ready (rs := [1, 13]) (by kernel_rfl) (by simp) ?_
        refine AllT.cons rfl (fun K hK => ?_) ?_
        · go_simp
          go_wp2_with (go_at_call 46; refine (odd_any s (m + 1 + 1 + 1 + 1) (-10000) 10000 _ SW13.st (by omega) (by omega) (by omega) (by omega)).mono ?_; rintro e W14 ⟨v, rfl, ⟨rO, rfl, -⟩, tW14, gW14⟩)
          have SW14 := SW13.step tW14 gW14
          have BW14_5 := Arr.grown AW13 gW14 (Nat.ne_of_gt qW13)
          refine hK.out _ _ (fun _ _ => SW14.s) ?_
          clear hK K SW13 gW14 tW14 AW13
          try simp only [Act.put, List.setIfInBounds_toArray, List.set_cons_zero, List.set_cons_succ]
          refine WalkT.quiet (i := 15) (v := ?_) rfl (by kernel_rfl) (by kernel_rfl) (by kernel_rfl) (fun _ _ _ h => h) (Or.inl ⟨by rfl, ?_⟩) ?_
          rotate_left
          · (intro wS hSw; (try dsimp only at hSw); go_simp; try with_reducible rfl)
          try simp only [Act.put, List.setIfInBounds_toArray, List.set_cons_zero, List.set_cons_succ]
          refine WalkT.ready (rs := [6, 13]) (by kernel_rfl) (by simp) ?_
          refine AllT.cons rfl (fun K hK => ?_) ?_
          · go_simp
            go_wp2_with (go_at_call 44; refine (pick_any s (m + 1 + 1 + 1 + 1 + 2) _ [r2, -10001] _ SW14.st (by omega) BW14_5 (by simp) (by simp) (slice_ne qW13)).mono ?_; rintro e W15 ⟨v, rfl, ⟨rA, rfl, -⟩, tW15, gW15⟩)
            have SW15 := SW14.step tW15 gW15
            have BW15_5 := Arr.grown BW14_5 gW15 (Nat.ne_of_gt qW13)
            refine hK.out _ _ (fun _ _ => SW15.s) ?_
            clear hK K SW14 gW15 tW15 BW14_5
            try simp only [Act.put, List.setIfInBounds_toArray, List.set_cons_zero, List.set_cons_succ]
            refine WalkT.ready (rs := [13]) (by kernel_rfl) (by simp) ?_
            refine AllT.cons rfl (fun K hK => ?_) ?_
            · go_simp
              refine genLit (C := fun W' => K _ W') s 3 [r2, r2 - 1, 10001] (by rfl) (by rfl) (by simp) ?_
              intro W16 gW16 tW16 AW16
              have SW16 := SW15.step (tW16 _ SW15.st) gW16
              have qW16 : s < W15.heap.size := SW15.st.lt
              have BW16_5 := Arr.grown BW15_5 gW16 (Nat.ne_of_gt qW13)
              refine hK.out _ _ (fun _ _ => SW16.s) ?_
              clear hK K SW15 gW16 tW16 BW15_5
              try simp only [Act.put, List.setIfInBounds_toArray, List.set_cons_zero, List.set_cons_succ]
              refine WalkT.ready (rs := [14]) (by kernel_rfl) (by simp) ?_
              refine AllT.cons rfl (fun K hK => ?_) ?_
              · go_simp
                go_wp2_with (go_at_call 44; refine (pick_any s (m + 1 + 1 + 1 + 1 + 2 + 1) _ [r2, r2 - 1, 10001] _ SW16.st (by omega) AW16 (by simp) (by simp) (slice_ne qW16)).mono ?_; rintro e W17 ⟨v, rfl, ⟨rB, rfl, -⟩, tW17, gW17⟩)
                have SW17 := SW16.step tW17 gW17
                have BW17_5 := Arr.grown BW16_5 gW17 (Nat.ne_of_gt qW13)
                have BW17_13 := Arr.grown AW16 gW17 (Nat.ne_of_gt qW16)
                refine hK.out _ _ (fun _ _ => SW17.s) ?_
                clear hK K SW16 gW17 tW17 BW16_5 AW16
                try simp only [Act.put, List.setIfInBounds_toArray, List.set_cons_zero, List.set_cons_succ]
                have x0 := SW17.x.cell 0 _ rfl
                have x1 := SW17.x.cell 1 _ rfl
                have x2 := SW17.x.cell 2 _ rfl
                have xf := fun o => SW17.x.free o
                have z0 := SW17.z.cell 0 _ rfl
                have z1 := SW17.z.cell 1 _ rfl
                have z2 := SW17.z.cell 2 _ rfl
                have zf := fun o => SW17.z.free o
                have SF := Lib.hid SW17
                clear SW17
                refine WalkT.ready (rs := [16]) (by kernel_rfl) (by simp) (AllT.cons rfl (fun K hK => ?_) AllT.nil)
                go_simp
                refine hK.out _ _ (fun h => absurd h (by decide)) ?_
                clear hK K
                try simp only [Act.put, List.setIfInBounds_toArray, List.set_cons_zero, List.set_cons_succ]
                refine WalkT.quiet (i := 17) (v := ?_) rfl (by kernel_rfl) (by kernel_rfl) (by kernel_rfl) (fun _ _ _ h => h) (Or.inl ⟨by rfl, ?_⟩) ?_
                rotate_left
                · (intro wS hSw; (try dsimp only at hSw); go_simp; try with_reducible rfl)
                try simp only [Act.put, List.setIfInBounds_toArray, List.set_cons_zero, List.set_cons_succ]
                refine WalkT.ready (rs := [18]) (by kernel_rfl) (by simp) (AllT.cons rfl (fun K hK => ?_) AllT.nil)
                go_simp
                refine hK.out _ _ (fun h => absurd h (by decide)) ?_
                clear hK K
                try simp only [Act.put, List.setIfInBounds_toArray, List.set_cons_zero, List.set_cons_succ]
                refine WalkT.quiet (i := 19) (v := ?_) rfl (by kernel_rfl) (by kernel_rfl) (by kernel_rfl) (fun _ _ _ h => h) (Or.inl ⟨by rfl, ?_⟩) ?_
                rotate_left
                · (intro wS hSw; (try dsimp only at hSw); go_simp; try with_reducible rfl)
                try simp only [Act.put, List.setIfInBounds_toArray, List.set_cons_zero, List.set_cons_succ]
                refine WalkT.ready (rs := [20]) (by kernel_rfl) (by simp) (AllT.cons rfl (fun K hK => ?_) AllT.nil)
                go_simp
                refine hK.out _ _ (fun h => absurd h (by decide)) ?_
                clear hK K
                try simp only [Act.put, List.setIfInBounds_toArray, List.set_cons_zero, List.set_cons_succ]
                refine WalkT.done (by kernel_rfl) ?_
                go_wp2
                refine bodyPost_ret (v := .agg #[.int .i64 rO, .int .i64 rA, .int .i64 rB]) ?_ rfl ⟨_, rfl, ⟨⟨rO, rA, rB⟩, rfl⟩, ?_, ?_⟩
                · simp [results, go_sem, z0, z1, z2]
                · exact (((((((SF.out.st.mono (by omega)).setOther SF.out.l2 _ _).setOther SF.out.l2 _ _).setOther SF.out.l2 _ _).setOther SF.out.l1 _ _).setOther SF.out.l1 _ _).setOther SF.out.l1 _ _)
                · exact grown_setOwn (grown_setOwn (grown_setOwn (grown_setOwn (grown_setOwn (grown_setOwn SF.out.gr hneb _ _) hneb _ _) hneb _ _) (Nat.le_refl _) _ _) (Nat.le_refl _) _ _) (Nat.le_refl _) _ _
              exact AllT.nil
            exact AllT.nil
          refine AllT.cons rfl (fun K hK => ?_) ?_
          · go_simp
            refine genLit (C := fun W' => K _ W') s 3 [r2, r2 - 1, 10001] (by rfl) (by rfl) (by simp) ?_
            intro W18 gW18 tW18 AW18
            have SW18 := SW14.step (tW18 _ SW14.st) gW18
            have qW18 : s < W14.heap.size := SW14.st.lt
            have BW18_5 := Arr.grown BW14_5 gW18 (Nat.ne_of_gt qW13)
            refine hK.out _ _ (fun _ _ => SW18.s) ?_
            clear hK K SW14 gW18 tW18 BW14_5
            try simp only [Act.put, List.setIfInBounds_toArray, List.set_cons_zero, List.set_cons_succ]
            refine WalkT.ready (rs := [6]) (by kernel_rfl) (by simp) ?_
            refine AllT.cons rfl (fun K hK => ?_) ?_
            · go_simp
              go_wp2_with (go_at_call 44; refine (pick_any s (m + 1 + 1 + 1 + 1 + 2) _ [r2, -10001] _ SW18.st (by omega) BW18_5 (by simp) (by simp) (slice_ne qW13)).mono ?_; rintro e W19 ⟨v, rfl, ⟨rA, rfl, -⟩, tW19, gW19⟩)
              have SW19 := SW18.step tW19 gW19
              have BW19_5 := Arr.grown BW18_5 gW19 (Nat.ne_of_gt qW13)
              have BW19_13 := Arr.grown AW18 gW19 (Nat.ne_of_gt qW18)
              refine hK.out _ _ (fun _ _ => SW19.s) ?_
              clear hK K SW18 gW19 tW19 BW18_5 AW18
              try simp only [Act.put, List.setIfInBounds_toArray, List.set_cons_zero, List.set_cons_succ]
              refine WalkT.ready (rs := [14]) (by kernel_rfl) (by simp) ?_
              refine AllT.cons rfl (fun K hK => ?_) ?_
              · go_simp
                go_wp2_with (go_at_call 44; refine (pick_any s (m + 1 + 1 + 1 + 1 + 2 + 1) _ [r2, r2 - 1, 10001] _ SW19.st (by omega) BW19_13 (by simp) (by simp) (slice_ne qW18)).mono ?_; rintro e W20 ⟨v, rfl, ⟨rB, rfl, -⟩, tW20, gW20⟩)
                have SW20 := SW19.step tW20 gW20
                have BW20_5 := Arr.grown BW19_5 gW20 (Nat.ne_of_gt qW13)
                have BW20_13 := Arr.grown BW19_13 gW20 (Nat.ne_of_gt qW18)
                refine hK.out _ _ (fun _ _ => SW20.s) ?_
                clear hK K SW19 gW20 tW20 BW19_5 BW19_13
                try simp only [Act.put, List.setIfInBounds_toArray, List.set_cons_zero, List.set_cons_succ]
                have x0 := SW20.x.cell 0 _ rfl
                have x1 := SW20.x.cell 1 _ rfl
                have x2 := SW20.x.cell 2 _ rfl
                have xf := fun o => SW20.x.free o
                have z0 := SW20.z.cell 0 _ rfl
                have z1 := SW20.z.cell 1 _ rfl
                have z2 := SW20.z.cell 2 _ rfl
                have zf := fun o => SW20.z.free o
                have SF := Lib.hid SW20
                clear SW20
                refine WalkT.ready (rs := [16]) (by kernel_rfl) (by simp) (AllT.cons rfl (fun K hK => ?_) AllT.nil)
                go_simp
                refine hK.out _ _ (fun h => absurd h (by decide)) ?_
                clear hK K
                try simp only [Act.put, List.setIfInBounds_toArray, List.set_cons_zero, List.set_cons_succ]
                refine WalkT.quiet (i := 17) (v := ?_) rfl (by kernel_rfl) (by kernel_rfl) (by kernel_rfl) (fun _ _ _ h => h) (Or.inl ⟨by rfl, ?_⟩) ?_
                rotate_left
                · (intro wS hSw; (try dsimp only at hSw); go_simp; try with_reducible rfl)
                try simp only [Act.put, List.setIfInBounds_toArray, List.set_cons_zero, List.set_cons_succ]
                refine WalkT.ready (rs := [18]) (by kernel_rfl) (by simp) (AllT.cons rfl (fun K hK => ?_) AllT.nil)
                go_simp
                refine hK.out _ _ (fun h => absurd h (by decide)) ?_
                clear hK K
                try simp only [Act.put, List.setIfInBounds_toArray, List.set_cons_zero, List.set_cons_succ]
                refine WalkT.quiet (i := 19) (v := ?_) rfl (by kernel_rfl) (by kernel_rfl) (by kernel_rfl) (fun _ _ _ h => h) (Or.inl ⟨by rfl, ?_⟩) ?_
                rotate_left
                · (intro wS hSw; (try dsimp only at hSw); go_simp; try with_reducible rfl)
                try simp only [Act.put, List.setIfInBounds_toArray, List.set_cons_zero, List.set_cons_succ]
                refine WalkT.ready (rs := [20]) (by kernel_rfl) (by simp) (AllT.cons rfl (fun K hK => ?_) AllT.nil)
                go_simp
                refine hK.out _ _ (fun h => absurd h (by decide)) ?_
                clear hK K
                try simp only [Act.put, List.setIfInBounds_toArray, List.set_cons_zero, List.set_cons_succ]
                refine WalkT.done (by kernel_rfl) ?_
                go_wp2
                refine bodyPost_ret (v := .agg #[.int .i64 rO, .int .i64 rA, .int .i64 rB]) ?_ rfl ⟨_, rfl, ⟨⟨rO, rA, rB⟩, rfl⟩, ?_, ?_⟩
                · simp [results, go_sem, z0, z1, z2]
                · exact (((((((SF.out.st.mono (by omega)).setOther SF.out.l2 _ _).setOther SF.out.l2 _ _).setOther SF.out.l2 _ _).setOther SF.out.l1 _ _).setOther SF.out.l1 _ _).setOther SF.out.l1 _ _)
                · exact grown_setOwn (grown_setOwn (grown_setOwn (grown_setOwn (grown_setOwn (grown_setOwn SF.out.gr hneb _ _) hneb _ _) hneb _ _) (Nat.le_refl _) _ _) (Nat.le_refl _) _ _) (Nat.le_refl _) _ _
              exact AllT.nil
            exact AllT.nil
          exact AllT.nil
        refine AllT.cons rfl (fun K hK => ?_) ?_
        · go_simp
          refine genLit (C := fun W' => K _ W') s 3 [r2, r2 - 1, 10001] (by rfl) (by rfl) (by simp) ?_
          intro W21 gW21 tW21 AW21
          have SW21 := SW13.step (tW21 _ SW13.st) gW21
          have qW21 : s < W13.heap.size := SW13.st.lt
          have BW21_5 := Arr.grown AW13 gW21 (Nat.ne_of_gt qW13)
          refine hK.out _ _ (fun _ _ => SW21.s) ?_
          clear hK K SW13 gW21 tW21 AW13
          try simp only [Act.put, List.setIfInBounds_toArray, List.set_cons_zero, List.set_cons_succ]
          refine WalkT.ready (rs := [1]) (by kernel_rfl) (by simp) ?_
          refine AllT.cons rfl (fun K hK => ?_) ?_
          · go_simp
            go_wp2_with (go_at_call 46; refine (odd_any s (m + 1 + 1 + 1 + 1) (-10000) 10000 _ SW21.st (by omega) (by omega) (by omega) (by omega)).mono ?_; rintro e W22 ⟨v, rfl, ⟨rO, rfl, -⟩, tW22, gW22⟩)
            have SW22 := SW21.step tW22 gW22
            have BW22_5 := Arr.grown BW21_5 gW22 (Nat.ne_of_gt qW13)
            have BW22_13 := Arr.grown AW21 gW22 (Nat.ne_of_gt qW21)
            refine hK.out _ _ (fun _ _ => SW22.s) ?_
            clear hK K SW21 gW22 tW22 BW21_5 AW21
            try simp only [Act.put, List.setIfInBounds_toArray, List.set_cons_zero, List.set_cons_succ]
            refine WalkT.quiet (i := 15) (v := ?_) rfl (by kernel_rfl) (by kernel_rfl) (by kernel_rfl) (fun _ _ _ h => h) (Or.inl ⟨by rfl, ?_⟩) ?_
            rotate_left
            · (intro wS hSw; (try dsimp only at hSw); go_simp; try with_reducible rfl)
            try simp only [Act.put, List.setIfInBounds_toArray, List.set_cons_zero, List.set_cons_succ]
            refine WalkT.ready (rs := [6]) (by kernel_rfl) (by simp) ?_
            refine AllT.cons rfl (fun K hK => ?_) ?_
            · go_simp
              go_wp2_with (go_at_call 44; refine (pick_any s (m + 1 + 1 + 1 + 1 + 2) _ [r2, -10001] _ SW22.st (by omega) BW22_5 (by simp) (by simp) (slice_ne qW13)).mono ?_; rintro e W23 ⟨v, rfl, ⟨rA, rfl, -⟩, tW23, gW23⟩)
              have SW23 := SW22.step tW23 gW23
              have BW23_5 := Arr.grown BW22_5 gW23 (Nat.ne_of_gt qW13)
              have BW23_13 := Arr.grown BW22_13 gW23 (Nat.ne_of_gt qW21)
              refine hK.out _ _ (fun _ _ => SW23.s) ?_
              clear hK K SW22 gW23 tW23 BW22_5 BW22_13
              try simp only [Act.put, List.setIfInBounds_toArray, List.set_cons_zero, List.set_cons_succ]
              refine WalkT.ready (rs := [14]) (by kernel_rfl) (by simp) ?_
              refine AllT.cons rfl (fun K hK => ?_) ?_
              · go_simp
                go_wp2_with (go_at_call 44; refine (pick_any s (m + 1 + 1 + 1 + 1 + 2 + 1) _ [r2, r2 - 1, 10001] _ SW23.st (by omega) BW23_13 (by simp) (by simp) (slice_ne qW21)).mono ?_; rintro e W24 ⟨v, rfl, ⟨rB, rfl, -⟩, tW24, gW24⟩)
                have SW24 := SW23.step tW24 gW24
                have BW24_5 := Arr.grown BW23_5 gW24 (Nat.ne_of_gt qW13)
                have BW24_13 := Arr.grown BW23_13 gW24 (Nat.ne_of_gt qW21)
                refine hK.out _ _ (fun _ _ => SW24.s) ?_
                clear hK K SW23 gW24 tW24 BW23_5 BW23_13
                try simp only [Act.put, List.setIfInBounds_toArray, List.set_cons_zero, List.set_cons_succ]
                have x0 := SW24.x.cell 0 _ rfl
                have x1 := SW24.x.cell 1 _ rfl
                have x2 := SW24.x.cell 2 _ rfl
                have xf := fun o => SW24.x.free o
                have z0 := SW24.z.cell 0 _ rfl
                have z1 := SW24.z.cell 1 _ rfl
                have z2 := SW24.z.cell 2 _ rfl
                have zf := fun o => SW24.z.free o
                have SF := Lib.hid SW24
                clear SW24
                refine WalkT.ready (rs := [16]) (by kernel_rfl) (by simp) (AllT.cons rfl (fun K hK => ?_) AllT.nil)
                go_simp
                refine hK.out _ _ (fun h => absurd h (by decide)) ?_
                clear hK K
                try simp only [Act.put, List.setIfInBounds_toArray, List.set_cons_zero, List.set_cons_succ]
                refine WalkT.quiet (i := 17) (v := ?_) rfl (by kernel_rfl) (by kernel_rfl) (by kernel_rfl) (fun _ _ _ h => h) (Or.inl ⟨by rfl, ?_⟩) ?_
                rotate_left
                · (intro wS hSw; (try dsimp only at hSw); go_simp; try with_reducible rfl)
                try simp only [Act.put, List.setIfInBounds_toArray, List.set_cons_zero, List.set_cons_succ]
                refine WalkT.ready (rs := [18]) (by kernel_rfl) (by simp) (AllT.cons rfl (fun K hK => ?_) AllT.nil)
                go_simp
                refine hK.out _ _ (fun h => absurd h (by decide)) ?_
                clear hK K
                try simp only [Act.put, List.setIfInBounds_toArray, List.set_cons_zero, List.set_cons_succ]
                refine WalkT.quiet (i := 19) (v := ?_) rfl (by kernel_rfl) (by kernel_rfl) (by kernel_rfl) (fun _ _ _ h => h) (Or.inl ⟨by rfl, ?_⟩) ?_
                rotate_left
                · (intro wS hSw; (try dsimp only at hSw); go_simp; try with_reducible rfl)
                try simp only [Act.put, List.setIfInBounds_toArray, List.set_cons_zero, List.set_cons_succ]
                refine WalkT.ready (rs := [20]) (by kernel_rfl) (by simp) (AllT.cons rfl (fun K hK => ?_) AllT.nil)
                go_simp
                refine hK.out _ _ (fun h => absurd h (by decide)) ?_
                clear hK K
                try simp only [Act.put, List.setIfInBounds_toArray, List.set_cons_zero, List.set_cons_succ]
                refine WalkT.done (by kernel_rfl) ?_
                go_wp2
                refine bodyPost_ret (v := .agg #[.int .i64 rO, .int .i64 rA, .int .i64 rB]) ?_ rfl ⟨_, rfl, ⟨⟨rO, rA, rB⟩, rfl⟩, ?_, ?_⟩
                · simp [results, go_sem, z0, z1, z2]
                · exact (((((((SF.out.st.mono (by omega)).setOther SF.out.l2 _ _).setOther SF.out.l2 _ _).setOther SF.out.l2 _ _).setOther SF.out.l1 _ _).setOther SF.out.l1 _ _).setOther SF.out.l1 _ _)
                · exact grown_setOwn (grown_setOwn (grown_setOwn (grown_setOwn (grown_setOwn (grown_setOwn SF.out.gr hneb _ _) hneb _ _) hneb _ _) (Nat.le_refl _) _ _) (Nat.le_refl _) _ _) (Nat.le_refl _) _ _
              exact AllT.nil
            exact AllT.nil
          exact AllT.nil
        exact AllT.nil
      refine AllT.cons rfl (fun K hK => ?_) ?_
      · go_simp
        refine genLit (C := fun W' => K _ W') s 3 [r2, r2 - 1, 10001] (by rfl) (by rfl) (by simp) ?_
        intro W25 gW25 tW25 AW25
        have SW25 := SW0.step (tW25 _ SW0.st) gW25
        have qW25 : s < W0.heap.size := SW0.st.lt
        refine hK.out _ _ (fun _ _ => SW25.s) ?_
        clear hK K SW0 gW25 tW25
        try simp only [Act.put, List.setIfInBounds_toArray, List.set_cons_zero, List.set_cons_succ]
        refine WalkT.ready (rs := [1, 5]) (by kernel_rfl) (by simp) ?_
        refine AllT.cons rfl (fun K hK => ?_) ?_
        · go_simp
          go_wp2_with (go_at_call 46; refine (odd_any s (m + 1 + 1 + 1 + 1) (-10000) 10000 _ SW25.st (by omega) (by omega) (by omega) (by omega)).mono ?_; rintro e W26 ⟨v, rfl, ⟨rO, rfl, -⟩, tW26, gW26⟩)
          have SW26 := SW25.step tW26 gW26
          have BW26_13 := Arr.grown AW25 gW26 (Nat.ne_of_gt qW25)
          refine hK.out _ _ (fun _ _ => SW26.s) ?_
          clear hK K SW25 gW26 tW26 AW25
          try simp only [Act.put, List.setIfInBounds_toArray, List.set_cons_zero, List.set_cons_succ]
          refine WalkT.quiet (i := 15) (v := ?_) rfl (by kernel_rfl) (by kernel_rfl) (by kernel_rfl) (fun _ _ _ h => h) (Or.inl ⟨by rfl, ?_⟩) ?_
          rotate_left
          · (intro wS hSw; (try dsimp only at hSw); go_simp; try with_reducible rfl)
          try simp only [Act.put, List.setIfInBounds_toArray, List.set_cons_zero, List.set_cons_succ]
          refine WalkT.ready (rs := [5]) (by kernel_rfl) (by simp) ?_
          refine AllT.cons rfl (fun K hK => ?_) ?_
          · go_simp
            refine genLit (C := fun W' => K _ W') s 2 [r2, -10001] (by rfl) (by rfl) (by simp) ?_
            intro W27 gW27 tW27 AW27
            have SW27 := SW26.step (tW27 _ SW26.st) gW27
            have qW27 : s < W26.heap.size := SW26.st.lt
            have BW27_13 := Arr.grown BW26_13 gW27 (Nat.ne_of_gt qW25)
            refine hK.out _ _ (fun _ _ => SW27.s) ?_
            clear hK K SW26 gW27 tW27 BW26_13
            try simp only [Act.put, List.setIfInBounds_toArray, List.set_cons_zero, List.set_cons_succ]
            refine WalkT.ready (rs := [6]) (by kernel_rfl) (by simp) ?_
            refine AllT.cons rfl (fun K hK => ?_) ?_
            · go_simp
              go_wp2_with (go_at_call 44; refine (pick_any s (m + 1 + 1 + 1 + 1 + 2) _ [r2, -10001] _ SW27.st (by omega) AW27 (by simp) (by simp) (slice_ne qW27)).mono ?_; rintro e W28 ⟨v, rfl, ⟨rA, rfl, -⟩, tW28, gW28⟩)
              have SW28 := SW27.step tW28 gW28
              have BW28_13 := Arr.grown BW27_13 gW28 (Nat.ne_of_gt qW25)
              have BW28_5 := Arr.grown AW27 gW28 (Nat.ne_of_gt qW27)
              refine hK.out _ _ (fun _ _ => SW28.s) ?_
              clear hK K SW27 gW28 tW28 BW27_13 AW27
              try simp only [Act.put, List.setIfInBounds_toArray, List.set_cons_zero, List.set_cons_succ]
              refine WalkT.ready (rs := [14]) (by kernel_rfl) (by simp) ?_
              refine AllT.cons rfl (fun K hK => ?_) ?_
              · go_simp
                go_wp2_with (go_at_call 44; refine (pick_any s (m + 1 + 1 + 1 + 1 + 2 + 1) _ [r2, r2 - 1, 10001] _ SW28.st (by omega) BW28_13 (by simp) (by simp) (slice_ne qW25)).mono ?_; rintro e W29 ⟨v, rfl, ⟨rB, rfl, -⟩, tW29, gW29⟩)
                have SW29 := SW28.step tW29 gW29
                have BW29_13 := Arr.grown BW28_13 gW29 (Nat.ne_of_gt qW25)
                have BW29_5 := Arr.grown BW28_5 gW29 (Nat.ne_of_gt qW27)
                refine hK.out _ _ (fun _ _ => SW29.s) ?_
                clear hK K SW28 gW29 tW29 BW28_13 BW28_5
                try simp only [Act.put, List.setIfInBounds_toArray, List.set_cons_zero, List.set_cons_succ]
                have x0 := SW29.x.cell 0 _ rfl
                have x1 := SW29.x.cell 1 _ rfl
                have x2 := SW29.x.cell 2 _ rfl
                have xf := fun o => SW29.x.free o
                have z0 := SW29.z.cell 0 _ rfl
                have z1 := SW29.z.cell 1 _ rfl
                have z2 := SW29.z.cell 2 _ rfl
                have zf := fun o => SW29.z.free o
                have SF := Lib.hid SW29
                clear SW29
                refine WalkT.ready (rs := [16]) (by kernel_rfl) (by simp) (AllT.cons rfl (fun K hK => ?_) AllT.nil)
                go_simp
                refine hK.out _ _ (fun h => absurd h (by decide)) ?_
                clear hK K
                try simp only [Act.put, List.setIfInBounds_toArray, List.set_cons_zero, List.set_cons_succ]
                refine WalkT.quiet (i := 17) (v := ?_) rfl (by kernel_rfl) (by kernel_rfl) (by kernel_rfl) (fun _ _ _ h => h) (Or.inl ⟨by rfl, ?_⟩) ?_
                rotate_left
                · (intro wS hSw; (try dsimp only at hSw); go_simp; try with_reducible rfl)
                try simp only [Act.put, List.setIfInBounds_toArray, List.set_cons_zero, List.set_cons_succ]
                refine WalkT.ready (rs := [18]) (by kernel_rfl) (by simp) (AllT.cons rfl (fun K hK => ?_) AllT.nil)
                go_simp
                refine hK.out _ _ (fun h => absurd h (by decide)) ?_
                clear hK K
                try simp only [Act.put, List.setIfInBounds_toArray, List.set_cons_zero, List.set_cons_succ]
                refine WalkT.quiet (i := 19) (v := ?_) rfl (by kernel_rfl) (by kernel_rfl) (by kernel_rfl) (fun _ _ _ h => h) (Or.inl ⟨by rfl, ?_⟩) ?_
                rotate_left
                · (intro wS hSw; (try dsimp only at hSw); go_simp; try with_reducible rfl)
                try simp only [Act.put, List.setIfInBounds_toArray, List.set_cons_zero, List.set_cons_succ]
                refine WalkT.ready (rs := [20]) (by kernel_rfl) (by simp) (AllT.cons rfl (fun K hK => ?_) AllT.nil)
                go_simp
                refine hK.out _ _ (fun h => absurd h (by decide)) ?_
                clear hK K
                try simp only [Act.put, List.setIfInBounds_toArray, List.set_cons_zero, List.set_cons_succ]
                refine WalkT.done (by kernel_rfl) ?_
                go_wp2
                refine bodyPost_ret (v := .agg #[.int .i64 rO, .int .i64 rA, .int .i64 rB]) ?_ rfl ⟨_, rfl, ⟨⟨rO, rA, rB⟩, rfl⟩, ?_, ?_⟩
                · simp [results, go_sem, z0, z1, z2]
                · exact (((((((SF.out.st.mono (by omega)).setOther SF.out.l2 _ _).setOther SF.out.l2 _ _).setOther SF.out.l2 _ _).setOther SF.out.l1 _ _).setOther SF.out.l1 _ _).setOther SF.out.l1 _ _)
                · exact grown_setOwn (grown_setOwn (grown_setOwn (grown_setOwn (grown_setOwn (grown_setOwn SF.out.gr hneb _ _) hneb _ _) hneb _ _) (Nat.le_refl _) _ _) (Nat.le_refl _) _ _) (Nat.le_refl _) _ _
              exact AllT.nil
            exact AllT.nil
          exact AllT.nil
        refine AllT.cons rfl (fun K hK => ?_) ?_
        · go_simp
          refine genLit (C := fun W' => K _ W') s 2 [r2, -10001] (by rfl) (by rfl) (by simp) ?_
          intro W30 gW30 tW30 AW30
          have SW30 := SW25.step (tW30 _ SW25.st) gW30
          have qW30 : s < W25.heap.size := SW25.st.lt
          have BW30_13 := Arr.grown AW25 gW30 (Nat.ne_of_gt qW25)
          refine hK.out _ _ (fun _ _ => SW30.s) ?_
          clear hK K SW25 gW30 tW30 AW25
          try simp only [Act.put, List.setIfInBounds_toArray, List.set_cons_zero, List.set_cons_succ]
          refine WalkT.ready (rs := [1]) (by kernel_rfl) (by simp) ?_
          refine AllT.cons rfl (fun K hK => ?_) ?_
          · go_simp
            go_wp2_with (go_at_call 46; refine (odd_any s (m + 1 + 1 + 1 + 1) (-10000) 10000 _ SW30.st (by omega) (by omega) (by omega) (by omega)).mono ?_; rintro e W31 ⟨v, rfl, ⟨rO, rfl, -⟩, tW31, gW31⟩)
            have SW31 := SW30.step tW31 gW31
            have BW31_13 := Arr.grown BW30_13 gW31 (Nat.ne_of_gt qW25)
            have BW31_5 := Arr.grown AW30 gW31 (Nat.ne_of_gt qW30)
            refine hK.out _ _ (fun _ _ => SW31.s) ?_
            clear hK K SW30 gW31 tW31 BW30_13 AW30
            try simp only [Act.put, List.setIfInBounds_toArray, List.set_cons_zero, List.set_cons_succ]
            refine WalkT.quiet (i := 15) (v := ?_) rfl (by kernel_rfl) (by kernel_rfl) (by kernel_rfl) (fun _ _ _ h => h) (Or.inl ⟨by rfl, ?_⟩) ?_
            rotate_left
            · (intro wS hSw; (try dsimp only at hSw); go_simp; try with_reducible rfl)
            try simp only [Act.put, List.setIfInBounds_toArray, List.set_cons_zero, List.set_cons_succ]
            refine WalkT.ready (rs := [6]) (by kernel_rfl) (by simp) ?_
            refine AllT.cons rfl (fun K hK => ?_) ?_
            · go_simp
              go_wp2_with (go_at_call 44; refine (pick_any s (m + 1 + 1 + 1 + 1 + 2) _ [r2, -10001] _ SW31.st (by omega) BW31_5 (by simp) (by simp) (slice_ne qW30)).mono ?_; rintro e W32 ⟨v, rfl, ⟨rA, rfl, -⟩, tW32, gW32⟩)
              have SW32 := SW31.step tW32 gW32
              have BW32_13 := Arr.grown BW31_13 gW32 (Nat.ne_of_gt qW25)
              have BW32_5 := Arr.grown BW31_5 gW32 (Nat.ne_of_gt qW30)
              refine hK.out _ _ (fun _ _ => SW32.s) ?_
              clear hK K SW31 gW32 tW32 BW31_13 BW31_5
              try simp only [Act.put, List.setIfInBounds_toArray, List.set_cons_zero, List.set_cons_succ]
              refine WalkT.ready (rs := [14]) (by kernel_rfl) (by simp) ?_
              refine AllT.cons rfl (fun K hK => ?_) ?_
              · go_simp
                go_wp2_with (go_at_call 44; refine (pick_any s (m + 1 + 1 + 1 + 1 + 2 + 1) _ [r2, r2 - 1, 10001] _ SW32.st (by omega) BW32_13 (by simp) (by simp) (slice_ne qW25)).mono ?_; rintro e W33 ⟨v, rfl, ⟨rB, rfl, -⟩, tW33, gW33⟩)
                have SW33 := SW32.step tW33 gW33
                have BW33_13 := Arr.grown BW32_13 gW33 (Nat.ne_of_gt qW25)
                have BW33_5 := Arr.grown BW32_5 gW33 (Nat.ne_of_gt qW30)
                refine hK.out _ _ (fun _ _ => SW33.s) ?_
                clear hK K SW32 gW33 tW33 BW32_13 BW32_5
                try simp only [Act.put, List.setIfInBounds_toArray, List.set_cons_zero, List.set_cons_succ]
                have x0 := SW33.x.cell 0 _ rfl
                have x1 := SW33.x.cell 1 _ rfl
                have x2 := SW33.x.cell 2 _ rfl
                have xf := fun o => SW33.x.free o
                have z0 := SW33.z.cell 0 _ rfl
                have z1 := SW33.z.cell 1 _ rfl
                have z2 := SW33.z.cell 2 _ rfl
                have zf := fun o => SW33.z.free o
                have SF := Lib.hid SW33
                clear SW33
                refine WalkT.ready (rs := [16]) (by kernel_rfl) (by simp) (AllT.cons rfl (fun K hK => ?_) AllT.nil)
                go_simp
                refine hK.out _ _ (fun h => absurd h (by decide)) ?_
                clear hK K
                try simp only [Act.put, List.setIfInBounds_toArray, List.set_cons_zero, List.set_cons_succ]
                refine WalkT.quiet (i := 17) (v := ?_) rfl (by kernel_rfl) (by kernel_rfl) (by kernel_rfl) (fun _ _ _ h => h) (Or.inl ⟨by rfl, ?_⟩) ?_
                rotate_left
                · (intro wS hSw; (try dsimp only at hSw); go_simp; try with_reducible rfl)
                try simp only [Act.put, List.setIfInBounds_toArray, List.set_cons_zero, List.set_cons_succ]
                refine WalkT.ready (rs := [18]) (by kernel_rfl) (by simp) (AllT.cons rfl (fun K hK => ?_) AllT.nil)
                go_simp
                refine hK.out _ _ (fun h => absurd h (by decide)) ?_
                clear hK K
                try simp only [Act.put, List.setIfInBounds_toArray, List.set_cons_zero, List.set_cons_succ]
                refine WalkT.quiet (i := 19) (v := ?_) rfl (by kernel_rfl) (by kernel_rfl) (by kernel_rfl) (fun _ _ _ h => h) (Or.inl ⟨by rfl, ?_⟩) ?_
                rotate_left
                · (intro wS hSw; (try dsimp only at hSw); go_simp; try with_reducible rfl)
                try simp only [Act.put, List.setIfInBounds_toArray, List.set_cons_zero, List.set_cons_succ]
                refine WalkT.ready (rs := [20]) (by kernel_rfl) (by simp) (AllT.cons rfl (fun K hK => ?_) AllT.nil)
                go_simp
                refine hK.out _ _ (fun h => absurd h (by decide)) ?_
                clear hK K
                try simp only [Act.put, List.setIfInBounds_toArray, List.set_cons_zero, List.set_cons_succ]
                refine WalkT.done (by kernel_rfl) ?_
                go_wp2
                refine bodyPost_ret (v := .agg #[.int .i64 rO, .int .i64 rA, .int .i64 rB]) ?_ rfl ⟨_, rfl, ⟨⟨rO, rA, rB⟩, rfl⟩, ?_, ?_⟩
                · simp [results, go_sem, z0, z1, z2]
                · exact (((((((SF.out.st.mono (by omega)).setOther SF.out.l2 _ _).setOther SF.out.l2 _ _).setOther SF.out.l2 _ _).setOther SF.out.l1 _ _).setOther SF.out.l1 _ _).setOther SF.out.l1 _ _)
                · exact grown_setOwn (grown_setOwn (grown_setOwn (grown_setOwn (grown_setOwn (grown_setOwn SF.out.gr hneb _ _) hneb _ _) hneb _ _) (Nat.le_refl _) _ _) (Nat.le_refl _) _ _) (Nat.le_refl _) _ _
              exact AllT.nil
            exact AllT.nil
          exact AllT.nil
        exact AllT.nil
      exact AllT.nil
  · go_wp2_with fail
    refine (flip_any s (m + 1 + 1 + 1) _ _ HS0.out.st (by omega) (by omega) (by omega)).mono ?_
    rintro e w6 ⟨v, rfl, ⟨fb, rfl⟩, hs6, hg6⟩
    have HS := Lib.hid (HS0.out.step hs6 hg6)
    clear hs6 hg6 HS0 n1 n2 nf
    cases fb
    · have x0 := HS.out.x.cell 0 _ rfl
      have x1 := HS.out.x.cell 1 _ rfl
      have x2 := HS.out.x.cell 2 _ rfl
      have z0 := HS.out.z.cell 0 _ rfl
      have z1 := HS.out.z.cell 1 _ rfl
      have z2 := HS.out.z.cell 2 _ rfl
      have zf := fun o => HS.out.z.free o
      go_wp2
      refine bodyPost_ret (v := .agg #[.int .i64 r1, .int .i64 r2, .int .i64 r3]) ?_ rfl ⟨_, rfl, ⟨⟨r1, r2, r3⟩, rfl⟩, ?_, ?_⟩
      · simp [results, go_sem, z0, z1, z2]
      · exact (((HS.out.st.mono (by omega)).setOther (by omega) _ _).setOther (by omega) _ _).setOther (by omega) _ _
      · exact grown_setOwn (grown_setOwn (grown_setOwn HS.out.gr (Nat.le_refl _) _ _) (Nat.le_refl _) _ _) (Nat.le_refl _) _ _
    · have w1' : IntKind.i64.wrap (r2 - 1) = r2 - 1 := IntWalk.i64_in _ (by omega)
      go_wp2_with fail
      have SW0 : OptSt s (m + 1 + 1 + 1 + 1) w b w6.drew r1 r2 r3 := ⟨HS.out.st.drew, grown_drew HS.out.gr, HS.out.z.drew, HS.out.x.drew, HS.out.l1, HS.out.l2⟩
      clear HS
      have HS := Lib.hid SW0
      refine WalkT.start (fun w' => w'.cell? ⟨b, 1, none⟩ = some (.int .i64 r2) ∧ w'.cell? ⟨b, 2, none⟩ = some (.int .i64 r3)) [16, 18, 20] (by kernel_rfl) ?_
      generalize w6.drew = W0 at *
      refine WalkT.quiet (i := 0) (v := ?_) rfl (by kernel_rfl) (by kernel_rfl) (by kernel_rfl) (fun _ _ _ h => h) (Or.inl ⟨by rfl, ?_⟩) ?_
      rotate_left
      · (intro wS hSw; (try dsimp only at hSw); go_simp; try with_reducible rfl)
      try simp only [Act.put, List.setIfInBounds_toArray, List.set_cons_zero, List.set_cons_succ]
      refine WalkT.quiet (i := 2) (v := ?_) rfl (by kernel_rfl) (by kernel_rfl) (by kernel_rfl) (fun _ _ _ h => h) (Or.inl ⟨by rfl, ?_⟩) ?_
      rotate_left
      · (intro wS hSw; (try dsimp only at hSw); go_simp; try with_reducible rfl)
      try simp only [Act.put, List.setIfInBounds_toArray, List.set_cons_zero, List.set_cons_succ]
      refine WalkT.quiet (i := 3) (v := ?_) rfl (by kernel_rfl) (by kernel_rfl) (by kernel_rfl) (fun _ _ _ h => h) (Or.inl ⟨by rfl, ?_⟩) ?_
      rotate_left
      · (intro wS hSw; (try dsimp only at hSw); go_simp; try with_reducible rfl)
      try simp only [Act.put, List.setIfInBounds_toArray, List.set_cons_zero, List.set_cons_succ]
      refine WalkT.take (i := 4) (v := ?_) rfl (by kernel_rfl) (by kernel_rfl) (by kernel_rfl) (by kernel_rfl) (fun _ _ _ h => h) HS.out.s (Or.inl ⟨by rfl, ?_⟩) ?_
      rotate_left
      · (intro wS hSw; (try dsimp only at hSw); go_simp; try with_reducible rfl)
      try simp only [Act.put, List.setIfInBounds_toArray, List.set_cons_zero, List.set_cons_succ]
      refine WalkT.quiet (i := 7) (v := ?_) rfl (by kernel_rfl) (by kernel_rfl) (by kernel_rfl) (fun _ _ _ h => h) (Or.inl ⟨by rfl, ?_⟩) ?_
      rotate_left
      · (intro wS hSw; (try dsimp only at hSw); go_simp; try with_reducible rfl)
      try simp only [Act.put, List.setIfInBounds_toArray, List.set_cons_zero, List.set_cons_succ]
      refine WalkT.quiet (i := 8) (v := ?_) rfl (by kernel_rfl) (by kernel_rfl) (by kernel_rfl) (fun _ _ _ h => h) (Or.inl ⟨by rfl, ?_⟩) ?_
      rotate_left
      · (intro wS hSw; (try dsimp only at hSw); go_simp; try with_reducible rfl)
      try simp only [Act.put, List.setIfInBounds_toArray, List.set_cons_zero, List.set_cons_succ]
      refine WalkT.take (i := 9) (v := ?_) rfl (by kernel_rfl) (by kernel_rfl) (by kernel_rfl) (by kernel_rfl) (fun _ _ _ h => h) HS.out.s (Or.inl ⟨by rfl, ?_⟩) ?_
      rotate_left
      · (intro wS hSw; (try dsimp only at hSw); go_simp; try with_reducible rfl)
      try simp only [Act.put, List.setIfInBounds_toArray, List.set_cons_zero, List.set_cons_succ]
      refine WalkT.quiet (i := 10) (v := ?_) rfl (by kernel_rfl) (by kernel_rfl) (by kernel_rfl) (fun _ _ _ h => h) (Or.inl ⟨by rfl, ?_⟩) ?_
      rotate_left
      · (intro wS hSw; (try dsimp only at hSw); go_simp; try with_reducible rfl)
      try simp only [Act.put, List.setIfInBounds_toArray, List.set_cons_zero, List.set_cons_succ]
      refine WalkT.take (i := 11) (v := ?_) rfl (by kernel_rfl) (by kernel_rfl) (by kernel_rfl) (by kernel_rfl) (fun _ _ _ h => h) HS.out.s (Or.inl ⟨by rfl, ?_⟩) ?_
      rotate_left
      · (intro wS hSw; (try dsimp only at hSw); go_simp; try with_reducible rfl)
      try simp only [Act.put, List.setIfInBounds_toArray, List.set_cons_zero, List.set_cons_succ]
      refine WalkT.quiet (i := 12) (v := ?_) rfl (by kernel_rfl) (by kernel_rfl) (by kernel_rfl) (fun _ _ _ h => h) (Or.inl ⟨by rfl, ?_⟩) ?_
      rotate_left
      · (intro wS hSw; (try dsimp only at hSw); go_simp; try with_reducible rfl)
      try simp only [Act.put, List.setIfInBounds_toArray, List.set_cons_zero, List.set_cons_succ]
      refine WalkT.ready (rs := [1, 5, 13]) (by kernel_rfl) (by simp) ?_
      refine AllT.cons rfl (fun K hK => ?_) ?_
      · go_simp
        go_wp2_with (go_at_call 46; refine (odd_any s (m + 1 + 1 + 1 + 1) (-10000) 10000 _ SW0.st (by omega) (by omega) (by omega) (by omega)).mono ?_; rintro e W1 ⟨v, rfl, ⟨rO, rfl, -⟩, tW1, gW1⟩)
        have SW1 := SW0.step tW1 gW1
        refine hK.out _ _ (fun _ _ => SW1.s) ?_
        clear hK K SW0 gW1 tW1
        try simp only [Act.put, List.setIfInBounds_toArray, List.set_cons_zero, List.set_cons_succ]
        refine WalkT.quiet (i := 15) (v := ?_) rfl (by kernel_rfl) (by kernel_rfl) (by kernel_rfl) (fun _ _ _ h => h) (Or.inl ⟨by rfl, ?_⟩) ?_
        rotate_left
        · (intro wS hSw; (try dsimp only at hSw); go_simp; try with_reducible rfl)
        try simp only [Act.put, List.setIfInBounds_toArray, List.set_cons_zero, List.set_cons_succ]
        refine WalkT.ready (rs := [5, 13]) (by kernel_rfl) (by simp) ?_
        refine AllT.cons rfl (fun K hK => ?_) ?_
        · go_simp
          refine genLit (C := fun W' => K _ W') s 2 [r2, -10001] (by rfl) (by rfl) (by simp) ?_
          intro W2 gW2 tW2 AW2
          have SW2 := SW1.step (tW2 _ SW1.st) gW2
          have qW2 : s < W1.heap.size := SW1.st.lt
          refine hK.out _ _ (fun _ _ => SW2.s) ?_
          clear hK K SW1 gW2 tW2
          try simp only [Act.put, List.setIfInBounds_toArray, List.set_cons_zero, List.set_cons_succ]
          refine WalkT.ready (rs := [6, 13]) (by kernel_rfl) (by simp) ?_
          refine AllT.cons rfl (fun K hK => ?_) ?_
          · go_simp
            go_wp2_with (go_at_call 44; refine (pick_any s (m + 1 + 1 + 1 + 1 + 2) _ [r2, -10001] _ SW2.st (by omega) AW2 (by simp) (by simp) (slice_ne qW2)).mono ?_; rintro e W3 ⟨v, rfl, ⟨rA, rfl, -⟩, tW3, gW3⟩)
            have SW3 := SW2.step tW3 gW3
            have BW3_5 := Arr.grown AW2 gW3 (Nat.ne_of_gt qW2)
            refine hK.out _ _ (fun _ _ => SW3.s) ?_
            clear hK K SW2 gW3 tW3 AW2
            try simp only [Act.put, List.setIfInBounds_toArray, List.set_cons_zero, List.set_cons_succ]
            refine WalkT.ready (rs := [13]) (by kernel_rfl) (by simp) ?_
            refine AllT.cons rfl (fun K hK => ?_) ?_
            · go_simp
              refine genLit (C := fun W' => K _ W') s 3 [r3, r2 - 1, 10001] (by rfl) (by rfl) (by simp) ?_
              intro W4 gW4 tW4 AW4
              have SW4 := SW3.step (tW4 _ SW3.st) gW4
              have qW4 : s < W3.heap.size := SW3.st.lt
              have BW4_5 := Arr.grown BW3_5 gW4 (Nat.ne_of_gt qW2)
              refine hK.out _ _ (fun _ _ => SW4.s) ?_
              clear hK K SW3 gW4 tW4 BW3_5
              try simp only [Act.put, List.setIfInBounds_toArray, List.set_cons_zero, List.set_cons_succ]
              refine WalkT.ready (rs := [14]) (by kernel_rfl) (by simp) ?_
              refine AllT.cons rfl (fun K hK => ?_) ?_
              · go_simp
                go_wp2_with (go_at_call 44; refine (pick_any s (m + 1 + 1 + 1 + 1 + 2 + 1) _ [r3, r2 - 1, 10001] _ SW4.st (by omega) AW4 (by simp) (by simp) (slice_ne qW4)).mono ?_; rintro e W5 ⟨v, rfl, ⟨rB, rfl, -⟩, tW5, gW5⟩)
                have SW5 := SW4.step tW5 gW5
                have BW5_5 := Arr.grown BW4_5 gW5 (Nat.ne_of_gt qW2)
                have BW5_13 := Arr.grown AW4 gW5 (Nat.ne_of_gt qW4)
                refine hK.out _ _ (fun _ _ => SW5.s) ?_
                clear hK K SW4 gW5 tW5 BW4_5 AW4
                try simp only [Act.put, List.setIfInBounds_toArray, List.set_cons_zero, List.set_cons_succ]
                have x0 := SW5.x.cell 0 _ rfl
                have x1 := SW5.x.cell 1 _ rfl
                have x2 := SW5.x.cell 2 _ rfl
                have xf := fun o => SW5.x.free o
                have z0 := SW5.z.cell 0 _ rfl
                have z1 := SW5.z.cell 1 _ rfl
                have z2 := SW5.z.cell 2 _ rfl
                have zf := fun o => SW5.z.free o
                have SF := Lib.hid SW5
                clear SW5
                refine WalkT.ready (rs := [16]) (by kernel_rfl) (by simp) (AllT.cons rfl (fun K hK => ?_) AllT.nil)
                go_simp
                refine hK.out _ _ (fun h => absurd h (by decide)) ?_
                clear hK K
                try simp only [Act.put, List.setIfInBounds_toArray, List.set_cons_zero, List.set_cons_succ]
                refine WalkT.quiet (i := 17) (v := ?_) rfl (by kernel_rfl) (by kernel_rfl) (by kernel_rfl) (fun _ _ _ h => h) (Or.inl ⟨by rfl, ?_⟩) ?_
                rotate_left
                · (intro wS hSw; (try dsimp only at hSw); go_simp; try with_reducible rfl)
                try simp only [Act.put, List.setIfInBounds_toArray, List.set_cons_zero, List.set_cons_succ]
                refine WalkT.ready (rs := [18]) (by kernel_rfl) (by simp) (AllT.cons rfl (fun K hK => ?_) AllT.nil)
                go_simp
                refine hK.out _ _ (fun h => absurd h (by decide)) ?_
                clear hK K
                try simp only [Act.put, List.setIfInBounds_toArray, List.set_cons_zero, List.set_cons_succ]
                refine WalkT.quiet (i := 19) (v := ?_) rfl (by kernel_rfl) (by kernel_rfl) (by kernel_rfl) (fun _ _ _ h => h) (Or.inl ⟨by rfl, ?_⟩) ?_
                rotate_left
                · (intro wS hSw; (try dsimp only at hSw); go_simp; try with_reducible rfl)
                try simp only [Act.put, List.setIfInBounds_toArray, List.set_cons_zero, List.set_cons_succ]
                refine WalkT.ready (rs := [20]) (by kernel_rfl) (by simp) (AllT.cons rfl (fun K hK => ?_) AllT.nil)
                go_simp
                refine hK.out _ _ (fun h => absurd h (by decide)) ?_
                clear hK K
                try simp only [Act.put, List.setIfInBounds_toArray, List.set_cons_zero, List.set_cons_succ]
                refine WalkT.done (by kernel_rfl) ?_
                go_wp2
                refine bodyPost_ret (v := .agg #[.int .i64 rO, .int .i64 rA, .int .i64 rB]) ?_ rfl ⟨_, rfl, ⟨⟨rO, rA, rB⟩, rfl⟩, ?_, ?_⟩
                · simp [results, go_sem, z0, z1, z2]
                · exact (((((((SF.out.st.mono (by omega)).setOther SF.out.l2 _ _).setOther SF.out.l2 _ _).setOther SF.out.l2 _ _).setOther SF.out.l1 _ _).setOther SF.out.l1 _ _).setOther SF.out.l1 _ _)
                · exact grown_setOwn (grown_setOwn (grown_setOwn (grown_setOwn (grown_setOwn (grown_setOwn SF.out.gr hneb _ _) hneb _ _) hneb _ _) (Nat.le_refl _) _ _) (Nat.le_refl _) _ _) (Nat.le_refl _) _ _
              exact AllT.nil
            exact AllT.nil
          refine AllT.cons rfl (fun K hK => ?_) ?_
          · go_simp
            refine genLit (C := fun W' => K _ W') s 3 [r3, r2 - 1, 10001] (by rfl) (by rfl) (by simp) ?_
            intro W6 gW6 tW6 AW6
            have SW6 := SW2.step (tW6 _ SW2.st) gW6
            have qW6 : s < W2.heap.size := SW2.st.lt
            have BW6_5 := Arr.grown AW2 gW6 (Nat.ne_of_gt qW2)
            refine hK.out _ _ (fun _ _ => SW6.s) ?_
            clear hK K SW2 gW6 tW6 AW2
            try simp only [Act.put, List.setIfInBounds_toArray, List.set_cons_zero, List.set_cons_succ]
            refine WalkT.ready (rs := [6]) (by kernel_rfl) (by simp) ?_
            refine AllT.cons rfl (fun K hK => ?_) ?_
            · go_simp
              go_wp2_with (go_at_call 44; refine (pick_any s (m + 1 + 1 + 1 + 1 + 2) _ [r2, -10001] _ SW6.st (by omega) BW6_5 (by simp) (by simp) (slice_ne qW2)).mono ?_; rintro e W7 ⟨v, rfl, ⟨rA, rfl, -⟩, tW7, gW7⟩)
              have SW7 := SW6.step tW7 gW7
              have BW7_5 := Arr.grown BW6_5 gW7 (Nat.ne_of_gt qW2)
              have BW7_13 := Arr.grown AW6 gW7 (Nat.ne_of_gt qW6)
              refine hK.out _ _ (fun _ _ => SW7.s) ?_
              clear hK K SW6 gW7 tW7 BW6_5 AW6
              try simp only [Act.put, List.setIfInBounds_toArray, List.set_cons_zero, List.set_cons_succ]
              refine WalkT.ready (rs := [14]) (by kernel_rfl) (by simp) ?_
              refine AllT.cons rfl (fun K hK => ?_) ?_
              · go_simp
                go_wp2_with (go_at_call 44; refine (pick_any s (m + 1 + 1 + 1 + 1 + 2 + 1) _ [r3, r2 - 1, 10001] _ SW7.st (by omega) BW7_13 (by simp) (by simp) (slice_ne qW6)).mono ?_; rintro e W8 ⟨v, rfl, ⟨rB, rfl, -⟩, tW8, gW8⟩)
                have SW8 := SW7.step tW8 gW8
                have BW8_5 := Arr.grown BW7_5 gW8 (Nat.ne_of_gt qW2)
                have BW8_13 := Arr.grown BW7_13 gW8 (Nat.ne_of_gt qW6)
                refine hK.out _ _ (fun _ _ => SW8.s) ?_
                clear hK K SW7 gW8 tW8 BW7_5 BW7_13
                try simp only [Act.put, List.setIfInBounds_toArray, List.set_cons_zero, List.set_cons_succ]
                have x0 := SW8.x.cell 0 _ rfl
                have x1 := SW8.x.cell 1 _ rfl
                have x2 := SW8.x.cell 2 _ rfl
                have xf := fun o => SW8.x.free o
                have z0 := SW8.z.cell 0 _ rfl
                have z1 := SW8.z.cell 1 _ rfl
                have z2 := SW8.z.cell 2 _ rfl
                have zf := fun o => SW8.z.free o
                have SF := Lib.hid SW8
                clear SW8
                refine WalkT.ready (rs := [16]) (by kernel_rfl) (by simp) (AllT.cons rfl (fun K hK => ?_) AllT.nil)
                go_simp
                refine hK.out _ _ (fun h => absurd h (by decide)) ?_
                clear hK K
                try simp only [Act.put, List.setIfInBounds_toArray, List.set_cons_zero, List.set_cons_succ]
                refine WalkT.quiet (i := 17) (v := ?_) rfl (by kernel_rfl) (by kernel_rfl) (by kernel_rfl) (fun _ _ _ h => h) (Or.inl ⟨by rfl, ?_⟩) ?_
                rotate_left
                · (intro wS hSw; (try dsimp only at hSw); go_simp; try with_reducible rfl)
                try simp only [Act.put, List.setIfInBounds_toArray, List.set_cons_zero, List.set_cons_succ]
                refine WalkT.ready (rs := [18]) (by kernel_rfl) (by simp) (AllT.cons rfl (fun K hK => ?_) AllT.nil)
                go_simp
                refine hK.out _ _ (fun h => absurd h (by decide)) ?_
                clear hK K
                try simp only [Act.put, List.setIfInBounds_toArray, List.set_cons_zero, List.set_cons_succ]
                refine WalkT.quiet (i := 19) (v := ?_) rfl (by kernel_rfl) (by kernel_rfl) (by kernel_rfl) (fun _ _ _ h => h) (Or.inl ⟨by rfl, ?_⟩) ?_
                rotate_left
                · (intro wS hSw; (try dsimp only at hSw); go_simp; try with_reducible rfl)
                try simp only [Act.put, List.setIfInBounds_toArray, List.set_cons_zero, List.set_cons_succ]
                refine WalkT.ready (rs := [20]) (by kernel_rfl) (by simp) (AllT.cons rfl (fun K hK => ?_) AllT.nil)
                go_simp
                refine hK.out _ _ (fun h => absurd h (by decide)) ?_
                clear hK K
                try simp only [Act.put, List.setIfInBounds_toArray, List.set_cons_zero, List.set_cons_succ]
                refine WalkT.done (by kernel_rfl) ?_
                go_wp2
                refine bodyPost_ret (v := .agg #[.int .i64 rO, .int .i64 rA, .int .i64 rB]) ?_ rfl ⟨_, rfl, ⟨⟨rO, rA, rB⟩, rfl⟩, ?_, ?_⟩
                · simp [results, go_sem, z0, z1, z2]
                · exact (((((((SF.out.st.mono (by omega)).setOther SF.out.l2 _ _).setOther SF.out.l2 _ _).setOther SF.out.l2 _ _).setOther SF.out.l1 _ _).setOther SF.out.l1 _ _).setOther SF.out.l1 _ _)
                · exact grown_setOwn (grown_setOwn (grown_setOwn (grown_setOwn (grown_setOwn (grown_setOwn SF.out.gr hneb _ _) hneb _ _) hneb _ _) (Nat.le_refl _) _ _) (Nat.le_refl _) _ _) (Nat.le_refl _) _ _
              exact AllT.nil
            exact AllT.nil
          exact AllT.nil
        refine AllT.cons rfl (fun K hK => ?_) ?_
        · go_simp
          refine genLit (C := fun W' => K _ W') s 3 [r3, r2 - 1, 10001] (by rfl) (by rfl) (by simp) ?_
          intro W9 gW9 tW9 AW9
          have SW9 := SW1.step (tW9 _ SW1.st) gW9
          have qW9 : s < W1.heap.size := SW1.st.lt
          refine hK.out _ _ (fun _ _ => SW9.s) ?_
          clear hK K SW1 gW9 tW9
          try simp only [Act.put, List.setIfInBounds_toArray, List.set_cons_zero, List.set_cons_succ]
          refine WalkT.ready (rs := [5]) (by kernel_rfl) (by simp) ?_
          refine AllT.cons rfl (fun K hK => ?_) ?_
          · go_simp
            refine genLit (C := fun W' => K _ W') s 2 [r2, -10001] (by rfl) (by rfl) (by simp) ?_
            intro W10 gW10 tW10 AW10
            have SW10 := SW9.step (tW10 _ SW9.st) gW10
            have qW10 : s < W9.heap.size := SW9.st.lt
            have BW10_13 := Arr.grown AW9 gW10 (Nat.ne_of_gt qW9)
            refine hK.out _ _ (fun _ _ => SW10.s) ?_
            clear hK K SW9 gW10 tW10 AW9
            try simp only [Act.put, List.setIfInBounds_toArray, List.set_cons_zero, List.set_cons_succ]
            refine WalkT.ready (rs := [6]) (by kernel_rfl) (by simp) ?_
            refine AllT.cons rfl (fun K hK => ?_) ?_
            · go_simp
              go_wp2_with (go_at_call 44; refine (pick_any s (m + 1 + 1 + 1 + 1 + 2) _ [r2, -10001] _ SW10.st (by omega) AW10 (by simp) (by simp) (slice_ne qW10)).mono ?_; rintro e W11 ⟨v, rfl, ⟨rA, rfl, -⟩, tW11, gW11⟩)
              have SW11 := SW10.step tW11 gW11
              have BW11_13 := Arr.grown BW10_13 gW11 (Nat.ne_of_gt qW9)
              have BW11_5 := Arr.grown AW10 gW11 (Nat.ne_of_gt qW10)
              refine hK.out _ _ (fun _ _ => SW11.s) ?_
              clear hK K SW10 gW11 tW11 BW10_13 AW10
              try simp only [Act.put, List.setIfInBounds_toArray, List.set_cons_zero, List.set_cons_succ]
              refine WalkT.ready (rs := [14]) (by kernel_rfl) (by simp) ?_
              refine AllT.cons rfl (fun K hK => ?_) ?_
              · go_simp
                go_wp2_with (go_at_call 44; refine (pick_any s (m + 1 + 1 + 1 + 1 + 2 + 1) _ [r3, r2 - 1, 10001] _ SW11.st (by omega) BW11_13 (by simp) (by simp) (slice_ne qW9)).mono ?_; rintro e W12 ⟨v, rfl, ⟨rB, rfl, -⟩, tW12, gW12⟩)
                have SW12 := SW11.step tW12 gW12
                have BW12_13 := Arr.grown BW11_13 gW12 (Nat.ne_of_gt qW9)
                have BW12_5 := Arr.grown BW11_5 gW12 (Nat.ne_of_gt qW10)
                refine hK.out _ _ (fun _ _ => SW12.s) ?_
                clear hK K SW11 gW12 tW12 BW11_13 BW11_5
                try simp only [Act.put, List.setIfInBounds_toArray, List.set_cons_zero, List.set_cons_succ]
                have x0 := SW12.x.cell 0 _ rfl
                have x1 := SW12.x.cell 1 _ rfl
                have x2 := SW12.x.cell 2 _ rfl
                have xf := fun o => SW12.x.free o
                have z0 := SW12.z.cell 0 _ rfl
                have z1 := SW12.z.cell 1 _ rfl
                have z2 := SW12.z.cell 2 _ rfl
                have zf := fun o => SW12.z.free o
                have SF := Lib.hid SW12
                clear SW12
                refine WalkT.ready (rs := [16]) (by kernel_rfl) (by simp) (AllT.cons rfl (fun K hK => ?_) AllT.nil)
                go_simp
                refine hK.out _ _ (fun h => absurd h (by decide)) ?_
                clear hK K
                try simp only [Act.put, List.setIfInBounds_toArray, List.set_cons_zero, List.set_cons_succ]
                refine WalkT.quiet (i := 17) (v := ?_) rfl (by kernel_rfl) (by kernel_rfl) (by kernel_rfl) (fun _ _ _ h => h) (Or.inl ⟨by rfl, ?_⟩) ?_
                rotate_left
                · (intro wS hSw; (try dsimp only at hSw); go_simp; try with_reducible rfl)
                try simp only [Act.put, List.setIfInBounds_toArray, List.set_cons_zero, List.set_cons_succ]
                refine WalkT.ready (rs := [18]) (by kernel_rfl) (by simp) (AllT.cons rfl (fun K hK => ?_) AllT.nil)
                go_simp
                refine hK.out _ _ (fun h => absurd h (by decide)) ?_
                clear hK K
                try simp only [Act.put, List.setIfInBounds_toArray, List.set_cons_zero, List.set_cons_succ]
                refine WalkT.quiet (i := 19) (v := ?_) rfl (by kernel_rfl) (by kernel_rfl) (by kernel_rfl) (fun _ _ _ h => h) (Or.inl ⟨by rfl, ?_⟩) ?_
                rotate_left
                · (intro wS hSw; (try dsimp only at hSw); go_simp; try with_reducible rfl)
                try simp only [Act.put, List.setIfInBounds_toArray, List.set_cons_zero, List.set_cons_succ]
                refine WalkT.ready (rs := [20]) (by kernel_rfl) (by simp) (AllT.cons rfl (fun K hK => ?_) AllT.nil)
                go_simp
                refine hK.out _ _ (fun h => absurd h (by decide)) ?_
                clear hK K
                try simp only [Act.put, List.setIfInBounds_toArray, List.set_cons_zero, List.set_cons_succ]
                refine WalkT.done (by kernel_rfl) ?_
                go_wp2
                refine bodyPost_ret (v := .agg #[.int .i64 rO, .int .i64 rA, .int .i64 rB]) ?_ rfl ⟨_, rfl, ⟨⟨rO, rA, rB⟩, rfl⟩, ?_, ?_⟩
                · simp [results, go_sem, z0, z1, z2]
                · exact (((((((SF.out.st.mono (by omega)).setOther SF.out.l2 _ _).setOther SF.out.l2 _ _).setOther SF.out.l2 _ _).setOther SF.out.l1 _ _).setOther SF.out.l1 _ _).setOther SF.out.l1 _ _)
                · exact grown_setOwn (grown_setOwn (grown_setOwn (grown_setOwn (grown_setOwn (grown_setOwn SF.out.gr hneb _ _) hneb _ _) hneb _ _) (Nat.le_refl _) _ _) (Nat.le_refl _) _ _) (Nat.le_refl _) _ _
              exact AllT.nil
            exact AllT.nil
          exact AllT.nil
        exact AllT.nil
      refine AllT.cons rfl (fun K hK => ?_) ?_
      · go_simp
        refine genLit (C := fun W' => K _ W') s 2 [r2, -10001] (by rfl) (by rfl) (by simp) ?_
        intro W13 gW13 tW13 AW13
        have SW13 := SW0.step (tW13 _ SW0.st) gW13
        have qW13 : s < W0.heap.size := SW0.st.lt
        refine hK.out _ _ (fun _ _ => SW13.s) ?_
        clear hK K SW0 gW13 tW13
        try simp only [Act.put, List.setIfInBounds_toArray, List.set_cons_zero, List.set_cons_succ]
        refine WalkT.ready (rs := [1, 13]) (by kernel_rfl) (by simp) ?_
        refine AllT.cons rfl (fun K hK => ?_) ?_
        · go_simp
          go_wp2_with (go_at_call 46; refine (odd_any s (m + 1 + 1 + 1 + 1) (-10000) 10000 _ SW13.st (by omega) (by omega) (by omega) (by omega)).mono ?_; rintro e W14 ⟨v, rfl, ⟨rO, rfl, -⟩, tW14, gW14⟩)
          have SW14 := SW13.step tW14 gW14
          have BW14_5 := Arr.grown AW13 gW14 (Nat.ne_of_gt qW13)
          refine hK.out _ _ (fun _ _ => SW14.s) ?_
          clear hK K SW13 gW14 tW14 AW13
          try simp only [Act.put, List.setIfInBounds_toArray, List.set_cons_zero, List.set_cons_succ]
          refine WalkT.quiet (i := 15) (v := ?_) rfl (by kernel_rfl) (by kernel_rfl) (by kernel_rfl) (fun _ _ _ h => h) (Or.inl ⟨by rfl, ?_⟩) ?_
          rotate_left
          · (intro wS hSw; (try dsimp only at hSw); go_simp; try with_reducible rfl)
          try simp only [Act.put, List.setIfInBounds_toArray, List.set_cons_zero, List.set_cons_succ]
          refine WalkT.ready (rs := [6, 13]) (by kernel_rfl) (by simp) ?_
          refine AllT.cons rfl (fun K hK => ?_) ?_
          · go_simp
            go_wp2_with (go_at_call 44; refine (pick_any s (m + 1 + 1 + 1 + 1 + 2) _ [r2, -10001] _ SW14.st (by omega) BW14_5 (by simp) (by simp) (slice_ne qW13)).mono ?_; rintro e W15 ⟨v, rfl, ⟨rA, rfl, -⟩, tW15, gW15⟩)
            have SW15 := SW14.step tW15 gW15
            have BW15_5 := Arr.grown BW14_5 gW15 (Nat.ne_of_gt qW13)
            refine hK.out _ _ (fun _ _ => SW15.s) ?_
            clear hK K SW14 gW15 tW15 BW14_5
            try simp only [Act.put, List.setIfInBounds_toArray, List.set_cons_zero, List.set_cons_succ]
            refine WalkT.ready (rs := [13]) (by kernel_rfl) (by simp) ?_
            refine AllT.cons rfl (fun K hK => ?_) ?_
            · go_simp
              refine genLit (C := fun W' => K _ W') s 3 [r3, r2 - 1, 10001] (by rfl) (by rfl) (by simp) ?_
              intro W16 gW16 tW16 AW16
              have SW16 := SW15.step (tW16 _ SW15.st) gW16
              have qW16 : s < W15.heap.size := SW15.st.lt
              have BW16_5 := Arr.grown BW15_5 gW16 (Nat.ne_of_gt qW13)
              refine hK.out _ _ (fun _ _ => SW16.s) ?_
              clear hK K SW15 gW16 tW16 BW15_5
              try simp only [Act.put, List.setIfInBounds_toArray, List.set_cons_zero, List.set_cons_succ]
              refine WalkT.ready (rs := [14]) (by kernel_rfl) (by simp) ?_
              refine AllT.cons rfl (fun K hK => ?_) ?_
              · go_simp
                go_wp2_with (go_at_call 44; refine (pick_any s (m + 1 + 1 + 1 + 1 + 2 + 1) _ [r3, r2 - 1, 10001] _ SW16.st (by omega) AW16 (by simp) (by simp) (slice_ne qW16)).mono ?_; rintro e W17 ⟨v, rfl, ⟨rB, rfl, -⟩, tW17, gW17⟩)
                have SW17 := SW16.step tW17 gW17
                have BW17_5 := Arr.grown BW16_5 gW17 (Nat.ne_of_gt qW13)
                have BW17_13 := Arr.grown AW16 gW17 (Nat.ne_of_gt qW16)
                refine hK.out _ _ (fun _ _ => SW17.s) ?_
                clear hK K SW16 gW17 tW17 BW16_5 AW16
                try simp only [Act.put, List.setIfInBounds_toArray, List.set_cons_zero, List.set_cons_succ]
                have x0 := SW17.x.cell 0 _ rfl
                have x1 := SW17.x.cell 1 _ rfl
                have x2 := SW17.x.cell 2 _ rfl
                have xf := fun o => SW17.x.free o
                have z0 := SW17.z.cell 0 _ rfl
                have z1 := SW17.z.cell 1 _ rfl
                have z2 := SW17.z.cell 2 _ rfl
                have zf := fun o => SW17.z.free o
                have SF := Lib.hid SW17
                clear SW17
                refine WalkT.ready (rs := [16]) (by kernel_rfl) (by simp) (AllT.cons rfl (fun K hK => ?_) AllT.nil)
                go_simp
                refine hK.out _ _ (fun h => absurd h (by decide)) ?_
                clear hK K
                try simp only [Act.put, List.setIfInBounds_toArray, List.set_cons_zero, List.set_cons_succ]
                refine WalkT.quiet (i := 17) (v := ?_) rfl (by kernel_rfl) (by kernel_rfl) (by kernel_rfl) (fun _ _ _ h => h) (Or.inl ⟨by rfl, ?_⟩) ?_
                rotate_left
                · (intro wS hSw; (try dsimp only at hSw); go_simp; try with_reducible rfl)
                try simp only [Act.put, List.setIfInBounds_toArray, List.set_cons_zero, List.set_cons_succ]
                refine WalkT.ready (rs := [18]) (by kernel_rfl) (by simp) (AllT.cons rfl (fun K hK => ?_) AllT.nil)
                go_simp
                refine hK.out _ _ (fun h => absurd h (by decide)) ?_
                clear hK K
                try simp only [Act.put, List.setIfInBounds_toArray, List.set_cons_zero, List.set_cons_succ]
                refine WalkT.quiet (i := 19) (v := ?_) rfl (by kernel_rfl) (by kernel_rfl) (by kernel_rfl) (fun _ _ _ h => h) (Or.inl ⟨by rfl, ?_⟩) ?_
                rotate_left
                · (intro wS hSw; (try dsimp only at hSw); go_simp; try with_reducible rfl)
                try simp only [Act.put, List.setIfInBounds_toArray, List.set_cons_zero, List.set_cons_succ]
                refine WalkT.ready (rs := [20]) (by kernel_rfl) (by simp) (AllT.cons rfl (fun K hK => ?_) AllT.nil)
                go_simp
                refine hK.out _ _ (fun h => absurd h (by decide)) ?_
                clear hK K
                try simp only [Act.put, List.setIfInBounds_toArray, List.set_cons_zero, List.set_cons_succ]
                refine WalkT.done (by kernel_rfl) ?_
                go_wp2
                refine bodyPost_ret (v := .agg #[.int .i64 rO, .int .i64 rA, .int .i64 rB]) ?_ rfl ⟨_, rfl, ⟨⟨rO, rA, rB⟩, rfl⟩, ?_, ?_⟩
                · simp [results, go_sem, z0, z1, z2]
                · exact (((((((SF.out.st.mono (by omega)).setOther SF.out.l2 _ _).setOther SF.out.l2 _ _).setOther SF.out.l2 _ _).setOther SF.out.l1 _ _).setOther SF.out.l1 _ _).setOther SF.out.l1 _ _)
                · exact grown_setOwn (grown_setOwn (grown_setOwn (grown_setOwn (grown_setOwn (grown_setOwn SF.out.gr hneb _ _) hneb _ _) hneb _ _) (Nat.le_refl _) _ _) (Nat.le_refl _) _ _) (Nat.le_refl _) _ _
              exact AllT.nil
            exact AllT.nil
          refine AllT.cons rfl (fun K hK => ?_) ?_
          · go_simp
            refine genLit (C := fun W' => K _ W') s 3 [r3, r2 - 1, 10001] (by rfl) (by rfl) (by simp) ?_
            intro W18 gW18 tW18 AW18
            have SW18 := SW14.step (tW18 _ SW14.st) gW18
            have qW18 : s < W14.heap.size := SW14.st.lt
            have BW18_5 := Arr.grown BW14_5 gW18 (Nat.ne_of_gt qW13)
            refine hK.out _ _ (fun _ _ => SW18.s) ?_
            clear hK K SW14 gW18 tW18 BW14_5
            try simp only [Act.put, List.setIfInBounds_toArray, List.set_cons_zero, List.set_cons_succ]
            refine WalkT.ready (rs := [6]) (by kernel_rfl) (by simp) ?_
            refine AllT.cons rfl (fun K hK => ?_) ?_
            · go_simp
              go_wp2_with (go_at_call 44; refine (pick_any s (m + 1 + 1 + 1 + 1 + 2) _ [r2, -10001] _ SW18.st (by omega) BW18_5 (by simp) (by simp) (slice_ne qW13)).mono ?_; rintro e W19 ⟨v, rfl, ⟨rA, rfl, -⟩, tW19, gW19⟩)
              have SW19 := SW18.step tW19 gW19
              have BW19_5 := Arr.grown BW18_5 gW19 (Nat.ne_of_gt qW13)
              have BW19_13 := Arr.grown AW18 gW19 (Nat.ne_of_gt qW18)
              refine hK.out _ _ (fun _ _ => SW19.s) ?_
              clear hK K SW18 gW19 tW19 BW18_5 AW18
              try simp only [Act.put, List.setIfInBounds_toArray, List.set_cons_zero, List.set_cons_succ]
              refine WalkT.ready (rs := [14]) (by kernel_rfl) (by simp) ?_
              refine AllT.cons rfl (fun K hK => ?_) ?_
              · go_simp
                go_wp2_with (go_at_call 44; refine (pick_any s (m + 1 + 1 + 1 + 1 + 2 + 1) _ [r3, r2 - 1, 10001] _ SW19.st (by omega) BW19_13 (by simp) (by simp) (slice_ne qW18)).mono ?_; rintro e W20 ⟨v, rfl, ⟨rB, rfl, -⟩, tW20, gW20⟩)
                have SW20 := SW19.step tW20 gW20
                have BW20_5 := Arr.grown BW19_5 gW20 (Nat.ne_of_gt qW13)
                have BW20_13 := Arr.grown BW19_13 gW20 (Nat.ne_of_gt qW18)
                refine hK.out _ _ (fun _ _ => SW20.s) ?_
                clear hK K SW19 gW20 tW20 BW19_5 BW19_13
                try simp only [Act.put, List.setIfInBounds_toArray, List.set_cons_zero, List.set_cons_succ]
                have x0 := SW20.x.cell 0 _ rfl
                have x1 := SW20.x.cell 1 _ rfl
                have x2 := SW20.x.cell 2 _ rfl
                have xf := fun o => SW20.x.free o
                have z0 := SW20.z.cell 0 _ rfl
                have z1 := SW20.z.cell 1 _ rfl
                have z2 := SW20.z.cell 2 _ rfl
                have zf := fun o => SW20.z.free o
                have SF := Lib.hid SW20
                clear SW20
                refine WalkT.ready (rs := [16]) (by kernel_rfl) (by simp) (AllT.cons rfl (fun K hK => ?_) AllT.nil)
                go_simp
                refine hK.out _ _ (fun h => absurd h (by decide)) ?_
                clear hK K
                try simp only [Act.put, List.setIfInBounds_toArray, List.set_cons_zero, List.set_cons_succ]
                refine WalkT.quiet (i := 17) (v := ?_) rfl (by kernel_rfl) (by kernel_rfl) (by kernel_rfl) (fun _ _ _ h => h) (Or.inl ⟨by rfl, ?_⟩) ?_
                rotate_left
                · (intro wS hSw; (try dsimp only at hSw); go_simp; try with_reducible rfl)
                try simp only [Act.put, List.setIfInBounds_toArray, List.set_cons_zero, List.set_cons_succ]
                refine WalkT.ready (rs := [18]) (by kernel_rfl) (by simp) (AllT.cons rfl (fun K hK => ?_) AllT.nil)
                go_simp
                refine hK.out _ _ (fun h => absurd h (by decide)) ?_
                clear hK K
                try simp only [Act.put, List.setIfInBounds_toArray, List.set_cons_zero, List.set_cons_succ]
                refine WalkT.quiet (i := 19) (v := ?_) rfl (by kernel_rfl) (by kernel_rfl) (by kernel_rfl) (fun _ _ _ h => h) (Or.inl ⟨by rfl, ?_⟩) ?_
                rotate_left
                · (intro wS hSw; (try dsimp only at hSw); go_simp; try with_reducible rfl)
                try simp only [Act.put, List.setIfInBounds_toArray, List.set_cons_zero, List.set_cons_succ]
                refine WalkT.ready (rs := [20]) (by kernel_rfl) (by simp) (AllT.cons rfl (fun K hK => ?_) AllT.nil)
                go_simp
                refine hK.out _ _ (fun h => absurd h (by decide)) ?_
                clear hK K
                try simp only [Act.put, List.setIfInBounds_toArray, List.set_cons_zero, List.set_cons_succ]
                refine WalkT.done (by kernel_rfl) ?_
                go_wp2
                refine bodyPost_ret (v := .agg #[.int .i64 rO, .int .i64 rA, .int .i64 rB]) ?_ rfl ⟨_, rfl, ⟨⟨rO, rA, rB⟩, rfl⟩, ?_, ?_⟩
                · simp [results, go_sem, z0, z1, z2]
                · exact (((((((SF.out.st.mono (by omega)).setOther SF.out.l2 _ _).setOther SF.out.l2 _ _).setOther SF.out.l2 _ _).setOther SF.out.l1 _ _).setOther SF.out.l1 _ _).setOther SF.out.l1 _ _)
                · exact grown_setOwn (grown_setOwn (grown_setOwn (grown_setOwn (grown_setOwn (grown_setOwn SF.out.gr hneb _ _) hneb _ _) hneb _ _) (Nat.le_refl _) _ _) (Nat.le_refl _) _ _) (Nat.le_refl _) _ _
              exact AllT.nil
            exact AllT.nil
          exact AllT.nil
        refine AllT.cons rfl (fun K hK => ?_) ?_
        · go_simp
          refine genLit (C := fun W' => K _ W') s 3 [r3, r2 - 1, 10001] (by rfl) (by rfl) (by simp) ?_
          intro W21 gW21 tW21 AW21
          have SW21 := SW13.step (tW21 _ SW13.st) gW21
          have qW21 : s < W13.heap.size := SW13.st.lt
          have BW21_5 := Arr.grown AW13 gW21 (Nat.ne_of_gt qW13)
          refine hK.out _ _ (fun _ _ => SW21.s) ?_
          clear hK K SW13 gW21 tW21 AW13
          try simp only [Act.put, List.setIfInBounds_toArray, List.set_cons_zero, List.set_cons_succ]
          refine WalkT.ready (rs := [1]) (by kernel_rfl) (by simp) ?_
          refine AllT.cons rfl (fun K hK => ?_) ?_
          · go_simp
            go_wp2_with (go_at_call 46; refine (odd_any s (m + 1 + 1 + 1 + 1) (-10000) 10000 _ SW21.st (by omega) (by omega) (by omega) (by omega)).mono ?_; rintro e W22 ⟨v, rfl, ⟨rO, rfl, -⟩, tW22, gW22⟩)
            have SW22 := SW21.step tW22 gW22
            have BW22_5 := Arr.grown BW21_5 gW22 (Nat.ne_of_gt qW13)
            have BW22_13 := Arr.grown AW21 gW22 (Nat.ne_of_gt qW21)
            refine hK.out _ _ (fun _ _ => SW22.s) ?_
            clear hK K SW21 gW22 tW22 BW21_5 AW21
            try simp only [Act.put, List.setIfInBounds_toArray, List.set_cons_zero, List.set_cons_succ]
            refine WalkT.quiet (i := 15) (v := ?_) rfl (by kernel_rfl) (by kernel_rfl) (by kernel_rfl) (fun _ _ _ h => h) (Or.inl ⟨by rfl, ?_⟩) ?_
            rotate_left
            · (intro wS hSw; (try dsimp only at hSw); go_simp; try with_reducible rfl)
            try simp only [Act.put, List.setIfInBounds_toArray, List.set_cons_zero, List.set_cons_succ]
            refine WalkT.ready (rs := [6]) (by kernel_rfl) (by simp) ?_
            refine AllT.cons rfl (fun K hK => ?_) ?_
            · go_simp
              go_wp2_with (go_at_call 44; refine (pick_any s (m + 1 + 1 + 1 + 1 + 2) _ [r2, -10001] _ SW22.st (by omega) BW22_5 (by simp) (by simp) (slice_ne qW13)).mono ?_; rintro e W23 ⟨v, rfl, ⟨rA, rfl, -⟩, tW23, gW23⟩)
              have SW23 := SW22.step tW23 gW23
              have BW23_5 := Arr.grown BW22_5 gW23 (Nat.ne_of_gt qW13)
              have BW23_13 := Arr.grown BW22_13 gW23 (Nat.ne_of_gt qW21)
              refine hK.out _ _ (fun _ _ => SW23.s) ?_
              clear hK K SW22 gW23 tW23 BW22_5 BW22_13
              try simp only [Act.put, List.setIfInBounds_toArray, List.set_cons_zero, List.set_cons_succ]
              refine WalkT.ready (rs := [14]) (by kernel_rfl) (by simp) ?_
              refine AllT.cons rfl (fun K hK => ?_) ?_
              · go_simp
                go_wp2_with (go_at_call 44; refine (pick_any s (m + 1 + 1 + 1 + 1 + 2 + 1) _ [r3, r2 - 1, 10001] _ SW23.st (by omega) BW23_13 (by simp) (by simp) (slice_ne qW21)).mono ?_; rintro e W24 ⟨v, rfl, ⟨rB, rfl, -⟩, tW24, gW24⟩)
                have SW24 := SW23.step tW24 gW24
                have BW24_5 := Arr.grown BW23_5 gW24 (Nat.ne_of_gt qW13)
                have BW24_13 := Arr.grown BW23_13 gW24 (Nat.ne_of_gt qW21)
                refine hK.out _ _ (fun _ _ => SW24.s) ?_
                clear hK K SW23 gW24 tW24 BW23_5 BW23_13
                try simp only [Act.put, List.setIfInBounds_toArray, List.set_cons_zero, List.set_cons_succ]
                have x0 := SW24.x.cell 0 _ rfl
                have x1 := SW24.x.cell 1 _ rfl
                have x2 := SW24.x.cell 2 _ rfl
                have xf := fun o => SW24.x.free o
                have z0 := SW24.z.cell 0 _ rfl
                have z1 := SW24.z.cell 1 _ rfl
                have z2 := SW24.z.cell 2 _ rfl
                have zf := fun o => SW24.z.free o
                have SF := Lib.hid SW24
                clear SW24
                refine WalkT.ready (rs := [16]) (by kernel_rfl) (by simp) (AllT.cons rfl (fun K hK => ?_) AllT.nil)
                go_simp
                refine hK.out _ _ (fun h => absurd h (by decide)) ?_
                clear hK K
                try simp only [Act.put, List.setIfInBounds_toArray, List.set_cons_zero, List.set_cons_succ]
                refine WalkT.quiet (i := 17) (v := ?_) rfl (by kernel_rfl) (by kernel_rfl) (by kernel_rfl) (fun _ _ _ h => h) (Or.inl ⟨by rfl, ?_⟩) ?_
                rotate_left
                · (intro wS hSw; (try dsimp only at hSw); go_simp; try with_reducible rfl)
                try simp only [Act.put, List.setIfInBounds_toArray, List.set_cons_zero, List.set_cons_succ]
                refine WalkT.ready (rs := [18]) (by kernel_rfl) (by simp) (AllT.cons rfl (fun K hK => ?_) AllT.nil)
                go_simp
                refine hK.out _ _ (fun h => absurd h (by decide)) ?_
                clear hK K
                try simp only [Act.put, List.setIfInBounds_toArray, List.set_cons_zero, List.set_cons_succ]
                refine WalkT.quiet (i := 19) (v := ?_) rfl (by kernel_rfl) (by kernel_rfl) (by kernel_rfl) (fun _ _ _ h => h) (Or.inl ⟨by rfl, ?_⟩) ?_
                rotate_left
                · (intro wS hSw; (try dsimp only at hSw); go_simp; try with_reducible rfl)
                try simp only [Act.put, List.setIfInBounds_toArray, List.set_cons_zero, List.set_cons_succ]
                refine WalkT.ready (rs := [20]) (by kernel_rfl) (by simp) (AllT.cons rfl (fun K hK => ?_) AllT.nil)
                go_simp
                refine hK.out _ _ (fun h => absurd h (by decide)) ?_
                clear hK K
                try simp only [Act.put, List.setIfInBounds_toArray, List.set_cons_zero, List.set_cons_succ]
                refine WalkT.done (by kernel_rfl) ?_
                go_wp2
                refine bodyPost_ret (v := .agg #[.int .i64 rO, .int .i64 rA, .int .i64 rB]) ?_ rfl ⟨_, rfl, ⟨⟨rO, rA, rB⟩, rfl⟩, ?_, ?_⟩
                · simp [results, go_sem, z0, z1, z2]
                · exact (((((((SF.out.st.mono (by omega)).setOther SF.out.l2 _ _).setOther SF.out.l2 _ _).setOther SF.out.l2 _ _).setOther SF.out.l1 _ _).setOther SF.out.l1 _ _).setOther SF.out.l1 _ _)
                · exact grown_setOwn (grown_setOwn (grown_setOwn (grown_setOwn (grown_setOwn (grown_setOwn SF.out.gr hneb _ _) hneb _ _) hneb _ _) (Nat.le_refl _) _ _) (Nat.le_refl _) _ _) (Nat.le_refl _) _ _
              exact AllT.nil
            exact AllT.nil
          exact AllT.nil
        exact AllT.nil
      refine AllT.cons rfl (fun K hK => ?_) ?_
      · go_simp
        refine genLit (C := fun W' => K _ W') s 3 [r3, r2 - 1, 10001] (by rfl) (by rfl) (by simp) ?_
        intro W25 gW25 tW25 AW25
        have SW25 := SW0.step (tW25 _ SW0.st) gW25
        have qW25 : s < W0.heap.size := SW0.st.lt
        refine hK.out _ _ (fun _ _ => SW25.s) ?_
        clear hK K SW0 gW25 tW25
        try simp only [Act.put, List.setIfInBounds_toArray, List.set_cons_zero, List.set_cons_succ]
        refine WalkT.ready (rs := [1, 5]) (by kernel_rfl) (by simp) ?_
        refine AllT.cons rfl (fun K hK => ?_) ?_
        · go_simp
          go_wp2_with (go_at_call 46; refine (odd_any s (m + 1 + 1 + 1 + 1) (-10000) 10000 _ SW25.st (by omega) (by omega) (by omega) (by omega)).mono ?_; rintro e W26 ⟨v, rfl, ⟨rO, rfl, -⟩, tW26, gW26⟩)
          have SW26 := SW25.step tW26 gW26
          have BW26_13 := Arr.grown AW25 gW26 (Nat.ne_of_gt qW25)
          refine hK.out _ _ (fun _ _ => SW26.s) ?_
          clear hK K SW25 gW26 tW26 AW25
          try simp only [Act.put, List.setIfInBounds_toArray, List.set_cons_zero, List.set_cons_succ]
          refine WalkT.quiet (i := 15) (v := ?_) rfl (by kernel_rfl) (by kernel_rfl) (by kernel_rfl) (fun _ _ _ h => h) (Or.inl ⟨by rfl, ?_⟩) ?_
          rotate_left
          · (intro wS hSw; (try dsimp only at hSw); go_simp; try with_reducible rfl)
          try simp only [Act.put, List.setIfInBounds_toArray, List.set_cons_zero, List.set_cons_succ]
          refine WalkT.ready (rs := [5]) (by kernel_rfl) (by simp) ?_
          refine AllT.cons rfl (fun K hK => ?_) ?_
          · go_simp
            refine genLit (C := fun W' => K _ W') s 2 [r2, -10001] (by rfl) (by rfl) (by simp) ?_
            intro W27 gW27 tW27 AW27
            have SW27 := SW26.step (tW27 _ SW26.st) gW27
            have qW27 : s < W26.heap.size := SW26.st.lt
            have BW27_13 := Arr.grown BW26_13 gW27 (Nat.ne_of_gt qW25)
            refine hK.out _ _ (fun _ _ => SW27.s) ?_
            clear hK K SW26 gW27 tW27 BW26_13
            try simp only [Act.put, List.setIfInBounds_toArray, List.set_cons_zero, List.set_cons_succ]
            refine WalkT.ready (rs := [6]) (by kernel_rfl) (by simp) ?_
            refine AllT.cons rfl (fun K hK => ?_) ?_
            · go_simp
              go_wp2_with (go_at_call 44; refine (pick_any s (m + 1 + 1 + 1 + 1 + 2) _ [r2, -10001] _ SW27.st (by omega) AW27 (by simp) (by simp) (slice_ne qW27)).mono ?_; rintro e W28 ⟨v, rfl, ⟨rA, rfl, -⟩, tW28, gW28⟩)
              have SW28 := SW27.step tW28 gW28
              have BW28_13 := Arr.grown BW27_13 gW28 (Nat.ne_of_gt qW25)
              have BW28_5 := Arr.grown AW27 gW28 (Nat.ne_of_gt qW27)
              refine hK.out _ _ (fun _ _ => SW28.s) ?_
              clear hK K SW27 gW28 tW28 BW27_13 AW27
              try simp only [Act.put, List.setIfInBounds_toArray, List.set_cons_zero, List.set_cons_succ]
              refine WalkT.ready (rs := [14]) (by kernel_rfl) (by simp) ?_
              refine AllT.cons rfl (fun K hK => ?_) ?_
              · go_simp
                go_wp2_with (go_at_call 44; refine (pick_any s (m + 1 + 1 + 1 + 1 + 2 + 1) _ [r3, r2 - 1, 10001] _ SW28.st (by omega) BW28_13 (by simp) (by simp) (slice_ne qW25)).mono ?_; rintro e W29 ⟨v, rfl, ⟨rB, rfl, -⟩, tW29, gW29⟩)
                have SW29 := SW28.step tW29 gW29
                have BW29_13 := Arr.grown BW28_13 gW29 (Nat.ne_of_gt qW25)
                have BW29_5 := Arr.grown BW28_5 gW29 (Nat.ne_of_gt qW27)
                refine hK.out _ _ (fun _ _ => SW29.s) ?_
                clear hK K SW28 gW29 tW29 BW28_13 BW28_5
                try simp only [Act.put, List.setIfInBounds_toArray, List.set_cons_zero, List.set_cons_succ]
                have x0 := SW29.x.cell 0 _ rfl
                have x1 := SW29.x.cell 1 _ rfl
                have x2 := SW29.x.cell 2 _ rfl
                have xf := fun o => SW29.x.free o
                have z0 := SW29.z.cell 0 _ rfl
                have z1 := SW29.z.cell 1 _ rfl
                have z2 := SW29.z.cell 2 _ rfl
                have zf := fun o => SW29.z.free o
                have SF := Lib.hid SW29
                clear SW29
                refine WalkT.ready (rs := [16]) (by kernel_rfl) (by simp) (AllT.cons rfl (fun K hK => ?_) AllT.nil)
                go_simp
                refine hK.out _ _ (fun h => absurd h (by decide)) ?_
                clear hK K
                try simp only [Act.put, List.setIfInBounds_toArray, List.set_cons_zero, List.set_cons_succ]
                refine WalkT.quiet (i := 17) (v := ?_) rfl (by kernel_rfl) (by kernel_rfl) (by kernel_rfl) (fun _ _ _ h => h) (Or.inl ⟨by rfl, ?_⟩) ?_
                rotate_left
                · (intro wS hSw; (try dsimp only at hSw); go_simp; try with_reducible rfl)
                try simp only [Act.put, List.setIfInBounds_toArray, List.set_cons_zero, List.set_cons_succ]
                refine WalkT.ready (rs := [18]) (by kernel_rfl) (by simp) (AllT.cons rfl (fun K hK => ?_) AllT.nil)
                go_simp
                refine hK.out _ _ (fun h => absurd h (by decide)) ?_
                clear hK K
                try simp only [Act.put, List.setIfInBounds_toArray, List.set_cons_zero, List.set_cons_succ]
                refine WalkT.quiet (i := 19) (v := ?_) rfl (by kernel_rfl) (by kernel_rfl) (by kernel_rfl) (fun _ _ _ h => h) (Or.inl ⟨by rfl, ?_⟩) ?_
                rotate_left
                · (intro wS hSw; (try dsimp only at hSw); go_simp; try with_reducible rfl)
                try simp only [Act.put, List.setIfInBounds_toArray, List.set_cons_zero, List.set_cons_succ]
                refine WalkT.ready (rs := [20]) (by kernel_rfl) (by simp) (AllT.cons rfl (fun K hK => ?_) AllT.nil)
                go_simp
                refine hK.out _ _ (fun h => absurd h (by decide)) ?_
                clear hK K
                try simp only [Act.put, List.setIfInBounds_toArray, List.set_cons_zero, List.set_cons_succ]
                refine WalkT.done (by kernel_rfl) ?_
                go_wp2
                refine bodyPost_ret (v := .agg #[.int .i64 rO, .int .i64 rA, .int .i64 rB]) ?_ rfl ⟨_, rfl, ⟨⟨rO, rA, rB⟩, rfl⟩, ?_, ?_⟩
                · simp [results, go_sem, z0, z1, z2]
                · exact (((((((SF.out.st.mono (by omega)).setOther SF.out.l2 _ _).setOther SF.out.l2 _ _).setOther SF.out.l2 _ _).setOther SF.out.l1 _ _).setOther SF.out.l1 _ _).setOther SF.out.l1 _ _)
                · exact grown_setOwn (grown_setOwn (grown_setOwn (grown_setOwn (grown_setOwn (grown_setOwn SF.out.gr hneb _ _) hneb _ _) hneb _ _) (Nat.le_refl _) _ _) (Nat.le_refl _) _ _) (Nat.le_refl _) _ _
              exact AllT.nil
            exact AllT.nil
          exact AllT.nil
        refine AllT.cons rfl (fun K hK => ?_) ?_
        · go_simp
          refine genLit (C := fun W' => K _ W') s 2 [r2, -10001] (by rfl) (by rfl) (by simp) ?_
          intro W30 gW30 tW30 AW30
          have SW30 := SW25.step (tW30 _ SW25.st) gW30
          have qW30 : s < W25.heap.size := SW25.st.lt
          have BW30_13 := Arr.grown AW25 gW30 (Nat.ne_of_gt qW25)
          refine hK.out _ _ (fun _ _ => SW30.s) ?_
          clear hK K SW25 gW30 tW30 AW25
          try simp only [Act.put, List.setIfInBounds_toArray, List.set_cons_zero, List.set_cons_succ]
          refine WalkT.ready (rs := [1]) (by kernel_rfl) (by simp) ?_
          refine AllT.cons rfl (fun K hK => ?_) ?_
          · go_simp
            go_wp2_with (go_at_call 46; refine (odd_any s (m + 1 + 1 + 1 + 1) (-10000) 10000 _ SW30.st (by omega) (by omega) (by omega) (by omega)).mono ?_; rintro e W31 ⟨v, rfl, ⟨rO, rfl, -⟩, tW31, gW31⟩)
            have SW31 := SW30.step tW31 gW31
            have BW31_13 := Arr.grown BW30_13 gW31 (Nat.ne_of_gt qW25)
            have BW31_5 := Arr.grown AW30 gW31 (Nat.ne_of_gt qW30)
            refine hK.out _ _ (fun _ _ => SW31.s) ?_
            clear hK K SW30 gW31 tW31 BW30_13 AW30
            try simp only [Act.put, List.setIfInBounds_toArray, List.set_cons_zero, List.set_cons_succ]
            refine WalkT.quiet (i := 15) (v := ?_) rfl (by kernel_rfl) (by kernel_rfl) (by kernel_rfl) (fun _ _ _ h => h) (Or.inl ⟨by rfl, ?_⟩) ?_
            rotate_left
            · (intro wS hSw; (try dsimp only at hSw); go_simp; try with_reducible rfl)
            try simp only [Act.put, List.setIfInBounds_toArray, List.set_cons_zero, List.set_cons_succ]
            refine WalkT.ready (rs := [6]) (by kernel_rfl) (by simp) ?_
            refine AllT.cons rfl (fun K hK => ?_) ?_
            · go_simp
              go_wp2_with (go_at_call 44; refine (pick_any s (m + 1 + 1 + 1 + 1 + 2) _ [r2, -10001] _ SW31.st (by omega) BW31_5 (by simp) (by simp) (slice_ne qW30)).mono ?_; rintro e W32 ⟨v, rfl, ⟨rA, rfl, -⟩, tW32, gW32⟩)
              have SW32 := SW31.step tW32 gW32
              have BW32_13 := Arr.grown BW31_13 gW32 (Nat.ne_of_gt qW25)
              have BW32_5 := Arr.grown BW31_5 gW32 (Nat.ne_of_gt qW30)
              refine hK.out _ _ (fun _ _ => SW32.s) ?_
              clear hK K SW31 gW32 tW32 BW31_13 BW31_5
              try simp only [Act.put, List.setIfInBounds_toArray, List.set_cons_zero, List.set_cons_succ]
              refine WalkT.ready (rs := [14]) (by kernel_rfl) (by simp) ?_
              refine AllT.cons rfl (fun K hK => ?_) ?_
              · go_simp
                go_wp2_with (go_at_call 44; refine (pick_any s (m + 1 + 1 + 1 + 1 + 2 + 1) _ [r3, r2 - 1, 10001] _ SW32.st (by omega) BW32_13 (by simp) (by simp) (slice_ne qW25)).mono ?_; rintro e W33 ⟨v, rfl, ⟨rB, rfl, -⟩, tW33, gW33⟩)
                have SW33 := SW32.step tW33 gW33
                have BW33_13 := Arr.grown BW32_13 gW33 (Nat.ne_of_gt qW25)
                have BW33_5 := Arr.grown BW32_5 gW33 (Nat.ne_of_gt qW30)
                refine hK.out _ _ (fun _ _ => SW33.s) ?_
                clear hK K SW32 gW33 tW33 BW32_13 BW32_5
                try simp only [Act.put, List.setIfInBounds_toArray, List.set_cons_zero, List.set_cons_succ]
                have x0 := SW33.x.cell 0 _ rfl
                have x1 := SW33.x.cell 1 _ rfl
                have x2 := SW33.x.cell 2 _ rfl
                have xf := fun o => SW33.x.free o
                have z0 := SW33.z.cell 0 _ rfl
                have z1 := SW33.z.cell 1 _ rfl
                have z2 := SW33.z.cell 2 _ rfl
                have zf := fun o => SW33.z.free o
                have SF := Lib.hid SW33
                clear SW33
                refine WalkT.ready (rs := [16]) (by kernel_rfl) (by simp) (AllT.cons rfl (fun K hK => ?_) AllT.nil)
                go_simp
                refine hK.out _ _ (fun h => absurd h (by decide)) ?_
                clear hK K
                try simp only [Act.put, List.setIfInBounds_toArray, List.set_cons_zero, List.set_cons_succ]
                refine WalkT.quiet (i := 17) (v := ?_) rfl (by kernel_rfl) (by kernel_rfl) (by kernel_rfl) (fun _ _ _ h => h) (Or.inl ⟨by rfl, ?_⟩) ?_
                rotate_left
                · (intro wS hSw; (try dsimp only at hSw); go_simp; try with_reducible rfl)
                try simp only [Act.put, List.setIfInBounds_toArray, List.set_cons_zero, List.set_cons_succ]
                refine WalkT.ready (rs := [18]) (by kernel_rfl) (by simp) (AllT.cons rfl (fun K hK => ?_) AllT.nil)
                go_simp
                refine hK.out _ _ (fun h => absurd h (by decide)) ?_
                clear hK K
                try simp only [Act.put, List.setIfInBounds_toArray, List.set_cons_zero, List.set_cons_succ]
                refine WalkT.quiet (i := 19) (v := ?_) rfl (by kernel_rfl) (by kernel_rfl) (by kernel_rfl) (fun _ _ _ h => h) (Or.inl ⟨by rfl, ?_⟩) ?_
                rotate_left
                · (intro wS hSw; (try dsimp only at hSw); go_simp; try with_reducible rfl)
                try simp only [Act.put, List.setIfInBounds_toArray, List.set_cons_zero, List.set_cons_succ]
                refine WalkT.ready (rs := [20]) (by kernel_rfl) (by simp) (AllT.cons rfl (fun K hK => ?_) AllT.nil)
                go_simp
                refine hK.out _ _ (fun h => absurd h (by decide)) ?_
                clear hK K
                try simp only [Act.put, List.setIfInBounds_toArray, List.set_cons_zero, List.set_cons_succ]
                refine WalkT.done (by kernel_rfl) ?_
                go_wp2
                refine bodyPost_ret (v := .agg #[.int .i64 rO, .int .i64 rA, .int .i64 rB]) ?_ rfl ⟨_, rfl, ⟨⟨rO, rA, rB⟩, rfl⟩, ?_, ?_⟩
                · simp [results, go_sem, z0, z1, z2]
                · exact (((((((SF.out.st.mono (by omega)).setOther SF.out.l2 _ _).setOther SF.out.l2 _ _).setOther SF.out.l2 _ _).setOther SF.out.l1 _ _).setOther SF.out.l1 _ _).setOther SF.out.l1 _ _)
                · exact grown_setOwn (grown_setOwn (grown_setOwn (grown_setOwn (grown_setOwn (grown_setOwn SF.out.gr hneb _ _) hneb _ _) hneb _ _) (Nat.le_refl _) _ _) (Nat.le_refl _) _ _) (Nat.le_refl _) _ _
              exact AllT.nil
            exact AllT.nil
          exact AllT.nil
        exact AllT.nil
      exact AllT.nil
end Go.Proofs.YteliiknlpfjlkaaGreatDoor
