/- Parts of the proof of ScriptsAnswered: SpM, SpN, SpO, SpT, SpU, SpV, SrA, SrB, SsA. No condition. -/
import Derived.Test.YtbgnlfgkgklkdaaGreatDoorZ56
import Derived.Test.YtbgnlfgkgklkdaaGreatDoorZ34
set_option linter.unusedVariables false
set_option linter.unusedSimpArgs false
set_option maxHeartbeats 8000000
set_option maxRecDepth 100000
namespace Go.Proofs.YtbgnlfgkgklkdaaGreatDoor
open Go Go.RowKit Tryz
theorem qC.fill4 {w:World} {b:Nat} {t:TypeId} {u0 u1 u2 u3 v0 v1 v2 v3:Value} (h:qC w b #[u0,u1,u2,u3] t):qC ((((w.setCell ⟨b,0,none⟩ v0).setCell ⟨b,1,none⟩ v1).setCell ⟨b,2,none⟩ v2).setCell ⟨b,3,none⟩ v3) b #[v0,v1,v2,v3] t :=
 (((h.set 0 v0).set 1 v1).set 2 v2).set 3 v3
theorem Below.fill4 {B b:Nat} {a w:World} (h:Below B a w) (hb:B≤b) (v0 v1 v2 v3:Value):Below B a ((((w.setCell ⟨b,0,none⟩ v0).setCell ⟨b,1,none⟩ v1).setCell ⟨b,2,none⟩ v2).setCell ⟨b,3,none⟩ v3) :=
 (((h.setCell hb v0).setCell hb v1).setCell hb v2).setCell hb v3
def WbK (W:World) (wb b0 o kC nn:Nat) (C:List qG) (f:qQ):Prop:=qAq W kC nn (qAT C)∧W.cell? ⟨wb,4,none⟩=some (.map (some kC))∧W.cell? ⟨b0,o,none⟩=some (.string f.cable)∧W.cell? ⟨b0,o+1,none⟩=some (.int .i64 f.no)∧wb<W.heap.size∧b0<W.heap.size∧kC<W.heap.size
theorem WbK.below {W W':World} {wb b0 o kC nn:Nat} {C:List qG} {f:qQ} (h:WbK W wb b0 o kC nn C f) (hb:Below W.heap.size W W'):WbK W' wb b0 o kC nn C f:=by
 obtain⟨h1,h2,h3,h4,h5,h6,h7⟩:=h;exact⟨h1.below hb h7,(hb.cell (p:=⟨wb,4,none⟩) h5).trans h2,(hb.cell (p:=⟨b0,_,none⟩) h6).trans h3,(hb.cell (p:=⟨b0,_,none⟩) h6).trans h4,Nat.lt_of_lt_of_le h5 hb.size,Nat.lt_of_lt_of_le h6 hb.size,Nat.lt_of_lt_of_le h7 hb.size⟩
theorem qKb {C:List qG} {f:qQ} {c:qG} {bo:Bool} (hc:(qY C f.cable).getD qAH=c) (hb:(qY C f.cable).isSome=bo):jX C f=(bo && !zC f.no 1 c.fibs):=by
 cases hg:qY C f.cable with
 | none=>rw [hg] at hb;subst hb;unfold jX;rw [hg];rfl
 | some d =>
  rw [qES,hc];rw [hg] at hb;subst hb;rfl
theorem qNC {C:List qG} {f:qQ} {c:qG} {bo:Bool} (k:ByteArray) (hc:(qY C f.cable).getD qAH=c) (hb:(qY C f.cable).isSome=bo):qAA C f k=(bo && (c.a.toList==k.toList || c.b.toList==k.toList)):=by
 unfold qAA
 cases hg:qY C f.cable with
 | none=>rw [hg] at hb;subst hb;rfl
 | some d =>
  rw [hg] at hb hc;subst hb;simp only [Option.getD_some] at hc;subst hc;rw [qFb,qFb,Bool.eq_iff_iff];simp only [Option.isSome_some,Bool.true_and,Bool.or_eq_true,decide_eq_true_eq]
  constructor
  ·rintro (h|h)
   ·exact .inl h.symm
   ·exact .inr h.symm
  ·rintro (h|h)
   ·exact .inl h.symm
   ·exact .inr h.symm
theorem qSa (C:List qG) (f:qQ) (wb nn kS kC kE:Nat) (vS vC vX:Value) (m1:ByteArray→Option Value) (m3:qQ × ByteArray→Option Value) (w:World) (hw:qCe w wb nn vS vC vX kS kC kE m1 (qAT C) m3) (hf:f.cable.size≤maxLen) :
  Calls prog 206 #[.pointer (some ⟨wb,0,none⟩),.agg ↑f] w
  λe w'=>e=.returned (.bool (jX C f))∧Below w.heap.size w w':=by
 obtain⟨c,hc⟩:=eX ((qY C f.cable).getD qAH);obtain⟨bo,hbo⟩:=eX ((qY C f.cable).isSome);obtain⟨kl,hkl⟩:=qBy f.cable hf;have HO:=mH (aI hc hbo);have HK:=mH hkl;rw [qKb hc hbo];clear hc hbo hkl hf;have hBa:Below w.heap.size w (w.alloc (.cells ↑f 77)).drew:=by exact qS
 have hx0:qC (w.alloc (.cells ↑f 77)).drew w.heap.size ↑f 77:=(qC.new w _ _).drew;have hw0:=hw.below hBa;have hS:WbK (w.alloc (.cells ↑f 77)).drew wb w.heap.size 0 kC nn C f:=⟨hw0.mC,hw0.blk.cell 4 _ rfl,hx0.cell 0 _ rfl,hx0.cell 1 _ rfl,hw0.blk.lt,hx0.lt,hw0.mC.lt⟩;have H1:=mH (aI hBa hx0);clear hBa hx0 hw0 hw;go_enter func206,ntmps206;go_wp2_with fail;refine qA.start (λW=>WbK W wb w.heap.size 0 kC nn C f) [11] kR ?_;generalize (w.alloc (.cells ↑f 77)).drew=W1 at *;refine qA.q 0 ?_;refine qA.q 1 ?_;refine qA.q 2 ?_;refine qA.t 3 hS ?_;refine qA.q 4 ?_;refine qA.t 5 hS ?_;refine qA.take (i:=6) (v:=.tuple #[.agg ↑c,.bool bo]) rfl kR kR kR kR (λ_ _ _ h=>h) hS (Or.inl ⟨by rfl,?_⟩) ?_;(· (intro wS hSw;(try dsimp only at hSw);obtain⟨hCM,_⟩:=hSw;have hlk:=qGx hCM f.cable HK.o;rw [HO.o.1,HO.o.2] at hlk;go_simp;first|rfl|exact congrArg (λr=>Result.andThen r λa w'=>Result.ok (Next.value a) w') hlk));try simp only [Act.put,zL,zN,zH,zM,zK,zI]
 refine qA.q 7 ?_;refine qA.q 8 ?_;refine qA.q 9 ?_;refine qA.nx 10 λK hK=>?_;go_simp
 have hS2:=hS.below (qB bR (.cells #[.string ⟨#[]⟩,.string ⟨#[]⟩,.string ⟨#[]⟩,.int .i64 0,.int .i64 0] 75) lR);refine hK.out _ _ (λ_ _=>hS2) ?_;clear hK K;try simp only [Act.put,zL,zN,zH,zM,zK,zI]
 refine qA.nx 11 λK hK=>?_;go_simp
 refine qA.o hK ?_;clear hK K;refine qA.q 12 ?_;refine qA.done kR ?_;have hB3:Below w.heap.size w (W1.alloc (.cells ↑c 75)):=H1.o.1.trans (qB bR _ H1.o.1.size);have s1:(W1.alloc (.cells ↑c 75)).cell? ⟨w.heap.size,1,none⟩=some (.int .i64 f.no):=(H1.o.2.alloc _).cell 1 _ rfl;have HB3:=mH hB3;clear hB3 hS hS2
 cases bo
 ·go_wp2;go_ret;exact⟨rfl,HB3.o⟩
 ·go_wp2_with (go_at_call 117;refine(qCm _ _ _ _).mono ?_;rintro e' w' ⟨rfl,rfl⟩);go_ret;exact⟨by simp,HB3.o⟩
theorem qO0 (C:List qG) (f:qQ) (site:ByteArray) (wb nn kS kC kE:Nat) (vS vC vX:Value) (m1:ByteArray→Option Value) (m3:qQ × ByteArray→Option Value) (w:World) (hw:qCe w wb nn vS vC vX kS kC kE m1 (qAT C) m3) (hf:f.cable.size≤maxLen) :
  Calls prog 207 #[.pointer (some ⟨wb,0,none⟩),.agg ↑f,.string site] w
  λe w'=>e=.returned (.bool (qAA C f site))∧Below w.heap.size w w':=by
 obtain⟨c,hc⟩:=eX ((qY C f.cable).getD qAH);obtain⟨bo,hbo⟩:=eX ((qY C f.cable).isSome);obtain⟨kl,hkl⟩:=qBy f.cable hf;have HO:=mH (aI hc hbo);have HK:=mH hkl;rw [qNC site hc hbo];clear hc hbo hkl hf;have hBa:Below w.heap.size w (w.alloc (.cells ↑f 77)).drew:=by exact qS
 have hx0:qC (w.alloc (.cells ↑f 77)).drew w.heap.size ↑f 77:=(qC.new w _ _).drew;have hw0:=hw.below hBa;have hS:WbK (w.alloc (.cells ↑f 77)).drew wb w.heap.size 0 kC nn C f:=⟨hw0.mC,hw0.blk.cell 4 _ rfl,hx0.cell 0 _ rfl,hx0.cell 1 _ rfl,hw0.blk.lt,hx0.lt,hw0.mC.lt⟩;have H1:=mH (aI hBa hx0);clear hBa hx0 hw0 hw;go_enter func207,ntmps207;go_wp2_with fail;refine qA.start (λW=>WbK W wb w.heap.size 0 kC nn C f) [11] kR ?_;generalize (w.alloc (.cells ↑f 77)).drew=W1 at *;refine qA.q 0 ?_;refine qA.q 1 ?_;refine qA.q 2 ?_;refine qA.t 3 hS ?_;refine qA.q 4 ?_;refine qA.t 5 hS ?_;refine qA.take (i:=6) (v:=.tuple #[.agg ↑c,.bool bo]) rfl kR kR kR kR (λ_ _ _ h=>h) hS (Or.inl ⟨by rfl,?_⟩) ?_;(· (intro wS hSw;(try dsimp only at hSw);obtain⟨hCM,_⟩:=hSw;have hlk:=qGx hCM f.cable HK.o;rw [HO.o.1,HO.o.2] at hlk;go_simp;first|rfl|exact congrArg (λr=>Result.andThen r λa w'=>Result.ok (Next.value a) w') hlk));try simp only [Act.put,zL,zN,zH,zM,zK,zI]
 refine qA.q 7 ?_;refine qA.q 8 ?_;refine qA.q 9 ?_;refine qA.nx 10 λK hK=>?_;go_simp
 have hS2:=hS.below (qB bR (.cells #[.string ⟨#[]⟩,.string ⟨#[]⟩,.string ⟨#[]⟩,.int .i64 0,.int .i64 0] 75) lR);refine hK.out _ _ (λ_ _=>hS2) ?_;clear hK K;try simp only [Act.put,zL,zN,zH,zM,zK,zI]
 refine qA.nx 11 λK hK=>?_;go_simp
 refine qA.o hK ?_;clear hK K;refine qA.q 12 ?_;refine qA.done kR ?_;have hB3:Below w.heap.size w (W1.alloc (.cells ↑c 75)):=H1.o.1.trans (qB bR _ H1.o.1.size);have HB3:=mH hB3;clear hB3 hS hS2
 cases bo
 ·go_wp2;go_ret;exact⟨rfl,HB3.o⟩
 ·cases h1:(c.a.toList==site.toList)
  ·go_wp2;go_ret;exact⟨congrArg (λq=>Ending.returned (.bool q)) (by rw [h1];rfl),HB3.o⟩
  ·go_wp2;go_ret;exact⟨congrArg (λq=>Ending.returned (.bool q)) (by rw [h1];rfl),HB3.o⟩
theorem qML {C:List qG} {f:qQ} {c:qG} (k:ByteArray) (hc:(qY C f.cable).getD qAH=c):zW C f k=if c.a.toList==k.toList then c.b else c.a:=by
 unfold zW
 cases hg:qY C f.cable with
 | none=>rw [hg] at hc;subst hc;simp [qAH]
 | some d =>
  rw [hg] at hc;simp only [Option.getD_some] at hc;subst hc;rw [qFb]
  by_cases h1:d.a=k
  ·subst h1;simp
  ·have h2:¬k=d.a:=λq=>h1 q.symm
   simp [h1,h2]
theorem qRm (C:List qG) (f:qQ) (site:ByteArray) (wb nn kS kC kE:Nat) (vS vC vX:Value) (m1:ByteArray→Option Value) (m3:qQ × ByteArray→Option Value) (w:World) (hw:qCe w wb nn vS vC vX kS kC kE m1 (qAT C) m3) (hf:f.cable.size≤maxLen) :
  Calls prog 208 #[.pointer (some ⟨wb,0,none⟩),.agg #[.string site,.string (f).cable,.int .i64 (f).no]] w
  λe w'=>e=.returned (.agg ↑(qB8 C (f,site)))∧Below w.heap.size w w':=by
 obtain⟨c,hc⟩:=eX ((qY C f.cable).getD qAH);obtain⟨bo,hbo⟩:=eX ((qY C f.cable).isSome);obtain⟨kl,hkl⟩:=qBy f.cable hf;have HO:=mH (aI hc hbo);have HK:=mH hkl;have hot:=qML site hc;clear hc hbo hkl hf;have hBa:Below w.heap.size w ((w.alloc (.cells #[.string site,.string (f).cable,.int .i64 (f).no] 197)).alloc (.cells #[.string ⟨#[]⟩,.int .i64 0,.string ⟨#[]⟩,.string ⟨#[]⟩] 157)).drew:=by exact qS
 have hx0:qC ((w.alloc (.cells #[.string site,.string (f).cable,.int .i64 (f).no] 197)).alloc (.cells #[.string ⟨#[]⟩,.int .i64 0,.string ⟨#[]⟩,.string ⟨#[]⟩] 157)).drew w.heap.size #[.string site,.string (f).cable,.int .i64 (f).no] 197:=((qC.new w _ _).alloc _).drew;have hr0:qC ((w.alloc (.cells #[.string site,.string (f).cable,.int .i64 (f).no] 197)).alloc (.cells #[.string ⟨#[]⟩,.int .i64 0,.string ⟨#[]⟩,.string ⟨#[]⟩] 157)).drew (w.heap.size+1) #[.string ⟨#[]⟩,.int .i64 0,.string ⟨#[]⟩,.string ⟨#[]⟩] 157:=(qC.newAt sI).drew;have hw0:=hw.below hBa;have hS:WbK ((w.alloc (.cells #[.string site,.string (f).cable,.int .i64 (f).no] 197)).alloc (.cells #[.string ⟨#[]⟩,.int .i64 0,.string ⟨#[]⟩,.string ⟨#[]⟩] 157)).drew wb w.heap.size 1 kC nn C f:=⟨hw0.mC,hw0.blk.cell 4 _ rfl,hx0.cell 1 _ rfl,hx0.cell 2 _ rfl,hw0.blk.lt,hx0.lt,hw0.mC.lt⟩;have H1:=mH (aI hBa (aI hx0 hr0));clear hBa hx0 hr0 hw0 hw;go_enter func208,ntmps208;go_wp2_with fail;refine qA.start (λW=>WbK W wb w.heap.size 1 kC nn C f) [9] kR ?_;generalize ((w.alloc (.cells #[.string site,.string (f).cable,.int .i64 (f).no] 197)).alloc (.cells #[.string ⟨#[]⟩,.int .i64 0,.string ⟨#[]⟩,.string ⟨#[]⟩] 157)).drew=W1 at *;refine qA.q 0 ?_;refine qA.q 1 ?_;refine qA.q 2 ?_;refine qA.t 3 hS ?_;refine qA.q 4 ?_;refine qA.q 5 ?_;refine qA.t 6 hS ?_;refine qA.take (i:=7) (v:=.agg ↑c) rfl kR kR kR kR (λ_ _ _ h=>h) hS (Or.inl ⟨by rfl,?_⟩) ?_;(· (intro wS hSw;(try dsimp only at hSw);obtain⟨hCM,_⟩:=hSw;have hlk:=qHD hCM f.cable HK.o;rw [HO.o.1] at hlk;go_simp;first|rfl|exact congrArg (λr=>Result.andThen r λa w'=>Result.ok (Next.value a) w') hlk));try simp only [Act.put,zL,zN,zH,zM,zK,zI]
 refine qA.nx 8 λK hK=>?_;go_simp
 have hS2:=hS.below (qB bR (.cells #[.string ⟨#[]⟩,.string ⟨#[]⟩,.string ⟨#[]⟩,.int .i64 0,.int .i64 0] 75) lR);refine hK.out _ _ (λ_ _=>hS2) ?_;clear hK K;try simp only [Act.put,zL,zN,zH,zM,zK,zI]
 refine qA.nx 9 λK hK=>?_;go_simp
 refine qA.o hK ?_;clear hK K;refine qA.done kR ?_;have hx3:=H1.o.2.1.alloc (.cells ↑c 75);have hr3:=H1.o.2.2.alloc (.cells ↑c 75);have hB3:Below w.heap.size w (W1.alloc (.cells ↑c 75)):=H1.o.1.trans (qB bR _ H1.o.1.size);have hc3:qC (W1.alloc (.cells ↑c 75)) W1.heap.size ↑c 75:=qC.new _ _ _;clear hS hS2;obtain⟨b8,hb8⟩:=eX (W1.heap.size);rw [hb8] at hc3 ⊢;generalize W1.alloc (.cells ↑c 75)=W3 at *;clear hb8 H1;have e0:=hx3.cell 0 (.string site) rfl;have e1:=hx3.cell 1 (.string f.cable) rfl;have e2:=hx3.cell 2 (.int .i64 f.no) rfl;have y1:=hc3.cell 1 (.string c.a) rfl;have y2:=hc3.cell 2 (.string c.b) rfl;have x0:=hr3.cell 0 (.string ⟨#[]⟩) rfl;have x1:=hr3.cell 1 (.int .i64 0) rfl;have x2:=hr3.cell 2 (.string ⟨#[]⟩) rfl;have x3:=hr3.cell 3 (.string ⟨#[]⟩) rfl;have f0:=hr3.free 0;have f1:=hr3.free 1;have f2:=hr3.free 2;have f3:=hr3.free 3;have HF:=mH (aI hr3 (aI hB3 hot));clear hx3 hr3 hB3 hc3 hot
 cases hq:(c.a.toList==site.toList)
 ·have HV:Hx (zW C f site=c.a):=by rw [HF.o.2.2,hq];exact mH rfl
  go_wp2;refine bodyPost_ret (v:=.agg #[.string f.cable,.int .i64 f.no,.string site,.string c.a]) ?_ rfl ⟨?_,?_⟩
  ·exact results_cell_row rfl _ _ (w.heap.size+1) _ _ (0,0) _ rfl (qC.fill4 HF.o.1) underlying157 rfl kR
  ·unfold qB8;rw [HV.o]
  ·exact Below.fill4 HF.o.2.1 (Nat.le_succ _) _ _ _ _
 ·have HV:Hx (zW C f site=c.b):=by rw [HF.o.2.2,hq];exact mH rfl
  go_wp2;refine bodyPost_ret (v:=.agg #[.string f.cable,.int .i64 f.no,.string site,.string c.b]) ?_ rfl ⟨?_,?_⟩
  ·exact results_cell_row rfl _ _ (w.heap.size+1) _ _ (0,0) _ rfl (qC.fill4 HF.o.1) underlying157 rfl kR
  ·unfold qB8;rw [HV.o]
  ·exact Below.fill4 HF.o.2.1 (Nat.le_succ _) _ _ _ _
theorem qCf {a b:qQ} (h:¬a=b):(a.cable.toList==b.cable.toList)=false∨((a.cable.toList==b.cable.toList)=true∧¬a.no=b.no):=by
 by_cases hc:a.cable=b.cable
 ·refine .inr ⟨by rw [hc];simp,λhn=>h ?_⟩
  cases a;cases b;simp only at hc hn;rw [hc,hn]
 ·exact .inl (qAZ hc)
theorem Below.fill3 {B b:Nat} {a w:World} (h:Below B a w) (hb:B≤b) (v0 v1 v2:Value):Below B a (((w.setCell ⟨b,0,none⟩ v0).setCell ⟨b,1,none⟩ v1).setCell ⟨b,2,none⟩ v2) :=
 ((h.setCell hb v0).setCell hb v1).setCell hb v2
theorem qPq (X:List qE) (h:Hop) (wb nn kS kC kE:Nat) (vS vC vX:Value) (m1 m2:ByteArray→Option Value) (w:World) (hw:qCe w wb nn vS vC vX kS kC kE m1 m2 (qAV X)) (hs:h.tw.size≤maxLen) (hf:qBb h.fib) :
  Calls prog 209 #[.pointer (some ⟨wb,0,none⟩),.agg ↑h] w
  λe w'=>∃q:qQ × ByteArray,e=.returned (.tuple #[.agg #[.string q.2,.string (q.1).cable,.int .i64 (q.1).no],.bool (zD X h.fib h.tw).isSome])∧Below w.heap.size w w'∧(∀s,zD X h.fib h.tw=some s→q=if s.x=h.fib then (s.y,h.tw) else (s.x,h.tw)):=by
 have hBa:Below w.heap.size w ((w.alloc (.cells ↑h 157)).alloc (.cells #[.string ⟨#[]⟩,.string ⟨#[]⟩,.int .i64 0] 197)):=by exact qS
 have hx0:qC ((w.alloc (.cells ↑h 157)).alloc (.cells #[.string ⟨#[]⟩,.string ⟨#[]⟩,.int .i64 0] 197)) w.heap.size ↑h 157:=((qC.new w _ _).alloc _);have hr0:qC ((w.alloc (.cells ↑h 157)).alloc (.cells #[.string ⟨#[]⟩,.string ⟨#[]⟩,.int .i64 0] 197)) (w.heap.size+1) #[.string ⟨#[]⟩,.string ⟨#[]⟩,.int .i64 0] 197:=(qC.newAt sI);have hat:=qI0 X h.fib h.tw wb nn kS kC kE vS vC vX m1 m2 _ (hw.below hBa) hs hf;have H1:=mH (aI hBa (aI hx0 (aI hr0 hat)));clear hBa hx0 hr0 hat hw hs hf;go_enter func209,ntmps209;go_wp2_with fail;generalize ((w.alloc (.cells ↑h 157)).alloc (.cells #[.string ⟨#[]⟩,.string ⟨#[]⟩,.int .i64 0] 197))=W1 at *;refine H1.o.2.2.2.mono ?_;rintro e' W2 ⟨rfl,hb2⟩;have hx2:=H1.o.2.1.below hb2 H1.o.2.1.lt;have hr2:=H1.o.2.2.1.below hb2 H1.o.2.2.1.lt;have hB2:=H1.o.1.trans (hb2.mono H1.o.1.size);clear hb2 H1
 cases ho:zD X h.fib h.tw with
 | none =>
  simp only [Option.getD_none,Option.isSome_none];have hB3:Below w.heap.size w (W2.alloc (.cells ↑zX 79)):=hB2.trans (qB bR _ hB2.size);have hr3:=hr2.alloc (.cells ↑zX 79);have x0:=hr3.cell 0 (.string ⟨#[]⟩) rfl;have x1:=hr3.cell 1 (.string ⟨#[]⟩) rfl;have x2:=hr3.cell 2 (.int .i64 0) rfl;have f0:=hr3.free 0;have f1:=hr3.free 1;have f2:=hr3.free 2;have HF:=mH (aI hr3 hB3);clear hr2 hr3 hB2 hB3 hx2;have hes:qAi.site=⟨#[]⟩∧qAi.x.cable=⟨#[]⟩∧qAi.x.no=0∧qAi.y.cable=⟨#[]⟩∧qAi.y.no=0∧qAi.loss=0:=⟨rfl,rfl,rfl,rfl,rfl,rfl⟩;rw [hes.1,hes.2.1,hes.2.2.1,hes.2.2.2.1,hes.2.2.2.2.1,hes.2.2.2.2.2];clear hes;go_wp2;refine bodyPost_ret (v:=.tuple #[.agg #[.string ⟨#[]⟩,.string ⟨#[]⟩,.int .i64 0],.bool false]) ?_ rfl ⟨(⟨⟨#[]⟩,0⟩,⟨#[]⟩),?_,?_,?_⟩
  ·exact qF rfl _ _ (w.heap.size+1) 197 #[.string ⟨#[]⟩,.string ⟨#[]⟩,.int .i64 0] _ (0,0) _ rfl rfl (qC.fill3 HF.o.1) underlying197 rfl kR
  ·rw [ho];rfl
  ·exact Below.fill3 HF.o.2 (Nat.le_succ _) _ _ _
  ·rw [ho];intro s hs;cases hs
 | some s =>
  simp only [Option.getD_some,Option.isSome_some];have hB3:Below w.heap.size w (W2.alloc (.cells ↑s 79)):=hB2.trans (qB bR _ hB2.size);have hr3:=hr2.alloc (.cells ↑s 79);have hlt:w.heap.size+1<W2.heap.size:=hr2.lt;have x0:=hr2.cell 0 (.string ⟨#[]⟩) rfl;have x1:=hr2.cell 1 (.string ⟨#[]⟩) rfl;have x2:=hr2.cell 2 (.int .i64 0) rfl;have h0:=hx2.cell 0 (.string h.fib.cable) rfl;have h1:=hx2.cell 1 (.int .i64 h.fib.no) rfl;have h2:=hx2.cell 2 (.string h.fr) rfl;have h3:=hx2.cell 3 (.string h.tw) rfl;have hlx:w.heap.size<W2.heap.size:=hx2.lt;have f0:=hr2.free 0;have f1:=hr2.free 1;have f2:=hr2.free 2;have HF:=mH (aI hr3 (aI hB3 (aI hr2 hB2)));clear hr2 hr3 hB2 hB3 hx2
  by_cases hq:s.x=h.fib
  ·have q1:(s.x.cable.toList==h.fib.cable.toList)=true:=by rw [hq];simp
   have q2:s.x.no=h.fib.no:=by rw [hq]
   have HQ:Hx ((if s.x=h.fib then (s.y,h.tw) else (s.x,h.tw))=(s.y,h.tw)):=⟨if_pos hq⟩;clear hq;go_wp2;refine bodyPost_ret (v:=.tuple #[.agg #[.string h.tw,.string (s.y).cable,.int .i64 (s.y).no],.bool true]) ?_ rfl ⟨(s.y,h.tw),?_,?_,?_⟩
   ·exact qF rfl _ _ (w.heap.size+1) 197 #[.string h.tw,.string (s.y).cable,.int .i64 (s.y).no] _ (0,0) _ rfl rfl ((qC.fill3 HF.o.2.2.1).alloc _) underlying197 rfl kR
   ·rw [ho];rfl
   ·exact qB (Below.fill3 HF.o.2.2.2 (Nat.le_succ _) _ _ _) _ (by simp [World.setCell];omega)
   ·rw [ho];intro s' hs';cases hs';exact HQ.o.symm
  ·have HQ:Hx ((if s.x=h.fib then (s.y,h.tw) else (s.x,h.tw))=(s.x,h.tw)):=⟨if_neg hq⟩
   rcases qCf hq with hc|⟨hc,hn⟩
   ·clear hq;go_wp2;refine bodyPost_ret (v:=.tuple #[.agg #[.string h.tw,.string (s.x).cable,.int .i64 (s.x).no],.bool true]) ?_ rfl ⟨(s.x,h.tw),?_,?_,?_⟩
    ·exact qF rfl _ _ (w.heap.size+1) 197 #[.string h.tw,.string (s.x).cable,.int .i64 (s.x).no] _ (0,0) _ rfl rfl ((qC.fill3 HF.o.2.2.1).alloc _) underlying197 rfl kR
    ·rw [ho];rfl
    ·exact qB (Below.fill3 HF.o.2.2.2 (Nat.le_succ _) _ _ _) _ (by simp [World.setCell];omega)
    ·rw [ho];intro s' hs';cases hs';exact HQ.o.symm
   ·have hn1:(s.x.no==h.fib.no)=false:=by simp [hn]
    clear hq;go_wp2;refine bodyPost_ret (v:=.tuple #[.agg #[.string h.tw,.string (s.x).cable,.int .i64 (s.x).no],.bool true]) ?_ rfl ⟨(s.x,h.tw),?_,?_,?_⟩
    ·exact qF rfl _ _ (w.heap.size+1) 197 #[.string h.tw,.string (s.x).cable,.int .i64 (s.x).no] _ (0,0) _ rfl rfl ((qC.fill3 HF.o.2.2.1).alloc _) underlying197 rfl kR
    ·rw [ho];rfl
    ·exact qB (Below.fill3 HF.o.2.2.2 (Nat.le_succ _) _ _ _) _ (by simp [World.setCell];omega)
    ·rw [ho];intro s' hs';cases hs';exact HQ.o.symm
theorem qLn:(prog.info? 157).map (λi=>(i.zero,i.size,i.bytes))=some (some (.agg #[.string ⟨#[]⟩,.int .i64 0,.string ⟨#[]⟩,.string ⟨#[]⟩]),4,56):=by kernel_rfl
theorem qO5 {p:Pl} (h:jS p) (f:qQ) (k:ByteArray):(zW p.C f k).size≤maxLen:=by
 unfold zW
 cases hg:qY p.C f.cable with
 | none=>exact Nat.zero_le _
 | some c =>
  obtain⟨h1,_⟩:=qDw hg;obtain⟨q1,q2,_⟩:=qEa (h.c2 c h1);simp only
  split
  ·exact qE4 (qCh h q2)
  ·exact qE4 (qCh h q1)
structure qEc (p:Pl) (e a:qQ × ByteArray) (k:Nat) (H:List Hop):Prop where
 at_:qBr p.C p.X e k=some a
 le:k≤p.X.length
 pre:qB9 p.C p.X e=H++qEw p.C p.X (p.X.length+1 - k) a
 len:H.length=k
 key:qBb a.1
theorem qEc.start {p:Pl} {e:qQ × ByteArray} (hk:qBb e.1):qEc p e e 0 []:=⟨rfl,by omega,rfl,rfl,hk⟩
theorem qEc.last {p:Pl} {e a:qQ × ByteArray} {k:Nat} {H:List Hop} (h:qEc p e a k H) (hg:qD7 p.C p.X a=none):qB9 p.C p.X e=H++[qB8 p.C a]:=by
 rw [h.pre];have:=h.le;obtain⟨n,hn⟩:∃n,p.X.length+1 - k=n+1:=⟨p.X.length - k,by omega⟩;rw [hn];unfold qEw;rw [hg]
theorem qEc.next {p:Pl} (hp:jS p) {e a q:qQ × ByteArray} {k:Nat} {H:List Hop} (h:qEc p e a k H) (ht:qAA p.C e.1 e.2=true) (h0:zD p.X e.1 e.2=none) (hg:qD7 p.C p.X a=some q):qEc p e q (k+1) (H++[qB8 p.C a])∧q≠e:=by
 have h1:qBr p.C p.X e (k+1)=some q:=by
  show(qBr p.C p.X e k).bind (qD7 p.C p.X)=some q
  rw [h.at_];exact hg
 have hle:k+1≤p.X.length:=by
  rcases Nat.lt_or_ge k p.X.length with h2|h2
  ·omega
  ·have h3:k=p.X.length:=Nat.le_antisymm h.le h2;rw [h3,qQj hp ht h0] at h1;cases h1
 obtain⟨s,q1,q2,q3,q4,q5,_,_⟩:=qEM hp hg;have hsk:=qEH hp q2;refine⟨⟨h1,hle,?_,by rw [List.length_append,h.len];rfl,?_⟩,?_⟩
 ·rw [h.pre];obtain⟨n,hn⟩:∃n,p.X.length+1 - k=n+1:=⟨p.X.length - k,by omega⟩;rw [hn,show p.X.length+1 - (k+1)=n by omega]
  conv=>lhs;unfold qEw
  rw [hg];simp
 ·rcases q5 with⟨_,r⟩|⟨_,r⟩
  ·rw [r];exact hsk.2.2
  ·rw [r];exact hsk.2.1
 ·rintro rfl;unfold zD at h0;have:=List.find?_eq_none.1 h0 s q2;refine this ?_;rw [decide_eq_true_eq];refine⟨q4.symm,?_⟩
  rcases q5 with⟨_,r⟩|⟨_,r⟩
  ·exact .inr r.symm
  ·exact .inl r.symm
theorem qTd {a b:qQ × ByteArray} (h:a≠b):(a.2.toList==b.2.toList)=false∨((a.2.toList==b.2.toList)=true∧((a.1.cable.toList==b.1.cable.toList)=false∨((a.1.cable.toList==b.1.cable.toList)=true∧¬a.1.no=b.1.no))):=by
 by_cases h2:a.2=b.2
 ·refine .inr ⟨by rw [h2];simp,qCf λh1=>h (Prod.ext h1 h2)⟩
 ·exact .inl (qAZ h2)
def qH4 (v:Value):Nat:=match v with | .slice _ n _=>n|_=>0
theorem qQF (p:Pl) (hp:jS p) (f:qQ) (site:ByteArray) (wb nn kS kC kE:Nat) (vS vC vX:Value) (m1:ByteArray→Option Value) (w:World) (hw:qCe w wb nn vS vC vX kS kC kE m1 (qAT p.C) (qAV p.X)) (hX:p.X.length≤100)
  (ht:qAA p.C f site=true) (h0:zD p.X f site=none) (hk:qBb f) :
  Calls prog 149 #[.pointer (some ⟨wb,0,none⟩),.agg #[.string site,.string (f).cable,.int .i64 (f).no]] w
  λe w'=>∃v b,e=.returned (.tuple #[v,.bool b])∧w'.ownsRow w.heap.size 157 4 v (qB9 p.C p.X (f,site)).length ((qB9 p.C p.X (f,site)).flatMap Hop.cells)∧Below w.heap.size w w':=by
 obtain⟨i0,hi,hz0,hz1,hz2⟩:=info_parts qLn;have HP:=mH (aI hp (aI ht (aI h0 (qEc.start (p:=p) (e:=(f,site)) hk))));have hBa:Below w.heap.size w ((w.alloc (.cells #[.string site,.string (f).cable,.int .i64 (f).no] 197)).alloc (.cells #[.string site,.string (f).cable,.int .i64 (f).no] 197)):=by exact qS
 have hx0:qC ((w.alloc (.cells #[.string site,.string (f).cable,.int .i64 (f).no] 197)).alloc (.cells #[.string site,.string (f).cable,.int .i64 (f).no] 197)) w.heap.size #[.string site,.string (f).cable,.int .i64 (f).no] 197:=((qC.new w _ _).alloc _);have ha0:qC ((w.alloc (.cells #[.string site,.string (f).cable,.int .i64 (f).no] 197)).alloc (.cells #[.string site,.string (f).cable,.int .i64 (f).no] 197)) (w.heap.size+1) #[.string site,.string (f).cable,.int .i64 (f).no] 197:=(qC.newAt sI);have H1:=mH (aI hBa (aI hx0 (aI ha0 (aI hBa ha0.lt))));have HW:=mH hw;clear hBa hx0 ha0 hw hp ht h0 hk;go_enter func149,ntmps149;go_wp2;generalize (w.alloc (.cells #[.string site,.string (f).cable,.int .i64 (f).no] 197)).alloc (.cells #[.string site,.string (f).cable,.int .i64 (f).no] 197)=W1 at *;go_loopw [4] (λhv wr=>∃(k:Nat) (a:qQ × ByteArray) (H:List Hop),qEc p (f,site) a k H∧wr.ownsRow (w.heap.size+2) 157 4 hv k (H.flatMap Hop.cells)∧qC wr w.heap.size #[.string site,.string (f).cable,.int .i64 (f).no] 197∧qC wr (w.heap.size+1) #[.string a.2,.string (a.1).cable,.int .i64 (a.1).no] 197∧Below w.heap.size w wr∧w.heap.size+2≤wr.heap.size) (λhv _=>p.X.length+2 - qH4 hv)
 case atStart=>exact⟨0,(f,site),[],HP.o.2.2.2,World.ownsRow_nil _ _ _ _,H1.o.2.1,H1.o.2.2.1,H1.o.1,by have:=H1.o.2.2.2.2;omega⟩
 case round =>
  clear H1;obtain⟨k,a,H,hR,ho,hx,ha,hB,hz⟩:=hrel;obtain⟨ah,ch,hvh⟩:=jO ho;subst hvh;have e0:=ha.cell 0 (.string a.2) rfl;have e1:=ha.cell 1 (.string a.1.cable) rfl;have e2:=ha.cell 2 (.int .i64 a.1.no) rfl;have HR:=mH (aI hR (aI ho (aI hx (aI ha hB))));clear hR ho hx ha hB;go_wp2_with fail;refine(qRm p.C a.1 a.2 wb nn kS kC kE vS vC vX m1 (qAV p.X) wr (HW.o.below HR.o.2.2.2.2) HR.o.1.key.1).mono ?_;rintro e' W2 ⟨rfl,hb2⟩;obtain⟨h,hh⟩:=eX (qB8 p.C (a.1,a.2));have hh1:h.fib=a.1∧h.fr=a.2∧h.tw=zW p.C a.1 a.2:=by rw [←hh];exact⟨rfl,rfl,rfl⟩
  rw [hh];have hzW:w.heap.size+2≤W2.heap.size:=Nat.le_trans hz hb2.size;have hkk:k≤100:=Nat.le_trans HR.o.1.le hX;have H2:=mH (aI (qAv HR.o.2.1 hb2) (aI (HR.o.2.2.1.below hb2 HR.o.2.2.1.lt) (aI (HR.o.2.2.2.1.below hb2 HR.o.2.2.2.1.lt) (aI (HR.o.2.2.2.2.trans (hb2.mono HR.o.2.2.2.2.size)) (aI hh hh1)))));have hRk:=mH HR.o.1;clear hb2 HR hh hh1 e0 e1 e2;go_wp2_with ((at_builtin;go_must (refine wpList_append_own _ rfl _ _ 153 rfl _ 157 _ (.agg #[.string ⟨#[]⟩,.int .i64 0,.string ⟨#[]⟩,.string ⟨#[]⟩]) 4 56 underlying153 hi hz0 hz1 hz2 rfl dE _ _ _ rfl ((H2.o.1.alloc _).alloc _) ⟨(W2.heap.size+1),0,none⟩ 1 1 [.string h.fib.cable,.int .i64 h.fib.no,.string h.fr,.string h.tw] rfl rfl (by exact qBC (by first|rfl|simp) rF) (by simp [Value.oneCell']) (by unfold maxLen;omega) oM szq ?_));intro v' w4 hown4 hg4 _;have hbx4:qC w4 W2.heap.size ↑h 157:=((qC.new W2 _ _).alloc _).grown hg4 (λe=>by have:=(H2.o.1.lt _ e.symm).2;omega);have y0:=hbx4.cell 0 (.string h.fib.cable) rfl;have y1:=hbx4.cell 1 (.int .i64 h.fib.no) rfl;have y2:=hbx4.cell 2 (.string h.fr) rfl;have y3:=hbx4.cell 3 (.string h.tw) rfl);have hx4:=((H2.o.2.1.alloc _).alloc _).grown hg4 (λe=>by have:=(H2.o.1.lt _ e.symm).1;omega);have ha4:=((H2.o.2.2.1.alloc _).alloc _).grown hg4 (λe=>by have:=(H2.o.1.lt _ e.symm).1;omega);have hB4:Below w.heap.size w w4:=jG (H2.o.2.2.2.1.trans (qB (qB bR _ oM) _ (by simp;omega))) ((H2.o.1.alloc _).alloc _) hg4 oM (by simp;omega);have hz4:w.heap.size+2≤w4.heap.size:=by have:=hg4.size;simp at this;omega
  have hown5:w4.ownsRow (w.heap.size+2) 157 4 v' (k+1) ((H++[h]).flatMap Hop.cells):=by rw [List.flatMap_append];simpa [Hop.cells] using hown4
  have H4:=mH (aI hown5 (aI hx4 (aI ha4 (aI hB4 hz4))));have hhh:=H2.o.2.2.2.2;have HH:=mH hhh;clear hown4 hg4 hx4 ha4 hB4 hz4 hown5 hbx4 hhh H2 y0 y1 y2 y3;refine(qPq p.X h wb nn kS kC kE vS vC vX m1 (qAT p.C) w4 (HW.o.below H4.o.2.2.2.1) (by rw [HH.o.2.2.2];exact qO5 HP.o.1 _ _) (by rw [HH.o.2.1];exact hRk.o.key)).mono ?_;rintro e' W5 ⟨q,rfl,hb5,hq⟩;have hgo:qD7 p.C p.X a=(zD p.X h.fib h.tw).map λs=>(if s.x=h.fib then s.y else s.x,h.tw):=by
   unfold qD7;rw [HH.o.2.1,HH.o.2.2.2]
  have H5:=mH (aI (qAv H4.o.1 hb5) (aI (H4.o.2.1.below hb5 H4.o.2.1.lt) (aI (H4.o.2.2.1.below hb5 H4.o.2.2.1.lt) (aI (H4.o.2.2.2.1.trans (hb5.mono H4.o.2.2.2.1.size)) (Nat.le_trans H4.o.2.2.2.2 hb5.size)))));clear hb5 H4;obtain⟨av,cav,hav⟩:=jO H5.o.1;subst hav
  cases hsp:zD p.X h.fib h.tw with
  | none =>
   rw [hsp] at hgo;have HL:=mH (hRk.o.last hgo);clear hgo hq hsp;simp only [Option.isSome_none];go_wp2;refine bodyPost_ret (results_tmp2 rfl _ _ _) rfl ⟨_,_,rfl,?_,?_⟩
   ·have hl:(qB9 p.C p.X (f,site))=H++[h]:=by rw [HL.o];exact congrArg (λx=>H++[x]) HH.o.1
    rw [hl,show(H++[h]).length=k+1 by rw [List.length_append,hRk.o.len];rfl];exact qAm (H5.o.1.alloc _) oM
   ·exact qB H5.o.2.2.2.1 _ H5.o.2.2.2.1.size
  | some s =>
   rw [hsp] at hgo;have hq1:=hq s hsp;have hgq:qD7 p.C p.X a=some q:=by
    rw [hgo,hq1];simp only [Option.map_some];split <;> rfl
   have hN:=hRk.o.next HP.o.1 HP.o.2.1 HP.o.2.2.1 hgq
   have hne:=qTd hN.2;have HN:=mH hN.1;simp only [Option.isSome_some];have t0:=H5.o.2.1.cell 0 (.string site) rfl;have t1:=H5.o.2.1.cell 1 (.string f.cable) rfl;have t2:=H5.o.2.1.cell 2 (.int .i64 f.no) rfl;have x0:=H5.o.2.2.1.cell 0 (.string a.2) rfl;have x1:=H5.o.2.2.1.cell 1 (.string a.1.cable) rfl;have x2:=H5.o.2.2.1.cell 2 (.int .i64 a.1.no) rfl;have f0:=H5.o.2.2.1.free 0;have f1:=H5.o.2.2.1.free 1;have f2:=H5.o.2.2.1.free 2;have hl1:w.heap.size<W5.heap.size:=by have:=H5.o.2.2.2.2;omega
   have hl2:w.heap.size+1<W5.heap.size:=by have:=H5.o.2.2.2.2;omega
   have hkX:=HN.o.le;clear hq1 hq hgo hgq hN hsp;have hfin:∀o,(∃(k':Nat) (a':qQ × ByteArray) (H':List Hop),qEc p (f,site) a' k' H'∧((((W5.setCell ⟨w.heap.size+1,0,none⟩ (.string q.2)).setCell ⟨w.heap.size+1,1,none⟩ (.string q.1.cable)).setCell ⟨w.heap.size+1,2,none⟩ (.int .i64 q.1.no)).alloc o).ownsRow (w.heap.size+2) 157 4 (.slice av (k+1) cav) k' (H'.flatMap Hop.cells) ∧
     qC ((((W5.setCell ⟨w.heap.size+1,0,none⟩ (.string q.2)).setCell ⟨w.heap.size+1,1,none⟩ (.string q.1.cable)).setCell ⟨w.heap.size+1,2,none⟩ (.int .i64 q.1.no)).alloc o) w.heap.size #[.string site,.string (f).cable,.int .i64 (f).no] 197∧qC ((((W5.setCell ⟨w.heap.size+1,0,none⟩ (.string q.2)).setCell ⟨w.heap.size+1,1,none⟩ (.string q.1.cable)).setCell ⟨w.heap.size+1,2,none⟩ (.int .i64 q.1.no)).alloc o) (w.heap.size+1) #[.string a'.2,.string (a'.1).cable,.int .i64 (a'.1).no] 197∧Below w.heap.size w ((((W5.setCell ⟨w.heap.size+1,0,none⟩ (.string q.2)).setCell ⟨w.heap.size+1,1,none⟩ (.string q.1.cable)).setCell ⟨w.heap.size+1,2,none⟩ (.int .i64 q.1.no)).alloc o)∧w.heap.size+2≤((((W5.setCell ⟨w.heap.size+1,0,none⟩ (.string q.2)).setCell ⟨w.heap.size+1,1,none⟩ (.string q.1.cable)).setCell ⟨w.heap.size+1,2,none⟩ (.int .i64 q.1.no)).alloc o).heap.size):=λo=>by
    have hHH:qB8 p.C a=h:=HH.o.1;have hNN:=HN.o;rw [hHH] at hNN;refine⟨k+1,q,H++[h],hNN,?_,?_,?_,?_,?_⟩
    ·exact(qDa H5.o.1 (show W5.grownBy _ (some (w.heap.size+1)) from qO (w.heap.size+1) [.string q.2,.string q.1.cable,.int .i64 q.1.no] 0 W5) oM).alloc _
    ·exact((((H5.o.2.1.setOther oM 0 _).setOther oM 1 _).setOther oM 2 _)).alloc _
    ·exact(qC.fill3 H5.o.2.2.1).alloc _
    ·exact qB (Below.fill3 H5.o.2.2.2.1 oM _ _ _) _ (by simp [World.setCell];omega)
    ·simp [World.setCell];omega
   have HFN:=mH hfin;clear hfin
   rcases hne with h1|⟨h1,h2|⟨h2,h3⟩⟩
   ·go_wp2;exact⟨HFN.o _,by simp [qH4];omega⟩
   ·go_wp2;exact⟨HFN.o _,by simp [qH4];omega⟩
   ·have h4:(q.1.no==f.no)=false:=by simpa using h3
    clear h3;go_wp2;exact⟨HFN.o _,by simp [qH4];omega⟩
theorem qMS (s:qJ) (site:ByteArray) (b:Nat) (w:World) (hb:w.cell? ⟨b,0,none⟩=some (.string site)) (hlt:b<w.heap.size):Calls prog 252 #[.agg ⟨qJ.cells s⟩,.pointer (some ⟨b,0,none⟩)] w
  λe w'=>e=.returned (.bool (decide (s.key=site)))∧Below w.heap.size w w':=by
 show Calls prog 252 #[.agg ↑s,.pointer (some ⟨b,0,none⟩)] w _
 have hq:(s.key.toList==site.toList)=decide (s.key=site):=by
  rw [qFb]
  by_cases h:s.key=site
  ·subst h;simp
  ·have h2:¬site=s.key:=λq=>h q.symm
   simp [h,h2]
 have HQ:=mH hq;clear hq;go_enter func252,ntmps252;go_wp2;go_ret;exact⟨qU HQ.o,by exact qS⟩
def qFr (p:Pl) (site:ByteArray):Int:=if qAQ p.S site=true then 0 else 8
theorem qQp (p:Pl) (hp:jS p) (hs:p.S.length≤100) (hc:p.C.length≤100) (hx:p.X.length≤100) (site:ByteArray) (vS vC vX:Value) (w:World) (hA:qAN w vS vC vX p.S p.C p.X):Calls prog 205 #[.agg #[vS,vC,vX],.string site] w
  λe w'=>e=.returned (.int .i64 (qFr p site))∧Below w.heap.size w w':=by
 obtain⟨aS,capS,rfl,-,hmS,-⟩:=id hA.s;obtain⟨aC,capC,rfl,-,hmC,-⟩:=id hA.c;obtain⟨aX,capX,rfl,-,hmX,-⟩:=id hA.x;unfold maxLen at hmS hmC hmX;have hh:=qIz hp site;have HH:=mH hh;have HA:=mH (aI hA hp);have hbx:qC ((w.alloc (.cells #[.slice aS p.S.length capS,.slice aC p.C.length capC,.slice aX p.X.length capX] 69)).alloc (.cells #[.string site] 9)) w.heap.size #[.slice aS p.S.length capS,.slice aC p.C.length capC,.slice aX p.X.length capX] 69:=(qC.new w _ _).alloc _;have hbs:qC ((w.alloc (.cells #[.slice aS p.S.length capS,.slice aC p.C.length capC,.slice aX p.X.length capX] 69)).alloc (.cells #[.string site] 9)) (w.heap.size+1) #[.string site] 9:=qC.newAt sI;have hBa:Below w.heap.size w ((w.alloc (.cells #[.slice aS p.S.length capS,.slice aC p.C.length capC,.slice aX p.X.length capX] 69)).alloc (.cells #[.string site] 9)):=by exact qS
 have H1:=mH (aI hbx (aI hbs hBa));clear hA hp hh hbx hbs hBa;go_enter func205,ntmps205;go_wp2_with fail;generalize (w.alloc (.cells #[.slice aS p.S.length capS,.slice aC p.C.length capC,.slice aX p.X.length capX] 69)).alloc (.cells #[.string site] 9)=W1 at *;refine(qJ4 p HA.o.2 hs hc hx _ _ _ W1 (HA.o.1.below H1.o.2.2)).mono ?_;rintro e w2 ⟨rfl,hb2⟩;have hbx2:=H1.o.1.below hb2 H1.o.1.lt;have hbs2:=H1.o.2.1.below hb2 H1.o.2.1.lt;have t0:=hbx2.cell 0 (.slice aS p.S.length capS) rfl;have H2:=mH (aI hbs2 (H1.o.2.2.trans (hb2.mono (by have:=H1.o.2.2.size;omega))));clear hbx2 hbs2 hb2 H1;go_wp2_with fail;refine(qIj _ p.S (λs=>decide (s.key=site)) 252 #[.pointer (some ⟨w.heap.size+1,0,none⟩)] w2 ((HA.o.1.below H2.o.2).s) (qAB func252 kR rfl) (λs w' _ hb=>qMS s site (w.heap.size+1) w' ((H2.o.1.below hb H2.o.1.lt).cell 0 _ rfl) (H2.o.1.below hb H2.o.1.lt).lt)).mono ?_;rintro e w3 ⟨rfl,hb3⟩;have H3:=mH (H2.o.2.trans (hb3.mono H2.o.2.size));clear hb3 H2;obtain⟨bq,hq⟩:=eX (p.S.any (λs=>decide (s.key=site)));rw [hq];have HQ:=mH hq;clear hq
 cases bq
 ·go_wp2;go_ret;exact⟨by unfold qFr;rw [HH.o,HQ.o];rfl,H3.o⟩
 ·go_wp2;go_ret;exact⟨by unfold qFr;rw [HH.o,HQ.o];rfl,H3.o⟩
def qDS (p:Pl) (f:qQ) (site:ByteArray):Int:=if qAQ p.S site=false then 8 else if jX p.C f=false then 8 else if qAA p.C f site=false then 3 else 0
theorem qSI (p:Pl) (hp:jS p) (hs:p.S.length≤100) (hc:p.C.length≤100) (hx:p.X.length≤100) (f:qQ) (hf:f.cable.size≤maxLen) (site:ByteArray) (vS vC vX:Value) (w:World) (hA:qAN w vS vC vX p.S p.C p.X):Calls prog 147 #[.agg #[vS,vC,vX],.agg ↑f,.string site] w
  λe w'=>∃v,e=.returned (.tuple #[v,.int .i64 (qDS p f site)])∧Below w.heap.size w w'∧(qDS p f site=0→∃wb kS kC kE,v=.pointer (some ⟨wb,0,none⟩)∧qCe w' wb 400 vS vC vX kS kC kE (qBE p.S) (qAT p.C) (qAV p.X)):=by
 obtain⟨aS,capS,rfl,-,hmS,-⟩:=id hA.s;obtain⟨aC,capC,rfl,-,hmC,-⟩:=id hA.c;obtain⟨aX,capX,rfl,-,hmX,-⟩:=id hA.x;unfold maxLen at hmS hmC hmX;have HA:=mH (aI hA hp);have hbx:qC ((w.alloc (.cells #[.slice aS p.S.length capS,.slice aC p.C.length capC,.slice aX p.X.length capX] 69)).alloc (.cells ↑f 77)) w.heap.size #[.slice aS p.S.length capS,.slice aC p.C.length capC,.slice aX p.X.length capX] 69:=(qC.new w _ _).alloc _;have hbf:qC ((w.alloc (.cells #[.slice aS p.S.length capS,.slice aC p.C.length capC,.slice aX p.X.length capX] 69)).alloc (.cells ↑f 77)) (w.heap.size+1) ↑f 77:=qC.newAt sI;have hBa:Below w.heap.size w ((w.alloc (.cells #[.slice aS p.S.length capS,.slice aC p.C.length capC,.slice aX p.X.length capX] 69)).alloc (.cells ↑f 77)):=by exact qS
 have H1:=mH (aI hbx (aI hbf hBa));clear hA hp hbx hbf hBa;go_enter func147,ntmps147;go_wp2_with fail;generalize (w.alloc (.cells #[.slice aS p.S.length capS,.slice aC p.C.length capC,.slice aX p.X.length capX] 69)).alloc (.cells ↑f 77)=W1 at *;refine(qQp p HA.o.2 hs hc hx site _ _ _ W1 (HA.o.1.below H1.o.2.2)).mono ?_;rintro e w2 ⟨rfl,hb2⟩;have hbx2:=H1.o.1.below hb2 H1.o.1.lt;have hbf2:=H1.o.2.1.below hb2 H1.o.2.1.lt;have H2:=mH (aI hbf2 (H1.o.2.2.trans (hb2.mono (by have:=H1.o.2.2.size;omega))));have t0:=hbx2.cell 0 (.slice aS p.S.length capS) rfl;have t1:=hbx2.cell 1 (.slice aC p.C.length capC) rfl;have t2:=hbx2.cell 2 (.slice aX p.X.length capX) rfl;clear hbx2 hbf2 hb2 H1
 cases h1:qAQ p.S site
 ·have hE2:qFr p site=8:=by unfold qFr;rw [h1];rfl
  rw [hE2];clear hE2;have HE:Hx (qDS p f site=8):=by unfold qDS;rw [h1];exact mH rfl
  clear h1;go_wp2;refine bodyPost_ret (results_tmp2 rfl _ _ _) rfl ⟨.pointer none,by rw [HE.o];rfl,H2.o.2,λh=>by rw [HE.o] at h;cases h⟩
 have hE2:qFr p site=0:=by unfold qFr;rw [h1];rfl
 rw [hE2];clear hE2;go_wp2_with fail;refine(qJo p HA.o.2 hs hc hx _ _ _ w2 (HA.o.1.below H2.o.2)).mono ?_;rintro e w3 ⟨rfl,hw3,hb3⟩;have hbf3:=H2.o.1.below hb3 H2.o.1.lt;have u0:=hbf3.cell 0 (.string f.cable) rfl;have u1:=hbf3.cell 1 (.int .i64 f.no) rfl;have H3:=mH (aI hw3 (aI hbf3 (H2.o.2.trans (hb3.mono H2.o.2.size))));clear hw3 hbf3 hb3 H2 t0 t1 t2;obtain⟨wb,hwb⟩:=eX (w2.heap.size+4);obtain⟨kS,hkS⟩:=eX (w2.heap.size+1);obtain⟨kC,hkC⟩:=eX (w2.heap.size+2);obtain⟨kE,hkE⟩:=eX (w2.heap.size+3);rw [hwb,hkS,hkC,hkE] at H3;rw [hwb];clear hwb hkS hkC hkE;go_wp2_with fail;refine(qSa p.C f wb 400 kS kC kE _ _ _ (qBE p.S) (qAV p.X) w3 H3.o.1 hf).mono ?_;rintro e w4 ⟨rfl,hb4⟩;have hbf4:=H3.o.2.1.below hb4 H3.o.2.1.lt;have H4:=mH (aI (H3.o.1.below hb4) (aI hbf4 (H3.o.2.2.trans (hb4.mono H3.o.2.2.size))));have u0:=hbf4.cell 0 (.string f.cable) rfl;have u1:=hbf4.cell 1 (.int .i64 f.no) rfl;clear hb4 hbf4 H3
 cases h2:jX p.C f
 ·have HE:Hx (qDS p f site=8):=by unfold qDS;rw [h1,h2];exact mH rfl
  clear h1 h2;go_wp2;refine bodyPost_ret (results_tmp2 rfl _ _ _) rfl ⟨.pointer none,by rw [HE.o];rfl,H4.o.2.2,λh=>by rw [HE.o] at h;cases h⟩
 go_wp2_with fail;refine(qO0 p.C f site wb 400 kS kC kE _ _ _ (qBE p.S) (qAV p.X) w4 H4.o.1 hf).mono ?_;rintro e w5 ⟨rfl,hb5⟩;have H5:=mH (aI (H4.o.1.below hb5) (H4.o.2.2.trans (hb5.mono H4.o.2.2.size)));clear hb5 H4 u0 u1
 cases h3:qAA p.C f site
 ·have HE:Hx (qDS p f site=3):=by unfold qDS;rw [h1,h2,h3];exact mH rfl
  clear h1 h2 h3;go_wp2;refine bodyPost_ret (results_tmp2 rfl _ _ _) rfl ⟨.pointer none,by rw [HE.o];rfl,H5.o.2,λh=>by rw [HE.o] at h;cases h⟩
 ·have HE:Hx (qDS p f site=0):=by unfold qDS;rw [h1,h2,h3];exact mH rfl
  clear h1 h2 h3;go_wp2;refine bodyPost_ret (results_tmp2 rfl _ _ _) rfl ⟨.pointer (some ⟨wb,0,none⟩),by rw [HE.o];rfl,H5.o.2,λ_=>⟨wb,kS,kC,kE,rfl,H5.o.1⟩⟩
def qDb (p:Pl) (f:qQ) (site:ByteArray):Int:=if qDS p f site≠0 then qDS p f site else if (zD p.X f site).isSome=true then 11 else 0
theorem qQc {p:Pl} {f:qQ} {site:ByteArray} (h:qDS p f site=0):qAA p.C f site=true∧qAQ p.S site=true∧jX p.C f=true:=by
 unfold qDS at h
 split at h
 ·omega
 ·rename_i h1
  split at h
  ·omega
  ·rename_i h2
   split at h
   ·omega
   ·rename_i h3
    exact⟨by simpa using h3,by simpa using h1,by simpa using h2⟩
theorem qQN (p:Pl) (hp:jS p) (hs:p.S.length≤100) (hc:p.C.length≤100) (hx:p.X.length≤100) (f:qQ) (hf:qBb f) (site:ByteArray) (hsz:site.size≤maxLen) (vS vC vX:Value) (w:World) (hA:qAN w vS vC vX p.S p.C p.X):Calls prog 93 #[.agg #[vS,vC,vX],.agg ↑f,.string site] w
  λe w'=>∃v,e=.returned (.tuple #[v,.int .i64 (qDb p f site)])∧Below w.heap.size w w'∧(qDb p f site=0→w'.ownsRow w.heap.size 157 4 v (qB9 p.C p.X (f,site)).length ((qB9 p.C p.X (f,site)).flatMap Hop.cells)):=by
 obtain⟨aS,capS,rfl,-,hmS,-⟩:=id hA.s;obtain⟨aC,capC,rfl,-,hmC,-⟩:=id hA.c;obtain⟨aX,capX,rfl,-,hmX,-⟩:=id hA.x;unfold maxLen at hmS hmC hmX;have HA:=mH (aI hA hp);have hbf:qC ((w.alloc (.cells #[.slice aS p.S.length capS,.slice aC p.C.length capC,.slice aX p.X.length capX] 69)).alloc (.cells ↑f 77)) (w.heap.size+1) ↑f 77:=qC.newAt sI;have hBa:Below w.heap.size w ((w.alloc (.cells #[.slice aS p.S.length capS,.slice aC p.C.length capC,.slice aX p.X.length capX] 69)).alloc (.cells ↑f 77)):=by exact qS
 have H1:=mH (aI hbf hBa);clear hA hp hbf hBa;go_enter func93,ntmps93;go_wp2_with fail;generalize (w.alloc (.cells #[.slice aS p.S.length capS,.slice aC p.C.length capC,.slice aX p.X.length capX] 69)).alloc (.cells ↑f 77)=W1 at *;refine(qSI p HA.o.2 hs hc hx f hf.1 site _ _ _ W1 (HA.o.1.below H1.o.2)).mono ?_;rintro e w2 ⟨v2,rfl,hb2,hv2⟩;have hbf2:=H1.o.1.below hb2 H1.o.1.lt;have u0:=hbf2.cell 0 (.string f.cable) rfl;have u1:=hbf2.cell 1 (.int .i64 f.no) rfl;have hB2:=H1.o.2.trans (hb2.mono H1.o.2.size);have hlt:w.heap.size+1<w2.heap.size:=hbf2.lt
 by_cases hz:qDS p f site=0
 rotate_left
 ·have hzb:(qDS p f site==0)=false:=by simp [hz]
  have HE:Hx (qDb p f site=qDS p f site):=by unfold qDb;rw [if_pos hz];exact mH rfl
  have HZ:=mH hz;have HB2:=mH hB2;clear hz hv2 hb2 hbf2 hB2 H1;go_wp2;refine bodyPost_ret (results_tmp2 rfl _ _ _) rfl ⟨.slice none 0 0,by rw [HE.o];rfl,HB2.o,λh=>absurd (HE.o.symm.trans h) HZ.o⟩
 obtain⟨wb,kS,kC,kE,rfl,hw⟩:=hv2 hz;have HZ:=mH (qQc hz);have HPE:Hx (qDb p f site=if (zD p.X f site).isSome=true then 11 else 0):=by unfold qDb;rw [if_neg (by simp [hz])];exact mH rfl
 have hBb:Below w.heap.size w (w2.alloc (.cells #[.string site,.string (f).cable,.int .i64 (f).no] 197)):=hB2.trans (qB bR _ hB2.size);have H2:=mH (aI (hw.below (qB bR (.cells #[.string site,.string (f).cable,.int .i64 (f).no] 197) lR)) (aI hBb (qC.new w2 #[.string site,.string (f).cable,.int .i64 (f).no] 197)));rw [hz];clear hz hw hBb hv2 hb2 hB2 H1 hbf2;go_wp2_with fail;obtain⟨eb,heb⟩:=eX (w2.heap.size);rw [heb] at H2 ⊢;generalize w2.alloc (.cells #[.string site,.string (f).cable,.int .i64 (f).no] 197)=W3 at *;clear heb u0 u1 hlt;refine(qI0 p.X f site wb 400 kS kC kE _ _ _ (qBE p.S) (qAT p.C) W3 H2.o.1 hsz hf).mono ?_;rintro e w4 ⟨rfl,hb4⟩;have hbe4:=H2.o.2.2.below hb4 H2.o.2.2.lt;have e0:=hbe4.cell 0 (.string site) rfl;have e1:=hbe4.cell 1 (.string f.cable) rfl;have e2:=hbe4.cell 2 (.int .i64 f.no) rfl;have hlt4:eb<w4.heap.size:=hbe4.lt;have H4:=mH (aI (H2.o.1.below hb4) (H2.o.2.1.trans (hb4.mono H2.o.2.1.size)));clear hb4 hbe4 H2;generalize (zD p.X f site).getD qAi=o at *
 cases ho:(zD p.X f site).isSome
 rotate_left
 ·have HE:Hx (qDb p f site=11):=by rw [HPE.o,ho];exact mH rfl
  clear ho;go_wp2;refine bodyPost_ret (results_tmp2 rfl _ _ _) rfl ⟨.slice none 0 0,by rw [HE.o];rfl,qB H4.o.2 _ H4.o.2.size,λh=>by rw [HE.o] at h;cases h⟩
 have HE:Hx (qDb p f site=0):=by rw [HPE.o,ho];exact mH rfl
 have hn0:zD p.X f site=none:=by cases hh:zD p.X f site with|none=>rfl|some s=>rw [hh] at ho;cases ho
 have HN:=mH hn0;have H5:=mH (aI (H4.o.1.below (qB bR (.cells ↑o 79) lR)) (H4.o.2.trans (qB bR (.cells ↑o 79) H4.o.2.size)));clear ho hn0 H4;go_wp2_with fail;generalize w4.alloc (.cells ↑o 79)=W5 at *;refine(qQF p HA.o.2 f site wb 400 kS kC kE _ _ _ (qBE p.S) W5 H5.o.1 hx HZ.o.1 HN.o hf).mono ?_;rintro e w6 ⟨v6,b6,rfl,ho6,hb6⟩;have H6:=mH (aI (qAm ho6 H5.o.2.size) (H5.o.2.trans (hb6.mono H5.o.2.size)));clear ho6 hb6;go_wp2;refine bodyPost_ret (results_tmp2 rfl _ _ _) rfl ⟨v6,by rw [HE.o];rfl,H6.o.2,λ_=>H6.o.1⟩
def qBF (c:qG) (k:Nat):List qQ:=(List.range k).map λ(n:Nat)=>(⟨c.key,(n:Int)+1⟩:qQ)
theorem qPT (c:qG) (k:Nat):qBF c (k+1)=qBF c k++[⟨c.key,(k:Int)+1⟩]:=by unfold qBF;rw [List.range_succ,List.map_append];rfl
theorem qSY:(prog.info? 77).map (λi=>(i.zero,i.size,i.bytes))=some (some (.agg #[.string ⟨#[]⟩,.int .i64 0]),2,24):=by kernel_rfl
theorem qNG (c:qG) (h0:0≤c.fibs) (h1:c.fibs≤144) (w:World):Calls prog 152 #[.agg ↑c] w
  λe w'=>∃v,e=.returned v∧w'.ownsRow w.heap.size 77 2 v (qBF c c.fibs.toNat).length ((qBF c c.fibs.toNat).flatMap qQ.cells)∧Below w.heap.size w w':=by
 obtain⟨i0,hi,hz0,hz1,hz2⟩:=info_parts qSY;obtain⟨n,hn⟩:∃n:Nat,c.fibs=n:=⟨c.fibs.toNat,by omega⟩;have hlen:∀k,(qBF c k).length=k:=λk=>by simp [qBF]
 have hbx:qC (w.alloc (.cells ↑c 75)) w.heap.size ↑c 75:=qC.new w _ _;have hBa:Below w.heap.size w (w.alloc (.cells ↑c 75)):=by exact qS
 have x4:=hbx.cell 4 (.int .i64 c.fibs) rfl;have H1:=mH (aI hbx (aI hBa hbx.lt));have HL:=mH hlen;have HN:=mH hn;have hn144:n≤144:=by omega
 have hnn:c.fibs.toNat=n:=by omega
 rw [hnn];clear hlen hbx hBa hn hnn;go_enter func152,ntmps152;go_wp2;go_loopw [3,7] (λov iv wr=>∃k:Nat,k≤n∧iv=.int .i64 k∧wr.ownsRow (w.heap.size+1) 77 2 ov k ((qBF c k).flatMap qQ.cells)∧qC wr w.heap.size ↑c 75∧Below w.heap.size w wr∧w.heap.size+1≤wr.heap.size) (λ_ iv _=>n - (intOf iv).toNat)
 case atStart=>exact⟨0,by omega,rfl,World.ownsRow_nil _ _ _ _,H1.o.1,H1.o.2.1,by simp⟩
 case round =>
  clear H1 x4;obtain⟨k,hk,rfl,ho,hbx,hB,hz⟩:=hrel
  by_cases hlt:k<n
  ·have hk':(k:Int)<c.fibs:=by rw [HN.o];omega
   have hw:IntKind.i64.wrap ((k:Int)+1)=(k:Int)+1:=IntWalk.i64_in _ oM;have x0:=hbx.cell 0 (.string c.key) rfl;have HO:=mH (aI ho (aI hbx hB));clear ho hbx hB;go_wp2_with ((at_builtin;go_must (refine wpList_append_own _ rfl _ _ 204 rfl _ 77 _ (.agg #[.string ⟨#[]⟩,.int .i64 0]) 2 24 underlying204 hi hz0 hz1 hz2 rfl dE _ _ _ rfl (HO.o.1.alloc _) ⟨wr.heap.size,0,none⟩ 1 1 [.string c.key,.int .i64 ((k:Int)+1)] rfl rfl (by exact qBC (by first|rfl|simp) rF) (by simp [Value.oneCell']) (by unfold maxLen;omega) oM szq ?_));intro v' w4 hown4 hg4 _);refine⟨⟨k+1,by omega,by go_num,?_,(HO.o.2.1.alloc _).grown hg4 (λe=>by have:=(HO.o.1.lt _ e.symm).1;omega),jG (HO.o.2.2.trans (qB bR _ oM)) (HO.o.1.alloc _) hg4 oM (by simp;omega),by have:=hg4.size;simp at this;omega⟩,by simp [intOf];omega⟩;rw [qPT,List.flatMap_append];exact hown4
  obtain rfl:k=n:=by omega
  have hk':¬(k:Int)<c.fibs:=by rw [HN.o];omega
  have HO:=mH (aI ho hB);clear ho hbx hB;go_wp2;go_ret;exact⟨_,rfl,by rw [HL.o];exact qAm HO.o.1 oM,HO.o.2⟩
theorem qQO {p:Pl} (hp:jS p) {f:qQ} {c:qG} (hc:qY p.C f.cable=some c):(p.X.any λs=>decide (s.x=f∨s.y=f))=((zD p.X f c.a).isSome || (zD p.X f c.b).isSome):=by
 have hsome:∀(k:ByteArray) (s:qE),s∈p.X→s.site=k→(s.x=f∨s.y=f)→(zD p.X f k).isSome=true:=λk s hs h1 h2=>by
  unfold zD;rw [List.find?_isSome];exact⟨s,hs,by simpa using ⟨h1,h2⟩⟩
 have hend:∀s∈p.X,(s.x=f∨s.y=f)→s.site=c.a∨s.site=c.b:=λs hs h=>by
  obtain⟨h1,h2,_⟩:=qIl hp hs;have h3:qAA p.C f s.site=true:=by
   rcases h with h|h
   ·rw [←h];exact h1
   ·rw [←h];exact h2
  obtain⟨d,hd,hq⟩:=qJK h3;rw [hc] at hd
  cases hd
  rcases hq with q|q
  ·exact .inl q.symm
  ·exact .inr q.symm
 rw [Bool.eq_iff_iff,List.any_eq_true,Bool.or_eq_true]
 constructor
 ·rintro⟨s,hs,h⟩;rw [decide_eq_true_eq] at h
  rcases hend s hs h with q|q
  ·exact .inl (hsome _ s hs q h)
  ·exact .inr (hsome _ s hs q h)
 ·rintro (h|h)
  ·obtain⟨s,hs⟩:=Option.isSome_iff_exists.1 h;obtain⟨h1,_,h2⟩:=qGo hs;exact⟨s,h1,by simpa using h2⟩
  ·obtain⟨s,hs⟩:=Option.isSome_iff_exists.1 h;obtain⟨h1,_,h2⟩:=qGo hs;exact⟨s,h1,by simpa using h2⟩
theorem qRA (p:Pl) (hp:jS p) (f:qQ) (hf:qBb f) (c:qG) (hc:qY p.C f.cable=some c) (wb nn kS kC kE:Nat) (vS vC vX:Value) (m1:ByteArray→Option Value) (w:World) (hw:qCe w wb nn vS vC vX kS kC kE m1 (qAT p.C) (qAV p.X)) :
  Calls prog 153 #[.pointer (some ⟨wb,0,none⟩),.agg ↑f] w
  λe w'=>e=.returned (.bool (!(p.X.any λs=>decide (s.x=f∨s.y=f))))∧Below w.heap.size w w':=by
 rw [qQO hp hc];obtain⟨hcm,-⟩:=qDw hc;obtain⟨q1,q2,-⟩:=qEa (hp.c2 c hcm);have hsa:=qE4 (qCh hp q1);have hsb:=qE4 (qCh hp q2);obtain⟨kl,hkl⟩:=qBy f.cable hf.1;have HO:Hx ((qY p.C f.cable).getD qAH=c):=by rw [hc];exact mH rfl
 have HK:=mH hkl;have HQ:=mH (aI hsa hsb);clear hc hkl hp hsa hsb q1 q2 hcm;have hBa:Below w.heap.size w (w.alloc (.cells ↑f 77)).drew:=by exact qS
 have hx0:qC (w.alloc (.cells ↑f 77)).drew w.heap.size ↑f 77:=(qC.new w _ _).drew;have hw0:=hw.below hBa;have hS:WbK (w.alloc (.cells ↑f 77)).drew wb w.heap.size 0 kC nn p.C f:=⟨hw0.mC,hw0.blk.cell 4 _ rfl,hx0.cell 0 _ rfl,hx0.cell 1 _ rfl,hw0.blk.lt,hx0.lt,hw0.mC.lt⟩;have H1:=mH (aI hBa hx0);have HW:=mH hw;clear hBa hx0 hw0 hw;go_enter func153,ntmps153;go_wp2_with fail;refine qA.start (λW=>WbK W wb w.heap.size 0 kC nn p.C f) [8] kR ?_;generalize (w.alloc (.cells ↑f 77)).drew=W1 at *;refine qA.q 0 ?_;refine qA.q 1 ?_;refine qA.q 2 ?_;refine qA.t 3 hS ?_;refine qA.q 4 ?_;refine qA.t 5 hS ?_;refine qA.take (i:=6) (v:=.agg ↑c) rfl kR kR kR kR (λ_ _ _ h=>h) hS (Or.inl ⟨by rfl,?_⟩) ?_;(· (intro wS hSw;(try dsimp only at hSw);obtain⟨hCM,_⟩:=hSw;have hlk:=qHD hCM f.cable HK.o;rw [HO.o] at hlk;go_simp;first|rfl|exact congrArg (λr=>Result.andThen r λa w'=>Result.ok (Next.value a) w') hlk));try simp only [Act.put,zL,zN,zH,zM,zK,zI]
 refine qA.nx 7 λK hK=>?_;go_simp
 have hS2:=hS.below (qB bR (.cells #[.string ⟨#[]⟩,.string ⟨#[]⟩,.string ⟨#[]⟩,.int .i64 0,.int .i64 0] 75) lR);refine hK.out _ _ (λ_ _=>hS2) ?_;clear hK K;try simp only [Act.put,zL,zN,zH,zM,zK,zI]
 refine qA.nx 8 λK hK=>?_;go_simp
 refine qA.o hK ?_;clear hK K;refine qA.done kR ?_;have hx2:=H1.o.2.alloc (.cells ↑c 75);have hB2:Below w.heap.size w (W1.alloc (.cells ↑c 75)):=H1.o.1.trans (qB bR _ H1.o.1.size);have hcx:qC (W1.alloc (.cells ↑c 75)) W1.heap.size ↑c 75:=qC.new _ _ _;clear hS hS2 H1;obtain⟨b8,hb8⟩:=eX (W1.heap.size);rw [hb8] at hcx ⊢;generalize W1.alloc (.cells ↑c 75)=W2 at *;clear hb8;have y1:=hcx.cell 1 (.string c.a) rfl;have u0:=hx2.cell 0 (.string f.cable) rfl;have u1:=hx2.cell 1 (.int .i64 f.no) rfl;have H2:=mH (aI hx2 (aI hcx hB2));clear hx2 hcx hB2;go_wp2_with fail;refine(qI0 p.X f c.a wb nn kS kC kE _ _ _ m1 (qAT p.C) W2 (HW.o.below H2.o.2.2) HQ.o.1 hf).mono ?_;rintro e w3 ⟨rfl,hb3⟩;have hx3:=H2.o.1.below hb3 H2.o.1.lt;have hc3:=H2.o.2.1.below hb3 H2.o.2.1.lt;have hB3:=H2.o.2.2.trans (hb3.mono H2.o.2.2.size);generalize (zD p.X f c.a).getD qAi=o1 at *;obtain⟨b1,hq1⟩:=eX ((zD p.X f c.a).isSome);rw [hq1];have HQ1:=mH hq1;clear hq1;have hx4:=hx3.alloc (.cells ↑o1 79);have hc4:=hc3.alloc (.cells ↑o1 79);have hB4:Below w.heap.size w (w3.alloc (.cells ↑o1 79)):=hB3.trans (qB bR _ hB3.size);have y2:=hc3.cell 2 (.string c.b) rfl;have v0:=hx3.cell 0 (.string f.cable) rfl;have v1:=hx3.cell 1 (.int .i64 f.no) rfl;have hl1:w.heap.size<w3.heap.size:=hx3.lt;have hl2:b8<w3.heap.size:=hc3.lt;have H4:=mH hB4;clear hx3 hc3 hB3 hx4 hc4 hB4 hb3 H2 y1 u0 u1;go_wp2_with fail;refine(qI0 p.X f c.b wb nn kS kC kE _ _ _ m1 (qAT p.C) _ (HW.o.below H4.o) HQ.o.2 hf).mono ?_
 rintro e w5 ⟨rfl,hb5⟩;have H5:=mH (H4.o.trans (hb5.mono H4.o.size));generalize (zD p.X f c.b).getD qAi=o2 at *;obtain⟨b2,hq2⟩:=eX ((zD p.X f c.b).isSome);rw [hq2];have HQ2:=mH hq2;clear hq2;clear hb5
 cases b1
 ·go_wp2;go_ret;exact⟨by rw [HQ1.o,HQ2.o];rfl,qB H5.o _ H5.o.size⟩
 ·go_wp2;go_ret;exact⟨by rw [HQ1.o,HQ2.o];rfl,qB H5.o _ H5.o.size⟩
theorem Below.fill5 {B b:Nat} {a w:World} (h:Below B a w) (hb:B≤b) (v0 v1 v2 v3 v4:Value):Below B a (((((w.setCell ⟨b,0,none⟩ v0).setCell ⟨b,1,none⟩ v1).setCell ⟨b,2,none⟩ v2).setCell ⟨b,3,none⟩ v3).setCell ⟨b,4,none⟩ v4) :=
 ((((h.setCell hb v0).setCell hb v1).setCell hb v2).setCell hb v3).setCell hb v4
theorem qIs {α:Type} (q:α→Bool):∀l:List α,(∃(k:Nat) (h:k<l.length),qAu q l=k∧l.find? q=some l[k])∨(qAu q l = -1∧l.find? q=none)
 | []=>.inr ⟨rfl,rfl⟩
 | x::l=>by
  unfold qAu;rw [List.find?_cons]
  cases hx:q x
  ·rcases qIs q l with⟨k,h,h1,h2⟩|⟨h1,h2⟩
   ·refine .inl ⟨k+1,by simp;omega,?_,?_⟩
    ·rw [if_neg sI,h1,if_neg oM];omega
    ·simpa using h2
   ·right
    rw [h1];exact⟨by simp,by simpa using h2⟩
  ·exact .inl ⟨0,by simp,by simp,rfl⟩
theorem qNW (s:qG) (key:ByteArray) (b:Nat) (w:World) (hb:w.cell? ⟨b,0,none⟩=some (.string key)) (hlt:b<w.heap.size):Calls prog 212 #[.agg ⟨qG.cells s⟩,.pointer (some ⟨b,0,none⟩)] w
  λe w'=>e=.returned (.bool (decide (s.key=key)))∧Below w.heap.size w w':=by
 show Calls prog 212 #[.agg ↑s,.pointer (some ⟨b,0,none⟩)] w _
 have hq:(s.key.toList==key.toList)=decide (s.key=key):=by
  rw [qFb]
  by_cases h:s.key=key
  ·subst h;simp
  ·have h2:¬key=s.key:=λq=>h q.symm
   simp [h,h2]
 have HQ:=mH hq;clear hq;go_enter func212,ntmps212;go_wp2;go_ret;exact⟨qU HQ.o,by exact qS⟩
def qET (p:Pl) (key:ByteArray):Int:=if (qY p.C key).isSome=true then 0 else 8
theorem qOe (p:Pl) (hp:jS p) (hs:p.S.length≤100) (hc:p.C.length≤100) (hx:p.X.length≤100) (key:ByteArray) (vS vC vX:Value) (w:World) (hA:qAN w vS vC vX p.S p.C p.X):Calls prog 150 #[.agg #[vS,vC,vX],.string key] w
  λe w'=>e=.returned (.tuple #[.agg ↑((qY p.C key).getD qAH),.int .i64 (qET p key)])∧Below w.heap.size w w':=by
 obtain⟨aS,capS,rfl,-,hmS,-⟩:=id hA.s;obtain⟨aC,capC,rfl,-,hmC,hAC⟩:=id hA.c;obtain⟨aX,capX,rfl,-,hmX,-⟩:=id hA.x;unfold maxLen at hmS hmC hmX;have HA:=mH (aI hA (aI hp hAC));have hbx:qC (((w.alloc (.cells #[.slice aS p.S.length capS,.slice aC p.C.length capC,.slice aX p.X.length capX] 69)).alloc (.cells #[.string key] 9)).alloc (.cells #[.string ⟨#[]⟩,.string ⟨#[]⟩,.string ⟨#[]⟩,.int .i64 0,.int .i64 0] 75)) w.heap.size #[.slice aS p.S.length capS,.slice aC p.C.length capC,.slice aX p.X.length capX] 69:=((qC.new w _ _).alloc _).alloc _;have hbs:qC (((w.alloc (.cells #[.slice aS p.S.length capS,.slice aC p.C.length capC,.slice aX p.X.length capX] 69)).alloc (.cells #[.string key] 9)).alloc (.cells #[.string ⟨#[]⟩,.string ⟨#[]⟩,.string ⟨#[]⟩,.int .i64 0,.int .i64 0] 75)) (w.heap.size+1) #[.string key] 9:=(qC.newAt sI).alloc _;have hbr:qC (((w.alloc (.cells #[.slice aS p.S.length capS,.slice aC p.C.length capC,.slice aX p.X.length capX] 69)).alloc (.cells #[.string key] 9)).alloc (.cells #[.string ⟨#[]⟩,.string ⟨#[]⟩,.string ⟨#[]⟩,.int .i64 0,.int .i64 0] 75)) (w.heap.size+2) #[.string ⟨#[]⟩,.string ⟨#[]⟩,.string ⟨#[]⟩,.int .i64 0,.int .i64 0] 75:=qC.newAt sI;have hBa:Below w.heap.size w (((w.alloc (.cells #[.slice aS p.S.length capS,.slice aC p.C.length capC,.slice aX p.X.length capX] 69)).alloc (.cells #[.string key] 9)).alloc (.cells #[.string ⟨#[]⟩,.string ⟨#[]⟩,.string ⟨#[]⟩,.int .i64 0,.int .i64 0] 75)):=by exact qS
 have H1:=mH (aI hbx (aI hbs (aI hbr hBa)));clear hA hp hAC hbx hbs hbr hBa;go_enter func150,ntmps150;go_wp2_with fail;generalize ((w.alloc (.cells #[.slice aS p.S.length capS,.slice aC p.C.length capC,.slice aX p.X.length capX] 69)).alloc (.cells #[.string key] 9)).alloc (.cells #[.string ⟨#[]⟩,.string ⟨#[]⟩,.string ⟨#[]⟩,.int .i64 0,.int .i64 0] 75)=W1 at *;refine(qJ4 p HA.o.2.1 hs hc hx _ _ _ W1 (HA.o.1.below H1.o.2.2.2)).mono ?_;rintro e w2 ⟨rfl,hb2⟩;have hbx2:=H1.o.1.below hb2 H1.o.1.lt;have t1:=hbx2.cell 1 (.slice aC p.C.length capC) rfl;have hlt2:w.heap.size<w2.heap.size:=hbx2.lt;have H2:=mH (aI hbx2 (aI (H1.o.2.1.below hb2 H1.o.2.1.lt) (aI (H1.o.2.2.1.below hb2 H1.o.2.2.1.lt) (H1.o.2.2.2.trans (hb2.mono H1.o.2.2.2.size)))));clear hbx2 hb2 H1;go_wp2_with fail;refine(qDA _ p.C (λs=>decide (s.key=key)) 212 #[.pointer (some ⟨w.heap.size+1,0,none⟩)] w2 ((HA.o.1.below H2.o.2.2.2).c) (qAB func212 kR rfl) (λs w' _ hb=>qNW s key (w.heap.size+1) w' ((H2.o.2.1.below hb H2.o.2.1.lt).cell 0 _ rfl) (H2.o.2.1.below hb H2.o.2.1.lt).lt)).mono ?_;rintro e w3 ⟨rfl,hb3⟩;have hbx3:=H2.o.1.below hb3 H2.o.1.lt;have hbr3:=H2.o.2.2.1.below hb3 H2.o.2.2.1.lt;have hB3:=H2.o.2.2.2.trans (hb3.mono H2.o.2.2.2.size);have t1':=hbx3.cell 1 (.slice aC p.C.length capC) rfl;have x0:=hbr3.cell 0 (.string ⟨#[]⟩) rfl;have x1:=hbr3.cell 1 (.string ⟨#[]⟩) rfl;have x2:=hbr3.cell 2 (.string ⟨#[]⟩) rfl;have x3:=hbr3.cell 3 (.int .i64 0) rfl;have x4:=hbr3.cell 4 (.int .i64 0) rfl;have f0:=hbr3.free 0
 have f1:=hbr3.free 1;have f2:=hbr3.free 2;have f3:=hbr3.free 3;have f4:=hbr3.free 4;have H3:=mH (aI hbr3 hB3);clear hb3 hbx3 hbr3 hB3 H2 t1 hlt2
 rcases qIs (λs:qG=>decide (s.key=key)) p.C with⟨k,hk,hi,hf⟩|⟨hi,hf⟩
 ·rw [hi];have hg:qY p.C key=some p.C[k]:=hf;have HG:=mH hg;clear hi hf hg;obtain⟨b,off,rfl,hb,hcc⟩:=HA.o.2.2 k hk;obtain⟨c0,c1,c2,c3,c4⟩:=qCW hcc;replace c0:=(H3.o.2.cell (p:=⟨b,_,none⟩) hb).trans c0;replace c1:=(H3.o.2.cell (p:=⟨b,_,none⟩) hb).trans c1;replace c2:=(H3.o.2.cell (p:=⟨b,_,none⟩) hb).trans c2;replace c3:=(H3.o.2.cell (p:=⟨b,_,none⟩) hb).trans c3;replace c4:=(H3.o.2.cell (p:=⟨b,_,none⟩) hb).trans c4;have hk':(k:Int)<p.C.length:=by omega
  clear hcc;generalize p.C[k]=c at *;go_wp2;refine bodyPost_ret (v:=.tuple #[.agg ↑c,.int .i64 0]) ?_ rfl ⟨?_,?_⟩
  ·exact qF rfl _ _ (w.heap.size+2) 75 ↑c _ (0,0) _ rfl rfl (qC.fill5 H3.o.1) underlying75 rfl kR
  ·unfold qET;rw [HG.o];rfl
  ·exact Below.fill5 H3.o.2 oM _ _ _ _ _
 ·rw [hi];have hg:qY p.C key=none:=hf;have HG:=mH hg;clear hi hf hg;go_wp2;refine bodyPost_ret (v:=.tuple #[.agg #[.string ⟨#[]⟩,.string ⟨#[]⟩,.string ⟨#[]⟩,.int .i64 0,.int .i64 0],.int .i64 8]) ?_ rfl ⟨?_,?_⟩
  ·exact qF rfl _ _ (w.heap.size+2) 75 #[.string ⟨#[]⟩,.string ⟨#[]⟩,.string ⟨#[]⟩,.int .i64 0,.int .i64 0] _ (0,0) _ rfl rfl (qC.fill5 H3.o.1) underlying75 rfl kR
  ·unfold qET;rw [HG.o];rfl
  ·exact Below.fill5 H3.o.2 oM _ _ _ _ _
def qIM (p:Pl) (f:qQ):Bool:=!(p.X.any λs=>decide (s.x=f∨s.y=f))
def qDC (p:Pl) (c:qG) (n k:Nat):List Int:=(((qBF c n).take k).filter (qIM p)).map qQ.no
theorem qJ5 (p:Pl) (c:qG):qDC p c c.fibs.toNat c.fibs.toNat=qBK p c:=by
 unfold qDC qBK qBF;rw [List.take_of_length_le sI];rw [show(λ(n:Nat)=>(⟨c.key,(n:Int)+1⟩:qQ))=(λm:Int=>(⟨c.key,m⟩:qQ)) ∘ (λ(n:Nat)=>(n:Int)+1) from rfl,←List.map_map,List.filter_map,List.map_map];rw [show(qQ.no ∘ λm:Int=>(⟨c.key,m⟩:qQ))=id from rfl,List.map_id]
 rfl
theorem qNN (p:Pl) (c:qG) {n k:Nat} (hk:k<(qBF c n).length):qDC p c n (k+1)=qDC p c n k++(if qIM p (qBF c n)[k]=true then [(qBF c n)[k].no] else []):=by
 unfold qDC;rw [List.take_succ_eq_append_getElem hk,List.filter_append,List.map_append]
 congr 1
 by_cases h:qIM p (qBF c n)[k]=true
 ·rw [if_pos h,List.filter_cons_of_pos h];rfl
 ·rw [if_neg h,List.filter_cons_of_neg h];rfl
theorem qQ1 (p:Pl) (hp:jS p) (hs:p.S.length≤100) (hc:p.C.length≤100) (hx:p.X.length≤100) (key:ByteArray) (vS vC vX:Value) (w:World) (hA:qAN w vS vC vX p.S p.C p.X):Calls prog 94 #[.agg #[vS,vC,vX],.string key] w
  λe w'=>∃v,e=.returned (.tuple #[v,.int .i64 (qET p key)])∧Below w.heap.size w w'∧(∀c,qY p.C key=some c→w'.ownsRow w.heap.size 3 1 v (qBK p c).length ((qBK p c).map (Value.int .i64))):=by
 obtain⟨i0,hi,hz0,hz1,hz2⟩:=info_parts qGv;obtain⟨aS,capS,rfl,-,hmS,-⟩:=id hA.s;obtain⟨aC,capC,rfl,-,hmC,-⟩:=id hA.c;obtain⟨aX,capX,rfl,-,hmX,-⟩:=id hA.x;unfold maxLen at hmS hmC hmX;have HA:=mH (aI hA hp);have hbx:qC (w.alloc (.cells #[.slice aS p.S.length capS,.slice aC p.C.length capC,.slice aX p.X.length capX] 69)) w.heap.size #[.slice aS p.S.length capS,.slice aC p.C.length capC,.slice aX p.X.length capX] 69:=(qC.new w _ _);have hBa:Below w.heap.size w (w.alloc (.cells #[.slice aS p.S.length capS,.slice aC p.C.length capC,.slice aX p.X.length capX] 69)):=by exact qS
 have H1:=mH (aI hbx hBa);clear hA hp hbx hBa;go_enter func94,ntmps94;go_wp2_with fail;generalize w.alloc (.cells #[.slice aS p.S.length capS,.slice aC p.C.length capC,.slice aX p.X.length capX] 69)=W1 at *;refine(qOe p HA.o.2 hs hc hx key _ _ _ W1 (HA.o.1.below H1.o.2)).mono ?_;rintro e w2 ⟨rfl,hb2⟩;have hbx2:=H1.o.1.below hb2 H1.o.1.lt;have t0:=hbx2.cell 0 (.slice aS p.S.length capS) rfl;have t1:=hbx2.cell 1 (.slice aC p.C.length capC) rfl;have t2:=hbx2.cell 2 (.slice aX p.X.length capX) rfl;have hlt:w.heap.size<w2.heap.size:=hbx2.lt;have hB2:=H1.o.2.trans (hb2.mono H1.o.2.size)
 cases hg:qY p.C key with
 | none =>
  have HE:Hx (qET p key=8):=by unfold qET;rw [hg];exact mH rfl
  rw [HE.o];simp only [Option.getD_none];have HB:=mH hB2;have HGN:=mH hg;clear hg hb2 hbx2 hB2 H1;go_wp2;refine bodyPost_ret (results_tmp2 rfl _ _ _) rfl ⟨.slice none 0 0,by rw [HE.o];rfl,qB HB.o _ HB.o.size,λc h=>by rw [HGN.o] at h;cases h⟩
 | some c =>
  have HE:Hx (qET p key=0):=by unfold qET;rw [hg];exact mH rfl
  rw [HE.o];simp only [Option.getD_some];have hck:=(qDw hg).2;obtain⟨hkb,hf1,hf2⟩:=qFc HA.o.2 hg;have hgc:qY p.C c.key=some c:=by rw [hck];exact hg
  have HG:=mH (aI hg (aI hgc (qE4 (hck ▸ hkb))));have hB3:Below w.heap.size w (w2.alloc (.cells ↑c 75)):=hB2.trans (qB bR _ hB2.size);have hc3:qC (w2.alloc (.cells ↑c 75)) w2.heap.size ↑c 75:=qC.new _ _ _;have H3:=mH (aI hB3 hc3);clear hg hck hkb hgc hB3 hc3 hb2 hbx2 hB2 H1;go_wp2_with fail;refine(qJo p HA.o.2 hs hc hx _ _ _ _ (HA.o.1.below H3.o.1)).mono ?_;rintro e w4 ⟨rfl,hw4,hb4⟩;have hc4:=H3.o.2.below hb4 H3.o.2.lt;have hB4:=H3.o.1.trans (hb4.mono H3.o.1.size);obtain⟨cb,hcb⟩:=eX (w2.heap.size);rw [hcb] at hc4;obtain⟨wb,hwb⟩:=eX ((w2.alloc (.cells ↑c 75)).heap.size+4);rw [hwb] at hw4 ⊢;have z0:=hc4.cell 0 (.string c.key) rfl;have z1:=hc4.cell 1 (.string c.a) rfl;have z2:=hc4.cell 2 (.string c.b) rfl;have z3:=hc4.cell 3 (.int .i64 c.long) rfl;have z4:=hc4.cell 4 (.int .i64 c.fibs) rfl;have H4:=mH (aI hw4 hB4)
  try rw [hcb]
  clear hw4 hb4 hc4 hB4 H3 t0 t1 t2 hlt hwb hcb;go_wp2_with fail;refine(qNG c oM hf2 w4).mono ?_;rintro e w5 ⟨v5,rfl,ho5,hb5⟩;obtain⟨a5,c5,rfl⟩:=jO ho5;have hA5:qI qQ.cells 2 w5 (qBF c c.fibs.toNat) (.slice a5 (qBF c c.fibs.toNat).length c5):=qI.of_own qQ.cells_len ho5;have H5:=mH (aI (H4.o.1.below hb5) (aI (H4.o.2.trans (hb5.mono H4.o.2.size)) (qJ5 p c)));have hlen:(qBF c c.fibs.toNat).length≤144:=by simp [qBF];omega
  obtain⟨n,hn⟩:=eX ((qBF c c.fibs.toNat).length);have hmem:∀k (hk:k<(qBF c c.fibs.toNat).length),(qBF c c.fibs.toNat)[k]=⟨c.key,(k:Int)+1⟩:=λk hk=>by simp [qBF]
  have hfull:qDC p c c.fibs.toNat n=qBK p c:=by
   have h1:=qJ5 p c;have h2:n=c.fibs.toNat:=by rw [←hn];simp [qBF]
   rw [h2];exact h1
  have hstep:∀k,k<n→qDC p c c.fibs.toNat (k+1)=qDC p c c.fibs.toNat k++(if qIM p ⟨c.key,(k:Int)+1⟩=true then [(k:Int)+1] else []):=λk hk=>by
   have hk':k<(qBF c c.fibs.toNat).length:=by omega
   rw [qNN p c hk',hmem k hk']
  obtain⟨_,_,he5,_,hm5,hcc5⟩:=hA5;simp only [Value.slice.injEq] at he5;obtain⟨rfl,-,rfl⟩:=he5;unfold maxLen at hm5;have hcells:∀k,k<n→∃b off,a5=some ⟨b,off,none⟩∧b<w5.heap.size∧w5.cell? ⟨b,off+k*2,none⟩=some (.string c.key)∧w5.cell? ⟨b,off+k*2+1,none⟩=some (.int .i64 ((k:Int)+1)):=λk hk=>by
   have hk':k<(qBF c c.fibs.toNat).length:=by omega
   obtain⟨b,off,h1,h2,h3⟩:=hcc5 k hk';rw [hmem k hk'] at h3;exact⟨b,off,h1,h2,h3 0 _ rfl,h3 1 _ rfl⟩
  have HC5:=mH (aI hcells hstep);have HFL:=mH hfull;rw [hn] at hlen ⊢;have HNN:=mH hn;clear ho5 hb5 hmem hfull hcc5 hn hcells hstep H4 z0 z1 z2 z3 z4;go_wp2;go_loopw [9,26] (λov iv wr=>∃k:Nat,k≤n∧iv=.int .i64 k∧wr.ownsRow w5.heap.size 3 1 ov (qDC p c c.fibs.toNat k).length ((qDC p c c.fibs.toNat k).map (Value.int .i64))∧Below w5.heap.size w5 wr) (λ_ iv _=>n - (intOf iv).toNat)
  case atStart=>exact⟨0,by omega,rfl,World.ownsRow_nil _ _ _ _,Below.refl _ _⟩
  case round =>
   obtain⟨k,hk,rfl,ho,hB⟩:=hrel
   by_cases hlt:k<n
   ·obtain⟨b,off,rfl,hb,c0,c1⟩:=HC5.o.1 k hlt;replace c0:=(hB.cell (p:=⟨b,_,none⟩) hb).trans c0;replace c1:=(hB.cell (p:=⟨b,_,none⟩) hb).trans c1;have hkf:qBb ⟨c.key,(k:Int)+1⟩:=⟨HG.o.2.2,WalkArith.wf_i64 (by dsimp only;omega)⟩;have hk':(k:Int)<n:=by omega
    have hsz:=hB.size;have hBx:Below w5.heap.size w5 (wr.alloc (.cells #[.string c.key,.int .i64 ((k:Int)+1)] 77)):=hB.trans (qB bR _ hsz);have hst:=HC5.o.2 k hlt;have HO:=mH (aI (ho.alloc (.cells #[.string c.key,.int .i64 ((k:Int)+1)] 77)) (aI hBx (aI (qC.new wr #[.string c.key,.int .i64 ((k:Int)+1)] 77) (aI hst hkf))));obtain⟨ao,co,hvo⟩:=jO ho;subst hvo;clear ho hB hBx hst hkf;go_wp2_with fail;obtain⟨bx,hbx⟩:=eX (wr.heap.size);rw [hbx] at HO hsz ⊢;generalize wr.alloc (.cells #[.string c.key,.int .i64 ((k:Int)+1)] 77)=W6 at *;clear hbx c0 c1;refine(qRA p HA.o.2 ⟨c.key,(k:Int)+1⟩ HO.o.2.2.2.2 c HG.o.2.1 wb 400 _ _ _ _ _ _ (qBE p.S) W6 (H5.o.1.below HO.o.2.1)).mono ?_;rintro e w7 ⟨rfl,hb7⟩;have hx7:=HO.o.2.2.1.below hb7 HO.o.2.2.1.lt;have x1:=hx7.cell 1 (.int .i64 ((k:Int)+1)) rfl;have H7:=mH (aI (qAv HO.o.1 hb7) (aI (HO.o.2.1.trans (hb7.mono HO.o.2.1.size)) HO.o.2.2.2.1));have hz7:w5.heap.size≤w7.heap.size:=(HO.o.2.1.trans (hb7.mono HO.o.2.1.size)).size;clear hx7 hb7 HO;rw [show(!(p.X.any λs=>decide (s.x=⟨c.key,(k:Int)+1⟩∨s.y=⟨c.key,(k:Int)+1⟩)))=qIM p ⟨c.key,(k:Int)+1⟩ from rfl]
    cases hfr:qIM p ⟨c.key,(k:Int)+1⟩
    ·have hst:=H7.o.2.2;rw [hfr,if_neg sI,List.append_nil] at hst;have HS:=mH hst;clear hst hfr;go_wp2;exact⟨⟨k+1,by omega,by go_num,by rw [HS.o];exact H7.o.1,H7.o.2.1⟩,by simp [intOf];omega⟩
    ·have hst:=H7.o.2.2;rw [hfr,if_pos rfl] at hst;have HS:=mH hst;clear hst hfr;have hlk:(qDC p c c.fibs.toNat k).length≤144:=by
      unfold qDC;rw [List.length_map];refine Nat.le_trans (List.length_filter_le _ _) ?_;rw [List.length_take];simp [qBF];omega
     go_wp2_with ((at_builtin;go_must (refine wpList_append_own _ rfl _ _ 22 rfl _ 3 _ (.int .i64 0) 1 8 underlying22 hi hz0 hz1 hz2 rfl dE _ _ _ rfl (H7.o.1.alloc _) ⟨w7.heap.size,0,none⟩ 1 1 [.int .i64 ((k:Int)+1)] rfl rfl (by exact qBC (by first|rfl|simp) rF) (by simp [Value.oneCell']) (by unfold maxLen;omega) oM szq ?_));intro v' w8 hown8 hg8 _);refine⟨⟨k+1,by omega,by go_num,?_,jG (H7.o.2.1.trans (qB bR _ hz7)) (H7.o.1.alloc _) hg8 lR (by simp;omega)⟩,by simp [intOf];omega⟩;rw [HS.o,List.length_append,List.map_append];exact hown8
   obtain rfl:k=n:=by omega
   obtain⟨ao,co,hvo⟩:=jO ho;subst hvo;have HO:=mH (aI ho hB);clear ho hB;go_wp2;refine bodyPost_ret (results_tmp2 rfl _ _ _) rfl ⟨_,by rw [HE.o];rfl,H5.o.2.1.trans (HO.o.2.mono H5.o.2.1.size),λc' h=>?_⟩;rw [HG.o.1] at h
   cases h
   rw [←HFL.o];exact qAm HO.o.1 H5.o.2.1.size
theorem qQ6 {S:List qJ} {key:ByteArray} {k:Nat} (hk:k<S.length) (h:(S.take k).any (λs=>decide (s.key=key))=false) (hq:S[k].key=key):qAG S key=S[k].kind:=by
 unfold qAG;have h3:S=S.take k++S[k]::S.drop (k+1):=by rw [←List.drop_eq_getElem_cons hk,List.take_append_drop]
 have h2:(S.take k).find? (λs=>decide (s.key=key))=none:=by
  rw [List.find?_eq_none];intro x hx;have:=List.any_eq_false.1 h x hx;simpa using this
 have h1:S.find? (λs=>decide (s.key=key))=some S[k] :=
  (congrArg (List.find? (λs:qJ=>decide (s.key=key))) h3).trans (by rw [List.find?_append,h2,List.find?_cons_of_pos (by simpa using hq)];rfl)
 rw [h1]
theorem qJU (p:Pl) (key:ByteArray) (vS vC vX:Value) (w:World) (hA:qAN w vS vC vX p.S p.C p.X):Calls prog 163 #[.agg #[vS,vC,vX],.string key] w
  λe w'=>e=.returned (.int .i64 (qAG p.S key))∧Below w.heap.size w w':=by
 obtain⟨aS,capS,rfl,hcS,hmS,hAS⟩:=id hA.s;obtain⟨aC,capC,rfl,hcC,hmC,hAC⟩:=id hA.c;obtain⟨aX,capX,rfl,hcX,hmX,hAX⟩:=id hA.x;unfold maxLen at hmS hmC hmX;have HAS:=mH hAS;have hBa:Below w.heap.size w (w.alloc (.cells #[.slice aS p.S.length capS,.slice aC p.C.length capC,.slice aX p.X.length capX] 69)):=by exact qS
 have HB:=mH hBa;clear hA hAS hAC hAX hBa;go_enter func163,ntmps163;go_wp2;generalize w.alloc (.cells #[.slice aS p.S.length capS,.slice aC p.C.length capC,.slice aX p.X.length capX] 69)=W1 at *;go_loopw [10] (λiv wr=>∃k:Nat,k≤p.S.length∧iv=.int .i64 k∧(p.S.take k).any (λs=>decide (s.key=key))=false∧Below w.heap.size w wr) (λiv _=>p.S.length - (intOf iv).toNat)
 case atStart=>exact⟨0,by omega,rfl,rfl,HB.o⟩
 case round =>
  obtain⟨k,hk,rfl,hz,hB⟩:=hrel
  by_cases hlt:k<p.S.length
  rotate_left
  ·obtain rfl:k=p.S.length:=by omega
   rw [List.take_length] at hz;have HV:=mH (qJb hz);clear hz;go_wp2;go_ret;exact⟨qN HV.o.symm,hB⟩
  obtain⟨b,off,rfl,hb,hcc⟩:=HAS.o k hlt;obtain⟨c0,c1⟩:=qDq hcc;replace c0:=(hB.cell (p:=⟨b,_,none⟩) hb).trans c0;replace c1:=(hB.cell (p:=⟨b,_,none⟩) hb).trans c1;have hk':(k:Int)<p.S.length:=by omega
  have hsz:=hB.size;have HZ:=mH (aI hz hB);clear hz hB hcc
  by_cases hq:p.S[k].key=key
  ·have hqe:(p.S[k].key.toList==key.toList)=true:=by rw [hq];simp
   have HV:=mH (qQ6 hlt HZ.o.1 hq);clear hq;go_wp2;go_ret;exact⟨qN HV.o.symm,qB HZ.o.2 _ hsz⟩
  ·have hqe:(p.S[k].key.toList==key.toList)=false:=qAZ hq;have HT:Hx ((p.S.take (k+1)).any (λs=>decide (s.key=key))=false):=by rw [qBO _ p.S k hlt HZ.o.1];exact mH (by simpa using hq)
   clear hq;go_wp2;exact⟨⟨k+1,by omega,by go_num,HT.o,qB HZ.o.2 _ hsz⟩,by simp [intOf];omega⟩
theorem qDZ (p:Pl) (key:ByteArray) (vS vC vX:Value) (w:World) (hA:qAN w vS vC vX p.S p.C p.X):Calls prog 107 #[.agg #[vS,vC,vX],.string key] w
  λe w'=>e=.returned (.bool (qAQ p.S key))∧Below w.heap.size w w':=by
 obtain⟨aS,capS,rfl,hcS,hmS,hAS⟩:=id hA.s;obtain⟨aC,capC,rfl,hcC,hmC,hAC⟩:=id hA.c;obtain⟨aX,capX,rfl,hcX,hmX,hAX⟩:=id hA.x;unfold maxLen at hmS hmC hmX;have hBa:Below w.heap.size w (w.alloc (.cells #[.slice aS p.S.length capS,.slice aC p.C.length capC,.slice aX p.X.length capX] 69)):=by exact qS
 have HA:=mH (aI hA hBa);clear hA hAS hAC hAX hBa;go_enter func107,ntmps107;go_wp2_with fail;generalize w.alloc (.cells #[.slice aS p.S.length capS,.slice aC p.C.length capC,.slice aX p.X.length capX] 69)=W1 at *;refine(qJU p key _ _ _ W1 (HA.o.1.below HA.o.2)).mono ?_;rintro e w2 ⟨rfl,hb2⟩;have HB:=mH (HA.o.2.trans (hb2.mono HA.o.2.size));clear hb2;go_wp2;go_ret;exact⟨rfl,HB.o⟩
theorem qMP (s:qG) (key:ByteArray) (b:Nat) (w:World) (hb:w.cell? ⟨b,0,none⟩=some (.string key)) (hlt:b<w.heap.size):Calls prog 215 #[.agg ⟨qG.cells s⟩,.pointer (some ⟨b,0,none⟩)] w
  λe w'=>e=.returned (.bool (decide (s.key=key)))∧Below w.heap.size w w':=by
 show Calls prog 215 #[.agg ↑s,.pointer (some ⟨b,0,none⟩)] w _
 have hq:(s.key.toList==key.toList)=decide (s.key=key):=by
  rw [qFb]
  by_cases h:s.key=key
  ·subst h;simp
  ·have h2:¬key=s.key:=λq=>h q.symm
   simp [h,h2]
 have HQ:=mH hq;clear hq;go_enter func215,ntmps215;go_wp2;go_ret;exact⟨qU HQ.o,by exact qS⟩
theorem qEZ (p:Pl) (key:ByteArray) (vS vC vX:Value) (w:World) (hA:qAN w vS vC vX p.S p.C p.X):Calls prog 162 #[.agg #[vS,vC,vX],.string key] w
  λe w'=>e=.returned (.tuple #[.agg ↑((qY p.C key).getD qAH),.bool (qY p.C key).isSome])∧Below w.heap.size w w':=by
 obtain⟨aS,capS,rfl,hcS,hmS,hAS⟩:=id hA.s;obtain⟨aC,capC,rfl,hcC,hmC,hAC⟩:=id hA.c;obtain⟨aX,capX,rfl,hcX,hmX,hAX⟩:=id hA.x;unfold maxLen at hmS hmC hmX;have HA:=mH (aI hA hAC);have hbx:qC (((w.alloc (.cells #[.slice aS p.S.length capS,.slice aC p.C.length capC,.slice aX p.X.length capX] 69)).alloc (.cells #[.string key] 9)).alloc (.cells #[.string ⟨#[]⟩,.string ⟨#[]⟩,.string ⟨#[]⟩,.int .i64 0,.int .i64 0] 75)) w.heap.size #[.slice aS p.S.length capS,.slice aC p.C.length capC,.slice aX p.X.length capX] 69:=((qC.new w _ _).alloc _).alloc _;have hbs:qC (((w.alloc (.cells #[.slice aS p.S.length capS,.slice aC p.C.length capC,.slice aX p.X.length capX] 69)).alloc (.cells #[.string key] 9)).alloc (.cells #[.string ⟨#[]⟩,.string ⟨#[]⟩,.string ⟨#[]⟩,.int .i64 0,.int .i64 0] 75)) (w.heap.size+1) #[.string key] 9:=(qC.newAt sI).alloc _;have hbr:qC (((w.alloc (.cells #[.slice aS p.S.length capS,.slice aC p.C.length capC,.slice aX p.X.length capX] 69)).alloc (.cells #[.string key] 9)).alloc (.cells #[.string ⟨#[]⟩,.string ⟨#[]⟩,.string ⟨#[]⟩,.int .i64 0,.int .i64 0] 75)) (w.heap.size+2) #[.string ⟨#[]⟩,.string ⟨#[]⟩,.string ⟨#[]⟩,.int .i64 0,.int .i64 0] 75:=qC.newAt sI;have hBa:Below w.heap.size w (((w.alloc (.cells #[.slice aS p.S.length capS,.slice aC p.C.length capC,.slice aX p.X.length capX] 69)).alloc (.cells #[.string key] 9)).alloc (.cells #[.string ⟨#[]⟩,.string ⟨#[]⟩,.string ⟨#[]⟩,.int .i64 0,.int .i64 0] 75)):=by exact qS
 have H2:=mH (aI hbx (aI hbs (aI hbr hBa)));clear hA hAC hAS hAX hbx hbs hbr hBa;go_enter func162,ntmps162;go_wp2_with fail;generalize ((w.alloc (.cells #[.slice aS p.S.length capS,.slice aC p.C.length capC,.slice aX p.X.length capX] 69)).alloc (.cells #[.string key] 9)).alloc (.cells #[.string ⟨#[]⟩,.string ⟨#[]⟩,.string ⟨#[]⟩,.int .i64 0,.int .i64 0] 75)=w2 at *;refine(qDA _ p.C (λs=>decide (s.key=key)) 215 #[.pointer (some ⟨w.heap.size+1,0,none⟩)] w2 ((HA.o.1.below H2.o.2.2.2).c) (qAB func215 kR rfl) (λs w' _ hb=>qMP s key (w.heap.size+1) w' ((H2.o.2.1.below hb H2.o.2.1.lt).cell 0 _ rfl) (H2.o.2.1.below hb H2.o.2.1.lt).lt)).mono ?_;rintro e w3 ⟨rfl,hb3⟩;have hbx3:=H2.o.1.below hb3 H2.o.1.lt;have hbr3:=H2.o.2.2.1.below hb3 H2.o.2.2.1.lt;have hB3:=H2.o.2.2.2.trans (hb3.mono H2.o.2.2.2.size);have t1':=hbx3.cell 1 (.slice aC p.C.length capC) rfl;have x0:=hbr3.cell 0 (.string ⟨#[]⟩) rfl;have x1:=hbr3.cell 1 (.string ⟨#[]⟩) rfl;have x2:=hbr3.cell 2 (.string ⟨#[]⟩) rfl;have x3:=hbr3.cell 3 (.int .i64 0) rfl;have x4:=hbr3.cell 4 (.int .i64 0) rfl;have f0:=hbr3.free 0;have f1:=hbr3.free 1;have f2:=hbr3.free 2;have f3:=hbr3.free 3;have f4:=hbr3.free 4;have H3:=mH (aI hbr3 hB3);clear hb3 hbx3 hbr3 hB3 H2
 rcases qIs (λs:qG=>decide (s.key=key)) p.C with⟨k,hk,hi,hf⟩|⟨hi,hf⟩
 ·rw [hi];have hg:qY p.C key=some p.C[k]:=hf;have HG:=mH hg;clear hi hf hg;obtain⟨b,off,rfl,hb,hcc⟩:=HA.o.2 k hk;obtain⟨c0,c1,c2,c3,c4⟩:=qCW hcc;replace c0:=(H3.o.2.cell (p:=⟨b,_,none⟩) hb).trans c0;replace c1:=(H3.o.2.cell (p:=⟨b,_,none⟩) hb).trans c1;replace c2:=(H3.o.2.cell (p:=⟨b,_,none⟩) hb).trans c2;replace c3:=(H3.o.2.cell (p:=⟨b,_,none⟩) hb).trans c3;replace c4:=(H3.o.2.cell (p:=⟨b,_,none⟩) hb).trans c4;have hk':(k:Int)<p.C.length:=by omega
  clear hcc;generalize p.C[k]=c at *;go_wp2;refine bodyPost_ret (v:=.tuple #[.agg ↑c,.bool true]) ?_ rfl ⟨?_,?_⟩
  ·exact qF rfl _ _ (w.heap.size+2) 75 ↑c _ (0,0) _ rfl rfl (qC.fill5 H3.o.1) underlying75 rfl kR
  ·rw [HG.o];rfl
  ·exact Below.fill5 H3.o.2 oM _ _ _ _ _
 ·rw [hi];have hg:qY p.C key=none:=hf;have HG:=mH hg;clear hi hf hg;go_wp2;refine bodyPost_ret (v:=.tuple #[.agg #[.string ⟨#[]⟩,.string ⟨#[]⟩,.string ⟨#[]⟩,.int .i64 0,.int .i64 0],.bool false]) ?_ rfl ⟨?_,?_⟩
  ·exact qF rfl _ _ (w.heap.size+2) 75 #[.string ⟨#[]⟩,.string ⟨#[]⟩,.string ⟨#[]⟩,.int .i64 0,.int .i64 0] _ (0,0) _ rfl rfl (qC.fill5 H3.o.1) underlying75 rfl kR
  ·rw [HG.o];rfl
  ·exact Below.fill5 H3.o.2 oM _ _ _ _ _
theorem qFP (p:Pl) (key:ByteArray) (vS vC vX:Value) (w:World) (hA:qAN w vS vC vX p.S p.C p.X):Calls prog 111 #[.agg #[vS,vC,vX],.string key] w
  λe w'=>e=.returned (.bool (qY p.C key).isSome)∧Below w.heap.size w w':=by
 obtain⟨aS,capS,rfl,hcS,hmS,hAS⟩:=id hA.s;obtain⟨aC,capC,rfl,hcC,hmC,hAC⟩:=id hA.c;obtain⟨aX,capX,rfl,hcX,hmX,hAX⟩:=id hA.x;unfold maxLen at hmS hmC hmX;have hBa:Below w.heap.size w (w.alloc (.cells #[.slice aS p.S.length capS,.slice aC p.C.length capC,.slice aX p.X.length capX] 69)):=by exact qS
 have HA:=mH (aI hA hBa);clear hA hAS hAC hAX hBa;go_enter func111,ntmps111;go_wp2_with fail;generalize w.alloc (.cells #[.slice aS p.S.length capS,.slice aC p.C.length capC,.slice aX p.X.length capX] 69)=W1 at *;refine(qEZ p key _ _ _ W1 (HA.o.1.below HA.o.2)).mono ?_;rintro e w2 ⟨rfl,hb2⟩;have HB:=mH (HA.o.2.trans (hb2.mono HA.o.2.size));clear hb2;go_wp2;go_ret;exact⟨rfl,qB HB.o _ HB.o.size⟩
end Go.Proofs.YtbgnlfgkgklkdaaGreatDoor
