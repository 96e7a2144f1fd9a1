/- Parts of the proof of ScriptsAnswered: SnQ. No condition. -/
import Derived.Test.YtbgnlfgkgklkdaaGreatDoorZ22
set_option linter.unusedVariables false
set_option linter.unusedSimpArgs false
set_option maxHeartbeats 8000000
set_option maxRecDepth 100000
namespace Go.Proofs.YtbgnlfgkgklkdaaGreatDoor
open Go Go.RowKit Tryz
theorem qES (C:List qG) (f:qQ):jX C f=!zC f.no 1 ((qY C f.cable).getD qAH).fibs:=by
 unfold jX
 cases hg:qY C f.cable with
 | none=>show false=!zC f.no 1 0;rw [eq_comm,Bool.not_eq_false'];unfold zC;simp only [decide_eq_true_eq];omega
 | some c=>rw [Bool.eq_iff_iff];simp [zC]
theorem qKu {C:List qG} {f:qQ} (h:jX C f=true) (k:ByteArray):qAA C f k=decide (((qY C f.cable).getD qAH).a=k∨((qY C f.cable).getD qAH).b=k):=by
 obtain⟨c,hc⟩:=qCG h;unfold qAA;rw [hc];simp
def qOq (K:Int) (cx cy:qG) (s:qE):Int :=
 if K=0∨zC s.x.no 1 cx.fibs=true∨zC s.y.no 1 cy.fibs=true then 8 else if K=4 then 4
 else if (cx.a≠s.site∧cx.b≠s.site)∨(cy.a≠s.site∧cy.b≠s.site)∨jN s.y s.x≤0 then 3 else if zC s.loss 0 10000=true then 1 else 0
theorem qT3 {S:List qJ} {C:List qG} {s:qE} (h:0≤qAG S s.site):jA S C s=qOq (qAG S s.site) ((qY C s.x.cable).getD qAH) ((qY C s.y.cable).getD qAH) s:=by
 unfold jA qOq;rw [qKW h]
 by_cases h1:jX C s.x=true
 ·by_cases h2:jX C s.y=true
  ·rw [qKu h1,qKu h2];have e1:=qES C s.x;have e2:=qES C s.y;rw [h1] at e1;rw [h2] at e2;have e3:=qIE.le (a:=s.y) (b:=s.x);simp only [h1,h2,e3];have e1':zC s.x.no 1 ((qY C s.x.cable).getD qAH).fibs=false:=by simpa using e1
   have e2':zC s.y.no 1 ((qY C s.y.cable).getD qAH).fibs=false:=by simpa using e2
   simp only [e1',e2'];simp [not_or]
  ·have e2:=qES C s.y;simp only [Bool.not_eq_true] at h2;rw [h2] at e2;have e2':zC s.y.no 1 ((qY C s.y.cable).getD qAH).fibs=true:=by simpa using e2
   simp [h2,e2']
 ·have e2:=qES C s.x;simp only [Bool.not_eq_true] at h1;rw [h1] at e2;have e2':zC s.x.no 1 ((qY C s.x.cable).getD qAH).fibs=true:=by simpa using e2
  simp [h1,e2']
theorem qAJ.below {W W':World} {b:Nat} {s:qE} (h:qAJ W b s) (hb:Below W.heap.size W W') (hl:b<W.heap.size):qAJ W' b s:=by
 have k:=qDg hb b hl;exact⟨(k _).trans h.1,(k _).trans h.2.1,(k _).trans h.2.2.1,(k _).trans h.2.2.2.1,(k _).trans h.2.2.2.2.1,(k _).trans h.2.2.2.2.2⟩
abbrev qHw (W:World) (k n:Nat) (C:List qG):Prop:=qAq W k n (qAT C)
theorem qHD {W:World} {k n:Nat} {C:List qG} (h:qHw W k n C) (key:ByteArray) {kl:Lit} (hk:keyOf prog 9 (.string key)=some kl):(Instr.lookup 101 (.map (some k)) (.string key) false).run prog W=.ok (.agg ⟨((qY C key).getD qAH).cells⟩) W :=
 (zA.look h qAO underlying101 (z:=.agg ⟨qAH.cells⟩) (qKL W) key hk).trans (congrArg (λv=>Result.ok v W) (qMd C key))
theorem qQb (W:World) (a c:qG):qDV ((W.alloc (.cells ↑a 75)).alloc (.cells ↑c 75)) W.heap.size a∧qDV ((W.alloc (.cells ↑a 75)).alloc (.cells ↑c 75)) (W.heap.size+1) c∧Below W.heap.size W ((W.alloc (.cells ↑a 75)).alloc (.cells ↑c 75)):=by
 have h:=qC.new (W.alloc (.cells ↑a 75)) ↑c 75;exact⟨qDV.of ((qC.new W _ _).alloc _),qDV.of (by simpa using h),qB (qB bR _ lR) _ sI⟩
theorem bT (b:Bool):b=true∨b=false:=Bool.eq_false_or_eq_true b
theorem cE (c:qG) (k:ByteArray):((c.a.toList==k.toList)=false∧(c.b.toList==k.toList)=false)∨(c.a.toList==k.toList)=true∨((c.a.toList==k.toList)=false∧(c.b.toList==k.toList)=true):=by
 cases c.a.toList==k.toList <;> cases c.b.toList==k.toList <;> simp
theorem oE (s:qE):jN s.y s.x≤0∨¬jN s.y s.x≤0∧(zC s.loss 0 10000=true∨zC s.loss 0 10000=false):=by
 by_cases h:jN s.y s.x≤0
 ·exact .inl h
 ·exact .inr ⟨h,bT _⟩
theorem qTv {a b:ByteArray}:(a.toList==b.toList)=false↔¬a=b:=by
 constructor
 ·intro h e;subst e;simp at h
 ·exact qAZ
theorem qTy {K:Int} {cx cy:qG} {s:qE}:qOq K cx cy s=if (K==0)=true∨zC s.x.no 1 cx.fibs=true∨zC s.y.no 1 cy.fibs=true then 8 else if (K==4)=true then 4
  else if ((cx.a.toList==s.site.toList)=false∧(cx.b.toList==s.site.toList)=false)∨((cy.a.toList==s.site.toList)=false∧(cy.b.toList==s.site.toList)=false)∨jN s.y s.x≤0 then 3 else if zC s.loss 0 10000=true then 1 else 0:=by
 unfold qOq;simp only [qTv,beq_iff_eq,ne_eq]
theorem qGN (S:List qJ) (C:List qG) (s:qE) (kS kC nn:Nat) (w:World) (hm1:qAq w kS nn (qBE S)) (hm2:qAq w kC nn (qAT C)) (hn:0≤qAG S s.site) (hk:qDz s):Calls prog 192 #[.agg ↑s,.map (some kC),.map (some kS)] w
  λe w'=>e=.returned (.int .i64 (jA S C s))∧Below w.heap.size w w':=by
 obtain⟨k1,hk1⟩:=qBy s.site hk.1;obtain⟨k2,hk2⟩:=qBy s.x.cable hk.2.1.1;obtain⟨k3,hk3⟩:=qBy s.y.cable hk.2.2.1;rw [qT3 hn];obtain⟨cx,hcx⟩:=eX ((qY C s.x.cable).getD qAH);obtain⟨cy,hcy⟩:=eX ((qY C s.y.cable).getD qAH);rw [hcx,hcy];have HC:=mH (aI hcx hcy);clear hcx hcy;have HK:=mH (aI hk1 (aI hk2 hk3));clear hk1 hk2 hk3 hn hk;have hB1:Below w.heap.size w (w.alloc (.cells ↑s 79)).drew:=Below.drew (qB bR _ lR);have hx1:qC (w.alloc (.cells ↑s 79)).drew w.heap.size ↑s 79:=(qC.new w _ _).drew;have hm1':=hm1.kept (qH none hB1) sI;have hm2':=hm2.kept (qH none hB1) sI;go_enter func192,ntmps192;go_wp2_with fail;have hS:qHw (w.alloc (.cells ↑s 79)).drew kC nn C∧qAJ (w.alloc (.cells ↑s 79)).drew w.heap.size s∧w.heap.size<(w.alloc (.cells ↑s 79)).drew.heap.size:=⟨hm2',qAJ.of hx1,hx1.lt⟩;have H1:=mH (aI hm1' (aI hB1 hx1));clear hm1' hm2' hx1 hB1 hm1 hm2;generalize w.alloc (.cells ↑s 79)=W0 at *;have hSb:∀W,Below W0.drew.heap.size W0.drew W→qHw W kC nn C∧qAJ W w.heap.size s∧w.heap.size<W.heap.size:=λW hb=>⟨zA.below hS.1 hb hS.1.lt,hS.2.1.below hb hS.2.2,Nat.lt_of_lt_of_le hS.2.2 hb.size⟩
 have HSB:=mH hSb;clear hSb;go_cut [7,8] from 9 to 18 (λq7 q8 wc=>∃b7 b8,q7=.pointer (some ⟨b7,0,none⟩)∧q8=.pointer (some ⟨b8,0,none⟩)∧qDV wc b7 cx∧qDV wc b8 cy∧Below W0.drew.heap.size W0.drew wc)
 case first =>
  refine qA.start (λW=>qHw W kC nn C∧qAJ W w.heap.size s∧w.heap.size<W.heap.size) [] kR ?_;generalize W0.drew=W1 at *;refine qA.q 0 ?_;refine qA.q 1 ?_;refine qA.q 2 ?_;refine qA.t 3 hS ?_;refine qA.take (i:=4) (v:=.agg ↑cx) rfl kR kR kR kR (λ_ _ _ h=>h) hS (Or.inl ⟨by rfl,?_⟩) ?_;(· (intro wS hSw;(try dsimp only at hSw);obtain⟨hCM,_⟩:=hSw;have hlk:=qHD hCM s.x.cable HK.o.2.1;rw [HC.o.1] at hlk;go_simp;first|rfl|exact hlk));try simp only [Act.put,zL,zN,zH,zM,zK,zI]
  refine qA.q 5 ?_;refine qA.q 6 ?_;refine qA.q 7 ?_;refine qA.t 8 hS ?_;refine qA.take (i:=9) (v:=.agg ↑cy) rfl kR kR kR kR (λ_ _ _ h=>h) hS (Or.inl ⟨by rfl,?_⟩) ?_;(· (intro wS hSw;(try dsimp only at hSw);obtain⟨hCM,_⟩:=hSw;have hlk:=qHD hCM s.y.cable HK.o.2.2;rw [HC.o.2] at hlk;go_simp;first|rfl|exact hlk));try simp only [Act.put,zL,zN,zH,zM,zK,zI]
  clear hS;refine qA.ready (rs:=[10,11]) kR sI ?_;refine qA3.cons rfl (λK hK=>?_) (qA3.cons rfl (λK hK=>?_) qA3.nil) <;> go_simp
  ·refine hK.out _ _ (λ_ _=>HSB.o _ (by first|exact qB (qB bR _ lR) _ sI|exact qB bR _ lR)) ?_;clear hK K;try simp only [Act.put,zL,zN,zH,zM,zK,zI]
   refine qA.nx 11 λK hK=>?_;go_simp
   refine hK.out _ _ (λ_ _=>HSB.o _ (by first|exact qB (qB bR _ lR) _ sI|exact qB bR _ lR)) ?_;clear hK K;try simp only [Act.put,zL,zN,zH,zM,zK,zI]
   refine qA.nx 12 λK hK=>?_;go_simp
   refine hK.out _ _ (λ_ _=>HSB.o _ (by first|exact qB (qB bR _ lR) _ sI|exact qB bR _ lR)) ?_;clear hK K;try simp only [Act.put,zL,zN,zH,zM,zK,zI]
   refine qA.nx 13 λK hK=>?_;go_simp
   refine hK.out _ _ (λ_ _=>HSB.o _ (by first|exact qB (qB bR _ lR) _ sI|exact qB bR _ lR)) ?_;clear hK K;try simp only [Act.put,zL,zN,zH,zM,zK,zI]
   refine qA.done kR ?_;go_wp2_with fail;go_meet;have h:=qQb W1 cx cy;exact⟨_,_,rfl,rfl,h.1,h.2.1,h.2.2⟩
  ·refine hK.out _ _ (λ_ _=>HSB.o _ (by first|exact qB (qB bR _ lR) _ sI|exact qB bR _ lR)) ?_;clear hK K;try simp only [Act.put,zL,zN,zH,zM,zK,zI]
   refine qA.nx 10 λK hK=>?_;go_simp
   refine hK.out _ _ (λ_ _=>HSB.o _ (by first|exact qB (qB bR _ lR) _ sI|exact qB bR _ lR)) ?_;clear hK K;try simp only [Act.put,zL,zN,zH,zM,zK,zI]
   refine qA.nx 12 λK hK=>?_;go_simp
   refine hK.out _ _ (λ_ _=>HSB.o _ (by first|exact qB (qB bR _ lR) _ sI|exact qB bR _ lR)) ?_;clear hK K;try simp only [Act.put,zL,zN,zH,zM,zK,zI]
   refine qA.nx 13 λK hK=>?_;go_simp
   refine hK.out _ _ (λ_ _=>HSB.o _ (by first|exact qB (qB bR _ lR) _ sI|exact qB bR _ lR)) ?_;clear hK K;try simp only [Act.put,zL,zN,zH,zM,zK,zI]
   refine qA.done kR ?_;go_wp2_with fail;go_meet;have h:=qQb W1 cy cx;exact⟨_,_,rfl,rfl,h.2.1,h.1,h.2.2⟩
 case rest =>
 obtain⟨b7,b8,rfl,rfl,⟨x0,x1,x2,x3,x4⟩,⟨y0,y1,y2,y3,y4⟩,hb⟩:=hcut;clear hS;rename World=>W2
 obtain⟨_,⟨s0,s1,s2,s3,s4,s5⟩,hsl⟩:=HSB.o _ hb;have HM2:=mH (aI (H1.o.1.kept (qH none hb) sI) (H1.o.2.1.trans (hb.mono (Nat.le_of_lt H1.o.2.2.lt))));have HL:=mH (aI hsl True.intro);clear hb hsl;obtain h0|h0:=bT (qAG S s.site==0);rotate_left;obtain hX|hX:=bT (zC s.x.no 1 cx.fibs);rotate_left;obtain hY|hY:=bT (zC s.y.no 1 cy.fibs);rotate_left;obtain h4|h4:=bT (qAG S s.site==4);rotate_left;obtain⟨hx,hu⟩|hx:=cE cx s.site;rotate_left
 (obtain hx|⟨hx,hu⟩:=hx) <;> (obtain⟨hy,hv⟩|hy|⟨hy,hv⟩:=cE cy s.site) <;> obtain ho|⟨ho,hl|hl⟩:=oE s
 all_goals
  go_wp2_with (first|(at_lookup;refine qAX (by first|rfl|(go_simp;done)) _ _ _ rfl qAO underlying100 (qBj _) HM2.o.1 rfl s.site HK.o.1 rfl (qBX S s.site) ?_)|(go_at_call 117;refine(qCm _ _ _ _).mono ?_;rintro e w' ⟨rfl,rfl⟩)|(go_at_call 243;refine(qGt _ _ _).mono ?_;rintro e wq ⟨rfl,hgq⟩;have s5q:=(hgq.cell (o:=5) HL.o.1).trans s5))
  (try simp only [Exit.inBlock,Exit.then])
  go_ret;exact⟨qN (by rw [qTy];simp [*]),by first|exact HM2.o.2|exact HM2.o.2.trans (hgq.below.mono (Nat.le_trans (Nat.le_of_lt HL.o.1) (Nat.le_of_eq rfl)))⟩
end Go.Proofs.YtbgnlfgkgklkdaaGreatDoor
