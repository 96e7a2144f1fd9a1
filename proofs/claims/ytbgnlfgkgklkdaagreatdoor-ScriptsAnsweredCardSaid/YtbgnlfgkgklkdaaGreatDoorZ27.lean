/- Parts of the proof of ScriptsAnswered: SnW, SnX, SnY, SoA, SoB, SsP. No condition. -/
import Derived.Deep.WholeRow
import Derived.Test.YtbgnlfgkgklkdaaGreatDoorZ24
import Derived.Test.YtbgnlfgkgklkdaaGreatDoorZ26
set_option linter.unusedVariables false
set_option linter.unusedSimpArgs false
set_option maxHeartbeats 8000000
set_option maxRecDepth 100000
namespace Go.Proofs.YtbgnlfgkgklkdaaGreatDoor
open Go Go.RowKit Tryz
def Tfx (g:Nat) (w w':World):Prop:=∀k cs t,Oth t→k≠g→qC w k cs t→qC w' k cs t
theorem Tfx.refl (g:Nat) (w:World):Tfx g w w:=λ_ _ _ _ _ h=>h
theorem Tfx.and {g:Nat} {a b c:World} (h:Tfx g a b) (h':Tfr b c):Tfx g a c:=λk cs t ho hk hb=>h' k cs t ho (h k cs t ho hk hb)
structure GrN (base gx:Nat) (wf w:World) (gb nn:Nat) (u:GrW) (S:List qJ) (C:List qG) (m1 m2:ByteArray→Option Value) (m3:qQ × ByteArray→Option Value):Prop where
 blk:qC w gb #[u.vS,u.vC,u.vX,.map (some u.kS),.map (some u.kC),.map (some u.kE),.map (some u.kM)] 105
 low:base≤gb∧base≤u.kS∧base≤u.kC∧base≤u.kE∧base≤u.kM
 oS:w.ownsRow base 73 2 u.vS S.length (S.flatMap qJ.cells)
 oC:w.ownsRow base 75 5 u.vC C.length (C.flatMap qG.cells)
 mS:qAq w u.kS nn m1
 mC:qAq w u.kC nn m2
 mE:qGZ w u.kE nn m3
 mM:qGX w u.kM nn
 ne:u.kS≠u.kC∧u.kS≠u.kE∧u.kS≠u.kM∧u.kC≠u.kE∧u.kC≠u.kM∧u.kE≠u.kM
 fr:Tfx gx wf w
def qMB (u:GrW) (gb g:Nat):Prop:=gb≠g∧u.kS≠g∧u.kC≠g∧u.kE≠g∧u.kM≠g∧u.vS.ownBlock≠some g∧u.vC.ownBlock≠some g
section
variable {base gb nn : Nat} {w w' : World} {u : GrW} {S : List qJ} {C : List qG} {X : List qE} {m1 m2 : ByteArray → Option Value} {m3 : qQ × ByteArray → Option Value}
theorem jI.toN {wf:World} {gx:Nat} (h:jI base wf w gb nn u S C X m1 m2 m3):GrN base gx w w gb nn u S C m1 m2 m3:=⟨h.blk,h.low,h.oS,h.oC,h.mS,h.mC,h.mE,h.mM,h.ne,Tfx.refl _ _⟩
theorem jI.apartX {wf:World} (h:jI base wf w gb nn u S C X m1 m2 m3) {g:Nat} (hg:u.vX.ownBlock=some g):qMB u gb g:=by
 obtain⟨mm,hM⟩:=h.mM;have e:∀{k:Nat},u.vX.ownBlock≠some k→k≠g:=λhk e=>hk (by rw [hg,e])
 exact⟨e (qA2 h.oX h.blk dE),e (zQ h.mS h.oX),e (zQ h.mC h.oX),e (zQ h.mE h.oX),e (zQ hM h.oX),λk=>qCp h.oX h.oS dE g hg k,λk=>qCp h.oX h.oC dE g hg k⟩
theorem GrN.cells {wf:World} {gx:Nat} (h:GrN base gx wf w gb nn u S C m1 m2 m3):qBs w gb u :=
 ⟨h.blk.cell 0 _ rfl,h.blk.cell 1 _ rfl,h.blk.cell 2 _ rfl,h.blk.cell 3 _ rfl,h.blk.cell 4 _ rfl,h.blk.cell 5 _ rfl,h.blk.cell 6 _ rfl⟩
theorem GrN.kept {wf:World} {gx:Nat} (h:GrN base gx wf w gb nn u S C m1 m2 m3) {row:Option Nat} (hg:w.grownBy w' row) (hr:∀g,row=some g→qMB u gb g∧g=gx):GrN base gx wf w' gb nn u S C m1 m2 m3:=by
 have ho:∀{e sz v n xs},w.ownsRow base e sz v n xs→(∀g,row=some g→v.ownBlock≠some g)→w'.ownsRow base e sz v n xs:=λho hh=>jK ho hg hh
 have hm:∀{b:Nat},(∀g,row=some g→b≠g)→some b≠row:=λhb e=>hb _ e.symm rfl
 exact⟨h.blk.grown hg (hm λg e=>(hr g e).1.1),h.low,ho h.oS λg e=>(hr g e).1.2.2.2.2.2.1,ho h.oC λg e=>(hr g e).1.2.2.2.2.2.2,h.mS.kept hg (hm λg e=>(hr g e).1.2.1),h.mC.kept hg (hm λg e=>(hr g e).1.2.2.1),h.mE.kept hg (hm λg e=>(hr g e).1.2.2.2.1),h.mM.kept hg (hm λg e=>(hr g e).1.2.2.2.2.1),h.ne,λk cs t ho hk hb=>(h.fr k cs t ho hk hb).grown hg λe=>hk (hr k e.symm).2⟩
theorem GrN.below {wf:World} {gx:Nat} (h:GrN base gx wf w gb nn u S C m1 m2 m3) (hb:Below w.heap.size w w'):GrN base gx wf w' gb nn u S C m1 m2 m3:=h.kept (qH none hb) λb e=>by cases e
theorem GrN.drew {wf:World} {gx:Nat} (h:GrN base gx wf w gb nn u S C m1 m2 m3):GrN base gx wf w.drew gb nn u S C m1 m2 m3:=h.below (Below.drew bR)
theorem GrN.alloc {wf:World} {gx:Nat} (h:GrN base gx wf w gb nn u S C m1 m2 m3) (o:Obj):GrN base gx wf (w.alloc o) gb nn u S C m1 m2 m3:=h.below (qB bR o lR)
theorem GrN.mapE {wf:World} {gx:Nat} (h:GrN base gx wf w gb nn u S C m1 m2 m3) (hg:w.grownBy w' (some u.kE)) {n':Nat} (hn:nn≤n') {m':qQ × ByteArray→Option Value} (hm:qGZ w' u.kE n' m'):GrN base gx wf w' gb n' u S C m1 m2 m':=by
 have hn1:=h.ne;have e:∀{a b:Nat},a≠b→some a≠some b:=λh e=>h (Option.some.inj e)
 exact⟨h.blk.grown hg (e (qAd h.mE h.blk).symm),h.low,jK h.oS hg (λb hb=>by cases hb;exact zQ h.mE h.oS),jK h.oC hg (λb hb=>by cases hb;exact zQ h.mE h.oC),
  (h.mS.kept hg (e hn1.2.1)).mono hn,(h.mC.kept hg (e hn1.2.2.2.1)).mono hn,hm,(h.mM.kept hg (e hn1.2.2.2.2.2.symm)).mono hn,hn1,h.fr.and (Tfr.of_map h.mE hg)⟩
theorem GrN.congr3 {wf:World} {gx:Nat} (h:GrN base gx wf w gb nn u S C m1 m2 m3) {m3':qQ × ByteArray→Option Value} (e3:∀k,m3 k=m3' k):GrN base gx wf w gb nn u S C m1 m2 m3' :=
 ⟨h.blk,h.low,h.oS,h.oC,h.mS,h.mC,h.mE.congr e3,h.mM,h.ne,h.fr⟩
end
theorem qJG {wf:World} {gx:Nat} (base gb nn:Nat) (u:GrW) (S:List qJ) (C:List qG) (m1 m2:ByteArray→Option Value) (m3:qQ × ByteArray→Option Value) (s:qE) (w:World) (h:GrN base gx wf w gb nn u S C m1 m2 m3) (hk:qDz s) (hbw:base≤w.heap.size) :
  Calls prog 186 #[.pointer (some ⟨gb,0,none⟩),.agg ↑s] w
  λe w'=>e=.returned (.tuple #[])∧GrN base gx wf w' gb nn u S C m1 m2 (qCL (qCL m3 (s.x,s.site)) (s.y,s.site))∧w.grownBy w' (some u.kE):=by
 obtain⟨kx,hkx⟩:=hk.x;obtain⟨ky,hky⟩:=hk.y;have HK:=mH (aI hkx hky);clear hkx hky;have h1:=(h.alloc (.cells ↑s 79)).drew;have hx1:qC (w.alloc (.cells ↑s 79)).drew w.heap.size ↑s 79:=(qC.new w _ _).drew;have hB1:w.grownBy (w.alloc (.cells ↑s 79)).drew (some u.kE):=qH _ (Below.drew (qB bR _ lR));have hz1:base≤(w.alloc (.cells ↑s 79)).drew.heap.size:=by simp;omega
 go_enter func186,ntmps186;go_wp2_with fail;refine qA.start (λW=>qBs W gb u∧qAJ W w.heap.size s) [9] kR ?_;have hS:qBs (w.alloc (.cells ↑s 79)).drew gb u∧qAJ (w.alloc (.cells ↑s 79)).drew w.heap.size s:=⟨h1.cells,qAJ.of hx1⟩;have H1:=mH (aI h1 (aI hB1 (aI hx1 hz1)));clear h1 hB1 hx1 hz1 h;generalize (w.alloc (.cells ↑s 79)).drew=W1 at *;refine qA.q 0 ?_;refine qA.q 1 ?_;refine qA.q 2 ?_;refine qA.t 3 hS ?_;refine qA.q 4 ?_;refine qA.t 5 hS ?_;refine qA.q 6 ?_;refine qA.t 7 hS ?_;refine qA.q 8 ?_;refine qA.nx 9 λK hK=>?_
 refine qDj rF _ _ 102 197 rfl qBv underlying102 qC7 H1.o.1.mE rF (s.x,s.site) HK.o.1 rF ?_;intro w2 hm2 hg2;refine qA.o hK ?_;clear hK K;refine qA.done kR ?_;have h2:=(H1.o.1.mapE hg2 lR hm2).drew;have hne:H1.o.1.mE.lt=H1.o.1.mE.lt:=rfl;have hx2:qC w2.drew w.heap.size ↑s 79:=(H1.o.2.2.1.grown hg2 (λe=>qAd H1.o.1.mE H1.o.2.2.1 (Option.some.inj e).symm)).drew;have hB2:w.grownBy w2.drew (some u.kE):=(H1.o.2.1.trans hg2).trans (qH _ (Below.drew bR));clear hS;go_wp2_with fail;refine qA.start (λW=>qBs W gb u∧qAJ W w.heap.size s) [9] kR ?_;have hS:qBs w2.drew gb u∧qAJ w2.drew w.heap.size s:=⟨h2.cells,qAJ.of hx2⟩;have hz2:base≤w2.drew.heap.size:=Nat.le_trans H1.o.2.2.2 hg2.size;have H2:=mH (aI h2 (aI hB2 hz2));clear h2 hx2 hB2 hm2 hg2 hne hz2;generalize w2.drew=W2 at *;refine qA.q 0 ?_;refine qA.q 1 ?_;refine qA.q 2 ?_;refine qA.t 3 hS ?_;refine qA.q 4 ?_;refine qA.t 5 hS ?_;refine qA.q 6 ?_;refine qA.t 7 hS ?_;refine qA.q 8 ?_;refine qA.nx 9 λK hK=>?_
 refine qDj rF _ _ 102 197 rfl qBv underlying102 qC7 H2.o.1.mE rF (s.y,s.site) HK.o.2 rF ?_;intro w3 hm3 hg3;refine qA.o hK ?_;clear hK K;refine qA.done kR ?_;go_wp2
 ((try simp only [Exit.inBlock,Exit.then]);refine bodyPost_end (results_none rfl _ _ _) rfl ?_)
 exact⟨rfl,H2.o.1.mapE hg3 lR hm3,H2.o.2.1.trans hg3⟩
theorem qJ1 (I:Nat→World→Prop) (v:Value) (l:List qE) (p:qE→Bool) (F:FuncId) (cp:Array Value) (q base:Nat) (w:World) (ho:w.ownsRow base 79 6 v l.length (l.flatMap qE.cells)) (hlen:l.length≤100000000) (hI:I 0 w) (hqw:q<w.heap.size)
  (hF:∀(args:Array Value) (w:World),(callFunc F args).run prog w=.ok (.enter F args) w) (h0:∀k W W',I k W→Below W.heap.size W W'→I k W') (h:∀g,v.ownBlock=some g→g≠q∧qLZ I l p F cp g q) :
  Calls prog 190 #[v,.func (.func F) #[] cp] w (qLm I base l p):=by
 rcases ho.2 with⟨hv,hn⟩|⟨g,cap,_,hv,_⟩
 ·subst hv;obtain rfl:l=[]:=List.length_eq_zero_iff.1 hn;refine(qEe _ [] p F cp base w ho sI hF (λx _ hx=>by cases hx)).mono ?_;rintro e w' ⟨v',rfl,h1,h2⟩;exact⟨v',rfl,h1,h0 0 _ _ hI ⟨h2.os,h2.tape,h2.output,h2.size,λk hk=>h2.block k hk (by simp [Value.ownBlock])⟩⟩
 ·subst hv;exact qJu I l p F cp g q cap base w ho hlen hI (h g rfl).1 hqw (h g rfl).2
theorem qGx {W:World} {k n:Nat} {C:List qG} (h:qHw W k n C) (key:ByteArray) {kl:Lit} (hk:keyOf prog 9 (.string key)=some kl):(Instr.lookup 101 (.map (some k)) (.string key) true).run prog W=.ok (.tuple #[.agg ⟨((qY C key).getD qAH).cells⟩,.bool (qY C key).isSome]) W:=by
 have h1:=zA.lookOk h qAO underlying101 (z:=.agg ⟨qAH.cells⟩) (qKL W) key hk;rw [h1,qTD,qMd]
structure qCw (base gx:Nat) (wf w W:World) (gb nn:Nat) (u:GrW) (S:List qJ) (C:List qG) (m1 m2:ByteArray→Option Value) (m3:qQ × ByteArray→Option Value) (b:Nat) (key:ByteArray):Prop where
 g:GrN base gx wf W gb nn u S C m1 m2 m3
 bp:qC W b #[.pointer (some ⟨gb,0,none⟩)] 106
 bk:qC W (b+1) #[.string key] 9
 bl:Below base w W
 z:base≤W.heap.size
structure RtA (base:Nat) (wf w W:World) (gb nn:Nat) (u:GrW) (S:List qJ) (C:List qG) (X:List qE) (m1 m2:ByteArray→Option Value) (m3:qQ × ByteArray→Option Value) (b:Nat) (key:ByteArray):Prop where
 g:jI base wf W gb nn u S C X m1 m2 m3
 bp:qC W b #[.pointer (some ⟨gb,0,none⟩)] 106
 bk:qC W (b+1) #[.string key] 9
 bl:Below base w W
 z:base≤W.heap.size
section
variable {base gb nn b : Nat} {w W W' : World} {u : GrW} {S : List qJ} {C : List qG} {X : List qE} {m1 m2 : ByteArray → Option Value} {m3 : qQ × ByteArray → Option Value} {key : ByteArray}
theorem RtA.toN {wf:World} {gx:Nat} (h:RtA base wf w W gb nn u S C X m1 m2 m3 b key):qCw base gx W w W gb nn u S C m1 m2 m3 b key:=⟨h.g.toN,h.bp,h.bk,h.bl,h.z⟩
theorem RtA.below {wf:World} (h:RtA base wf w W gb nn u S C X m1 m2 m3 b key) (hb:Below W.heap.size W W'):RtA base wf w W' gb nn u S C X m1 m2 m3 b key :=
 ⟨h.g.below hb,h.bp.below hb h.bp.lt,h.bk.below hb h.bk.lt,h.bl.trans (hb.mono h.z),Nat.le_trans h.z hb.size⟩
theorem qCw.below {wf:World} {gx:Nat} (h:qCw base gx wf w W gb nn u S C m1 m2 m3 b key) (hb:Below W.heap.size W W'):qCw base gx wf w W' gb nn u S C m1 m2 m3 b key :=
 ⟨h.g.below hb,h.bp.below hb h.bp.lt,h.bk.below hb h.bk.lt,h.bl.trans (hb.mono h.z),Nat.le_trans h.z hb.size⟩
theorem qCw.kept {wf:World} {gx:Nat} (h:qCw base gx wf w W gb nn u S C m1 m2 m3 b key) (hg:W.grownBy W' (some gx)) (ha:qMB u gb gx) (h1:b≠gx) (h2:b+1≠gx) (h3:base≤gx):qCw base gx wf w W' gb nn u S C m1 m2 m3 b key :=
 have e:∀{a c:Nat},a≠c→some a≠some c:=λh e=>h (Option.some.inj e)
 ⟨h.g.kept hg (λg' e=>by cases e;exact⟨ha,rfl⟩),h.bp.grown hg (e h1),h.bk.grown hg (e h2),h.bl.trans (jE hg h3 h.z),Nat.le_trans h.z hg.size⟩
theorem qCw.mapE {wf:World} {gx:Nat} (h:qCw base gx wf w W gb nn u S C m1 m2 m3 b key) {m3':qQ × ByteArray→Option Value} (hn:GrN base gx wf W' gb nn u S C m1 m2 m3') (hg:W.grownBy W' (some u.kE)):qCw base gx wf w W' gb nn u S C m1 m2 m3' b key :=
 have e:∀{k:Nat} {c:Array Value} {t:TypeId},qC W k c t→some k≠some u.kE:=λhb e=>qAd h.g.mE hb (Option.some.inj e).symm
 ⟨hn,h.bp.grown hg (e h.bp),h.bk.grown hg (e h.bk),h.bl.trans (jE hg h.g.low.2.2.2.1 h.z),Nat.le_trans h.z hg.size⟩
end
theorem qNP (key:ByteArray) (c:qG) (kb:Nat) (w:World) (hk:qC w kb #[.string key] 9):Calls prog 189 #[.agg ↑c,.pointer (some ⟨kb,0,none⟩)] w
  λe w'=>e=.returned (.bool (decide (c.key=key)))∧Below w.heap.size w w':=by
 have k0:=hk.cell 0 (.string key) rfl;have hl:=hk.lt
 by_cases h:c.key=key
 ·have h':(c.key.toList==key.toList)=true:=by rw [h];simp
  have H:=mH h;clear h hk;go_enter func189,ntmps189;go_wp2;go_ret;exact⟨qU (by simp [H.o]),by exact qS⟩
 ·have h':=qAZ h;have H:=mH h;clear h hk;go_enter func189,ntmps189;go_wp2;go_ret;exact⟨qU (by simp [H.o]),by exact qS⟩
theorem qNT {wf:World} {gx:Nat} (base:Nat) (w:World) (gb nn:Nat) (u:GrW) (S:List qJ) (C:List qG) (m1 m2:ByteArray→Option Value) (m3:qQ × ByteArray→Option Value) (b:Nat) (key:ByteArray) (s:qE) (W:World) (h:qCw base gx wf w W gb nn u S C m1 m2 m3 b key) (hk:qDz s) :
  Calls prog 191 #[.agg ↑s,.pointer (some ⟨b+1,0,none⟩),.pointer (some ⟨b,0,none⟩)] W
  λe W'=>e=.returned (.bool (qAL key s))∧qCw base gx wf w W' gb nn u S C m1 m2 (if qAL key s=true then qCL (qCL m3 (s.x,s.site)) (s.y,s.site) else m3) b key∧W.grownBy W' (some u.kE):=by
 have HR:=mH h;have HK:=mH hk;have k0:=h.bk.cell 0 (.string key) rfl;have p0:=h.bp.cell 0 (.pointer (some ⟨gb,0,none⟩)) rfl;have hl:=h.bk.lt;have hl2:=h.bp.lt;have hbn:¬b=W.heap.size:=by omega
 have hbn1:¬b+1=W.heap.size:=by omega
 clear h hk
 by_cases h1:s.x.cable=key
 ·have h1':(s.x.cable.toList==key.toList)=true:=by rw [h1];simp
  have hE:qAL key s=true:=by unfold qAL;simp [h1]
  rw [hE];have HE:=mH h1;clear hE h1;go_enter func191,ntmps191;go_wp2_with (go_at_call 186;refine(qJG base gb nn u S C m1 m2 m3 s _ (HR.o.g.alloc _) HK.o (Nat.le_trans HR.o.z sI)).mono ?_;rintro e w1 ⟨rfl,hn1,hg1⟩);go_ret;exact⟨rfl,(HR.o.below (jZ _ _)).mapE hn1 hg1,(qH _ (jZ _ _)).trans hg1⟩
 ·have h1':=qAZ h1
  by_cases h2:s.y.cable=key
  ·have h2':(s.y.cable.toList==key.toList)=true:=by rw [h2];simp
   have hE:qAL key s=true:=by unfold qAL;simp [h2]
   rw [hE];have HE:=mH (aI h1 h2);clear hE h1 h2;go_enter func191,ntmps191;go_wp2_with (go_at_call 186;refine(qJG base gb nn u S C m1 m2 m3 s _ (HR.o.g.alloc _) HK.o (Nat.le_trans HR.o.z sI)).mono ?_;rintro e w1 ⟨rfl,hn1,hg1⟩);go_ret;exact⟨rfl,(HR.o.below (jZ _ _)).mapE hn1 hg1,(qH _ (jZ _ _)).trans hg1⟩
  ·have h2':=qAZ h2;have hE:qAL key s=false:=by unfold qAL;simp [h1,h2]
   rw [hE];have HE:=mH (aI h1 h2);clear hE h1 h2;go_enter func191,ntmps191;go_wp2;go_ret;exact⟨rfl,HR.o.below (jZ _ _),qH _ (jZ _ _)⟩
def qE0 (p:Pl) (key:ByteArray):Int:=if p.C.any (λy=>decide (y.key=key)) then 0 else 8
def qGj (p:Pl) (key:ByteArray):Pl:={ p with C:=p.C.filter (λy=>!decide (y.key=key)),X:=p.X.filter λy=>!qAL key y }
theorem qMg {p:Pl} (h:jS p) {key:ByteArray} (hn:p.C.any (λy=>decide (y.key=key))=false):qGj p key=p:=by
 have h1:p.C.filter (λy=>!decide (y.key=key))=p.C:=List.filter_eq_self.2 λy hy=>by have:=List.any_eq_false.1 hn y hy;simpa using this
 have h2:p.X.filter (λy=>!qAL key y)=p.X:=List.filter_eq_self.2 λy hy=>by
  obtain⟨_,q1,q2,_⟩:=qDY (h.x2 y hy);obtain⟨c1,e1⟩:=qCG q1;obtain⟨c2,e2⟩:=qCG q2;have n1:y.x.cable≠key:=λe=>by rw [e,qEI.2 hn] at e1;cases e1
  have n2:y.y.cable≠key:=λe=>by rw [e,qEI.2 hn] at e2;cases e2
  unfold qAL;simp [n1,n2]
 unfold qGj;rw [h1,h2]
def RtC (W:World) (gb:Nat) (u:GrW) (b:Nat) (key:ByteArray):Prop:=W.cell? ⟨b,0,none⟩=some (.pointer (some ⟨gb,0,none⟩))∧W.cell? ⟨b+1,0,none⟩=some (.string key)∧qBs W gb u
theorem RtA.cells {wf:World} {base gb nn b:Nat} {w W:World} {u:GrW} {S:List qJ} {C:List qG} {X:List qE} {m1 m2:ByteArray→Option Value} {m3:qQ × ByteArray→Option Value} {key:ByteArray} (h:RtA base wf w W gb nn u S C X m1 m2 m3 b key):RtC W gb u b key:=⟨h.bp.cell 0 _ rfl,h.bk.cell 0 _ rfl,h.g.cells⟩
def qEu (key:ByteArray) (X:List qE) (k:Nat):List qE:=(X.take k).filter (λy=>!qAL key y)++X.drop k
theorem qO2 {key:ByteArray} {X:List qE} (h3:X.Pairwise λa b=>jC a b=false) {k:Nat} (hk:k<X.length) (e:qQ × ByteArray) :
  (if qAL key X[k]=true then qCL (qCL (qAV (qEu key X k)) (X[k].x,X[k].site)) (X[k].y,X[k].site) else qAV (qEu key X k)) e=qAV (qEu key X (k+1)) e:=by
 have hd:X.drop k=X[k]::X.drop (k+1):=List.drop_eq_getElem_cons hk;unfold qEu;rw [hd,List.take_succ_eq_append_getElem hk,List.filter_append]
 cases hg:qAL key X[k]
 ·simp [hg]
 ·rw [if_pos rfl];have hm:∀o∈(X.take k).filter (λy=>!qAL key y)++X.drop (k+1),jC o X[k]=false:=λo ho=>by
   have h4:(X.take k++X[k]::X.drop (k+1)).Pairwise λa b=>jC a b=false:=by rw [←hd,List.take_append_drop];exact h3
   obtain⟨_,q2,q3⟩:=List.pairwise_append.1 h4
   rcases List.mem_append.1 ho with ho|ho
   ·exact q3 o (List.mem_filter.1 ho).1 _ List.mem_cons_self
   ·rw [qGp];exact(List.pairwise_cons.1 q2).1 o ho
  have:=qMy hm e;rw [this];simp [hg]
theorem qCw.cells {wf:World} {gx:Nat} {base gb nn b:Nat} {w W:World} {u:GrW} {S:List qJ} {C:List qG} {m1 m2:ByteArray→Option Value} {m3:qQ × ByteArray→Option Value} {key:ByteArray} (h:qCw base gx wf w W gb nn u S C m1 m2 m3 b key):RtC W gb u b key:=⟨h.bp.cell 0 _ rfl,h.bk.cell 0 _ rfl,h.g.cells⟩
theorem qCw.congr3 {wf:World} {gx:Nat} {base gb nn b:Nat} {w W:World} {u:GrW} {S:List qJ} {C:List qG} {m1 m2:ByteArray→Option Value} {m3 m3':qQ × ByteArray→Option Value} {key:ByteArray} (h:qCw base gx wf w W gb nn u S C m1 m2 m3 b key) (e:∀k,m3 k=m3' k):qCw base gx wf w W gb nn u S C m1 m2 m3' b key:=⟨h.g.congr3 e,h.bp,h.bk,h.bl,h.z⟩
theorem qQk (key:ByteArray) (X:List qE):qEu key X X.length=X.filter λy=>!qAL key y:=by unfold qEu;rw [List.take_length,List.drop_length,List.append_nil]
theorem qNK {wf:World} (base gb nn:Nat) (u:GrW) (S:List qJ) (C:List qG) (m1 m2:ByteArray→Option Value) (X:List qE) (key:ByteArray) (b:Nat) (w W0:World) (h:RtA base wf w W0 gb nn u S C X m1 m2 (qAV X) b key) (hX:X.Pairwise λa b=>jC a b=false) (hK:∀s∈X,qDz s) (g:Nat) (hg:u.vX.ownBlock=some g) :
  g≠u.kE∧qLZ (λk W=>qCw base g W0 w W gb nn u S C m1 m2 (qAV (qEu key X k)) b key) X (qAL key) 191 #[.pointer (some ⟨b+1,0,none⟩),.pointer (some ⟨b,0,none⟩)] g u.kE:=by
 have ha:=h.g.apartX hg;have h1:b≠g:=λe=>qA2 h.g.oX h.bp dE (by rw [hg,e])
 have h2:b+1≠g:=λe=>qA2 h.g.oX h.bk dE (by rw [hg,e])
 have h3:base≤g:=(h.g.oX.lt g hg).1;refine⟨λe=>ha.2.2.2.1 e.symm,λk W W' hI hgr=>hI.kept hgr ha h1 h2 h3,qAB func191 kR rfl,λk hk w' hI=>?_⟩;refine(qNT base w gb nn u S C m1 m2 _ b key X[k] w' hI (hK _ (List.getElem_mem hk))).mono ?_;rintro e w'' ⟨rfl,q1,q2⟩;exact⟨rfl,q1.congr3 (λe=>qO2 hX hk e),q2⟩
theorem qOP {wf:World} (base gb nn:Nat) (p:Pl) (key:ByteArray) (w:World) (h:qAe base wf w gb nn p) (hp:jS p) (hks:key.size≤maxLen) (hl:p.C.length≤100) (hlx:p.X.length≤100) (hbw:base≤w.heap.size) :
  Calls prog 125 #[.pointer (some ⟨gb,0,none⟩),.string key] w
  λe w'=>e=.returned (.int .i64 (qE0 p key))∧qAe base wf w' gb nn (qGj p key)∧Below base w w':=by
 obtain⟨u,h⟩:=h;obtain⟨kl,hkl⟩:=qBy key hks;obtain⟨c0,hc0⟩:∃c,(qY p.C key).getD qAH=c:=⟨_,rfl⟩;obtain⟨f0,hf0⟩:∃b,(qY p.C key).isSome=b:=⟨_,rfl⟩;have hfa:p.C.any (λy=>decide (y.key=key))=f0:=by
  rw [←hf0]
  cases hq:p.C.any (λy=>decide (y.key=key))
  ·rw [qEI.2 hq];rfl
  ·cases hg:qY p.C key with
   | none=>rw [qEI.1 hg] at hq;cases hq
   | some c=>rfl
 have HK:=mH hkl;have HC:=mH (aI hc0 hf0);have HF:=mH hfa;have HP:=mH hp;clear hkl hc0 hf0 hfa hp hks;have h1:RtA base wf w ((w.alloc (.cells #[.pointer (some ⟨gb,0,none⟩)] 106)).alloc (.cells #[.string key] 9)).drew gb nn u p.S p.C p.X (qBE p.S) (qAT p.C) (qAV p.X) w.heap.size key :=
  ⟨((h.alloc _).alloc _).drew,((qC.new w _ _).alloc _).drew,(qC.newAt sI).drew,Below.drew (qB (qB bR _ hbw) _ (by simp;omega)),by simp;omega⟩
 clear h;go_enter func125,ntmps125;go_wp2_with fail;refine qA.start (λW=>qHw W u.kC nn p.C∧RtC W gb u w.heap.size key) [] kR ?_;have hS:qHw ((w.alloc (.cells #[.pointer (some ⟨gb,0,none⟩)] 106)).alloc (.cells #[.string key] 9)).drew u.kC nn p.C∧RtC ((w.alloc (.cells #[.pointer (some ⟨gb,0,none⟩)] 106)).alloc (.cells #[.string key] 9)).drew gb u w.heap.size key:=⟨h1.g.mC,h1.cells⟩;have H1:=mH h1;clear h1;generalize ((w.alloc (.cells #[.pointer (some ⟨gb,0,none⟩)] 106)).alloc (.cells #[.string key] 9)).drew=W1 at *;refine qA.t 0 hS ?_;refine qA.q 1 ?_;refine qA.q 2 ?_;refine qA.t 3 hS ?_;refine qA.t 4 hS ?_;refine qA.take (i:=5) (v:=.tuple #[.agg ↑c0,.bool f0]) rfl kR kR kR kR (λ_ _ _ h=>h) hS (Or.inl ⟨by rfl,?_⟩) ?_;(· (intro wS hSw;(try dsimp only at hSw);obtain⟨hCM,_⟩:=hSw;have hlk:=qGx hCM key HK.o;rw [(HC.o).1,(HC.o).2] at hlk;go_simp;first|rfl|exact congrArg (λr=>Result.andThen r λa w'=>Result.ok (Next.value a) w') hlk));try simp only [Act.put,zL,zN,zH,zM,zK,zI]
 refine qA.q 6 ?_;refine qA.q 7 ?_;refine qA.q 8 ?_;clear hS;have HSB:Hx (∀W,Below W1.heap.size W1 W→qHw W u.kC nn p.C∧RtC W gb u w.heap.size key):=⟨λW hb=>⟨(H1.o.below hb).g.mC,(H1.o.below hb).cells⟩⟩;refine qA.nx 9 λK hK=>?_;go_simp
 refine hK.out _ _ (λ_ _=>HSB.o _ (jZ _ _)) ?_;clear hK K;try simp only [Act.put,zL,zN,zH,zM,zK,zI]
 refine qA.nx 10 λK hK=>?_;go_simp
 refine hK.out _ _ (λ_ _=>HSB.o _ (jZ _ _)) ?_;clear hK K;try simp only [Act.put,zL,zN,zH,zM,zK,zI]
 refine qA.q 11 ?_;refine qA.done kR ?_;clear HSB;have h2:=H1.o.below (jZ W1 (.cells ↑c0 75));have H2:=mH h2;clear h2 H1;generalize W1.alloc (.cells ↑c0 75)=W2 at *
 cases f0
 ·have hE1:qE0 p key=8:=by unfold qE0;rw [HF.o];simp
  have hN:=qMg HP.o HF.o;have HE:=mH (aI hE1 hN);clear hE1 hN;go_wp2;go_ret;exact⟨qN HE.o.1.symm,by rw [HE.o.2];exact⟨u,H2.o.g⟩,H2.o.bl⟩
 ·have hE1:qE0 p key=0:=by unfold qE0;rw [HF.o];simp
  have HE:=mH hE1;clear hE1;go_wp2_with fail;refine qA.start (λW=>RtC W gb u w.heap.size key) [5] kR ?_;have h3:=H2.o.below (Below.drew bR);have hS:=h3.cells;have H3:=mH h3;clear h3 H2;generalize W2.drew=W3 at *;refine qA.t 0 hS ?_;refine qA.q 1 ?_;refine qA.q 2 ?_;refine qA.t 3 hS ?_;refine qA.t 4 hS ?_;clear hS;refine qA.nx 5 λK hK=>?_
  refine qDj rF _ _ 101 9 rfl qAO underlying101 qEk H3.o.g.mC rF key HK.o rF ?_;intro W4 hm4 hg4;have e4:∀{k:Nat} {c:Array Value} {t:TypeId},qC W3 k c t→some k≠some u.kC:=λhb e=>qAd H3.o.g.mC hb (Option.some.inj e).symm
  have h4:RtA base wf w W4 gb nn u p.S p.C p.X (qBE p.S) (qCL (qAT p.C) key) (qAV p.X) w.heap.size key:=⟨H3.o.g.mapC hg4 lR hm4,H3.o.bp.grown hg4 (e4 H3.o.bp),H3.o.bk.grown hg4 (e4 H3.o.bk),H3.o.bl.trans (jE hg4 H3.o.g.low.2.2.1 H3.o.z),Nat.le_trans H3.o.z hg4.size⟩;have H4:=mH h4;clear h4 hm4 hg4 e4 H3;refine qA.o hK ?_;clear hK K;refine qA.done kR ?_;go_wp2_with fail;refine qA.start (λW=>RtC W gb u w.heap.size key) [11] kR ?_;have h5:=H4.o.below (Below.drew bR);have hS:=h5.cells;have H5:=mH h5;clear h5 H4;generalize W4.drew=W5 at *;refine qA.t 0 hS ?_;refine qA.t 1 hS ?_;refine qA.q 2 ?_;refine qA.q 3 ?_;refine qA.q 4 ?_;refine qA.t 5 hS ?_;refine qA.q 6 ?_;refine qA.nx 7 λK hK=>?_;go_simp
  refine(qGc u.vC p.C (λc=>decide (c.key=key)) 189 #[.pointer (some ⟨w.heap.size+1,0,none⟩)] base _ H5.o.g.oC oM (qAB func189 kR rfl) (λx w' _ hg=>qNP key x (w.heap.size+1) w' (H5.o.bk.grown hg (λe=>qA2 H5.o.g.oC H5.o.bk dE e.symm)))).mono ?_;rintro e W6 ⟨v',rfl,ho6,hg6⟩;have nB:∀{k:Nat} {c:Array Value} {t:TypeId},75≠t→qC W5 k c t→qC W6 k c t:=λht hb=>hb.grown hg6 (λe=>qA2 H5.o.g.oC hb ht e.symm)
  have hb6:=nB dE H5.o.g.blk;have k1:=hb6.cell 1 _ rfl;have kf:=λo=>hb6.free o
  have hbl6:Below base w W6:=jG H5.o.bl H5.o.g.oC hg6 lR H5.o.z;have h6:=H5.o.g.rowC (C':=p.C.filter λc=>!decide (c.key=key)) ho6 hg6;have hp6:=(nB dE H5.o.bp).setOther (show w.heap.size≠gb from qIS H5.o.bp H5.o.g.blk dE) 1 v';have hk6:=(nB dE H5.o.bk).setOther (show w.heap.size+1≠gb from qIS H5.o.bk H5.o.g.blk dE) 1 v';have h7:RtA base wf w (W6.setCell ⟨gb,1,none⟩ v') gb nn { u with vC:=v' } p.S (p.C.filter λc=>!decide (c.key=key)) p.X (qBE p.S) (qCL (qAT p.C) key) (qAV p.X) w.heap.size key:=⟨h6,hp6,hk6,Below.setCell hbl6 H5.o.g.low.1 _,by rw [show(W6.setCell ⟨gb,1,none⟩ v').heap.size=W6.heap.size from by simp];exact Nat.le_trans H5.o.z hg6.size⟩;have hS6:RtC W6 gb u w.heap.size key:=⟨(nB dE H5.o.bp).cell 0 _ rfl,(nB dE H5.o.bk).cell 0 _ rfl,hb6.cell 0 _ rfl,hb6.cell 1 _ rfl,hb6.cell 2 _ rfl,hb6.cell 3 _ rfl,hb6.cell 4 _ rfl,hb6.cell 5 _ rfl,hb6.cell 6 _ rfl⟩;have H7:=mH (aI h7 hS6);obtain⟨a6,cap6,rfl⟩:=jO ho6;clear ho6 hg6 nB hb6 hbl6 h6 hp6 hk6 h7 hS hS6;refine hK.out _ _ (λ_ _=>H7.o.2) ?_;clear hK K;try simp only [Act.put,zL,zN,zH,zM,zK,zI]
  refine qA.q 8 ?_;refine qA.q 9 ?_;refine qA.q 10 ?_;refine qA.nx 11 λK hK=>?_;go_simp
  refine qA.o hK ?_;clear hK K;refine qA.done kR ?_;clear k1 kf H5;go_wp2_with fail;refine qA.start (λW=>RtC W gb { u with vC:=.slice a6 (p.C.filter λc=>!decide (c.key=key)).length cap6 } w.heap.size key) [11] kR ?_;have h8:=H7.o.1.below (Below.drew bR);have hS:=h8.cells;have H8:=mH h8;clear h8 H7;generalize (W6.setCell ⟨gb,1,none⟩ (.slice a6 (p.C.filter λc=>!decide (c.key=key)).length cap6)).drew=W8 at *;refine qA.t 0 hS ?_;refine qA.t 1 hS ?_;refine qA.q 2 ?_;refine qA.q 3 ?_;refine qA.q 4 ?_;refine qA.t 5 hS ?_;refine qA.q 6 ?_;refine qA.nx 7 λK hK=>?_;go_simp
  obtain⟨gx,hgx1,hgx2⟩:∃gx,(∀g,u.vX.ownBlock=some g→g=gx)∧∀k cs t,Oth t→qC W8 k cs t→k≠gx:=by
   cases hov:u.vX.ownBlock with
   | none =>
    refine⟨W8.heap.size,?_,?_⟩
    ·intro g h;cases h
    ·intro k cs t _ hb e;have:=hb.lt;omega
   | some g=>exact⟨g,λg' h=>(Option.some.inj h).symm,λk cs t ho hb e=>qA2 H8.o.g.oX hb (λq=>qQt (q ▸ ho)) (by rw [e];exact hov)⟩
  have HGX:=mH (aI hgx1 hgx2);clear hgx1 hgx2;refine(qJ1 (λk W=>qCw base gx W8 w W gb nn { u with vC:=.slice a6 (p.C.filter λc=>!decide (c.key=key)).length cap6 } p.S (p.C.filter λc=>!decide (c.key=key)) (qBE p.S) (qCL (qAT p.C) key) (qAV (qEu key p.X k)) w.heap.size key) u.vX p.X (qAL key) 191 #[.pointer (some ⟨w.heap.size+1,0,none⟩),.pointer (some ⟨w.heap.size,0,none⟩)] u.kE base _ H8.o.g.oX oM (by have:=RtA.toN (gx:=gx) H8.o;exact this.congr3 (λe=>by unfold qEu;simp)) H8.o.g.mE.lt (qAB func191 kR rfl) (λk W W' hI hb=>hI.below hb) (λg hg=>by obtain rfl:=HGX.o.1 g hg;exact qNK base gb nn _ p.S _ _ _ p.X key w.heap.size w _ H8.o HP.o.x3 (λs hs=>qEH HP.o hs) g hg)).mono ?_;rintro e W9 ⟨v9,rfl,ho9,hI9⟩;have hI9':=hI9;have k2:=hI9.g.blk.cell 2 _ rfl;have kf:=λo=>hI9.g.blk.free o
  have h10:jI base wf (W9.setCell ⟨gb,2,none⟩ v9) gb nn { u with vC:=.slice a6 (p.C.filter λc=>!decide (c.key=key)).length cap6,vX:=v9 } p.S (p.C.filter λc=>!decide (c.key=key)) (p.X.filter λx=>!qAL key x) (qBE p.S) (qCL (qAT p.C) key) (qAV (qEu key p.X p.X.length)) :=
   jI.store hI9.g.blk rfl hI9.g.low hI9.g.oS hI9.g.oC ho9 hI9.g.mS hI9.g.mC hI9.g.mE hI9.g.mM hI9.g.ne (H8.o.g.fr.trans λk cs t ho hb=>hI9.g.fr k cs t ho (HGX.o.2 k cs t ho hb) hb)
  have hbl:Below base w (W9.setCell ⟨gb,2,none⟩ v9):=Below.setCell hI9.bl hI9.g.low.1 _;have H10:=mH (aI h10 (aI hbl hI9.cells));obtain⟨a9,cap9,rfl⟩:=jO ho9;clear ho9 hI9 hI9' h10 hbl hS;refine hK.out _ _ (λ_ _=>H10.o.2.2) ?_;clear hK K;try simp only [Act.put,zL,zN,zH,zM,zK,zI]
  refine qA.q 8 ?_;refine qA.q 9 ?_;refine qA.q 10 ?_;refine qA.nx 11 λK hK=>?_;go_simp
  refine qA.o hK ?_;clear hK K;refine qA.done kR ?_;go_wp2;go_ret;exact⟨qN HE.o.symm,⟨_,H10.o.1.congr (λ_=>rfl) (λk=>qSZ p.C key k) (λk=>congrArg (λX=>qAV X k) (qQk key p.X))⟩,H10.o.2.1⟩
def qEq (s:qE):qE:={ s with loss:=0 }
theorem qKY (s:qE) (w:World):Calls prog 127 #[.agg ↑s] w
  λe w'=>e=.returned (.agg ↑(qEq s))∧Below w.heap.size w w':=by
 go_enter func127,ntmps127;go_wp2;have hb:qC ((w.alloc (Obj.cells ↑(qEq s) 79)).alloc (.cells ↑(qEq s) 79)) (w.heap.size+1) ↑(qEq s) 79:=qC.newAt sI;have hB:Below w.heap.size w ((w.alloc (Obj.cells ↑(qEq s) 79)).alloc (.cells ↑(qEq s) 79)):=qB (qB bR _ lR) _ sI;refine bodyPost_ret (v:=.agg ↑(qEq s)) ?_ rfl ⟨rfl,hB⟩;exact results_cell_row rfl _ _ (w.heap.size+1) _ _ (0,0) _ rfl hb underlying79 rfl kR
theorem qAe.mono {base gb nn n':Nat} {wf w:World} {p:Pl} (h:qAe base wf w gb nn p) (hn:nn≤n'):qAe base wf w gb n' p:=by
 obtain⟨u,h⟩:=h;exact⟨u,h.mono hn⟩
theorem qAe.below {base gb nn:Nat} {wf w w':World} {p:Pl} (h:qAe base wf w gb nn p) (hb:Below w.heap.size w w'):qAe base wf w' gb nn p:=by
 obtain⟨u,h⟩:=h;exact⟨u,h.below hb⟩
theorem qAe.fr {base gb nn:Nat} {wf w:World} {p:Pl} (h:qAe base wf w gb nn p):Tfr wf w:=by
 obtain⟨u,h⟩:=h;exact h.fr
def qB2 (e:qD):Prop:=e.cab.key.size≤maxLen∧e.cab.a.size≤maxLen∧e.cab.b.size≤maxLen∧qDz e.spc
theorem qUL:Oth 81:=by unfold Oth;decide
def qDi (W:World) (b:Nat) (e:qD):Prop:=W.cell? ⟨b,0,none⟩=some (.string e.team)∧W.cell? ⟨b,1,none⟩=some (.int .i64 e.no)∧W.cell? ⟨b,2,none⟩=some (.int .i64 e.at_)∧W.cell? ⟨b,3,none⟩=some (.int .i64 e.kind)∧W.cell? ⟨b,4,none⟩=some (.string e.site.key)∧W.cell? ⟨b,5,none⟩=some (.int .i64 e.site.kind)∧W.cell? ⟨b,6,none⟩=some (.string e.cab.key)∧W.cell? ⟨b,7,none⟩=some (.string e.cab.a)∧W.cell? ⟨b,8,none⟩=some (.string e.cab.b)∧W.cell? ⟨b,9,none⟩=some (.int .i64 e.cab.long)∧W.cell? ⟨b,10,none⟩=some (.int .i64 e.cab.fibs)∧W.cell? ⟨b,11,none⟩=some (.string e.spc.site)∧W.cell? ⟨b,12,none⟩=some (.string e.spc.x.cable)∧W.cell? ⟨b,13,none⟩=some (.int .i64 e.spc.x.no)∧W.cell? ⟨b,14,none⟩=some (.string e.spc.y.cable)∧W.cell? ⟨b,15,none⟩=some (.int .i64 e.spc.y.no)∧W.cell? ⟨b,16,none⟩=some (.int .i64 e.spc.loss)
theorem qDi.of {W:World} {b:Nat} {e:qD} {t:TypeId} (h:qC W b ↑e t):qDi W b e:=⟨h.cell 0 _ rfl,h.cell 1 _ rfl,h.cell 2 _ rfl,h.cell 3 _ rfl,h.cell 4 _ rfl,h.cell 5 _ rfl,h.cell 6 _ rfl,h.cell 7 _ rfl,h.cell 8 _ rfl,h.cell 9 _ rfl,h.cell 10 _ rfl,h.cell 11 _ rfl,h.cell 12 _ rfl,h.cell 13 _ rfl,h.cell 14 _ rfl,h.cell 15 _ rfl,h.cell 16 _ rfl⟩
theorem qAe.rebase {base gb nn:Nat} {wf w:World} {p:Pl} (h:qAe base wf w gb nn p):qAe base w w gb nn p:=by
 obtain⟨u,h⟩:=h;exact⟨u,h.kept (qCE w none) λb e=>by cases e⟩
theorem qAe.debase {base gb nn:Nat} {wf w1 w:World} {p:Pl} (h:qAe base w1 w gb nn p) (hf:Tfr wf w1):qAe base wf w gb nn p:=by
 obtain⟨u,h⟩:=h;exact⟨u,h.blk,h.low,h.oS,h.oC,h.oX,h.mS,h.mC,h.mE,h.mM,h.ne,hf.trans h.fr⟩
theorem qFi {p:Pl} (hp:jS p) {e:qD} (hk:zC e.kind 1 5=false):zV p e=if e.kind=1 then (qDF p e.site,qDL p e.site) else if e.kind=2 then (qDm p e.cab,qDo p e.cab) else if e.kind=4 then (qE3 p e.spc,qFf p e.spc)
  else if e.kind=5 then (qE0 p e.cab.key,qGj p e.cab.key) else (qBU p e.spc,qCV p e.spc):=by
 obtain⟨q1,q2⟩:=qAU.1 hk;have h4:(if p.X.any (zP e.spc)=true then ((0:Int),({ p with X:=p.X.filter λy=>!zP e.spc y }:Pl)) else (8,p))=(qE3 p e.spc,qFf p e.spc):=by
  cases hq:p.X.any (zP e.spc)
  ·rw [qLc hq];simp [qE3,hq]
  ·simp [qE3,hq,qFf]
 have h5:(if p.C.any (λy=>decide (y.key=e.cab.key))=true then ((0:Int),({ p with C:=p.C.filter (λy=>!decide (y.key=e.cab.key)),X:=p.X.filter λy=>!qAL e.cab.key y }:Pl)) else (8,p))=(qE0 p e.cab.key,qGj p e.cab.key):=by
  cases hq:p.C.any (λy=>decide (y.key=e.cab.key))
  ·rw [qMg hp hq];simp only [qE0,hq];rfl
  ·simp only [qE0,hq,qGj];rfl
 have h1:(if p.S.any (λy=>decide (y.key=e.site.key))=true then ((6:Int),p) else if qA4 e.site≠0 then (qA4 e.site,p) else (0,({ p with S:=qHx p.S e.site }:Pl)))=(qDF p e.site,qDL p e.site):=by
  unfold qDF qDL qDF
  cases hq:p.S.any (λy=>decide (y.key=e.site.key))
  ·by_cases hz:qA4 e.site=0 <;> simp [hz]
  ·simp
 have h2:(if p.C.any (λy=>decide (y.key=e.cab.key))=true then ((6:Int),p) else if jP p.S e.cab≠0 then (jP p.S e.cab,p) else (0,({ p with C:=qH2 p.C e.cab }:Pl)))=(qDm p e.cab,qDo p e.cab):=by
  unfold qDm qDo qDm
  cases hq:p.C.any (λy=>decide (y.key=e.cab.key))
  ·by_cases hz:jP p.S e.cab=0 <;> simp [hz]
  ·simp
 have h3:(if jA p.S p.C e.spc≠0 then (jA p.S p.C e.spc,p) else if p.X.any (zP e.spc)=true then ((7:Int),p) else if p.X.any (λo=>jC o e.spc)=true then (6,p) else (0,({ p with X:=qG1 p.X e.spc }:Pl)))=(qBU p e.spc,qCV p e.spc):=by
  unfold qBU qCV qBU
  by_cases hz:jA p.S p.C e.spc=0
  ·cases p.X.any (zP e.spc) <;> cases p.X.any (λo=>jC o e.spc) <;> simp [hz]
  ·simp [hz]
 unfold zV
 by_cases k1:e.kind=1
 ·rw [if_pos k1,if_pos k1];exact h1
 rw [if_neg k1,if_neg k1]
 by_cases k2:e.kind=2
 ·rw [if_pos k2,if_pos k2];exact h2
 rw [if_neg k2,if_neg k2]
 by_cases k3:e.kind=3
 ·rw [if_pos k3,if_neg (show ¬e.kind=4 by omega),if_neg (show ¬e.kind=5 by omega)];exact h3
 rw [if_neg k3]
 by_cases k4:e.kind=4
 ·rw [if_pos k4,if_pos k4];exact h4
 rw [if_neg k4,if_neg k4,if_pos (show e.kind=5 by omega)];exact h5
theorem qQe {wf:World} (base gb nn:Nat) (p:Pl) (e:qD) (w:World) (h:qAe base wf w gb nn p) (hp:jS p) (he:qB2 e) (hk:zC e.kind 1 5=false) (hs:p.S.length≤100) (hc:p.C.length≤100) (hx:p.X.length≤100) (hnn:nn≤1000) (hbw:base≤w.heap.size) :
  Calls prog 72 #[.pointer (some ⟨gb,0,none⟩),.agg ↑e] w
  λx w'=>x=.returned (.int .i64 (zV p e).1)∧qAe base wf w' gb (nn+3) (zV p e).2∧Below base w w':=by
 have hq:=qAU.1 hk
 by_cases k1:e.kind=1
 ·have b1:(e.kind==1)=true:=by simp [k1]
  have hE:=qFi hp hk;simp only [k1,if_pos] at hE;rw [hE];clear hE hk;go_enter func72,ntmps72;go_wp2_with (go_at_call 122;refine(qNR base gb nn p e.site _ (h.below (qB bR _ lR)) hp hs hnn (Nat.le_trans hbw sI)).mono ?_;rintro x w1 ⟨rfl,h2,hb2⟩)
  (try simp only [Exit.inBlock,Exit.then])
  go_ret;exact⟨rfl,h2.mono oM,(qB bR _ hbw).trans hb2⟩
 have b1:(e.kind==1)=false:=by simp [k1]
 by_cases k2:e.kind=2
 ·have b2:(e.kind==2)=true:=by simp [k2]
  have hE0:e.kind=2:=k2;have hE:=qFi hp hk;simp only [if_neg k1,if_pos k2] at hE;rw [hE];clear hE hk;go_enter func72,ntmps72;go_wp2_with (go_at_call 123;refine(qMR base gb nn p e.cab _ (h.below (qB bR _ lR)) hp hc hnn (Nat.le_trans hbw sI) he.2.1 he.2.2.1).mono ?_;rintro x w1 ⟨rfl,h2,hb2⟩)
  (try simp only [Exit.inBlock,Exit.then])
  go_ret;exact⟨rfl,h2.mono oM,(qB bR _ hbw).trans hb2⟩
 have b2:(e.kind==2)=false:=by simp [k2]
 by_cases k4:e.kind=4
 ·have b4:(e.kind==4)=true:=by simp [k4]
  have hE:=qFi hp hk;simp only [if_neg k1,if_neg k2,if_pos k4] at hE;rw [hE];clear hE hk;go_enter func72,ntmps72;go_wp2_with (go_at_call 124;refine(qSU base gb nn p e.spc _ (h.below (qB bR _ lR)) hp hx (Nat.le_trans hbw sI)).mono ?_;rintro x w1 ⟨rfl,h2,hb2⟩)
  (try simp only [Exit.inBlock,Exit.then])
  go_ret;exact⟨rfl,h2.mono oM,(qB bR _ hbw).trans hb2⟩
 have b4:(e.kind==4)=false:=by simp [k4]
 by_cases k5:e.kind=5
 ·have b5:(e.kind==5)=true:=by simp [k5]
  have hE:=qFi hp hk;simp only [if_neg k1,if_neg k2,if_neg k4,if_pos k5] at hE;rw [hE];clear hE hk;go_enter func72,ntmps72;go_wp2_with (go_at_call 125;refine(qOP base gb nn p e.cab.key _ (h.below (qB bR _ lR)) hp he.1 hc hx (Nat.le_trans hbw sI)).mono ?_;rintro x w1 ⟨rfl,h2,hb2⟩)
  (try simp only [Exit.inBlock,Exit.then])
  go_ret;exact⟨rfl,h2.mono oM,(qB bR _ hbw).trans hb2⟩
 have b5:(e.kind==5)=false:=by simp [k5]
 have hE:=qFi hp hk;simp only [if_neg k1,if_neg k2,if_neg k4,if_neg k5] at hE;rw [hE];clear hE hk k1 k2 k4 k5 hq;have h1:qAe base wf (w.alloc (.cells ↑e 81)) gb nn p:=h.below (qB bR _ lR);have hbx1:qC (w.alloc (.cells ↑e 81)) w.heap.size ↑e 81:=qC.new w _ _;have HB1:Hx (Below base w (w.alloc (.cells ↑e 81))∧base≤(w.alloc (.cells ↑e 81)).heap.size):=⟨⟨qB bR _ hbw,by simp;omega⟩⟩;have H1:=mH (aI h1 hbx1);clear h1 hbx1 h;go_enter func72,ntmps72;go_wp2_with fail;generalize w.alloc (.cells ↑e 81)=W1 at *;refine(qSB base gb nn p e.spc _ H1.o.1.rebase hp he.2.2.2 hx hnn HB1.o.2).mono ?_;rintro x W2 ⟨rfl,h2,hb2⟩;have hbx2:=h2.fr _ _ _ qUL H1.o.2;have h3:=h2.debase H1.o.1.fr;have H2:=mH (aI h3 (aI hbx2 (aI (HB1.o.1.trans hb2) (Nat.le_trans HB1.o.2 hb2.size))));clear h2 hb2 hbx2 h3 H1 HB1
 by_cases hz:qBU p e.spc=0
 rotate_left
 ·have hzb:(qBU p e.spc==0)=false:=by simp [hz]
  clear hz;go_wp2;go_ret;exact⟨rfl,H2.o.1.mono oM,H2.o.2.2.1⟩
 have hzb:(qBU p e.spc==0)=true:=by simp [hz]
 clear hz;obtain⟨u,h4⟩:=H2.o.1;obtain⟨kl,hkl⟩:=qTg (qEq e.spc) he.2.2.2.1 he.2.2.2.2.1 he.2.2.2.2.2 (WalkArith.wf_i64 (by simp only [qEq];omega));have HK:=mH hkl;clear hkl;go_wp2_with fail;refine qA.start (λW=>qBs W gb u∧qDi W w.heap.size e∧gb<W.heap.size∧w.heap.size<W.heap.size) [12] kR ?_;have h5:=h4.drew;have hbx5:qC W2.drew w.heap.size ↑e 81:=H2.o.2.1.drew;have hS:qBs W2.drew gb u∧qDi W2.drew w.heap.size e∧gb<W2.drew.heap.size∧w.heap.size<W2.drew.heap.size:=⟨h5.cells,qDi.of hbx5,h5.lt,hbx5.lt⟩;have H5:=mH (aI h5 (aI hbx5 (aI (show Below base w W2.drew from H2.o.2.2.1.drew) (show base≤W2.drew.heap.size from H2.o.2.2.2))));clear h4 h5 hbx5 H2;generalize W2.drew=W5 at *;refine qA.q 0 ?_;refine qA.q 1 ?_;refine qA.q 2 ?_;refine qA.t 3 hS ?_;refine qA.q 4 ?_;refine qA.t 5 hS ?_;refine qA.q 7 ?_;refine qA.t 8 hS ?_;refine qA.q 9 ?_;refine qA.t 10 hS ?_;refine qA.q 11 ?_;refine qA.nx 6 λK hK=>?_;go_simp
 refine(qKY e.spc _).mono ?_;rintro x W6 ⟨rfl,hb6⟩;have h6:=H5.o.1.below hb6;have hbx6:=H5.o.2.1.below hb6 H5.o.2.1.lt;have H6:=mH (aI h6 (aI (H5.o.2.2.1.trans (hb6.mono H5.o.2.2.2)) (Nat.le_trans H5.o.2.2.2 hb6.size)));have hS6:qBs W6 gb u∧qDi W6 w.heap.size e∧gb<W6.heap.size∧w.heap.size<W6.heap.size:=⟨h6.cells,qDi.of hbx6,h6.lt,hbx6.lt⟩;clear hS h6 hbx6;refine hK.out _ _ (λ_ _=>hS6) ?_;clear hK K;try simp only [Act.put,zL,zN,zH,zM,zK,zI]
 refine qA.nx 12 λK hK=>?_
 obtain⟨mm,hM⟩:=H6.o.1.mM;refine qC2 rF _ _ _ 103 rfl qRl underlying103 qR5 hM (by unfold maxLen;omega) rF (qEq e.spc) HK.o rF (.agg #[.int .i64 e.at_,.string e.team]) rF ?_;intro W7 hm7 hg7;have h7:=H6.o.1.mapM hg7 (Nat.le_succ (nn+2)) ⟨_,hm7⟩;have H7:=mH (aI h7 (H6.o.2.1.trans (qEN hg7 H6.o.1.low.2.2.2.2 H6.o.2.2)));clear h7 hm7 hg7;refine qA.o hK ?_;clear hK K;refine qA.done kR ?_;go_wp2;go_ret;exact⟨rfl,⟨u,H7.o.1⟩,H7.o.2⟩
def qB1 (W:World) (b o:Nat) (e:qD):Prop:=W.cell? ⟨b,o,none⟩=some (.string e.team)∧W.cell? ⟨b,o+1,none⟩=some (.int .i64 e.no)∧W.cell? ⟨b,o+2,none⟩=some (.int .i64 e.at_)∧W.cell? ⟨b,o+3,none⟩=some (.int .i64 e.kind)∧W.cell? ⟨b,o+4,none⟩=some (.string e.site.key)∧W.cell? ⟨b,o+5,none⟩=some (.int .i64 e.site.kind)∧W.cell? ⟨b,o+6,none⟩=some (.string e.cab.key)∧W.cell? ⟨b,o+7,none⟩=some (.string e.cab.a)∧W.cell? ⟨b,o+8,none⟩=some (.string e.cab.b)∧W.cell? ⟨b,o+9,none⟩=some (.int .i64 e.cab.long)∧W.cell? ⟨b,o+10,none⟩=some (.int .i64 e.cab.fibs)∧W.cell? ⟨b,o+11,none⟩=some (.string e.spc.site)∧W.cell? ⟨b,o+12,none⟩=some (.string e.spc.x.cable)∧W.cell? ⟨b,o+13,none⟩=some (.int .i64 e.spc.x.no)∧W.cell? ⟨b,o+14,none⟩=some (.string e.spc.y.cable)∧W.cell? ⟨b,o+15,none⟩=some (.int .i64 e.spc.y.no)∧W.cell? ⟨b,o+16,none⟩=some (.int .i64 e.spc.loss)
theorem qB1.of {W:World} {b o:Nat} {e:qD} (h:∀j u,e.cells[j]? = some u→W.cell? ⟨b,o+j,none⟩=some u):qB1 W b o e:=⟨h 0 _ rfl,h 1 _ rfl,h 2 _ rfl,h 3 _ rfl,h 4 _ rfl,h 5 _ rfl,h 6 _ rfl,h 7 _ rfl,h 8 _ rfl,h 9 _ rfl,h 10 _ rfl,h 11 _ rfl,h 12 _ rfl,h 13 _ rfl,h 14 _ rfl,h 15 _ rfl,h 16 _ rfl⟩
theorem qOS (l:List qD) (i j:Nat) (hi:i<l.length) (hj:j<l.length) (vb:Nat) (v:Value) (t:TypeId) (w:World) (hv:qC w vb #[v] t) (hA:qI qD.cells 17 w l v) :
  Calls prog 119 #[.int .i64 i,.int .i64 j,.pointer (some ⟨vb,0,none⟩)] w λe w'=>e=.returned (.int .i64 (cIx l i j))∧Gr w w':=by
 obtain⟨a,cap,rfl,hcap,hmax,hc⟩:=hA;obtain⟨b,off,rfl,hb,hci⟩:=hc i hi;obtain⟨b',off',he,hb',hcj⟩:=hc j hj;simp only [Option.some.injEq,Addr.mk.injEq,and_true] at he;obtain⟨rfl,rfl⟩:=he;have hx:cIx l i j=atE l[i] l[j]:=by unfold cIx;rw [qBV hi,qBV hj]
 rw [hx];have e1:w.rangeAt b (off+i*17) l[i].cells:=hci;have e2:w.rangeAt b (off+j*17) l[j].cells:=hcj;have a1:w.cell? ⟨b,off+i*17+2,none⟩=some (.int .i64 l[i].at_):=hci 2 _ rfl;have a2:w.cell? ⟨b,off+j*17+2,none⟩=some (.int .i64 l[j].at_):=hcj 2 _ rfl;generalize l[i]=x at *;generalize l[j]=y at *;have v0:=hv.cell 0 (.slice (some ⟨b,off,none⟩) l.length cap) rfl;have hi':(i:Int)<l.length:=by omega
 have hj':(j:Int)<l.length:=by omega
 have hS:w.drew.cell? ⟨vb,0,none⟩=some (.slice (some ⟨b,off,none⟩) l.length cap)∧w.drew.cell? ⟨b,off+i*17+2,none⟩=some (.int .i64 x.at_)∧w.drew.cell? ⟨b,off+j*17+2,none⟩=some (.int .i64 y.at_)∧w.drew.rangeAt b (off+i*17) x.cells∧w.drew.rangeAt b (off+j*17) y.cells:=⟨v0,a1,a2,e1,e2⟩;have HG:Hx (Gr w w.drew):=⟨Gr.drew (Gr.refl w)⟩;clear v0 e1 e2 a1 a2 hv hc hci hcj hx hb hb';go_enter func119,ntmps119;go_wp2_with fail;refine qA.start (λW=>W.cell? ⟨vb,0,none⟩=some (.slice (some ⟨b,off,none⟩) l.length cap)∧W.cell? ⟨b,off+i*17+2,none⟩=some (.int .i64 x.at_)∧W.cell? ⟨b,off+j*17+2,none⟩=some (.int .i64 y.at_)∧W.rangeAt b (off+i*17) x.cells∧W.rangeAt b (off+j*17) y.cells) [19,20,21] kR ?_;generalize w.drew=W1 at *;refine qA.t 0 hS ?_;refine qA.q 1 ?_;refine qA.q 2 ?_;refine qA.q 3 ?_;refine qA.t 4 hS ?_;refine qA.t 5 hS ?_;refine qA.q 6 ?_;refine qA.q 7 ?_;refine qA.q 8 ?_;refine qA.t 9 hS ?_;refine qA.t 11 hS ?_;refine qA.q 12 ?_;refine qA.q 13 ?_;refine qA.take (i:=14) (v:=.agg ↑x) rfl kR kR kR kR (λ_ _ _ h=>h) hS (yieldsIf_load_mid (by first|rfl|(go_simp;done)) 81 _ rfl (b) (off+i*17) rF ↑x _ (λ_ h=>h.2.2.2.1) underlying81 rfl kR) ?_;try simp only [Act.put,zL,zN,zH,zM,zK,zI]
 refine qA.t 15 hS ?_;refine qA.q 16 ?_;refine qA.q 17 ?_;refine qA.take (i:=18) (v:=.agg ↑y) rfl kR kR kR kR (λ_ _ _ h=>h) hS (yieldsIf_load_mid (by first|rfl|(go_simp;done)) 81 _ rfl (b) (off+j*17) rF ↑y _ (λ_ h=>h.2.2.2.2) underlying81 rfl kR) ?_;try simp only [Act.put,zL,zN,zH,zM,zK,zI]
 refine qA.nx 10 λK hK=>?_;go_simp
 refine(qFl _ _ _).mono ?_;rintro e w1 ⟨rfl,rfl⟩;refine qA.on hK (λ_ h=>h) ?_;clear hK K;clear hS;refine qA.nx 19 λK hK=>?_;go_simp
 refine(qFV x y _).mono ?_;rintro e w2 ⟨rfl,hg2⟩;refine qA.o hK ?_;clear hK K;refine qA.nx 20 λK hK=>?_;go_simp
 refine qA.o hK ?_;clear hK K;refine qA.nx 21 λK hK=>?_;go_simp
 refine(qF5 _ [qBt x.at_ y.at_,qP x y] _ (by exact qI.litAt (cells:=qA6) (sz:=1) (λ_=>rfl) (by first|rfl|simp) rF rF (by simp [maxLen]))).mono ?_;rintro e w3 ⟨rfl,rfl⟩;refine qA.o hK ?_;clear hK K;refine qA.q 22 ?_;refine qA.done kR ?_;go_wp2;go_ret;exact⟨qN (by rw [qFa];rfl),(HG.o.trans hg2).alloc _⟩
theorem qQ4 (l:List qD) (i j:Nat) (hi:i<l.length) (hj:j<l.length) (vb:Nat) (v:Value) (t:TypeId) (w:World) (hv:qC w vb #[v] t) (hA:qI qD.cells 17 w l v) :
  Calls prog 170 #[.int .i64 i,.int .i64 j,.pointer (some ⟨vb,0,none⟩)] w λe w'=>e=.returned (.int .i64 (cIx l i j))∧Gr w w':=by
 obtain⟨a,cap,rfl,hcap,hmax,hc⟩:=hA;obtain⟨b,off,rfl,hb,hci⟩:=hc i hi;obtain⟨b',off',he,hb',hcj⟩:=hc j hj;simp only [Option.some.injEq,Addr.mk.injEq,and_true] at he;obtain⟨rfl,rfl⟩:=he;have hx:cIx l i j=atE l[i] l[j]:=by unfold cIx;rw [qBV hi,qBV hj]
 rw [hx];have e1:w.rangeAt b (off+i*17) l[i].cells:=hci;have e2:w.rangeAt b (off+j*17) l[j].cells:=hcj;have a1:w.cell? ⟨b,off+i*17+2,none⟩=some (.int .i64 l[i].at_):=hci 2 _ rfl;have a2:w.cell? ⟨b,off+j*17+2,none⟩=some (.int .i64 l[j].at_):=hcj 2 _ rfl;generalize l[i]=x at *;generalize l[j]=y at *;have v0:=hv.cell 0 (.slice (some ⟨b,off,none⟩) l.length cap) rfl;have hi':(i:Int)<l.length:=by omega
 have hj':(j:Int)<l.length:=by omega
 have hS:w.drew.cell? ⟨vb,0,none⟩=some (.slice (some ⟨b,off,none⟩) l.length cap)∧w.drew.cell? ⟨b,off+i*17+2,none⟩=some (.int .i64 x.at_)∧w.drew.cell? ⟨b,off+j*17+2,none⟩=some (.int .i64 y.at_)∧w.drew.rangeAt b (off+i*17) x.cells∧w.drew.rangeAt b (off+j*17) y.cells:=⟨v0,a1,a2,e1,e2⟩;have HG:Hx (Gr w w.drew):=⟨Gr.drew (Gr.refl w)⟩;clear v0 e1 e2 a1 a2 hv hc hci hcj hx hb hb';go_enter func170,ntmps170;go_wp2_with fail;refine qA.start (λW=>W.cell? ⟨vb,0,none⟩=some (.slice (some ⟨b,off,none⟩) l.length cap)∧W.cell? ⟨b,off+i*17+2,none⟩=some (.int .i64 x.at_)∧W.cell? ⟨b,off+j*17+2,none⟩=some (.int .i64 y.at_)∧W.rangeAt b (off+i*17) x.cells∧W.rangeAt b (off+j*17) y.cells) [19,20,21] kR ?_;generalize w.drew=W1 at *;refine qA.t 0 hS ?_;refine qA.q 1 ?_;refine qA.q 2 ?_;refine qA.q 3 ?_;refine qA.t 4 hS ?_;refine qA.t 5 hS ?_;refine qA.q 6 ?_;refine qA.q 7 ?_;refine qA.q 8 ?_;refine qA.t 9 hS ?_;refine qA.t 11 hS ?_;refine qA.q 12 ?_;refine qA.q 13 ?_;refine qA.take (i:=14) (v:=.agg ↑x) rfl kR kR kR kR (λ_ _ _ h=>h) hS (yieldsIf_load_mid (by first|rfl|(go_simp;done)) 81 _ rfl (b) (off+i*17) rF ↑x _ (λ_ h=>h.2.2.2.1) underlying81 rfl kR) ?_;try simp only [Act.put,zL,zN,zH,zM,zK,zI]
 refine qA.t 15 hS ?_;refine qA.q 16 ?_;refine qA.q 17 ?_;refine qA.take (i:=18) (v:=.agg ↑y) rfl kR kR kR kR (λ_ _ _ h=>h) hS (yieldsIf_load_mid (by first|rfl|(go_simp;done)) 81 _ rfl (b) (off+j*17) rF ↑y _ (λ_ h=>h.2.2.2.2) underlying81 rfl kR) ?_;try simp only [Act.put,zL,zN,zH,zM,zK,zI]
 refine qA.nx 10 λK hK=>?_;go_simp
 refine(qFl _ _ _).mono ?_;rintro e w1 ⟨rfl,rfl⟩;refine qA.on hK (λ_ h=>h) ?_;clear hK K;clear hS;refine qA.nx 19 λK hK=>?_;go_simp
 refine(qDl x y _).mono ?_;rintro e w2 ⟨rfl,hg2⟩;refine qA.o hK ?_;clear hK K;refine qA.nx 20 λK hK=>?_;go_simp
 refine qA.o hK ?_;clear hK K;refine qA.nx 21 λK hK=>?_;go_simp
 refine(qF5 _ [qBt x.at_ y.at_,qP x y] _ (by exact qI.litAt (cells:=qA6) (sz:=1) (λ_=>rfl) (by first|rfl|simp) rF rF (by simp [maxLen]))).mono ?_;rintro e w3 ⟨rfl,rfl⟩;refine qA.o hK ?_;clear hK K;refine qA.q 22 ?_;refine qA.done kR ?_;go_wp2;go_ret;exact⟨qN (by rw [qFa];rfl),(HG.o.trans hg2).alloc _⟩
end Go.Proofs.YtbgnlfgkgklkdaaGreatDoor
