/- Parts of the proof of ScriptsAnswered: SnL, SnN, SnO, SnP. No condition. -/
import Derived.Test.YtbgnlfgkgklkdaaGreatDoorZ20
import Derived.Test.YtbgnlfgkgklkdaaGreatDoorZ21
set_option linter.unusedVariables false
set_option linter.unusedSimpArgs false
set_option maxHeartbeats 8000000
set_option maxRecDepth 100000
namespace Go.Proofs.YtbgnlfgkgklkdaaGreatDoor
open Go Go.RowKit Tryz
def qDz (s:qE):Prop:=s.site.size≤maxLen∧qBb s.x∧qBb s.y
theorem qDz.x {s:qE} (h:qDz s):∃kl,keyOf prog 197 (qEQ (s.x,s.site))=some kl:=qLw (s.x,s.site) h.1 h.2.1
theorem qDz.y {s:qE} (h:qDz s):∃kl,keyOf prog 197 (qEQ (s.y,s.site))=some kl:=qLw (s.y,s.site) h.1 h.2.2
def qAJ (W:World) (b:Nat) (s:qE):Prop :=
 W.cell? ⟨b,0,none⟩=some (.string s.site)∧W.cell? ⟨b,1,none⟩=some (.string s.x.cable)∧W.cell? ⟨b,2,none⟩=some (.int .i64 s.x.no)∧W.cell? ⟨b,3,none⟩=some (.string s.y.cable)∧W.cell? ⟨b,4,none⟩=some (.int .i64 s.y.no)∧W.cell? ⟨b,5,none⟩=some (.int .i64 s.loss)
theorem qAJ.of {W:World} {b:Nat} {s:qE} {t:TypeId} (h:qC W b ↑s t):qAJ W b s:=⟨h.cell 0 _ rfl,h.cell 1 _ rfl,h.cell 2 _ rfl,h.cell 3 _ rfl,h.cell 4 _ rfl,h.cell 5 _ rfl⟩
def qBs (W:World) (gb:Nat) (u:GrW):Prop :=
 W.cell? ⟨gb,0,none⟩=some u.vS∧W.cell? ⟨gb,1,none⟩=some u.vC∧W.cell? ⟨gb,2,none⟩=some u.vX∧W.cell? ⟨gb,3,none⟩=some (.map (some u.kS))∧W.cell? ⟨gb,4,none⟩=some (.map (some u.kC))∧W.cell? ⟨gb,5,none⟩=some (.map (some u.kE))∧W.cell? ⟨gb,6,none⟩=some (.map (some u.kM))
theorem jI.cells {wf:World} {base gb nn:Nat} {w:World} {u:GrW} {S:List qJ} {C:List qG} {X:List qE} {m1 m2:ByteArray→Option Value} {m3:qQ × ByteArray→Option Value} (h:jI base wf w gb nn u S C X m1 m2 m3):qBs w gb u :=
 ⟨h.blk.cell 0 _ rfl,h.blk.cell 1 _ rfl,h.blk.cell 2 _ rfl,h.blk.cell 3 _ rfl,h.blk.cell 4 _ rfl,h.blk.cell 5 _ rfl,h.blk.cell 6 _ rfl⟩
theorem qEN {base k:Nat} {w w':World} (hg:w.grownBy w' (some k)) (hk:base≤k) (hw:base≤w.heap.size):Below base w w':=jE hg hk hw
theorem qPs {wf:World} (base gb nn:Nat) (u:GrW) (S:List qJ) (C:List qG) (X:List qE) (m1 m2:ByteArray→Option Value) (m3:qQ × ByteArray→Option Value) (s:qE) (w:World) (h:jI base wf w gb nn u S C X m1 m2 m3) (hk:qDz s) (hbw:base≤w.heap.size) :
  Calls prog 186 #[.pointer (some ⟨gb,0,none⟩),.agg ↑s] w
  λe w'=>e=.returned (.tuple #[])∧jI base wf w' gb nn u S C X m1 m2 (qCL (qCL m3 (s.x,s.site)) (s.y,s.site))∧Below base w w':=by
 obtain⟨kx,hkx⟩:=hk.x;obtain⟨ky,hky⟩:=hk.y;have HK:=mH (aI hkx hky);clear hkx hky;have h1:=(h.alloc (.cells ↑s 79)).drew;have hx1:qC (w.alloc (.cells ↑s 79)).drew w.heap.size ↑s 79:=(qC.new w _ _).drew;have hB1:Below base w (w.alloc (.cells ↑s 79)).drew:=Below.drew (qB bR _ hbw);have hz1:base≤(w.alloc (.cells ↑s 79)).drew.heap.size:=by simp;omega
 go_enter func186,ntmps186;go_wp2_with fail;refine qA.start (λW=>qBs W gb u∧qAJ W w.heap.size s) [9] kR ?_;have hS:qBs (w.alloc (.cells ↑s 79)).drew gb u∧qAJ (w.alloc (.cells ↑s 79)).drew w.heap.size s:=⟨h1.cells,qAJ.of hx1⟩;have H1:=mH (aI h1 (aI hB1 (aI hx1 hz1)));clear h1 hB1 hx1 hz1 h;generalize (w.alloc (.cells ↑s 79)).drew=W1 at *;refine qA.q 0 ?_;refine qA.q 1 ?_;refine qA.q 2 ?_;refine qA.t 3 hS ?_;refine qA.q 4 ?_;refine qA.t 5 hS ?_;refine qA.q 6 ?_;refine qA.t 7 hS ?_;refine qA.q 8 ?_;refine qA.nx 9 λK hK=>?_
 refine qDj rF _ _ 102 197 rfl qBv underlying102 qC7 H1.o.1.mE rF (s.x,s.site) HK.o.1 rF ?_;intro w2 hm2 hg2;refine qA.o hK ?_;clear hK K;refine qA.done kR ?_;have h2:=(H1.o.1.mapE hg2 lR hm2).drew;have hne:H1.o.1.mE.lt=H1.o.1.mE.lt:=rfl;have hx2:qC w2.drew w.heap.size ↑s 79:=(H1.o.2.2.1.grown hg2 (λe=>qAd H1.o.1.mE H1.o.2.2.1 (Option.some.inj e).symm)).drew;have hB2:Below base w w2.drew:=Below.drew (H1.o.2.1.trans (qEN hg2 H1.o.1.low.2.2.2.1 H1.o.2.2.2));clear hS;go_wp2_with fail;refine qA.start (λW=>qBs W gb u∧qAJ W w.heap.size s) [9] kR ?_;have hS:qBs w2.drew gb u∧qAJ w2.drew w.heap.size s:=⟨h2.cells,qAJ.of hx2⟩;have hz2:base≤w2.drew.heap.size:=Nat.le_trans H1.o.2.2.2 hg2.size;have H2:=mH (aI h2 (aI hB2 hz2));clear h2 hx2 hB2 hm2 hg2 hne hz2;generalize w2.drew=W2 at *;refine qA.q 0 ?_;refine qA.q 1 ?_;refine qA.q 2 ?_;refine qA.t 3 hS ?_;refine qA.q 4 ?_;refine qA.t 5 hS ?_;refine qA.q 6 ?_;refine qA.t 7 hS ?_;refine qA.q 8 ?_;refine qA.nx 9 λK hK=>?_
 refine qDj rF _ _ 102 197 rfl qBv underlying102 qC7 H2.o.1.mE rF (s.y,s.site) HK.o.2 rF ?_;intro w3 hm3 hg3;refine qA.o hK ?_;clear hK K;refine qA.done kR ?_;go_wp2
 ((try simp only [Exit.inBlock,Exit.then]);refine bodyPost_end (results_none rfl _ _ _) rfl ?_)
 exact⟨rfl,H2.o.1.mapE hg3 lR hm3,H2.o.2.1.trans (qEN hg3 H2.o.1.low.2.2.2.1 H2.o.2.2)⟩
theorem qKP {α:Type} {l:List α} {i:Nat} {x:α} (h:i≤l.length):(l.take i++x::l.drop i).length=l.length+1:=by simp;omega
def qGE (W:World) (b:Nat) (s:qJ):Prop:=W.cell? ⟨b,0,none⟩=some (.string s.key)∧W.cell? ⟨b,1,none⟩=some (.int .i64 s.kind)
theorem qGE.of {W:World} {b:Nat} {s:qJ} {t:TypeId} (h:qC W b ↑s t):qGE W b s:=⟨h.cell 0 _ rfl,h.cell 1 _ rfl⟩
theorem qFL (s:qJ) (w:World):Calls prog 178 #[.agg ↑s] w λe w'=>e=.returned (.int .i64 (qA4 s))∧Below w.heap.size w w':=by
 cases h1:qL s.key
 ·have HE:=mH (show qA4 s=5 by unfold qA4;rw [if_pos h1]);go_enter func178,ntmps178;go_wp2_with (go_at_call 89;refine(qBh _ _).mono ?_;rintro e w' ⟨rfl,rfl⟩);go_ret;exact⟨qN HE.o.symm,by exact qS⟩
 ·cases h2:zC s.kind 1 4
  ·have HE:=mH (show qA4 s=0 by unfold qA4;simp [h1,h2]);go_enter func178,ntmps178;go_wp2_with (first|(go_at_call 89;refine(qBh _ _).mono ?_;rintro e w' ⟨rfl,rfl⟩)|(go_at_call 117;refine(qCm _ _ _ _).mono ?_;rintro e w' ⟨rfl,rfl⟩));go_ret;exact⟨qN HE.o.symm,by exact qS⟩
  ·have HE:=mH (show qA4 s=4 by unfold qA4;simp [h1,h2]);go_enter func178,ntmps178;go_wp2_with (first|(go_at_call 89;refine(qBh _ _).mono ?_;rintro e w' ⟨rfl,rfl⟩)|(go_at_call 117;refine(qCm _ _ _ _).mono ?_;rintro e w' ⟨rfl,rfl⟩));go_ret;exact⟨qN HE.o.symm,by exact qS⟩
def GrC (W:World) (gb:Nat) (vS vC vX:Value) (kS kC kE kM:Nat):Prop :=
 W.cell? ⟨gb,0,none⟩=some vS∧W.cell? ⟨gb,1,none⟩=some vC∧W.cell? ⟨gb,2,none⟩=some vX∧W.cell? ⟨gb,3,none⟩=some (.map (some kS))∧W.cell? ⟨gb,4,none⟩=some (.map (some kC))∧W.cell? ⟨gb,5,none⟩=some (.map (some kE))∧W.cell? ⟨gb,6,none⟩=some (.map (some kM))
theorem GrC.below {W W':World} {gb:Nat} {vS vC vX:Value} {kS kC kE kM:Nat} (h:GrC W gb vS vC vX kS kC kE kM) (hb:Below W.heap.size W W') (hl:gb<W.heap.size):GrC W' gb vS vC vX kS kC kE kM:=by
 obtain⟨g0,g1,g2,g3,g4,g5,g6⟩:=h;have k:=qDg hb gb hl;exact⟨(k _).trans g0,(k _).trans g1,(k _).trans g2,(k _).trans g3,(k _).trans g4,(k _).trans g5,(k _).trans g6⟩
theorem qGE.below {W W':World} {b:Nat} {s:qJ} (h:qGE W b s) (hb:Below W.heap.size W W') (hl:b<W.heap.size):qGE W' b s:=by
 have k:=qDg hb b hl;exact⟨(k _).trans h.1,(k _).trans h.2⟩
def GsS (W:World) (gb:Nat) (vS vC vX:Value) (kS kC kE kM b:Nat) (s:qJ):Prop:=GrC W gb vS vC vX kS kC kE kM∧qGE W b s∧gb<W.heap.size∧b<W.heap.size
theorem GsS.below {W W':World} {gb:Nat} {vS vC vX:Value} {kS kC kE kM b:Nat} {s:qJ} (h:GsS W gb vS vC vX kS kC kE kM b s) (hb:Below W.heap.size W W'):GsS W' gb vS vC vX kS kC kE kM b s :=
 ⟨h.1.below hb h.2.2.1,h.2.1.below hb h.2.2.2,Nat.lt_of_lt_of_le h.2.2.1 hb.size,Nat.lt_of_lt_of_le h.2.2.2 hb.size⟩
theorem jZ (W:World) (o:Obj):Below W.heap.size W (W.alloc o):=qB bR o lR
def qDF (p:Pl) (s:qJ):Int:=if p.S.any (λy=>decide (y.key=s.key)) then 6 else qA4 s
def qDL (p:Pl) (s:qJ):Pl:=if qDF p s≠0 then p else { p with S:=qHx p.S s }
theorem qRu {p:Pl} (h:jS p) (s:qJ):qFs (λy=>cS y s) p.S (jQ cS s p.S)=p.S.any λy=>decide (y.key=s.key):=by
 rw [qIh qGK h.s1]
 congr 1;funext y
 rw [Bool.eq_iff_iff,decide_eq_true_eq,decide_eq_true_eq];exact qA5 _ _
theorem qNR {wf:World} (base gb nn:Nat) (p:Pl) (s:qJ) (w:World) (h:qAe base wf w gb nn p) (hp:jS p) (hl:p.S.length≤100) (hnn:nn≤1000) (hbw:base≤w.heap.size) :
  Calls prog 122 #[.pointer (some ⟨gb,0,none⟩),.agg ↑s] w
  λe w'=>e=.returned (.int .i64 (qDF p s))∧qAe base wf w' gb (nn+1) (qDL p s)∧Below base w w':=by
 obtain⟨u,h⟩:=h;obtain⟨aS,capS,hvS⟩:=jO h.oS;have HVS:=mH hvS;have HLG:Hx (gb<w.heap.size):=⟨h.lt⟩;have HLT:Hx (∀k,u.vS.ownBlock=some k→k<w.heap.size):=⟨λk hk=>(h.oS.lt k hk).2⟩;have hbs:=λW (hA:qI qJ.cells 2 W p.S u.vS)=>qNh u.vS s p.S (λy=>cS y s) (jQ cS s p.S) 177 #[] W hA oM (qDG _ _ _) (qFC qGK hp.s1 s) (qAB func177 kR rfl) (λy w' _ _=>(qNZ y s w').mono λe w'' ⟨he,hg⟩=>⟨he,hg.below⟩)
 rw [qRu hp,hvS] at hbs;have HBS:=mH hbs;clear hbs hvS;have h1:=(h.alloc (.cells ↑s 73)).drew;have hx1:qC (w.alloc (.cells ↑s 73)).drew w.heap.size ↑s 73:=(qC.new w _ _).drew;have hB1:Below base w (w.alloc (.cells ↑s 73)).drew:=Below.drew (qB bR _ hbw);have hz1:base≤(w.alloc (.cells ↑s 73)).drew.heap.size:=by simp;omega
 clear h;go_enter func122,ntmps122;go_wp2_with fail;refine qA.start (λW=>GsS W gb (.slice aS p.S.length capS) u.vC u.vX u.kS u.kC u.kE u.kM w.heap.size s) [6] kR ?_;have hS:GsS (w.alloc (.cells ↑s 73)).drew gb (.slice aS p.S.length capS) u.vC u.vX u.kS u.kC u.kE u.kM w.heap.size s:=⟨by rw [←HVS.o];exact h1.cells,qGE.of hx1,h1.lt,hx1.lt⟩;have H1:=mH (aI h1 (aI hB1 (aI hx1 hz1)));clear h1 hB1 hx1 hz1;generalize (w.alloc (.cells ↑s 73)).drew=W1 at *;refine qA.q 0 ?_;refine qA.q 1 ?_;refine qA.q 2 ?_;refine qA.q 3 ?_;refine qA.t 4 hS ?_;refine qA.t 5 hS ?_;refine qA.nx 6 λK hK=>?_;go_simp
 refine(HBS.o _ (by rw [←HVS.o];exact(qI.of_own qJ.cells_len H1.o.1.oS))).mono ?_;rintro e W2 ⟨rfl,hb2⟩;have hS2:=hS.below hb2;have h2:=H1.o.1.below hb2;have hx2:=H1.o.2.2.1.below hb2 H1.o.2.2.1.lt;have hB2:=H1.o.2.1.trans (hb2.mono H1.o.2.2.2);have hz2:=Nat.le_trans H1.o.2.2.2 hb2.size;have H2:=mH (aI h2 (aI hB2 (aI hx2 (aI hz2 hS2))));clear hS hb2 hS2 h2 hx2 hB2 hz2;refine qA.o hK ?_;clear hK K;refine qA.q 7 ?_;refine qA.q 8 ?_;refine qA.q 9 ?_;refine qA.q 10 ?_;refine qA.q 11 ?_;refine qA.done kR ?_;obtain⟨⟨g0,g1,g2,g3,g4,g5,g6⟩,⟨s0,s1⟩,l1,l2⟩:=H2.o.2.2.2.2;have hnc:¬(200:Int)≤(p.S.length:Int):=by omega
 cases hany:p.S.any (λy=>decide (y.key=s.key))
 ·have hE1:qDF p s=qA4 s:=by unfold qDF;rw [hany];simp
  have HE:=mH hE1;have HA:=mH hany;clear hE1 hany
  by_cases hz:qA4 s=0
  ·have hz':(qA4 s != 0)=false:=by simp [hz]
   have hky:s.key.size≤maxLen:=by
    have h9:qL s.key=true:=by
     unfold qA4 at hz;split at hz
     ·omega
     ·rename_i h9;simpa using h9
    have:=qFG h9;unfold maxLen;omega
   obtain⟨kl,hkl⟩:=qBy s.key hky;have hN:qDL p s={ p with S:=p.S.take (jQ cS s p.S)++s::p.S.drop (jQ cS s p.S) }:=by
    unfold qDL;rw [HE.o,hz];simp only [ne_eq,not_true_eq_false,if_false];unfold qHx;rw [qIi]
   have hnk:∀y∈p.S.take (jQ cS s p.S)++p.S.drop (jQ cS s p.S),y.key≠s.key:=λy hy e=>by
    rw [List.take_append_drop] at hy;have:=List.any_eq_false.1 HA.o y hy;simp [e] at this
   have HZ:=mH (aI hz (aI hkl (aI hN hnk)));have hpz:(0:Int)≤(jQ cS s p.S:Int):=by omega
   clear hky hkl hN hnk hz;go_wp2_with (go_at_call 178;refine(qFL s _).mono ?_;rintro e W3 ⟨rfl,hb3⟩);have hS:GsS W3.drew gb (.slice aS p.S.length capS) u.vC u.vX u.kS u.kC u.kE u.kM w.heap.size s:=(H2.o.2.2.2.2.below hb3).below (Below.drew bR);have h3:=(H2.o.1.below hb3).drew;have hx3:qC W3.drew w.heap.size ↑s 73:=(H2.o.2.2.1.below hb3 H2.o.2.2.1.lt).drew;have hB3:Below base w W3.drew:=(H2.o.2.1.trans (hb3.mono H2.o.2.2.2.1)).drew;have hz3:base≤W3.drew.heap.size:=Nat.le_trans H2.o.2.2.2.1 hb3.size;have H3:=mH (aI h3 (aI hB3 (aI hx3 hz3)));clear h3 hB3 hx3 hz3 hb3 g0 g1 g2 g3 g4 g5 g6 s0 s1 l1 l2;refine qA.start (λW=>GsS W gb (.slice aS p.S.length capS) u.vC u.vX u.kS u.kC u.kE u.kM w.heap.size s) [9,13] kR ?_;generalize W3.drew=W4 at *;refine qA.q 0 ?_;refine qA.q 1 ?_;refine qA.q 2 ?_;refine qA.q 3 ?_;refine qA.q 4 ?_;refine qA.t 5 hS ?_;refine qA.q 6 ?_;refine qA.t 7 hS ?_;refine qA.nx 8 λK hK=>?_;go_simp
   refine hK.out _ _ (λ_ h=>h.below (jZ _ _)) ?_;clear hK K;try simp only [Act.put,zL,zN,zH,zM,zK,zI]
   refine qA.nx 9 λK hK=>?_;go_simp
   have hv4:=(H3.o.1.alloc (.cells ↑s 73)).oS;rw [HVS.o] at hv4;refine(qO9 (.slice aS p.S.length capS) p.S (jQ cS s p.S) s W4.heap.size base _ hv4 (qDG _ _ _) (qC.new W4 _ _) (λe=>by have:=(H3.o.1.oS.lt _ (by rw [HVS.o];exact e)).2;omega) (by have:=H3.o.2.2.2;simp;omega) oM).mono ?_;rintro e W5 ⟨v',rfl,ho5,hg5⟩;obtain⟨a5,c5,rfl⟩:=jO ho5;have H6B:Hx (Below base w W5):=⟨jG (qB H3.o.2.1 (.cells ↑s 73) H3.o.2.2.2) hv4 hg5 lR (by have:=H3.o.2.2.2;simp;omega)⟩;rw [←HVS.o] at hg5;have hb5:=(H3.o.1.alloc (.cells ↑s 73)).blk.grown hg5 (λe=>qA2 (H3.o.1.alloc (.cells ↑s 73)).oS (H3.o.1.alloc (.cells ↑s 73)).blk dE e.symm);have k0:=hb5.cell 0 _ rfl;rw [HVS.o] at k0;have kf:=λo=>hb5.free o
   have hx5:=(H3.o.2.2.1.alloc (.cells ↑s 73)).grown hg5 (λe=>by have:=HLT.o _ e.symm;omega);have h6:=(H3.o.1.alloc (.cells ↑s 73)).rowS (S':=p.S.take (jQ cS s p.S)++s::p.S.drop (jQ cS s p.S)) (by rw [qKP (qDG _ _ _)];exact ho5) hg5;have H6:=mH (aI h6 hx5);clear hv4 ho5 hg5 hb5 h6 hx5 hS;refine qA.o hK ?_;clear hK K;refine qA.q 10 ?_;refine qA.q 11 ?_;refine qA.q 12 ?_;refine qA.nx 13 λK hK=>?_;go_simp
   refine qA.o hK ?_;clear hK K;refine qA.done kR ?_;have hx6:=(H6.o.2.setOther (show w.heap.size≠gb by have:=HLG.o;omega) 0 (.slice a5 (p.S.length+1) c5)).drew;have h7:=H6.o.1.drew;have hB6:Below base w (W5.setCell ⟨gb,0,none⟩ (.slice a5 (p.S.length+1) c5)).drew:=(Below.setCell H6B.o H6.o.1.low.1 _).drew;go_wp2_with fail;refine qA.start (λW=>GsS W gb (.slice a5 (p.S.length+1) c5) u.vC u.vX u.kS u.kC u.kE u.kM w.heap.size s) [8] kR ?_;have hS:GsS (W5.setCell ⟨gb,0,none⟩ (.slice a5 (p.S.length+1) c5)).drew gb (.slice a5 (p.S.length+1) c5) u.vC u.vX u.kS u.kC u.kE u.kM w.heap.size s:=⟨h7.cells,qGE.of hx6,h7.lt,hx6.lt⟩;have H7:=mH (aI h7 hB6);clear h7 hB6 hx6 k0 kf;generalize (W5.setCell ⟨gb,0,none⟩ (.slice a5 (p.S.length+1) c5)).drew=W7 at *;refine qA.q 0 ?_;refine qA.q 1 ?_;refine qA.q 2 ?_;refine qA.t 3 hS ?_;refine qA.q 4 ?_;refine qA.t 5 hS ?_;refine qA.q 6 ?_;refine qA.t 7 hS ?_;refine qA.nx 8 λK hK=>?_
   refine qC2 rF _ _ _ 100 rfl qAO underlying100 qEk H7.o.1.mS (by unfold maxLen;omega) rF s.key HZ.o.2.1 rF (.int .i64 s.kind) rF ?_;intro W8 hm8 hg8;refine qA.o hK ?_;clear hK K;refine qA.done kR ?_;go_wp2;go_ret;have hc8:=(H7.o.1.mapS hg8 (Nat.le_succ nn) hm8).congr (m1':=qBE (p.S.take (jQ cS s p.S)++s::p.S.drop (jQ cS s p.S))) (λk=>by have:=qLx HZ.o.2.2.2 k;rw [List.take_append_drop] at this;exact this) (λ_=>rfl) (λ_=>rfl);exact⟨qN (by rw [HE.o,HZ.o.1]),by rw [HZ.o.2.2.1];exact⟨_,hc8⟩,H7.o.2.trans (qEN hg8 H7.o.1.low.2.1 (Nat.le_trans hbw H7.o.2.size))⟩
  ·have hz':(qA4 s != 0)=true:=by simp [hz]
   have hN:qDL p s=p:=by unfold qDL;rw [HE.o,if_pos hz]
   have HN:=mH hN;clear hN hz;go_wp2_with (go_at_call 178;refine(qFL s _).mono ?_;rintro e W3 ⟨rfl,hb3⟩);go_ret;exact⟨qN HE.o.symm,by rw [HN.o];exact⟨u,(H2.o.1.below hb3).mono oM⟩,H2.o.2.1.trans (hb3.mono H2.o.2.2.2.1)⟩
 ·have hE1:qDF p s=6:=by unfold qDF;rw [hany];simp
  have hN:qDL p s=p:=by unfold qDL;rw [hE1];simp
  have HE:=mH (aI hE1 hN);clear hE1 hN hany;go_wp2;go_ret;exact⟨qN HE.o.1.symm,by rw [HE.o.2];exact⟨u,H2.o.1.mono oM⟩,H2.o.2.1⟩
theorem qBj (w:World):(zeroValue 3).run prog w=.ok (.int .i64 0) w:=by kernel_rfl
theorem qI4 {p:Pl} (h:jS p) (k:ByteArray):0≤qAG p.S k∧qAG p.S k≤4:=by
 unfold qAG
 cases hf:p.S.find? (λs=>decide (s.key=k)) with
 | none=>simp
 | some s =>
  have h3:=h.s2 s (List.mem_of_find?_eq_some hf);unfold qA4 at h3
  split at h3
  ·omega
  ·split at h3
   ·omega
   ·rename_i h4
    have h5:zC s.kind 1 4=false:=by cases hq:zC s.kind 1 4 <;> simp_all
    have:=qAU.1 h5;simp;omega
theorem qKW {S:List qJ} {k:ByteArray} (h:0≤qAG S k):qAQ S k=!decide (qAG S k=0):=by
 unfold qAQ;rw [Bool.eq_iff_iff];simp;omega
theorem qE6 (S:List qJ) (hS:∀k,0≤qAG S k) (c:qG) (kb nn:Nat) (w:World) (hm:qAq w kb nn (qBE S)) (ha:c.a.size≤maxLen) (hb:c.b.size≤maxLen):Calls prog 182 #[.agg ↑c,.map (some kb)] w
  λe w'=>e=.returned (.int .i64 (jP S c))∧Below w.heap.size w w':=by
 obtain⟨ka,hka⟩:=qBy c.a ha;obtain⟨kc,hkb⟩:=qBy c.b hb;have HM:=mH (aI hm (aI hka hkb));have hA:=qKW (hS c.a);have hB:=qKW (hS c.b);clear hm hka hkb ha hb hS
 cases h1:qL c.key
 ·have HE:=mH (show jP S c=5 by unfold jP;rw [if_pos h1]);clear hA hB;go_enter func182,ntmps182;go_wp2_with (go_at_call 89;refine(qBh _ _).mono ?_;rintro e w' ⟨rfl,rfl⟩);go_ret;exact⟨qN HE.o.symm,by exact qS⟩
 ·by_cases h2:qAG S c.a=0
  ·have HE:=mH (show jP S c=8 by unfold jP;rw [if_neg (by simp [h1]),if_pos (by rw [hA];simp [h2])]);clear hA hB;go_enter func182,ntmps182;go_wp2_with (first|(go_at_call 89;refine(qBh _ _).mono ?_;rintro e w' ⟨rfl,rfl⟩)|(at_lookup;refine qAX (by first|rfl|(go_simp;done)) _ _ _ rfl qAO underlying100 (qBj _) (HM.o.1.alloc _) rfl c.a HM.o.2.1 rfl (qBX S c.a) ?_)|(at_lookup;refine qAX (by first|rfl|(go_simp;done)) _ _ _ rfl qAO underlying100 (qBj _) (HM.o.1.alloc _) rfl c.b HM.o.2.2 rfl (qBX S c.b) ?_));go_ret;exact⟨qN HE.o.symm,by exact qS⟩
  ·have h2b:(qAG S c.a==0)=false:=by simp [h2]
   by_cases h3:qAG S c.b=0
   ·have HE:=mH (show jP S c=8 by unfold jP;rw [if_neg (by simp [h1]),if_pos (by rw [hB];simp [h3])]);clear hA hB;go_enter func182,ntmps182;go_wp2_with (first|(go_at_call 89;refine(qBh _ _).mono ?_;rintro e w' ⟨rfl,rfl⟩)|(at_lookup;refine qAX (by first|rfl|(go_simp;done)) _ _ _ rfl qAO underlying100 (qBj _) (HM.o.1.alloc _) rfl c.a HM.o.2.1 rfl (qBX S c.a) ?_)|(at_lookup;refine qAX (by first|rfl|(go_simp;done)) _ _ _ rfl qAO underlying100 (qBj _) (HM.o.1.alloc _) rfl c.b HM.o.2.2 rfl (qBX S c.b) ?_));go_ret;exact⟨qN HE.o.symm,by exact qS⟩
   ·have h3b:(qAG S c.b==0)=false:=by simp [h3]
    have h23:¬(qAQ S c.a=false∨qAQ S c.b=false):=by rw [hA,hB];simp [h2,h3]
    by_cases h4:c.a=c.b
    ·have h4':(c.a.toList==c.b.toList)=true:=by rw [h4];simp
     have HE:=mH (show jP S c=6 by unfold jP;rw [if_neg (by simp [h1]),if_neg h23,if_pos h4]);clear hA hB h4 h23;go_enter func182,ntmps182;go_wp2_with (first|(go_at_call 89;refine(qBh _ _).mono ?_;rintro e w' ⟨rfl,rfl⟩)|(at_lookup;refine qAX (by first|rfl|(go_simp;done)) _ _ _ rfl qAO underlying100 (qBj _) (HM.o.1.alloc _) rfl c.a HM.o.2.1 rfl (qBX S c.a) ?_)|(at_lookup;refine qAX (by first|rfl|(go_simp;done)) _ _ _ rfl qAO underlying100 (qBj _) (HM.o.1.alloc _) rfl c.b HM.o.2.2 rfl (qBX S c.b) ?_));go_ret;exact⟨qN HE.o.symm,by exact qS⟩
    ·have h4':=qAZ h4
     cases h5:zC c.long 1 200000
     ·cases h6:zC c.fibs 1 144
      ·have HE:=mH (show jP S c=0 by unfold jP;rw [if_neg (by simp [h1]),if_neg h23,if_neg h4,if_neg (by simp [h5,h6])]);clear hA hB h4 h23;go_enter func182,ntmps182;go_wp2_with (first|(go_at_call 89;refine(qBh _ _).mono ?_;rintro e w' ⟨rfl,rfl⟩)|(go_at_call 117;refine(qCm _ _ _ _).mono ?_;rintro e w' ⟨rfl,rfl⟩)|(at_lookup;refine qAX (by first|rfl|(go_simp;done)) _ _ _ rfl qAO underlying100 (qBj _) (HM.o.1.alloc _) rfl c.a HM.o.2.1 rfl (qBX S c.a) ?_)|(at_lookup;refine qAX (by first|rfl|(go_simp;done)) _ _ _ rfl qAO underlying100 (qBj _) (HM.o.1.alloc _) rfl c.b HM.o.2.2 rfl (qBX S c.b) ?_));go_ret;exact⟨qN HE.o.symm,by exact qS⟩
      ·have HE:=mH (show jP S c=1 by unfold jP;rw [if_neg (by simp [h1]),if_neg h23,if_neg h4,if_pos (by simp [h6])]);clear hA hB h4 h23;go_enter func182,ntmps182;go_wp2_with (first|(go_at_call 89;refine(qBh _ _).mono ?_;rintro e w' ⟨rfl,rfl⟩)|(go_at_call 117;refine(qCm _ _ _ _).mono ?_;rintro e w' ⟨rfl,rfl⟩)|(at_lookup;refine qAX (by first|rfl|(go_simp;done)) _ _ _ rfl qAO underlying100 (qBj _) (HM.o.1.alloc _) rfl c.a HM.o.2.1 rfl (qBX S c.a) ?_)|(at_lookup;refine qAX (by first|rfl|(go_simp;done)) _ _ _ rfl qAO underlying100 (qBj _) (HM.o.1.alloc _) rfl c.b HM.o.2.2 rfl (qBX S c.b) ?_));go_ret;exact⟨qN HE.o.symm,by exact qS⟩
     ·have HE:=mH (show jP S c=1 by unfold jP;rw [if_neg (by simp [h1]),if_neg h23,if_neg h4,if_pos (by simp [h5])]);clear hA hB h4 h23;go_enter func182,ntmps182;go_wp2_with (first|(go_at_call 89;refine(qBh _ _).mono ?_;rintro e w' ⟨rfl,rfl⟩)|(go_at_call 117;refine(qCm _ _ _ _).mono ?_;rintro e w' ⟨rfl,rfl⟩)|(at_lookup;refine qAX (by first|rfl|(go_simp;done)) _ _ _ rfl qAO underlying100 (qBj _) (HM.o.1.alloc _) rfl c.a HM.o.2.1 rfl (qBX S c.a) ?_)|(at_lookup;refine qAX (by first|rfl|(go_simp;done)) _ _ _ rfl qAO underlying100 (qBj _) (HM.o.1.alloc _) rfl c.b HM.o.2.2 rfl (qBX S c.b) ?_));go_ret;exact⟨qN HE.o.symm,by exact qS⟩
def qDV (W:World) (b:Nat) (s:qG):Prop:=W.cell? ⟨b,0,none⟩=some (.string s.key)∧W.cell? ⟨b,1,none⟩=some (.string s.a)∧W.cell? ⟨b,2,none⟩=some (.string s.b)∧W.cell? ⟨b,3,none⟩=some (.int .i64 s.long)∧W.cell? ⟨b,4,none⟩=some (.int .i64 s.fibs)
theorem qDV.of {W:World} {b:Nat} {s:qG} {t:TypeId} (h:qC W b ↑s t):qDV W b s:=⟨h.cell 0 _ rfl,h.cell 1 _ rfl,h.cell 2 _ rfl,h.cell 3 _ rfl,h.cell 4 _ rfl⟩
theorem qDV.below {W W':World} {b:Nat} {s:qG} (h:qDV W b s) (hb:Below W.heap.size W W') (hl:b<W.heap.size):qDV W' b s:=by
 have k:=qDg hb b hl;exact⟨(k _).trans h.1,(k _).trans h.2.1,(k _).trans h.2.2.1,(k _).trans h.2.2.2.1,(k _).trans h.2.2.2.2⟩
def GsC (W:World) (gb:Nat) (vS vC vX:Value) (kS kC kE kM b:Nat) (s:qG):Prop:=GrC W gb vS vC vX kS kC kE kM∧qDV W b s∧gb<W.heap.size∧b<W.heap.size
theorem GsC.below {W W':World} {gb:Nat} {vS vC vX:Value} {kS kC kE kM b:Nat} {s:qG} (h:GsC W gb vS vC vX kS kC kE kM b s) (hb:Below W.heap.size W W'):GsC W' gb vS vC vX kS kC kE kM b s :=
 ⟨h.1.below hb h.2.2.1,h.2.1.below hb h.2.2.2,Nat.lt_of_lt_of_le h.2.2.1 hb.size,Nat.lt_of_lt_of_le h.2.2.2 hb.size⟩
def qDm (p:Pl) (s:qG):Int:=if p.C.any (λy=>decide (y.key=s.key)) then 6 else jP p.S s
def qDo (p:Pl) (s:qG):Pl:=if qDm p s≠0 then p else { p with C:=qH2 p.C s }
theorem qTA {p:Pl} (h:jS p) (s:qG):qFs (λy=>cC y s) p.C (jQ cC s p.C)=p.C.any λy=>decide (y.key=s.key):=by
 rw [qIh qGH h.c1]
 congr 1;funext y
 rw [Bool.eq_iff_iff,decide_eq_true_eq,decide_eq_true_eq];exact qA5 _ _
theorem qMR {wf:World} (base gb nn:Nat) (p:Pl) (s:qG) (w:World) (h:qAe base wf w gb nn p) (hp:jS p) (hl:p.C.length≤100) (hnn:nn≤1000) (hbw:base≤w.heap.size) (hsa:s.a.size≤maxLen) (hsb:s.b.size≤maxLen) :
  Calls prog 123 #[.pointer (some ⟨gb,0,none⟩),.agg ↑s] w
  λe w'=>e=.returned (.int .i64 (qDm p s))∧qAe base wf w' gb (nn+1) (qDo p s)∧Below base w w':=by
 have HAB:=mH (aI hsa hsb);have HKS:Hx (∀k,0≤qAG p.S k):=⟨λk=>(qI4 hp k).1⟩;clear hsa hsb;obtain⟨u,h⟩:=h;obtain⟨aC,capC,hvC⟩:=jO h.oC;have HVC:=mH hvC;have HLG:Hx (gb<w.heap.size):=⟨h.lt⟩;have HLT:Hx (∀k,u.vC.ownBlock=some k→k<w.heap.size):=⟨λk hk=>(h.oC.lt k hk).2⟩;have hbs:=λW (hA:qI qG.cells 5 W p.C u.vC)=>qNe u.vC s p.C (λy=>cC y s) (jQ cC s p.C) 181 #[] W hA oM (qDG _ _ _) (qFC qGH hp.c1 s) (qAB func181 kR rfl) (λy w' _ _=>(qLq y s w').mono λe w'' ⟨he,hg⟩=>⟨he,hg.below⟩)
 rw [qTA hp,hvC] at hbs;have HBS:=mH hbs;clear hbs hvC;have h1:=(h.alloc (.cells ↑s 75)).drew;have hx1:qC (w.alloc (.cells ↑s 75)).drew w.heap.size ↑s 75:=(qC.new w _ _).drew;have hB1:Below base w (w.alloc (.cells ↑s 75)).drew:=Below.drew (qB bR _ hbw);have hz1:base≤(w.alloc (.cells ↑s 75)).drew.heap.size:=by simp;omega
 clear h;go_enter func123,ntmps123;go_wp2_with fail;refine qA.start (λW=>GsC W gb u.vS (.slice aC p.C.length capC) u.vX u.kS u.kC u.kE u.kM w.heap.size s) [6] kR ?_;have hS:GsC (w.alloc (.cells ↑s 75)).drew gb u.vS (.slice aC p.C.length capC) u.vX u.kS u.kC u.kE u.kM w.heap.size s:=⟨by rw [←HVC.o];exact h1.cells,qDV.of hx1,h1.lt,hx1.lt⟩;have H1:=mH (aI h1 (aI hB1 (aI hx1 hz1)));clear h1 hB1 hx1 hz1;generalize (w.alloc (.cells ↑s 75)).drew=W1 at *;refine qA.q 0 ?_;refine qA.q 1 ?_;refine qA.q 2 ?_;refine qA.q 3 ?_;refine qA.t 4 hS ?_;refine qA.t 5 hS ?_;refine qA.nx 6 λK hK=>?_;go_simp
 refine(HBS.o _ (by rw [←HVC.o];exact(qI.of_own qG.cells_len H1.o.1.oC))).mono ?_;rintro e W2 ⟨rfl,hb2⟩;have hS2:=hS.below hb2;have h2:=H1.o.1.below hb2;have hx2:=H1.o.2.2.1.below hb2 H1.o.2.2.1.lt;have hB2:=H1.o.2.1.trans (hb2.mono H1.o.2.2.2);have hz2:=Nat.le_trans H1.o.2.2.2 hb2.size;have H2:=mH (aI h2 (aI hB2 (aI hx2 (aI hz2 hS2))));clear hS hb2 hS2 h2 hx2 hB2 hz2;refine qA.o hK ?_;clear hK K;refine qA.q 7 ?_;refine qA.q 8 ?_;refine qA.q 9 ?_;refine qA.q 10 ?_;refine qA.q 11 ?_;refine qA.done kR ?_;obtain⟨⟨g0,g1,g2,g3,g4,g5,g6⟩,⟨s0,s1,s2,s3,s4⟩,l1,l2⟩:=H2.o.2.2.2.2;have hnc:¬(300:Int)≤(p.C.length:Int):=by omega
 cases hany:p.C.any (λy=>decide (y.key=s.key))
 ·have hE1:qDm p s=jP p.S s:=by unfold qDm;rw [hany];simp
  have HE:=mH hE1;have HA:=mH hany;clear hE1 hany
  by_cases hz:jP p.S s=0
  ·have hz':(jP p.S s != 0)=false:=by simp [hz]
   have hky:s.key.size≤maxLen:=by
    have h9:qL s.key=true:=by
     unfold jP at hz;split at hz
     ·omega
     ·rename_i h9;simpa using h9
    have:=qFG h9;unfold maxLen;omega
   obtain⟨kl,hkl⟩:=qBy s.key hky;have hN:qDo p s={ p with C:=p.C.take (jQ cC s p.C)++s::p.C.drop (jQ cC s p.C) }:=by
    unfold qDo;rw [HE.o,hz];simp only [ne_eq,not_true_eq_false,if_false];unfold qH2;rw [qIi]
   have hnk:∀y∈p.C.take (jQ cC s p.C)++p.C.drop (jQ cC s p.C),y.key≠s.key:=λy hy e=>by
    rw [List.take_append_drop] at hy;have:=List.any_eq_false.1 HA.o y hy;simp [e] at this
   have HZ:=mH (aI hz (aI hkl (aI hN hnk)));have hpz:(0:Int)≤(jQ cC s p.C:Int):=by omega
   clear hky hkl hN hnk hz;go_wp2_with fail;have hbd:Below W2.heap.size W2 W2.drew:=Below.drew bR;have hS:GsC W2.drew gb u.vS (.slice aC p.C.length capC) u.vX u.kS u.kC u.kE u.kM w.heap.size s:=H2.o.2.2.2.2.below hbd;have hmd:=H2.o.1.drew.mS;have hsd:W2.heap.size=W2.drew.heap.size:=rfl;have HD:=mH (aI hbd (aI hmd hsd));clear hbd hmd hsd g0 g1 g2 g3 g4 g5 g6 s0 s1 s2 s3 s4 l1 l2;refine qA.start (λW=>GsC W gb u.vS (.slice aC p.C.length capC) u.vX u.kS u.kC u.kE u.kM w.heap.size s) [5] kR ?_;generalize W2.drew=Wd at *;refine qA.t 0 hS ?_;refine qA.q 1 ?_;refine qA.q 2 ?_;refine qA.q 3 ?_;refine qA.t 4 hS ?_;refine qA.nx 5 λK hK=>?_;go_simp
   refine(qE6 p.S HKS.o s u.kS nn _ HD.o.2.1 HAB.o.1 HAB.o.2).mono ?_;rintro e W3 ⟨rfl,hb3'⟩;have hb3:Below W2.heap.size W2 W3:=HD.o.1.trans (hb3'.mono (by have:=HD.o.2.2;omega));clear hb3' hS;refine qA.o hK ?_;clear hK K;refine qA.q 6 ?_;refine qA.done kR ?_;go_wp2_with fail;have hS:GsC W3.drew gb u.vS (.slice aC p.C.length capC) u.vX u.kS u.kC u.kE u.kM w.heap.size s:=(H2.o.2.2.2.2.below hb3).below (Below.drew bR);have h3:=(H2.o.1.below hb3).drew;have hx3:qC W3.drew w.heap.size ↑s 75:=(H2.o.2.2.1.below hb3 H2.o.2.2.1.lt).drew;have hB3:Below base w W3.drew:=(H2.o.2.1.trans (hb3.mono H2.o.2.2.2.1)).drew;have hz3:base≤W3.drew.heap.size:=Nat.le_trans H2.o.2.2.2.1 hb3.size;have H3:=mH (aI h3 (aI hB3 (aI hx3 hz3)));clear h3 hB3 hx3 hz3 hb3;refine qA.start (λW=>GsC W gb u.vS (.slice aC p.C.length capC) u.vX u.kS u.kC u.kE u.kM w.heap.size s) [9,13] kR ?_;generalize W3.drew=W4 at *;refine qA.q 0 ?_;refine qA.q 1 ?_;refine qA.q 2 ?_;refine qA.q 3 ?_;refine qA.q 4 ?_;refine qA.t 5 hS ?_;refine qA.q 6 ?_;refine qA.t 7 hS ?_;refine qA.nx 8 λK hK=>?_;go_simp
   refine hK.out _ _ (λ_ h=>h.below (jZ _ _)) ?_;clear hK K;try simp only [Act.put,zL,zN,zH,zM,zK,zI]
   refine qA.nx 9 λK hK=>?_;go_simp
   have hv4:=(H3.o.1.alloc (.cells ↑s 75)).oC;rw [HVC.o] at hv4;refine(qPD (.slice aC p.C.length capC) p.C (jQ cC s p.C) s W4.heap.size base _ hv4 (qDG _ _ _) (qC.new W4 _ _) (λe=>by have:=(H3.o.1.oC.lt _ (by rw [HVC.o];exact e)).2;omega) (by have:=H3.o.2.2.2;simp;omega) oM).mono ?_;rintro e W5 ⟨v',rfl,ho5,hg5⟩;obtain⟨a5,c5,rfl⟩:=jO ho5;have H6B:Hx (Below base w W5):=⟨jG (qB H3.o.2.1 (.cells ↑s 75) H3.o.2.2.2) hv4 hg5 lR (by have:=H3.o.2.2.2;simp;omega)⟩;rw [←HVC.o] at hg5;have hb5:=(H3.o.1.alloc (.cells ↑s 75)).blk.grown hg5 (λe=>qA2 (H3.o.1.alloc (.cells ↑s 75)).oC (H3.o.1.alloc (.cells ↑s 75)).blk dE e.symm);have k0:=hb5.cell 1 _ rfl;rw [HVC.o] at k0;have kf:=λo=>hb5.free o
   have hx5:=(H3.o.2.2.1.alloc (.cells ↑s 75)).grown hg5 (λe=>by have:=HLT.o _ e.symm;omega);have h6:=(H3.o.1.alloc (.cells ↑s 75)).rowC (C':=p.C.take (jQ cC s p.C)++s::p.C.drop (jQ cC s p.C)) (by rw [qKP (qDG _ _ _)];exact ho5) hg5;have H6:=mH (aI h6 hx5);clear hv4 ho5 hg5 hb5 h6 hx5 hS;refine qA.o hK ?_;clear hK K;refine qA.q 10 ?_;refine qA.q 11 ?_;refine qA.q 12 ?_;refine qA.nx 13 λK hK=>?_;go_simp
   refine qA.o hK ?_;clear hK K;refine qA.done kR ?_;have hx6:=(H6.o.2.setOther (show w.heap.size≠gb by have:=HLG.o;omega) 1 (.slice a5 (p.C.length+1) c5)).drew;have h7:=H6.o.1.drew;have hB6:Below base w (W5.setCell ⟨gb,1,none⟩ (.slice a5 (p.C.length+1) c5)).drew:=(Below.setCell H6B.o H6.o.1.low.1 _).drew;go_wp2_with fail;refine qA.start (λW=>GsC W gb u.vS (.slice a5 (p.C.length+1) c5) u.vX u.kS u.kC u.kE u.kM w.heap.size s) [7] kR ?_;have hS:GsC (W5.setCell ⟨gb,1,none⟩ (.slice a5 (p.C.length+1) c5)).drew gb u.vS (.slice a5 (p.C.length+1) c5) u.vX u.kS u.kC u.kE u.kM w.heap.size s:=⟨h7.cells,qDV.of hx6,h7.lt,hx6.lt⟩;have H7:=mH (aI h7 hB6);clear h7 hB6 hx6 k0 kf;generalize (W5.setCell ⟨gb,1,none⟩ (.slice a5 (p.C.length+1) c5)).drew=W7 at *;refine qA.q 0 ?_;refine qA.q 1 ?_;refine qA.q 2 ?_;refine qA.t 3 hS ?_;refine qA.q 4 ?_;refine qA.t 5 hS ?_;refine qA.t 6 hS ?_;refine qA.nx 7 λK hK=>?_
   refine qC2 rF _ _ _ 101 rfl qAO underlying101 qEk H7.o.1.mC (by unfold maxLen;omega) rF s.key HZ.o.2.1 rF (.agg ⟨s.cells⟩) rF ?_;intro W8 hm8 hg8;refine qA.o hK ?_;clear hK K;refine qA.done kR ?_;go_wp2;go_ret;have hc8:=(H7.o.1.mapC hg8 (Nat.le_succ nn) hm8).congr (m2':=qAT (p.C.take (jQ cC s p.C)++s::p.C.drop (jQ cC s p.C))) (λ_=>rfl) (λk=>by have:=qMF HZ.o.2.2.2 k;rw [List.take_append_drop] at this;exact this) (λ_=>rfl);exact⟨qN (by rw [HE.o,HZ.o.1]),by rw [HZ.o.2.2.1];exact⟨_,hc8⟩,H7.o.2.trans (qEN hg8 H7.o.1.low.2.2.1 (Nat.le_trans hbw H7.o.2.size))⟩
  ·have hz':(jP p.S s != 0)=true:=by simp [hz]
   have hN:qDo p s=p:=by unfold qDo;rw [HE.o,if_pos hz]
   have HN:=mH hN;clear hN hz;go_wp2_with fail;have hbd:Below W2.heap.size W2 W2.drew:=Below.drew bR;have hS:GsC W2.drew gb u.vS (.slice aC p.C.length capC) u.vX u.kS u.kC u.kE u.kM w.heap.size s:=H2.o.2.2.2.2.below hbd;have hmd:=H2.o.1.drew.mS;have hsd:W2.heap.size=W2.drew.heap.size:=rfl;have HD:=mH (aI hbd (aI hmd hsd));clear hbd hmd hsd g0 g1 g2 g3 g4 g5 g6 s0 s1 s2 s3 s4 l1 l2;refine qA.start (λW=>GsC W gb u.vS (.slice aC p.C.length capC) u.vX u.kS u.kC u.kE u.kM w.heap.size s) [5] kR ?_;generalize W2.drew=Wd at *;refine qA.t 0 hS ?_;refine qA.q 1 ?_;refine qA.q 2 ?_;refine qA.q 3 ?_;refine qA.t 4 hS ?_;refine qA.nx 5 λK hK=>?_;go_simp
   refine(qE6 p.S HKS.o s u.kS nn _ HD.o.2.1 HAB.o.1 HAB.o.2).mono ?_;rintro e W3 ⟨rfl,hb3'⟩;have hb3:Below W2.heap.size W2 W3:=HD.o.1.trans (hb3'.mono (by have:=HD.o.2.2;omega));clear hb3' hS;refine qA.o hK ?_;clear hK K;refine qA.q 6 ?_;refine qA.done kR ?_;go_wp2;go_ret;exact⟨qN HE.o.symm,by rw [HN.o];exact⟨u,(H2.o.1.below hb3).mono oM⟩,H2.o.2.1.trans (hb3.mono H2.o.2.2.2.1)⟩
 ·have hE1:qDm p s=6:=by unfold qDm;rw [hany];simp
  have hN:qDo p s=p:=by unfold qDo;rw [hE1];simp
  have HE:=mH (aI hE1 hN);clear hE1 hN hany;go_wp2;go_ret;exact⟨qN HE.o.1.symm,by rw [HE.o.2];exact⟨u,H2.o.1.mono oM⟩,H2.o.2.1⟩
end Go.Proofs.YtbgnlfgkgklkdaaGreatDoor
