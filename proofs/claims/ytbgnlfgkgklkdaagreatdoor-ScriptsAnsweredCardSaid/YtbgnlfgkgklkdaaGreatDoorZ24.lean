/- Parts of the proof of ScriptsAnswered: SnR, SnU. No condition. -/
import Derived.Test.YtbgnlfgkgklkdaaGreatDoorZ23
set_option linter.unusedVariables false
set_option linter.unusedSimpArgs false
set_option maxHeartbeats 8000000
set_option maxRecDepth 100000
namespace Go.Proofs.YtbgnlfgkgklkdaaGreatDoor
open Go Go.RowKit Tryz
theorem qCh {p:Pl} (h:jS p) {k:ByteArray} (hk:qAQ p.S k=true):qL k=true:=by
 have h1:=qM8 hk;obtain⟨s,hs,he⟩:=List.any_eq_true.1 h1;have h2:=h.s2 s hs;have e:s.key=k:=by simpa using he
 unfold qA4 at h2
 split at h2
 ·omega
 ·rename_i h3;rw [e] at h3;simpa using h3
theorem qFc {p:Pl} (h:jS p) {k:ByteArray} {c:qG} (hk:qY p.C k=some c):qL k=true∧1≤c.fibs∧c.fibs≤144:=by
 obtain⟨h1,h2⟩:=qDw hk;have h3:=h.c2 c h1;unfold jP at h3
 split at h3
 ·omega
 ·rename_i h4
  rw [h2] at h4
  split at h3
  ·omega
  ·split at h3
   ·omega
   ·split at h3
    ·omega
    ·rename_i h5
     have h6:zC c.fibs 1 144=false:=by cases hq:zC c.fibs 1 144 <;> simp_all
     have:=qAU.1 h6;exact⟨by simpa using h4,this.1,this.2⟩
theorem qIG {p:Pl} (h:jS p) {f:qQ} (hf:jX p.C f=true):qBb f∧1≤f.no∧f.no≤144∧qL f.cable=true:=by
 obtain⟨c,hc⟩:=qCG hf;obtain⟨h1,h2,h3⟩:=qFc h hc;unfold jX at hf;rw [hc] at hf;have hf':1≤f.no∧f.no≤c.fibs:=by simpa using hf
 have:=qFG h1;exact⟨⟨by unfold maxLen;omega,WalkArith.wf_i64 oM⟩,hf'.1,by omega,h1⟩
theorem qEH {p:Pl} (h:jS p) {o:qE} (ho:o∈p.X):qDz o:=by
 obtain⟨h1,h2,h3,_⟩:=qDY (h.x2 o ho);have:=qFG (qCh h h1);exact⟨by unfold maxLen;omega,(qIG h h2).1,(qIG h h3).1⟩
theorem qOf {a b:qE} (h:zP a b=true) (y:qE):zP a y=zP b y:=by
 unfold zP at *;simp only [decide_eq_true_eq] at h;rw [h.1,h.2.1,h.2.2]
theorem qHE (a b:qE):zP a b=zP b a:=by
 unfold zP;rw [Bool.eq_iff_iff];simp only [decide_eq_true_eq];exact⟨λh=>⟨h.1.symm,h.2.1.symm,h.2.2.symm⟩,λh=>⟨h.1.symm,h.2.1.symm,h.2.2.symm⟩⟩
theorem qOW {X:List qE} (hX:qAD zF X) {i:Nat} (hi:i<X.length) {s:qE} (hp:zP s X[i]=true):X.filter (λy=>!zP s y)=X.take i++X.drop (i+1):=by
 have he:X=X.take i++X[i]::X.drop (i+1):=by rw [List.getElem_cons_drop,List.take_append_drop]
 have hs:∀y,zP s y=zP X[i] y:=qOf hp;have hX':qAD zF (X.take i++X[i]::X.drop (i+1)):=by rw [←he];exact hX
 obtain⟨_,h2,h3⟩:=List.pairwise_append.1 hX';have h4:=(List.pairwise_cons.1 h2).1;have hn:∀y,zF y X[i]≠0→(!zP s y)=true:=λy hy=>by
  rw [hs y,qHE]
  cases hq:zP y X[i]
  ·rfl
  ·exact absurd (qC8.2 hq) hy
 have hA:(X.take i).filter (λy=>!zP s y)=X.take i:=List.filter_eq_self.2 λy hy=>hn y (by have:=h3 y hy X[i] List.mem_cons_self;omega)
 have hB:(X.drop (i+1)).filter (λy=>!zP s y)=X.drop (i+1):=List.filter_eq_self.2 λy hy=>hn y (λe=>by
  have h5:=h4 y hy;have:=qAh.zero e;omega)
 conv=>lhs;rw [he]
 rw [List.filter_append,List.filter_cons,hA,hB];rw [if_neg (by rw [hp];simp)]
def qE3 (p:Pl) (s:qE):Int:=if p.X.any (zP s) then 0 else 8
def qFf (p:Pl) (s:qE):Pl:={ p with X:=p.X.filter λy=>!zP s y }
theorem qKB {p:Pl} (h:jS p) (s:qE):qFs (λy=>zF y s) p.X (jQ zF s p.X)=p.X.any (zP s):=by
 rw [qIh qAh h.x1]
 congr 1;funext y
 rw [Bool.eq_iff_iff,decide_eq_true_eq,qC8,qHE]
theorem qLc {p:Pl} {s:qE} (h:p.X.any (zP s)=false):qFf p s=p:=by
 unfold qFf;rw [List.filter_eq_self.2 λy hy=>by have:=List.any_eq_false.1 h y hy;simpa using this]
theorem qRg {α:Type} {cells:α→List Value} {sz:Nat} (hsz:∀x,(cells x).length=sz) {W:World} {g:Nat} {cur:Array Value} {e:TypeId} {l:List α} (hb:qC W g cur e) (ht:cur.toList.take (l.length*sz)=l.flatMap cells) {k:Nat} (hk:k<l.length) {j:Nat} {u:Value} (hu:(cells l[k])[j]? = some u) (hj:j<sz):W.cell? ⟨g,k*sz+j,none⟩=some u:=by
 refine hb.cell _ u ?_;have h1:(l.flatMap cells)[k*sz+j]? = some u:=by rw [qF9 hsz l k hk j hj];exact hu
 rw [←ht,List.getElem?_take] at h1
 split at h1
 ·rw [←Array.getElem?_toList];exact h1
 ·cases h1
def GsX (W:World) (gb:Nat) (vS vC vX:Value) (kS kC kE kM b:Nat) (s:qE):Prop:=GrC W gb vS vC vX kS kC kE kM∧qAJ W b s∧gb<W.heap.size∧b<W.heap.size
theorem GsX.below {W W':World} {gb:Nat} {vS vC vX:Value} {kS kC kE kM b:Nat} {s:qE} (h:GsX W gb vS vC vX kS kC kE kM b s) (hb:Below W.heap.size W W'):GsX W' gb vS vC vX kS kC kE kM b s :=
 ⟨h.1.below hb h.2.2.1,h.2.1.below hb h.2.2.2,Nat.lt_of_lt_of_le h.2.2.1 hb.size,Nat.lt_of_lt_of_le h.2.2.2 hb.size⟩
theorem qSU {wf:World} (base gb nn:Nat) (p:Pl) (s:qE) (w:World) (h:qAe base wf w gb nn p) (hp:jS p) (hl:p.X.length≤100) (hbw:base≤w.heap.size) :
  Calls prog 124 #[.pointer (some ⟨gb,0,none⟩),.agg ↑s] w
  λe w'=>e=.returned (.int .i64 (qE3 p s))∧qAe base wf w' gb nn (qFf p s)∧Below base w w':=by
 obtain⟨u,h⟩:=h;obtain⟨aX,capX,hvX⟩:=jO h.oX;have HVX:=mH hvX;have HLG:Hx (gb<w.heap.size):=⟨h.lt⟩;have hbs:=λW (hA:qI qE.cells 6 W p.X u.vX)=>qIf u.vX s p.X (λy=>zF y s) (jQ zF s p.X) 185 #[] W hA oM (qDG _ _ _) (qFC qAh hp.x1 s) (qAB func185 kR rfl) (λy w' _ _=>(qFq y s w').mono λe w'' ⟨he,hg⟩=>⟨he,hg.below⟩)
 rw [qKB hp,hvX] at hbs;have HBS:=mH hbs;clear hbs hvX;have h1:=(h.alloc (.cells ↑s 79)).drew;have hx1:qC (w.alloc (.cells ↑s 79)).drew w.heap.size ↑s 79:=(qC.new w _ _).drew;have hB1:Below base w (w.alloc (.cells ↑s 79)).drew:=Below.drew (qB bR _ hbw);have hz1:base≤(w.alloc (.cells ↑s 79)).drew.heap.size:=by simp;omega
 clear h;go_enter func124,ntmps124;go_wp2_with fail;refine qA.start (λW=>GsX W gb u.vS u.vC (.slice aX p.X.length capX) u.kS u.kC u.kE u.kM w.heap.size s) [6] kR ?_;have hS:GsX (w.alloc (.cells ↑s 79)).drew gb u.vS u.vC (.slice aX p.X.length capX) u.kS u.kC u.kE u.kM w.heap.size s:=⟨by rw [←HVX.o];exact h1.cells,qAJ.of hx1,h1.lt,hx1.lt⟩;have H1:=mH (aI h1 (aI hB1 (aI hx1 hz1)));clear h1 hB1 hx1 hz1;generalize (w.alloc (.cells ↑s 79)).drew=W1 at *;refine qA.q 0 ?_;refine qA.q 1 ?_;refine qA.q 2 ?_;refine qA.q 3 ?_;refine qA.t 4 hS ?_;refine qA.t 5 hS ?_;refine qA.nx 6 λK hK=>?_;go_simp
 refine(HBS.o _ (by rw [←HVX.o];exact(qI.of_own qE.cells_len H1.o.1.oX))).mono ?_;rintro e W2 ⟨rfl,hb2⟩;have hS2:=hS.below hb2;have h2:=H1.o.1.below hb2;have hx2:=H1.o.2.2.1.below hb2 H1.o.2.2.1.lt;have hB2:=H1.o.2.1.trans (hb2.mono H1.o.2.2.2);have hz2:=Nat.le_trans H1.o.2.2.2 hb2.size;have H2:=mH (aI h2 (aI hB2 (aI hx2 (aI hz2 hS2))));clear hS hb2 hS2 h2 hx2 hB2 hz2;refine qA.o hK ?_;clear hK K;refine qA.q 7 ?_;refine qA.q 8 ?_;refine qA.q 9 ?_;refine qA.q 10 ?_;refine qA.q 11 ?_;refine qA.done kR ?_;obtain⟨⟨g0,g1,g2,g3,g4,g5,g6⟩,⟨s0,s1,s2,s3,s4,s5⟩,l1,l2⟩:=H2.o.2.2.2.2
 cases hany:p.X.any (zP s)
 ·have hE1:qE3 p s=8:=by unfold qE3;rw [hany];simp
  have HE:=mH (aI hE1 (qLc hany));clear hE1 hany;go_wp2;go_ret;exact⟨qN HE.o.1.symm,by rw [HE.o.2];exact⟨u,H2.o.1⟩,H2.o.2.1⟩
 ·have hE1:qE3 p s=0:=by unfold qE3;rw [hany];simp
  have hh:=qKB hp s;rw [hany] at hh;have hpos:jQ zF s p.X<p.X.length:=by
   rcases Nat.lt_or_ge (jQ zF s p.X) p.X.length with h|h
   ·exact h
   ·rw [qFv h] at hh;cases hh
  rw [qF7 hpos] at hh;have hpl:zP s p.X[jQ zF s p.X]=true:=by rw [qHE];exact qC8.1 (by simpa using hh)
  have hfm:=qOW hp.x1 hpos hpl;have hko:=qEH hp (List.getElem_mem hpos);generalize jQ zF s p.X=pos at *;obtain⟨o,ho⟩:=eX (p.X[pos]);have hX:p.X=p.X.take pos++o::p.X.drop (pos+1):=by rw [←ho,List.getElem_cons_drop,List.take_append_drop]
  have hmt:∀y∈p.X.take pos++p.X.drop (pos+1),jC y o=false:=λy hy=>by
   have h3:=hp.x3;rw [hX] at h3;obtain⟨_,q2,q3⟩:=List.pairwise_append.1 h3
   rcases List.mem_append.1 hy with hy|hy
   ·exact q3 y hy o List.mem_cons_self
   ·rw [qGp];exact(List.pairwise_cons.1 q2).1 y hy
  rw [ho] at hko hpl;have HP:=mH (aI hE1 (aI hfm (aI hko (aI hX (aI hmt ho)))));clear hE1 hfm hko hX hmt hpl hh hany;obtain⟨b,cap,cur,hv,hbb,hbl,hcl,hcm,hcs,hct⟩:=qEi H2.o.1.oX oM;rw [HVX.o] at hv;simp only [Value.slice.injEq,true_and] at hv;obtain⟨rfl,rfl⟩:=hv;have hcell:=λj u (hu:(o.cells)[j]? = some u) (hj:j<6)=>qRg qE.cells_len hbl hct hpos (HP.o.2.2.2.2.2 ▸ hu) hj
  have o0:=hcell 0 _ rfl oM;have o1:=hcell 1 _ rfl oM;have o2:=hcell 2 _ rfl oM;have o3:=hcell 3 _ rfl oM;have o4:=hcell 4 _ rfl oM;have o5:=hcell 5 _ rfl oM;clear hcell;simp only [Nat.add_zero] at o0;clear hbb hcl hcm hcs hct hbl;go_wp2_with fail;refine(qPs base gb nn u p.S p.C p.X _ _ _ o _ H2.o.1 HP.o.2.2.1 (Nat.le_trans H2.o.2.2.2.1 lR)).mono ?_;rintro e W3 ⟨rfl,h3,hb3⟩;obtain⟨b',cap,cur,hv,hbb,hbl,hcl,hcm,hcs,hct⟩:=qEi h3.oX oM;have hv2:=hv;rw [HVX.o] at hv;simp only [Value.slice.injEq,true_and,Option.some.injEq,Addr.mk.injEq,and_true] at hv;obtain⟨rfl,rfl⟩:=hv;obtain⟨q0,q1,q2,q3,q4,q5,q6⟩:=h3.cells;rw [hv2] at q2;have H3:=mH (aI h3 (aI (H2.o.2.1.trans hb3) (aI hbb (aI hbl (aI hcl (aI hcm (aI hcs (aI hct (aI hv2 (Nat.le_trans H2.o.2.2.2.1 hb3.size))))))))));clear h3 hb3 hbb hbl hcl hcm hcs hct hv2 o0 o1 o2 o3 o4 o5 g0 g1 g2 g3 g4 g5 g6 s0 s1 s2 s3 s4 s5;go_wp2_with fail;refine(qOl b capX cur p.X pos base _ H3.o.2.2.2.1 H3.o.2.2.1 H3.o.2.2.2.2.1 H3.o.2.2.2.2.2.1 H3.o.2.2.2.2.2.2.1 H3.o.2.2.2.2.2.2.2.1 hpos oM).mono ?_;rintro e W5 ⟨rfl,ho5,hg5⟩;have hown:u.vX.ownBlock=some b:=by rw [H3.o.2.2.2.2.2.2.2.2.1];rfl
  have hg5':W3.grownBy W5 u.vX.ownBlock:=by rw [hown];exact hg5
  have hb5:=H3.o.1.blk.grown hg5' (λe=>qA2 H3.o.1.oX H3.o.1.blk dE e.symm);have k0:=hb5.cell 2 _ rfl;have kf:=hb5.free 2;have hlen:(p.X.take pos++p.X.drop (pos+1)).length=p.X.length - 1:=by rw [List.length_append,List.length_take,List.length_drop];omega
  have h6:=H3.o.1.rowX (X':=p.X.take pos++p.X.drop (pos+1)) (v':=.slice (some ⟨b,0,none⟩) (p.X.length - 1) capX) (by rw [hlen];exact ho5) hg5';have h7:=h6.congr (m1':=qBE p.S) (m2':=qAT p.C) (m3':=qAV (p.X.take pos++p.X.drop (pos+1))) (λ_=>rfl) (λ_=>rfl) (λk=>by have:=qMy HP.o.2.2.2.2.1 k;rw [←HP.o.2.2.2.1] at this;exact this);have hb6:Below base w (W5.setCell ⟨gb,2,none⟩ (.slice (some ⟨b,0,none⟩) (p.X.length - 1) capX)):=Below.setCell (H3.o.2.1.trans (jE hg5 H3.o.2.2.1 H3.o.2.2.2.2.2.2.2.2.2)) H3.o.1.low.1 _;have H7:=mH (aI h7 hb6);clear ho5 hg5 hg5' hb5 h6 h7 hb6 hown hlen q0 q1 q2 q3 q4 q5 q6;go_wp2;go_ret;exact⟨qN HP.o.1.symm,⟨_,by unfold qFf;rw [HP.o.2.1];exact H7.o.1⟩,H7.o.2⟩
theorem qIm {W:World} {k n:Nat} {X:List qE} (h:qGZ W k n (qAV X)) (q:qQ × ByteArray) {kl:Lit} (hk:keyOf prog 197 (qEQ q)=some kl):(Instr.lookup 102 (.map (some k)) (qEQ q) true).run prog W=.ok (.tuple #[.agg ⟨((zD X q.1 q.2).getD qAi).cells⟩,.bool (zD X q.1 q.2).isSome]) W:=by
 have h1:=zA.lookOk h qBv underlying102 (z:=.agg ⟨qAi.cells⟩) (qEo W) q hk;have h2:(qAV X q).getD (.agg ⟨qAi.cells⟩)=.agg ⟨((zD X q.1 q.2).getD qAi).cells⟩:=by unfold qAV;cases zD X q.1 q.2 <;> rfl
 rw [h1,qTP,h2]
def qBU (p:Pl) (s:qE):Int:=if jA p.S p.C s≠0 then jA p.S p.C s else if p.X.any (zP s) then 7 else if p.X.any (λo=>jC o s) then 6 else 0
def qCV (p:Pl) (s:qE):Pl:=if qBU p s≠0 then p else { p with X:=qG1 p.X s }
def qCR (W:World) (b:Nat) (f:qQ) (k:ByteArray):Prop:=W.cell? ⟨b,0,none⟩=some (.string k)∧W.cell? ⟨b,1,none⟩=some (.string f.cable)∧W.cell? ⟨b,2,none⟩=some (.int .i64 f.no)
theorem qCR.of {W:World} {b:Nat} {f:qQ} {k:ByteArray} {t:TypeId} (h:qC W b #[.string k,.string (f).cable,.int .i64 (f).no] t):qCR W b f k:=⟨h.cell 0 _ rfl,h.cell 1 _ rfl,h.cell 2 _ rfl⟩
theorem qIS {W:World} {a b:Nat} {cs cs':Array Value} {t t':TypeId} (h:qC W a cs t) (h':qC W b cs' t') (ht:t≠t'):a≠b:=by
 rintro rfl;unfold qC at h h';rw [h] at h';simp only [Option.some.injEq,Obj.cells.injEq] at h';exact ht h'.2.1
def JLk (W:World) (gb kE nn:Nat) (X:List qE) (bx:Nat) (f:qQ) (k:ByteArray):Prop:=qGZ W kE nn (qAV X)∧W.cell? ⟨gb,5,none⟩=some (.map (some kE))∧qCR W bx f k
def JnC (W:World) (gb:Nat) (vS vC vX:Value) (kS kC kE kM b bx b2:Nat) (s:qE):Prop:=GrC W gb vS vC vX kS kC kE kM∧qAJ W b s∧qCR W bx s.x s.site∧qCR W b2 s.y s.site
theorem JnC.grown {W W':World} {gb kS kC kE kM b bx b2:Nat} {vS vC vX:Value} {s:qE} {t0 t1 t2 t3:TypeId} (h0:qC W gb #[vS,vC,vX,.map (some kS),.map (some kC),.map (some kE),.map (some kM)] t0) (h1:qC W b ↑s t1) (h2:qC W bx #[.string s.site,.string (s.x).cable,.int .i64 (s.x).no] t2) (h3:qC W b2 #[.string s.site,.string (s.y).cable,.int .i64 (s.y).no] t3) (hm:∃es clock,W.heap[kE]? = some (.map es clock)) (hg:W.grownBy W' (some kE)) :
  JnC W' gb vS vC vX kS kC kE kM b bx b2 s:=by
 obtain⟨es,clock,hm⟩:=hm;have ne:∀{k:Nat} {c:Array Value} {t:TypeId},qC W k c t→some k≠some kE:=λhb e=>by
  obtain rfl:=Option.some.inj e;unfold qC at hb;rw [hm] at hb;cases hb
 have q0:=h0.grown hg (ne h0);exact⟨⟨q0.cell 0 _ rfl,q0.cell 1 _ rfl,q0.cell 2 _ rfl,q0.cell 3 _ rfl,q0.cell 4 _ rfl,q0.cell 5 _ rfl,q0.cell 6 _ rfl⟩,qAJ.of (h1.grown hg (ne h1)),qCR.of (h2.grown hg (ne h2)),qCR.of (h3.grown hg (ne h3))⟩
structure qD4 (base:Nat) (wf w W:World) (gb nn:Nat) (u:GrW) (p:Pl) (b bx b2:Nat) (s:qE):Prop where
 g:jI base wf W gb nn u p.S p.C p.X (qBE p.S) (qAT p.C) (qAV p.X)
 bl:Below base w W
 x:qC W b ↑s 79
 e1:qC W bx #[.string s.site,.string (s.x).cable,.int .i64 (s.x).no] 197
 e2:qC W b2 #[.string s.site,.string (s.y).cable,.int .i64 (s.y).no] 197
 z:base≤W.heap.size
theorem qD4.lk1 {wf:World} {base:Nat} {w W:World} {gb nn:Nat} {u:GrW} {p:Pl} {b bx b2:Nat} {s:qE} (h:qD4 base wf w W gb nn u p b bx b2 s):JLk W gb u.kE nn p.X bx s.x s.site:=⟨h.g.mE,h.g.cells.2.2.2.2.2.1,qCR.of h.e1⟩
theorem qD4.lk2 {wf:World} {base:Nat} {w W:World} {gb nn:Nat} {u:GrW} {p:Pl} {b bx b2:Nat} {s:qE} (h:qD4 base wf w W gb nn u p b bx b2 s):JLk W gb u.kE nn p.X b2 s.y s.site:=⟨h.g.mE,h.g.cells.2.2.2.2.2.1,qCR.of h.e2⟩
theorem qD4.cells {wf:World} {base:Nat} {w W:World} {gb nn:Nat} {u:GrW} {p:Pl} {b bx b2:Nat} {s:qE} (h:qD4 base wf w W gb nn u p b bx b2 s):JnC W gb u.vS u.vC u.vX u.kS u.kC u.kE u.kM b bx b2 s:=⟨h.g.cells,qAJ.of h.x,qCR.of h.e1,qCR.of h.e2⟩
theorem qD4.below {wf:World} {base:Nat} {w W W':World} {gb nn:Nat} {u:GrW} {p:Pl} {b bx b2:Nat} {s:qE} (h:qD4 base wf w W gb nn u p b bx b2 s) (hb:Below W.heap.size W W'):qD4 base wf w W' gb nn u p b bx b2 s :=
 ⟨h.g.below hb,h.bl.trans (hb.mono h.z),h.x.below hb h.x.lt,h.e1.below hb h.e1.lt,h.e2.below hb h.e2.lt,Nat.le_trans h.z hb.size⟩
theorem qSB {wf:World} (base gb nn:Nat) (p:Pl) (s:qE) (w:World) (h:qAe base wf w gb nn p) (hp:jS p) (hk:qDz s) (hl:p.X.length≤100) (hnn:nn≤1000) (hbw:base≤w.heap.size) :
  Calls prog 126 #[.pointer (some ⟨gb,0,none⟩),.agg ↑s] w
  λe w'=>e=.returned (.int .i64 (qBU p s))∧qAe base wf w' gb (nn+2) (qCV p s)∧Below base w w':=by
 obtain⟨u,h⟩:=h;obtain⟨aX,capX,hvX⟩:=jO h.oX;have HVX:=mH hvX;have HLG:Hx (gb<w.heap.size):=⟨h.lt⟩;have HLT:Hx (∀k,u.vX.ownBlock=some k→k<w.heap.size):=⟨λk hk=>(h.oX.lt k hk).2⟩;have hbs:=λW (hA:qI qE.cells 6 W p.X u.vX)=>qIf u.vX s p.X (λy=>zF y s) (jQ zF s p.X) 185 #[] W hA oM (qDG _ _ _) (qFC qAh hp.x1 s) (qAB func185 kR rfl) (λy w' _ _=>(qFq y s w').mono λe w'' ⟨he,hg⟩=>⟨he,hg.below⟩)
 rw [qKB hp,hvX] at hbs;have HBS:=mH hbs;clear hbs hvX;obtain⟨k1,hk1⟩:=hk.x;obtain⟨k2,hk2⟩:=hk.y;have HK:=mH (aI hk1 (aI hk2 (aI hk (qI4 hp s.site).1)));clear hk1 hk2 hk;have h1:=(h.alloc (.cells ↑s 79)).drew;have hx1:qC (w.alloc (.cells ↑s 79)).drew w.heap.size ↑s 79:=(qC.new w _ _).drew;have hB1:Below base w (w.alloc (.cells ↑s 79)).drew:=Below.drew (qB bR _ hbw);have hz1:base≤(w.alloc (.cells ↑s 79)).drew.heap.size:=by simp;omega
 have g2:=(h.alloc (.cells ↑s 79)).cells.2.2.1;rw [HVX.o] at g2;have hn5:¬(5000:Int)≤(p.X.length:Int):=by omega
 clear h;go_enter func126,ntmps126;go_wp2_with fail;clear g2 hn5;refine qA.start (λW=>GsX W gb u.vS u.vC (.slice aX p.X.length capX) u.kS u.kC u.kE u.kM w.heap.size s) [9] kR ?_;have hS:GsX (w.alloc (.cells ↑s 79)).drew gb u.vS u.vC (.slice aX p.X.length capX) u.kS u.kC u.kE u.kM w.heap.size s:=⟨by rw [←HVX.o];exact h1.cells,qAJ.of hx1,h1.lt,hx1.lt⟩;have H1:=mH (aI h1 (aI hB1 (aI hx1 hz1)));clear h1 hB1 hx1 hz1;generalize (w.alloc (.cells ↑s 79)).drew=W1 at *;refine qA.t 0 hS ?_;refine qA.q 1 ?_;refine qA.q 2 ?_;refine qA.q 3 ?_;refine qA.t 4 hS ?_;refine qA.q 5 ?_;refine qA.q 6 ?_;refine qA.q 7 ?_;refine qA.t 8 hS ?_;refine qA.nx 9 λK hK=>?_;go_simp
 refine(qGN p.S p.C s u.kS u.kC nn _ H1.o.1.mS H1.o.1.mC HK.o.2.2.2 HK.o.2.2.1).mono ?_;rintro e W2 ⟨rfl,hb2⟩;have hS2:=hS.below hb2;have h2:=H1.o.1.below hb2;have hx2:=H1.o.2.2.1.below hb2 H1.o.2.2.1.lt;have hB2:=H1.o.2.1.trans (hb2.mono H1.o.2.2.2);have hz2:=Nat.le_trans H1.o.2.2.2 hb2.size;have H2:=mH (aI h2 (aI hB2 (aI hx2 (aI hz2 hS2))));clear hS hb2 hS2 h2 hx2 hB2 hz2;refine qA.o hK ?_;clear hK K;refine qA.q 10 ?_;refine qA.done kR ?_
 by_cases hf:jA p.S p.C s=0
 rotate_left
 ·have hfb:(jA p.S p.C s != 0)=true:=by simp [hf]
  have hE1:qBU p s=jA p.S p.C s:=by unfold qBU;rw [if_pos hf]
  have hN:qCV p s=p:=by unfold qCV;rw [hE1,if_pos hf]
  have HE:=mH (aI hE1 hN);clear hE1 hN hf;go_wp2;go_ret;exact⟨qN HE.o.1.symm,by rw [HE.o.2];exact⟨u,H2.o.1.mono oM⟩,H2.o.2.1⟩
 have hfb:(jA p.S p.C s != 0)=false:=by simp [hf]
 have HF:=mH hf;clear hf;go_wp2_with fail;clear hfb;refine qA.start (λW=>GsX W gb u.vS u.vC (.slice aX p.X.length capX) u.kS u.kC u.kE u.kM w.heap.size s) [6] kR ?_;have hS:GsX W2.drew gb u.vS u.vC (.slice aX p.X.length capX) u.kS u.kC u.kE u.kM w.heap.size s:=H2.o.2.2.2.2.below (Below.drew bR);have h3:=H2.o.1.drew;have hx3:qC W2.drew w.heap.size ↑s 79:=H2.o.2.2.1.drew;have hB3:=H2.o.2.1.drew;have hz3:base≤W2.drew.heap.size:=H2.o.2.2.2.1;have H3:=mH (aI h3 (aI hB3 (aI hx3 hz3)));clear h3 hx3 hB3 hz3;generalize W2.drew=W3 at *;refine qA.q 0 ?_;refine qA.q 1 ?_;refine qA.q 2 ?_;refine qA.q 3 ?_;refine qA.t 4 hS ?_;refine qA.t 5 hS ?_;refine qA.nx 6 λK hK=>?_;go_simp
 refine(HBS.o _ (by rw [←HVX.o];exact(qI.of_own qE.cells_len H3.o.1.oX))).mono ?_;rintro e W4 ⟨rfl,hb4⟩;have hS4:=hS.below hb4;have h4:=H3.o.1.below hb4;have hx4:=H3.o.2.2.1.below hb4 H3.o.2.2.1.lt;have hB4:=H3.o.2.1.trans (hb4.mono H3.o.2.2.2);have hz4:=Nat.le_trans H3.o.2.2.2 hb4.size;have H4:=mH (aI h4 (aI hB4 (aI hx4 (aI hz4 hS4))));clear hS hb4 hS4 h4 hx4 hB4 hz4;refine qA.o hK ?_;clear hK K;refine qA.q 7 ?_;refine qA.q 8 ?_;refine qA.q 9 ?_;refine qA.q 10 ?_;refine qA.q 11 ?_;refine qA.done kR ?_
 cases hany:p.X.any (zP s)
 rotate_left
 ·have hE1:qBU p s=7:=by unfold qBU;rw [if_neg (by rw [HF.o];simp),if_pos hany]
  have hN:qCV p s=p:=by unfold qCV;rw [hE1];simp
  have HE:=mH (aI hE1 hN);clear hE1 hN hany;go_wp2;go_ret;exact⟨qN HE.o.1.symm,by rw [HE.o.2];exact⟨u,H4.o.1.mono oM⟩,H4.o.2.1⟩
 have HA:=mH hany;clear hany;go_wp2_with fail;refine qA.start (λW=>qAJ W w.heap.size s∧w.heap.size<W.heap.size) [] kR ?_;have h5:=H4.o.1.drew;have hx5:qC W4.drew w.heap.size ↑s 79:=H4.o.2.2.1.drew;have hB5:=H4.o.2.1.drew;have hz5:base≤W4.drew.heap.size:=H4.o.2.2.2.1;have hS:qAJ W4.drew w.heap.size s∧w.heap.size<W4.drew.heap.size:=⟨qAJ.of hx5,hx5.lt⟩;have H5:=mH (aI h5 (aI hB5 (aI hx5 hz5)));clear h5 hx5 hB5 hz5;generalize W4.drew=W5 at *;refine qA.q 0 ?_;refine qA.t 1 hS ?_;refine qA.q 2 ?_;refine qA.t 3 hS ?_;refine qA.q 4 ?_;refine qA.q 5 ?_;refine qA.t 6 hS ?_;refine qA.q 7 ?_;refine qA.t 8 hS ?_;refine qA.q 9 ?_;have hSb:∀W,Below W5.heap.size W5 W→qAJ W w.heap.size s∧w.heap.size<W.heap.size:=λW hb=>⟨hS.1.below hb hS.2,Nat.lt_of_lt_of_le hS.2 hb.size⟩
 have HSB:=mH hSb;clear hSb hS;refine qA.ready (rs:=[10,11]) kR sI ?_;refine qA3.cons rfl (λK hK=>?_) (qA3.cons rfl (λK hK=>?_) qA3.nil)
 focus
  go_simp;refine hK.out _ _ (λ_ _=>HSB.o _ (qB bR _ lR)) ?_;clear hK K;try simp only [Act.put,zL,zN,zH,zM,zK,zI]
  refine qA.nx 11 λK hK=>?_;go_simp
  refine hK.out _ _ (λ_ _=>HSB.o _ (qB (qB bR _ lR) _ sI)) ?_;clear hK K;try simp only [Act.put,zL,zN,zH,zM,zK,zI]
  refine qA.nx 12 λK hK=>?_;go_simp
  refine hK.out _ _ (λ_ _=>HSB.o _ (qB (qB bR _ lR) _ sI)) ?_;clear hK K;try simp only [Act.put,zL,zN,zH,zM,zK,zI]
  refine qA.nx 13 λK hK=>?_;go_simp
  refine hK.out _ _ (λ_ _=>HSB.o _ (qB (qB bR _ lR) _ sI)) ?_;clear hK K;try simp only [Act.put,zL,zN,zH,zM,zK,zI]
  refine qA.done kR ?_;have hbT:Below W5.heap.size W5 ((W5.alloc (.cells #[.string s.site,.string (s.x).cable,.int .i64 (s.x).no] 197)).alloc (.cells #[.string s.site,.string (s.y).cable,.int .i64 (s.y).no] 197)):=qB (qB bR _ lR) _ sI;have hJ:qD4 base wf w ((W5.alloc (.cells #[.string s.site,.string (s.x).cable,.int .i64 (s.x).no] 197)).alloc (.cells #[.string s.site,.string (s.y).cable,.int .i64 (s.y).no] 197)) gb nn u p w.heap.size W5.heap.size (W5.heap.size+1) s :=
   ⟨H5.o.1.below hbT,H5.o.2.1.trans (hbT.mono H5.o.2.2.2),H5.o.2.2.1.below hbT H5.o.2.2.1.lt,(qC.new W5 _ _).alloc _,qC.newAt sI,Nat.le_trans H5.o.2.2.2 hbT.size⟩
  obtain⟨bx,hbx⟩:=eX (W5.heap.size);obtain⟨b2,hb2⟩:=eX (W5.heap.size+1);rw [hb2] at hJ;rw [hb2];rw [hbx] at hJ;rw [hbx];generalize ((W5.alloc (.cells #[.string s.site,.string (s.x).cable,.int .i64 (s.x).no] 197)).alloc (.cells #[.string s.site,.string (s.y).cable,.int .i64 (s.y).no] 197))=W6 at *;clear hbT hbx hb2
 rotate_left
 focus
  go_simp;refine hK.out _ _ (λ_ _=>HSB.o _ (qB bR _ lR)) ?_;clear hK K;try simp only [Act.put,zL,zN,zH,zM,zK,zI]
  refine qA.nx 10 λK hK=>?_;go_simp
  refine hK.out _ _ (λ_ _=>HSB.o _ (qB (qB bR _ lR) _ sI)) ?_;clear hK K;try simp only [Act.put,zL,zN,zH,zM,zK,zI]
  refine qA.nx 12 λK hK=>?_;go_simp
  refine hK.out _ _ (λ_ _=>HSB.o _ (qB (qB bR _ lR) _ sI)) ?_;clear hK K;try simp only [Act.put,zL,zN,zH,zM,zK,zI]
  refine qA.nx 13 λK hK=>?_;go_simp
  refine hK.out _ _ (λ_ _=>HSB.o _ (qB (qB bR _ lR) _ sI)) ?_;clear hK K;try simp only [Act.put,zL,zN,zH,zM,zK,zI]
  refine qA.done kR ?_;have hbT:Below W5.heap.size W5 ((W5.alloc (.cells #[.string s.site,.string (s.y).cable,.int .i64 (s.y).no] 197)).alloc (.cells #[.string s.site,.string (s.x).cable,.int .i64 (s.x).no] 197)):=qB (qB bR _ lR) _ sI;have hJ:qD4 base wf w ((W5.alloc (.cells #[.string s.site,.string (s.y).cable,.int .i64 (s.y).no] 197)).alloc (.cells #[.string s.site,.string (s.x).cable,.int .i64 (s.x).no] 197)) gb nn u p w.heap.size (W5.heap.size+1) W5.heap.size s :=
   ⟨H5.o.1.below hbT,H5.o.2.1.trans (hbT.mono H5.o.2.2.2),H5.o.2.2.1.below hbT H5.o.2.2.1.lt,qC.newAt sI,(qC.new W5 _ _).alloc _,Nat.le_trans H5.o.2.2.2 hbT.size⟩
  obtain⟨bx,hbx⟩:=eX (W5.heap.size+1);obtain⟨b2,hb2⟩:=eX (W5.heap.size);rw [hbx] at hJ;rw [hbx];rw [hb2] at hJ;rw [hb2];generalize ((W5.alloc (.cells #[.string s.site,.string (s.y).cable,.int .i64 (s.y).no] 197)).alloc (.cells #[.string s.site,.string (s.x).cable,.int .i64 (s.x).no] 197))=W6 at *;clear hbT hbx hb2
 all_goals
  have HJ:=mH hJ;clear hJ HSB H5;obtain⟨o1,ho1⟩:∃o,(zD p.X s.x s.site).getD qAi=o:=⟨_,rfl⟩;obtain⟨m1,hm1⟩:∃b,(zD p.X s.x s.site).isSome=b:=⟨_,rfl⟩;obtain⟨o2,ho2⟩:∃o,(zD p.X s.y s.site).getD qAi=o:=⟨_,rfl⟩;obtain⟨m2,hm2⟩:∃b,(zD p.X s.y s.site).isSome=b:=⟨_,rfl⟩;have HO:=mH (aI (aI ho1 hm1) (aI ho2 hm2));clear ho1 hm1 ho2 hm2;go_wp2_with fail;refine qA.start (λW=>JLk W gb u.kE nn p.X bx s.x s.site) [] kR ?_;have hJ:qD4 base wf w W6.drew gb nn u p w.heap.size bx b2 s:=HJ.o.below (Below.drew bR);have hS:=hJ.lk1;replace HJ:=mH hJ;clear hJ;generalize W6.drew=W7 at *;refine qA.q 0 ?_;refine qA.q 1 ?_;refine qA.q 2 ?_;refine qA.t 3 hS ?_;refine qA.t 4 hS ?_;refine qA.take (i:=5) (v:=.tuple #[.agg ↑o1,.bool m1]) rfl kR kR kR kR (λ_ _ _ h=>h) hS (Or.inl ⟨by rfl,?_⟩) ?_;(· (intro wS hSw;(try dsimp only at hSw);obtain⟨hEM,_⟩:=hSw;have hlk:=qIm hEM (s.x,s.site) HK.o.1;rw [(HO.o.1).1,(HO.o.1).2] at hlk;go_simp;exact congrArg (λr=>Result.andThen r λa w'=>Result.ok (Next.value a) w') hlk));try simp only [Act.put,zL,zN,zH,zM,zK,zI]
  refine qA.q 6 ?_;refine qA.q 7 ?_;refine qA.q 8 ?_;clear hS;have HSB:Hx (∀W,Below W7.heap.size W7 W→JLk W gb u.kE nn p.X bx s.x s.site):=⟨λW hb=>(HJ.o.below hb).lk1⟩;refine qA.nx 9 λK hK=>?_;go_simp
  refine hK.out _ _ (λ_ _=>HSB.o _ (jZ _ _)) ?_;clear hK K;try simp only [Act.put,zL,zN,zH,zM,zK,zI]
  refine qA.nx 10 λK hK=>?_;go_simp
  refine hK.out _ _ (λ_ _=>HSB.o _ (jZ _ _)) ?_;clear hK K;try simp only [Act.put,zL,zN,zH,zM,zK,zI]
  refine qA.q 11 ?_;refine qA.done kR ?_;clear HSB;have hJ:qD4 base wf w (W7.alloc (.cells ↑o1 79)) gb nn u p w.heap.size bx b2 s:=HJ.o.below (jZ _ _);replace HJ:=mH hJ;clear hJ;generalize W7.alloc (.cells ↑o1 79)=W7b at *;go_wp2_with fail;refine qA.start (λW=>JLk W gb u.kE nn p.X b2 s.y s.site) [] kR ?_;have hJ:qD4 base wf w W7b.drew gb nn u p w.heap.size bx b2 s:=HJ.o.below (Below.drew bR);have hS:=hJ.lk2;replace HJ:=mH hJ;clear hJ;generalize W7b.drew=W8 at *;refine qA.q 0 ?_;refine qA.q 1 ?_;refine qA.q 2 ?_;refine qA.t 3 hS ?_;refine qA.t 4 hS ?_;refine qA.take (i:=5) (v:=.tuple #[.agg ↑o2,.bool m2]) rfl kR kR kR kR (λ_ _ _ h=>h) hS (Or.inl ⟨by rfl,?_⟩) ?_;(· (intro wS hSw;(try dsimp only at hSw);obtain⟨hEM,_⟩:=hSw;have hlk:=qIm hEM (s.y,s.site) HK.o.2.1;rw [(HO.o.2).1,(HO.o.2).2] at hlk;go_simp;exact congrArg (λr=>Result.andThen r λa w'=>Result.ok (Next.value a) w') hlk));try simp only [Act.put,zL,zN,zH,zM,zK,zI]
  refine qA.q 6 ?_;refine qA.q 7 ?_;refine qA.q 8 ?_;clear hS;have HSB:Hx (∀W,Below W8.heap.size W8 W→JLk W gb u.kE nn p.X b2 s.y s.site):=⟨λW hb=>(HJ.o.below hb).lk2⟩;refine qA.nx 9 λK hK=>?_;go_simp
  refine hK.out _ _ (λ_ _=>HSB.o _ (jZ _ _)) ?_;clear hK K;try simp only [Act.put,zL,zN,zH,zM,zK,zI]
  refine qA.nx 10 λK hK=>?_;go_simp
  refine hK.out _ _ (λ_ _=>HSB.o _ (jZ _ _)) ?_;clear hK K;try simp only [Act.put,zL,zN,zH,zM,zK,zI]
  refine qA.q 11 ?_;refine qA.done kR ?_;clear HSB;have hJ:qD4 base wf w (W8.alloc (.cells ↑o2 79)) gb nn u p w.heap.size bx b2 s:=HJ.o.below (jZ _ _);replace HJ:=mH hJ;clear hJ;generalize W8.alloc (.cells ↑o2 79)=W8b at *
  cases hm:(m1 || m2)
  rotate_left
  ·have hE1:qBU p s=6:=by unfold qBU;rw [if_neg (by rw [HF.o];simp),if_neg (by rw [HA.o];simp),if_pos (by rw [qL9,HO.o.1.2,HO.o.2.2];exact hm)]
   have hN:qCV p s=p:=by unfold qCV;rw [hE1];simp
   have HE:=mH (aI hE1 hN);clear hE1 hN
   cases m1
   ·have hm2:m2=true:=by simpa using hm
    clear hm;subst hm2;go_wp2;go_ret;exact⟨qN HE.o.1.symm,by rw [HE.o.2];exact⟨u,HJ.o.g.mono oM⟩,HJ.o.bl⟩
   ·clear hm;go_wp2;go_ret;exact⟨qN HE.o.1.symm,by rw [HE.o.2];exact⟨u,HJ.o.g.mono oM⟩,HJ.o.bl⟩
  have hm':=hm;rw [Bool.or_eq_false_iff] at hm;obtain⟨rfl,rfl⟩:=hm;have hnm:p.X.any (λo=>jC o s)=false:=by rw [qL9,HO.o.1.2,HO.o.2.2];rfl
  have hE1:qBU p s=0:=by unfold qBU;rw [if_neg (by rw [HF.o];simp),if_neg (by rw [HA.o];simp),if_neg (by rw [hnm];simp)]
  have hN:qCV p s={ p with X:=p.X.take (jQ zF s p.X)++s::p.X.drop (jQ zF s p.X) }:=by unfold qCV qG1;rw [hE1,qIi];simp
  have hmt:∀o∈p.X.take (jQ zF s p.X)++p.X.drop (jQ zF s p.X),jC o s=false:=λo ho=>by
   rw [List.take_append_drop] at ho;have:=List.any_eq_false.1 hnm o ho;simpa using this
  have HE:=mH (aI hE1 (aI hN hmt));clear hE1 hN hmt hnm hm';go_wp2_with fail;refine qA.start (λW=>JnC W gb u.vS u.vC (.slice aX p.X.length capX) u.kS u.kC u.kE u.kM w.heap.size bx b2 s∧gb<W.heap.size∧w.heap.size<W.heap.size∧bx<W.heap.size∧b2<W.heap.size) [9,13] kR ?_;have hJ:qD4 base wf w W8b.drew gb nn u p w.heap.size bx b2 s:=HJ.o.below (Below.drew bR);have hS:JnC W8b.drew gb u.vS u.vC (.slice aX p.X.length capX) u.kS u.kC u.kE u.kM w.heap.size bx b2 s∧gb<W8b.drew.heap.size∧w.heap.size<W8b.drew.heap.size∧bx<W8b.drew.heap.size∧b2<W8b.drew.heap.size:=⟨by rw [←HVX.o];exact hJ.cells,hJ.g.lt,hJ.x.lt,hJ.e1.lt,hJ.e2.lt⟩;replace HJ:=mH hJ;clear hJ;generalize W8b.drew=W9 at *;have hpz:(0:Int)≤(jQ zF s p.X:Int):=by omega
  refine qA.q 0 ?_;refine qA.q 1 ?_;refine qA.q 2 ?_;refine qA.q 3 ?_;refine qA.q 4 ?_;refine qA.t 5 hS ?_ (hy:=by intro wS hSw;(try dsimp only at hSw);obtain⟨⟨⟨g0,g1,g2,g3,g4,g5,g6⟩,⟨s0,s1,s2,s3,s4,s5⟩,⟨e0,e1,e2⟩,⟨d0,d1,d2⟩⟩,l1,l2,l3,l4⟩:=hSw;go_simp;try with_reducible rfl);refine qA.q 6 ?_;refine qA.t 7 hS ?_ (hy:=by intro wS hSw;(try dsimp only at hSw);obtain⟨⟨⟨g0,g1,g2,g3,g4,g5,g6⟩,⟨s0,s1,s2,s3,s4,s5⟩,⟨e0,e1,e2⟩,⟨d0,d1,d2⟩⟩,l1,l2,l3,l4⟩:=hSw;go_simp;try with_reducible rfl);refine qA.nx 8 λK hK=>?_;go_simp
  have HB9:=mH (show qD4 base wf w (W9.alloc (.cells ↑s 79)) gb nn u p w.heap.size bx b2 s from HJ.o.below (jZ _ _));refine hK.out _ _ (λ_ _=>⟨by rw [←HVX.o];exact HB9.o.cells,HB9.o.g.lt,HB9.o.x.lt,HB9.o.e1.lt,HB9.o.e2.lt⟩) ?_;clear hK K;try simp only [Act.put,zL,zN,zH,zM,zK,zI]
  refine qA.nx 9 λK hK=>?_;go_simp
  have hv4:=HB9.o.g.oX;rw [HVX.o] at hv4;refine(qOj (.slice aX p.X.length capX) p.X (jQ zF s p.X) s W9.heap.size base _ hv4 (qDG _ _ _) (qC.new W9 _ _) (λe=>by have:=(HJ.o.g.oX.lt _ (by rw [HVX.o];exact e)).2;omega) (by have:=HB9.o.z;omega) oM).mono ?_;rintro e W10 ⟨v',rfl,ho5,hg5⟩;obtain⟨a5,c5,rfl⟩:=jO ho5;have H6B:Hx (Below base w W10):=⟨jG HB9.o.bl hv4 hg5 lR HB9.o.z⟩;rw [←HVX.o] at hg5;have hb5:=HB9.o.g.blk.grown hg5 (λe=>qA2 HB9.o.g.oX HB9.o.g.blk dE e.symm);have k0:=hb5.cell 2 _ rfl;rw [HVX.o] at k0;have kf:=λo=>hb5.free o
  have hx5:=HB9.o.x.grown hg5 (λe=>by have:=HLT.o _ e.symm;omega);have he5:=HB9.o.e1.grown hg5 (λe=>qA2 HB9.o.g.oX HB9.o.e1 dE e.symm);have hd5:=HB9.o.e2.grown hg5 (λe=>qA2 HB9.o.g.oX HB9.o.e2 dE e.symm);have h6:=HB9.o.g.rowX (X':=p.X.take (jQ zF s p.X)++s::p.X.drop (jQ zF s p.X)) (by rw [qKP (qDG _ _ _)];exact ho5) hg5;have H6:=mH (aI h6 (aI hx5 (aI he5 hd5)));clear hv4 ho5 hg5 hb5 h6 hx5 he5 hd5 hS;refine qA.o hK ?_;clear hK K;refine qA.q 10 ?_;refine qA.q 11 ?_;refine qA.q 12 ?_;refine qA.nx 13 λK hK=>?_;go_simp
  refine qA.o hK ?_;clear hK K;refine qA.done kR ?_;have hbl6:=H6.o.2.1.setOther (show w.heap.size≠gb by have:=HLG.o;omega) 2 (.slice a5 (p.X.length+1) c5);have hb1:=(H6.o.2.2.1.setOther (show bx≠gb from qIS HJ.o.e1 HJ.o.g.blk dE) 2 (.slice a5 (p.X.length+1) c5)).drew;have hb2':=(H6.o.2.2.2.setOther (show b2≠gb from qIS HJ.o.e2 HJ.o.g.blk dE) 2 (.slice a5 (p.X.length+1) c5)).drew;have h7:=H6.o.1.drew;have hB6:Below base w (W10.setCell ⟨gb,2,none⟩ (.slice a5 (p.X.length+1) c5)).drew:=(Below.setCell H6B.o H6.o.1.low.1 _).drew;go_wp2_with fail;refine qA.start (λW=>JnC W gb u.vS u.vC (.slice a5 (p.X.length+1) c5) u.kS u.kC u.kE u.kM w.heap.size bx b2 s) [] kR ?_;have hS:JnC (W10.setCell ⟨gb,2,none⟩ (.slice a5 (p.X.length+1) c5)).drew gb u.vS u.vC (.slice a5 (p.X.length+1) c5) u.kS u.kC u.kE u.kM w.heap.size bx b2 s:=⟨h7.cells,qAJ.of hbl6.drew,qCR.of hb1,qCR.of hb2'⟩;have H7:=mH (aI h7 (aI hB6 (aI hbl6.drew (aI hb1 hb2'))));clear h7 hB6 hbl6 hb1 hb2' k0 kf;generalize (W10.setCell ⟨gb,2,none⟩ (.slice a5 (p.X.length+1) c5)).drew=W11 at *;have HG:Hx (∀W,W11.grownBy W (some u.kE)→JnC W gb u.vS u.vC (.slice a5 (p.X.length+1) c5) u.kS u.kC u.kE u.kM w.heap.size bx b2 s):=⟨λW hg=>JnC.grown H7.o.1.blk H7.o.2.2.1 H7.o.2.2.2.1 H7.o.2.2.2.2 (qOJ H7.o.1.mE) hg⟩;refine qA.q 0 ?_;refine qA.q 1 ?_;refine qA.q 2 ?_;refine qA.t 3 hS ?_;refine qA.t 4 hS ?_;refine qA.q 5 ?_;refine qA.q 6 ?_;refine qA.q 7 ?_;refine qA.t 8 hS ?_;refine qA.t 9 hS ?_
  refine qA.t 10 hS ?_;refine qA.t 11 hS ?_;clear hS;obtain⟨v1,n1,Wa,hr1,hga,hst1⟩:=H7.o.1.mE.entry qMn qC7 underlying102 qEo (by unfold maxLen;omega) (s.x,s.site) HK.o.1;obtain⟨Wb,hr2,hmb,hgb⟩:=hst1 (.agg ↑s);obtain⟨v2,n2,Wc,hr3,hgc,hst2⟩:=zA.entry hmb qMn qC7 underlying102 qEo (by unfold maxLen;omega) (s.y,s.site) HK.o.2.1;obtain⟨Wd,hr4,hmd,hgd⟩:=hst2 (.agg ↑s);have HM:=mH (aI hga (aI hgb (aI (hgb.trans hgc) (aI (hgb.trans hgd) (aI hmd (aI hr1 (aI hr2 (aI hr3 hr4))))))));clear hga hgb hgc hgd hmb hmd hst1 hst2 hr1 hr2 hr3 hr4;refine qA.nx 12 λK hK=>?_
  refine qJI rF _ _ 102 rfl rF rF HM.o.2.2.2.2.2.1 ?_;refine hK.out _ _ (λ_ _=>HG.o _ HM.o.1) ?_;clear hK K;try simp only [Act.put,zL,zN,zH,zM,zK,zI]
  refine qA.q 13 ?_;refine qA.nx 14 λK hK=>?_
  refine qIc rF _ _ _ 102 rfl rF rF rF HM.o.2.2.2.2.2.2.1 ?_;refine hK.out _ _ (λ_ _=>HG.o _ HM.o.2.1) ?_;clear hK K;try simp only [Act.put,zL,zN,zH,zM,zK,zI]
  refine qA.nx 15 λK hK=>?_
  refine qJI rF _ _ 102 rfl rF rF HM.o.2.2.2.2.2.2.2.1 ?_;refine hK.out _ _ (λ_ _=>HG.o _ HM.o.2.2.1) ?_;clear hK K;try simp only [Act.put,zL,zN,zH,zM,zK,zI]
  refine qA.q 16 ?_;refine qA.nx 17 λK hK=>?_
  refine qIc rF _ _ _ 102 rfl rF rF rF HM.o.2.2.2.2.2.2.2.2 ?_;refine hK.out _ _ (λ_ _=>HG.o _ HM.o.2.2.2.1) ?_;clear hK K;try simp only [Act.put,zL,zN,zH,zM,zK,zI]
  refine qA.done kR ?_;go_wp2;go_ret;have hc8:=(H7.o.1.mapE HM.o.2.2.2.1 (Nat.le_add_right nn 2) HM.o.2.2.2.2.1).congr (m3':=qAV (p.X.take (jQ zF s p.X)++s::p.X.drop (jQ zF s p.X))) (λ_=>rfl) (λ_=>rfl) (λk=>by have:=qM5 HE.o.2.2 k;rw [List.take_append_drop] at this;exact this);exact⟨qN HE.o.1.symm,by rw [HE.o.2.1];exact⟨_,hc8⟩,H7.o.2.1.trans (qEN HM.o.2.2.2.1 H7.o.1.low.2.2.2.1 (Nat.le_trans hbw H7.o.2.1.size))⟩
end Go.Proofs.YtbgnlfgkgklkdaaGreatDoor
