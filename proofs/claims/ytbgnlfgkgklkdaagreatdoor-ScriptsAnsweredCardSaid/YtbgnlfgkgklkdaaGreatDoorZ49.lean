/- Parts of the proof of ScriptsAnswered: SsS, StH, StB, StC, StR, StL, SrE. No condition. -/
import Derived.Test.YtbgnlfgkgklkdaaGreatDoorZ47
import Derived.Test.YtbgnlfgkgklkdaaGreatDoorZ27
import Derived.Test.YtbgnlfgkgklkdaaGreatDoorZ54
set_option linter.unusedVariables false
set_option linter.unusedSimpArgs false
set_option maxHeartbeats 8000000
set_option maxRecDepth 100000
namespace Go.Proofs.YtbgnlfgkgklkdaaGreatDoor
open Go Go.RowKit Tryz
theorem qM3 {p:Pl} (h:jS p):∀x∈p.X,jF x:=by
 intro x hx;obtain⟨_,h2,h3,_⟩:=qDY (h.x2 x hx);have key:∀f:qQ,jX p.C f=true→qJV f:=λf hf=>by
  obtain⟨c,hc⟩:=qCG hf;obtain⟨_,k1,k2⟩:=qFc h hc;unfold jX at hf;rw [hc] at hf;have h9:1≤f.no∧f.no≤c.fibs:=by simpa using hf
  exact⟨by omega,by omega⟩
 exact⟨key _ h2,key _ h3⟩
theorem qS6 {p:Pl} {e:qD} (h:(zV p e).1≠0):(zV p e).2=p:=by
 revert h
 unfold zV
 repeat' split
 all_goals first|(intro _;rfl)|(intro h;exact absurd rfl h)
def Fm (n sb mb:Nat) (vd:Value) (r:Nat):Prop:=r<n+2∨r=mb∨r=sb∨vd.ownBlock=some r
structure TdS (w W:World) (v:Value) (sb mb:Nat) (v0 v1 v2 vd:Value) (p:Pl) (m n:Nat) (R:List (Nat × Int)) (vo:Value) (L:List Nat):Prop where
 bel:Below w.heap.size w W
 bx:qC W w.heap.size #[v] 62
 rs:qC W (w.heap.size+1) #[.slice none 0 0,.slice none 0 0,.slice none 0 0,.slice none 0 0,.map none] 175
 st:qC W sb #[v0,v1,v2,vd,.map (some mb)] 175
 pl:PlF (Fm w.heap.size sb mb vd) W v0 v1 v2 p
 mp:zA prog 3 qFQ W mb n (qC9 R)
 dn:∃xs,W.ownsRow (sb+1) 3 1 vd m xs
 od:zG qAP 1 (w.heap.size+2) W vo L
 oq:∀r,vo.ownBlock=some r→r<mb
 l1:w.heap.size+2≤mb
 l2:mb<sb
theorem TdS.next {w W W':World} {v:Value} {sb mb:Nat} {v0 v1 v2 vd:Value} {p:Pl} {m n:Nat} {R:List (Nat × Int)} {vo:Value} {L:List Nat} (h:TdS w W v sb mb v0 v1 v2 vd p m n R vo L) (hb:Below W.heap.size W W'):TdS w W' v sb mb v0 v1 v2 vd p m n R vo L:=by
 obtain⟨xs,hx⟩:=h.dn;exact⟨h.bel.trans (hb.mono h.bel.size),h.bx.below hb h.bx.lt,h.rs.below hb h.rs.lt,h.st.below hb h.st.lt,h.pl.next hb,h.mp.below hb h.mp.lt,⟨xs,qAv hx hb⟩,h.od.below hb,h.oq,h.l1,h.l2⟩
theorem TdS.mapped {w W W':World} {v:Value} {sb mb:Nat} {v0 v1 v2 vd:Value} {p:Pl} {m n n':Nat} {R R':List (Nat × Int)} {vo:Value} {L:List Nat} (h:TdS w W v sb mb v0 v1 v2 vd p m n R vo L) (hg:W.grownBy W' (some mb)) (hm:zA prog 3 qFQ W' mb n' (qC9 R')):TdS w W' v sb mb v0 v1 v2 vd p m n' R' vo L:=by
 obtain⟨xs,hx⟩:=h.dn;have h1:=h.l1;have h2:=h.l2;exact⟨h.bel.trans (jE hg oM h.bel.size),h.bx.grown hg (λe=>by have:=Option.some.inj e;omega),h.rs.grown hg (λe=>by have:=Option.some.inj e;omega),h.st.grown hg (λe=>by have:=Option.some.inj e;omega),
  h.pl.grown hg (λb e=>.inr (.inl (Option.some.inj e).symm)),hm,⟨xs,qDa hx hg oM⟩,h.od.grown hg (λk hk e=>by have:=h.oq k hk;have:=Option.some.inj e;omega),h.oq,h.l1,h.l2⟩
theorem TdS.planted {w W:World} {v:Value} {sb mb:Nat} {v0 v1 v2 vd u0 u1 u2:Value} {p q:Pl} {m n:Nat} {R:List (Nat × Int)} {vo:Value} {L:List Nat} (h:TdS w W v sb mb v0 v1 v2 vd p m n R vo L) (hq:PlF (Fm w.heap.size sb mb vd) W u0 u1 u2 q):TdS w (((W.setCell ⟨sb,0,none⟩ u0).setCell ⟨sb,1,none⟩ u1).setCell ⟨sb,2,none⟩ u2) v sb mb u0 u1 u2 vd q m n R vo L:=by
 obtain⟨xs,hx⟩:=h.dn;have h1:=h.l1;have h2:=h.l2;have hg:W.grownBy (((W.setCell ⟨sb,0,none⟩ u0).setCell ⟨sb,1,none⟩ u1).setCell ⟨sb,2,none⟩ u2) (some sb):=qO sb [u0,u1,u2] 0 W;exact⟨h.bel.trans (jE hg oM h.bel.size),h.bx.grown hg (λe=>by have:=Option.some.inj e;omega),h.rs.grown hg (λe=>by have:=Option.some.inj e;omega),((h.st.set 0 u0).set 1 u1).set 2 u2,
  hq.grown hg (λb e=>.inr (.inr (.inl (Option.some.inj e).symm))),h.mp.kept hg (λe=>by have:=Option.some.inj e;omega),⟨xs,qDa hx hg oM⟩,h.od.grown hg (λk hk e=>by have:=h.oq k hk;have:=Option.some.inj e;omega),h.oq,h.l1,h.l2⟩
theorem TdS.longer {w W W':World} {v:Value} {sb mb:Nat} {v0 v1 v2 vd u:Value} {p:Pl} {m m' n:Nat} {R:List (Nat × Int)} {vo:Value} {L:List Nat} {ys:List Value} (h:TdS w W v sb mb v0 v1 v2 vd p m n R vo L) (hg:W.grownBy W' vd.ownBlock) (hu:W'.ownsRow (sb+1) 3 1 u m' ys) (ha:u.ownBlock=vd.ownBlock∨u.ownBlock=some W.heap.size):TdS w (W'.setCell ⟨sb,3,none⟩ u) v sb mb v0 v1 v2 u p m' n R vo L:=by
 obtain⟨xs,hx⟩:=h.dn;have h1:=h.l1;have h2:=h.l2;have hlt:=hx.lt;have hne:∀k,k≤sb→vd.ownBlock≠some k:=λk hk e=>by have:=(hlt k e).1;omega
 have hb':=h.bel.trans ⟨hg.os,hg.tape,hg.output,hg.size,λk hk=>hg.block k (Nat.lt_of_lt_of_le hk h.bel.size) (λe=>by have:=(hlt k e.symm).1;omega)⟩;have hs:=qO sb [u] 3 W';have hp2:PlF (Fm w.heap.size sb mb u) W' v0 v1 v2 p:=by
  have h3:PlF (λr=>Fm w.heap.size sb mb vd r∨r=W.heap.size) W v0 v1 v2 p:=h.pl.tw λb hb hF hG=>hG.elim hF (λe=>by omega)
  have h4:=h3.grown hg (λb e=>.inl (.inr (.inr (.inr e))));refine h4.tw λb _ hF hG=>hF ?_
  rcases hG with e|e|e|e
  ·exact .inl (.inl e)
  ·exact .inl (.inr (.inl e))
  ·exact .inl (.inr (.inr (.inl e)))
  ·rcases ha with q|q
   ·exact .inl (.inr (.inr (.inr (q.symm.trans e))))
   ·exact .inr (Option.some.inj (e.symm.trans q))
 exact⟨hb'.trans (jE hs oM hb'.size),(h.bx.grown hg (λe=>hne _ oM e.symm)).setOther oM 3 u,(h.rs.grown hg (λe=>hne _ oM e.symm)).setOther oM 3 u,(h.st.grown hg (λe=>hne _ oM e.symm)).set 3 u,
  hp2.grown hs (λb e=>.inr (.inr (.inl (Option.some.inj e).symm))),(h.mp.kept hg (λe=>hne mb oM e.symm)).kept hs (λe=>by have:=Option.some.inj e;omega),⟨ys,qDa hu hs oM⟩,(h.od.grown hg (λk hk e=>hne k (by have:=h.oq k hk;omega) e)).setNe (λe=>by have:=h.oq _ e;omega) 3 u,h.oq,h.l1,h.l2⟩
def StP (p:Pl) (R:List (Nat × Int)) (w:World) (e:Ending) (w':World):Prop:=∃v0 v1 v2 ad m cd mb n,e=.returned (.agg #[v0,v1,v2,.slice ad m cd,.map (some mb)])∧PlF (λr=>r<w.heap.size) w' v0 v1 v2 p∧zA prog 3 qFQ w' mb n (qC9 R)∧n≤100∧Below w.heap.size w w'
theorem qMA (l:List qD) (v:Value) (at_:Int) (w:World) (hA:qI qD.cells 17 w l v) (hl:l.length<19) (hE:qAD qP l) (hok:∀e∈l,jF e.spc) (hkd:∀e∈l,zC e.kind 1 5=false) :
  Calls prog 114 #[v,.int .i64 at_] w (StP (zB l at_) (jU l (ixL l at_)).2 w):=by
 obtain⟨i0,hi,hz0,hz1,hz2⟩:=info_parts qGv;obtain⟨a,cap,rfl,hcap,hmax,hc⟩:=id hA;unfold maxLen at hmax;have HA:=mH (aI hA (aI hE (aI hok (aI hkd hc))));have hbx:qC ((w.alloc (.cells #[.slice a l.length cap] 62)).alloc (.cells #[.slice none 0 0,.slice none 0 0,.slice none 0 0,.slice none 0 0,.map none] 175)) w.heap.size #[.slice a l.length cap] 62:=(qC.new w _ _).alloc _;have hbr:qC ((w.alloc (.cells #[.slice a l.length cap] 62)).alloc (.cells #[.slice none 0 0,.slice none 0 0,.slice none 0 0,.slice none 0 0,.map none] 175)) (w.heap.size+1) #[.slice none 0 0,.slice none 0 0,.slice none 0 0,.slice none 0 0,.map none] 175:=qC.newAt sI;have hBa:Below w.heap.size w ((w.alloc (.cells #[.slice a l.length cap] 62)).alloc (.cells #[.slice none 0 0,.slice none 0 0,.slice none 0 0,.slice none 0 0,.map none] 175)):=by exact qS
 have hzz:w.heap.size+2≤((w.alloc (.cells #[.slice a l.length cap] 62)).alloc (.cells #[.slice none 0 0,.slice none 0 0,.slice none 0 0,.slice none 0 0,.map none] 175)).heap.size:=by simp
 have H1:=mH (aI hBa (aI hbx (aI hbr hzz)));have t0:=hbx.cell 0 (.slice a l.length cap) rfl;have hmm:=@run_makeMap prog;clear hA hE hok hkd hc hbx hbr hBa hzz;go_enter func114,ntmps114;go_wp2_with fail;generalize (w.alloc (.cells #[.slice a l.length cap] 62)).alloc (.cells #[.slice none 0 0,.slice none 0 0,.slice none 0 0,.slice none 0 0,.map none] 175)=W1 at *;go_loopw [5,15] (λov iv wr=>∃k:Nat,k≤l.length∧iv=.int .i64 k∧wr.ownsRow (w.heap.size+2) 3 1 ov ((List.range k).filter λi=>decide ((zZ l i).at_≤at_)).length (((List.range k).filter λi=>decide ((zZ l i).at_≤at_)).flatMap qAP)∧Below w.heap.size w wr∧qC wr w.heap.size #[.slice a l.length cap] 62∧qC wr (w.heap.size+1) #[.slice none 0 0,.slice none 0 0,.slice none 0 0,.slice none 0 0,.map none] 175∧w.heap.size+2≤wr.heap.size) (λ_ iv _=>l.length - (intOf iv).toNat)
 case atStart=>exact⟨0,by omega,rfl,World.ownsRow_nil _ _ _ _,H1.o.1,H1.o.2.1,H1.o.2.2.1,H1.o.2.2.2⟩
 case round =>
  clear H1 t0;obtain⟨k,hk,rfl,ho,hB,hbx,hbr,hzr⟩:=hrel;have hfl:((List.range k).filter λi=>decide ((zZ l i).at_≤at_)).length≤19:=Nat.le_trans (List.length_filter_le _ _) (by simp;omega);have hnx:((List.range (k+1)).filter λi=>decide ((zZ l i).at_≤at_))=((List.range k).filter λi=>decide ((zZ l i).at_≤at_))++if (zZ l k).at_≤at_ then [k] else []:=by
   rw [List.range_succ,List.filter_append]
   congr 1
   by_cases h:(zZ l k).at_≤at_
   ·rw [if_pos h,List.filter_cons_of_pos (by simpa using h)];rfl
   ·rw [if_neg h,List.filter_cons_of_neg (by simpa using h)];rfl
  have HNX:=mH hnx;obtain⟨K,hK⟩:=eX (((List.range k).filter λi=>decide ((zZ l i).at_≤at_)));have HK:=mH hK;rw [hK] at ho hfl HNX;obtain⟨ao,co,hvo⟩:=jO ho;subst hvo;have HB:=mH (aI ho (aI hB (aI hbx hbr)));clear ho hB hbx hbr hnx hK
  by_cases hlt:k<l.length
  ·obtain⟨b,off,rfl,hb,hcc⟩:=HA.o.2.2.2.2 k hlt;have e1:qV wr b (off+k*17) l[k]:=(qC0 hcc).below HB.o.2.1 hb;have he1:=mH e1;have hke:zZ l k=l[k]:=qBV hlt;rw [hke] at HNX;have hk':(k:Int)<l.length:=by omega
   generalize l[k]=x at *;clear hcc e1 hke
   by_cases ht:x.at_≤at_
   ·have hnx:=HNX.o;rw [if_pos ht] at hnx;have HN:=mH hnx;have htb:decide (x.at_≤at_)=true:=by simpa using ht
    clear ht hnx;go_wp2_with (first|(refine wpList_load_mid rfl 81 _ rfl (b) (off+k*17) rF ↑x _ (he1.o) underlying81 rfl kR ?_)|(refine jR (w0:=wr) rfl 81 _ _ rfl _ ↑x rF rF kR rfl (zS x) ?_)|((at_builtin;go_must (refine wpList_append_own _ rfl _ _ 22 rfl _ 3 _ (.int .i64 0) 1 8 underlying22 hi hz0 hz1 hz2 rfl dE _ _ _ rfl ((HB.o.1.alloc _).alloc _) ⟨(wr.heap.size+1),0,none⟩ 1 1 [.int .i64 (k:Int)] rfl rfl (by exact qBC (by first|rfl|simp) rF) (by simp [Value.oneCell']) (by unfold maxLen;omega) oM szq ?_));intro v' w4 hown4 hg4 _));refine⟨⟨k+1,by omega,by go_num,?_,jG (HB.o.2.1.trans (qB (qB bR _ oM) _ (by simp;omega))) ((HB.o.1.alloc _).alloc _) hg4 oM (by simp;omega),((HB.o.2.2.1.alloc _).alloc _).grown hg4 (λe=>by have:=(HB.o.1.lt _ e.symm).1;omega),((HB.o.2.2.2.alloc _).alloc _).grown hg4 (λe=>by have:=(HB.o.1.lt _ e.symm).1;omega),?_⟩,by simp [intOf];omega⟩
    ·rw [HN.o,List.length_append,List.flatMap_append];exact hown4
    ·have:=hg4.size;simp at this;omega
   ·have hnx:=HNX.o;rw [if_neg ht,List.append_nil] at hnx;have HN:=mH hnx;have htb:decide (x.at_≤at_)=false:=by simpa using ht
    clear ht hnx;go_wp2_with (first|(refine wpList_load_mid rfl 81 _ rfl (b) (off+k*17) rF ↑x _ (he1.o) underlying81 rfl kR ?_)|(refine jR (w0:=wr) rfl 81 _ _ rfl _ ↑x rF rF kR rfl (zS x) ?_));refine⟨⟨k+1,by omega,by go_num,?_,qB HB.o.2.1 _ oM,HB.o.2.2.1.alloc _,HB.o.2.2.2.alloc _,by simp;omega⟩,by simp [intOf];omega⟩;rw [HN.o];exact HB.o.1.alloc _
  obtain rfl:k=l.length:=by omega
  have hKi:K=qFY l at_:=HK.o.symm;have hrow:zG qAP 1 (w.heap.size+2) wr (.slice ao K.length co) K:=zG.of_own (cells:=qAP) (λ_=>rfl) HB.o.1;have hmem:∀i∈K,i<l.length:=λi hi=>by rw [hKi] at hi;exact(qH0.1 hi).1
  have hcl:qE2 (λi=>i<l.length) 170 #[.pointer (some ⟨w.heap.size,0,none⟩)] qD9 (cIx l) wr (.slice ao K.length co):=by
   intro x y w' hx hy hgr;have hne:∀k,k<w.heap.size+2→(Value.slice ao K.length co).ownBlock≠some k:=λk hk e=>by have:=(hrow.lt k e).1;omega
   have hB':Below w.heap.size w w':=HB.o.2.1.trans ⟨hgr.os,hgr.tape,hgr.output,hgr.size,λk hk=>hgr.block k (Nat.lt_of_lt_of_le hk HB.o.2.1.size) (λe=>hne k oM e.symm)⟩;exact qQ4 l x y hx hy w.heap.size _ _ w' (HB.o.2.2.1.grown hgr (λe=>hne _ oM e.symm)) (HA.o.1.below hB')
  have HCL:=mH (aI hcl (aI hrow (aI hKi hmem)));clear hcl hrow hKi hmem;go_wp2_with fail;refine(qNM (λi=>i<l.length) _ K HCL.o.2.2.2 (cIx l) 170 #[.pointer (some ⟨w.heap.size,0,none⟩)] (w.heap.size+2) wr HCL.o.2.1 oM (qJL l) (qAB func170 kR rfl) HCL.o.1).mono ?_;rintro e w5 ⟨rfl,L,hp,has,hrv,hg5⟩;have hLi:L=ixL l at_:=qOK HA.o.2.1 (by rw [←HCL.o.2.2.1];exact hp) has;have hll:L.length=K.length:=hp.length_eq;have hne:∀k,k<w.heap.size+2→(Value.slice ao K.length co).ownBlock≠some k:=λk hk e=>by have:=(HCL.o.2.1.lt k e).1;omega
  have hB5:Below w.heap.size w w5:=HB.o.2.1.trans ⟨hg5.os,hg5.tape,hg5.output,hg5.size,λk hk=>hg5.block k (Nat.lt_of_lt_of_le hk HB.o.2.1.size) (λe=>hne k oM e.symm)⟩;have H5:=mH (aI hB5 (aI (HB.o.2.2.1.grown hg5 (λe=>hne _ oM e.symm)) (aI (HB.o.2.2.2.grown hg5 (λe=>hne _ oM e.symm)) (aI hrv (aI hLi (aI (Nat.le_trans hzr hg5.size) (λi hi=>HCL.o.2.2.2 i (hp.mem_iff.1 hi):∀i∈L,i<l.length)))))));rw [←hll] at H5 ⊢;have hL19:L.length≤19:=by omega
  clear hp has hrv hg5 hB5 hLi hne HCL HB HK HNX hll hfl;go_wp2_with fail;have hst:TdS w ((w5.alloc (.map #[] 0)).alloc (.cells #[.slice none 0 0,.slice none 0 0,.slice none 0 0,.slice none 0 0,.map (some w5.heap.size)] 175)) (.slice a l.length cap) (w5.heap.size+1) w5.heap.size (.slice none 0 0) (.slice none 0 0) (.slice none 0 0) (.slice none 0 0) (jU l (L.take 0)).1 0 0 (jU l (L.take 0)).2 (.slice ao L.length co) L :=
   ⟨qB (qB H5.o.1 _ H5.o.1.size) _ (by have:=H5.o.1.size;simp;omega),(H5.o.2.1.alloc _).alloc _,(H5.o.2.2.1.alloc _).alloc _,qC.newAt sI,⟨Cm.nil _ _ _ _,Cm.nil _ _ _ _,Cm.nil _ _ _ _⟩,(zA.congr (zA.made _ _ _ _) λq=>by simp [qKf,qC9,qBl]).alloc _,⟨[],World.ownsRow_nil _ _ _ _⟩,(H5.o.2.2.2.1.below (qB (qB bR _ lR) _ sI)),λr hr=>(H5.o.2.2.2.1.lt r hr).2,H5.o.2.2.2.2.2.1,by omega⟩
  have HST:=mH hst;obtain⟨mb,hmb⟩:=eX (w5.heap.size);rw [hmb] at HST
  try rw [hmb]
  generalize (w5.alloc (.map #[] 0)).alloc (.cells #[.slice none 0 0,.slice none 0 0,.slice none 0 0,.slice none 0 0,.map (some mb)] 175)=W6 at *;clear hst hmb;go_wp2;obtain⟨wo,rfl⟩:∃wo:World,wo=wr:=⟨_,rfl⟩;go_loopw [36] (λiv wr=>∃(k:Nat) (v0 v1 v2 vd:Value) (m:Nat),k≤L.length∧m≤k∧iv=.int .i64 k∧TdS w wr (.slice a l.length cap) (mb+1) mb v0 v1 v2 vd (jU l (L.take k)).1 m k (jU l (L.take k)).2 (.slice ao L.length co) L) (λiv _=>L.length - (intOf iv).toNat)
  case atStart=>exact⟨0,_,_,_,_,0,by omega,by omega,rfl,HST.o⟩
  case round =>
   clear HST;obtain⟨k,v0,v1,v2,vd,m,hk,hmk,rfl,hT⟩:=hrel;have HT:=mH hT;clear hT;obtain⟨sb,hsb⟩:=eX (mb+1);rw [hsb] at HT
   try rw [hsb]
   obtain⟨p,hp⟩:=eX ((jU l (L.take k)).1);obtain⟨R,hR⟩:=eX ((jU l (L.take k)).2);rw [hp,hR] at HT;obtain⟨xs0,hx0⟩:=HT.o.dn;obtain⟨ad,cd,hvd⟩:=jO hx0;subst hvd;obtain⟨a0,l0,c0,rfl⟩:=jM HT.o.pl.arr.s;obtain⟨a1,l1,c1,rfl⟩:=jM HT.o.pl.arr.c;obtain⟨a2,l2,c2,rfl⟩:=jM HT.o.pl.arr.x
   by_cases hlt:k<L.length
   rotate_left
   ·obtain rfl:k=L.length:=by omega
    rw [List.take_length] at hp hR;have hL:=H5.o.2.2.2.2.1;rw [hL] at hp hR;have s0:=HT.o.st.cell 0 _ rfl;have s1:=HT.o.st.cell 1 _ rfl;have s2:=HT.o.st.cell 2 _ rfl;have s3:=HT.o.st.cell 3 _ rfl;have s4:=HT.o.st.cell 4 _ rfl;have r0:=HT.o.rs.cell 0 _ rfl;have r1:=HT.o.rs.cell 1 _ rfl;have r2:=HT.o.rs.cell 2 _ rfl;have r3:=HT.o.rs.cell 3 _ rfl;have r4:=HT.o.rs.cell 4 _ rfl;have f0:=HT.o.rs.free 0;have f1:=HT.o.rs.free 1;have f2:=HT.o.rs.free 2;have f3:=HT.o.rs.free 3;have f4:=HT.o.rs.free 4;have hls:=HT.o.st.lt;have hlr:=HT.o.rs.lt;have HP:=mH (aI hp hR);clear hp hR hx0 hL;go_wp2;have hg:wr.grownBy _ (some (w.heap.size+1)):=qO (w.heap.size+1) [.slice a0 l0 c0,.slice a1 l1 c1,.slice a2 l2 c2,.slice ad m cd,.map (some mb)] 0 wr;refine bodyPost_ret (v:=.agg #[.slice a0 l0 c0,.slice a1 l1 c1,.slice a2 l2 c2,.slice ad m cd,.map (some mb)]) ?_ rfl ⟨_,_,_,_,_,_,mb,L.length,rfl,?_,?_,by omega,?_⟩
    ·exact results_cell_row rfl _ _ (w.heap.size+1) 175 #[.slice a0 l0 c0,.slice a1 l1 c1,.slice a2 l2 c2,.slice ad m cd,.map (some mb)] (0,0) _ rfl (qC.fill5 HT.o.rs) underlying175 rfl kR
    ·have:=(HT.o.pl.grown hg (λb e=>.inl (by have:=Option.some.inj e;omega))).tw (G:=λr=>r<w.heap.size) (λb _ h1 h2=>h1 (.inl oM));unfold zB;rw [HP.o.1];exact this
    ·rw [HP.o.2];have h1:=HT.o.l1;exact HT.o.mp.kept hg (λe=>by have:=Option.some.inj e;omega)
    ·exact Below.fill5 HT.o.bel oM _ _ _ _ _
   have hnd:L.Nodup:=by
    rw [H5.o.2.2.2.2.1];exact(qJB HA.o.2.1 at_).1.nodup_iff.2 (List.Pairwise.sublist List.filter_sublist List.nodup_range)
   have hlk:(L.take k).length=k:=by rw [List.length_take];omega
   have hrt:=qJY l (L.take k) oM;rw [hp,hlk] at hrt;obtain⟨hpR,hs1,hs2,hs3⟩:=hrt;have hil:L[k]<l.length:=H5.o.2.2.2.2.2.2 _ (List.getElem_mem hlt);obtain⟨b,off,rfl,hb,hcc⟩:=HA.o.2.2.2.2 L[k] hil;have hst:=qJj (l:=l) hlt;have hfr:=qJk (l:=l) hnd hlt;rw [qBV hil,hp,hR] at hst;rw [hR] at hfr;have hokx:=HA.o.2.2.1 l[L[k]] (List.getElem_mem hil);have he0:=qC0 hcc;have t1:∃g,ao=some ⟨g,0,none⟩∧wr.cell? ⟨g,k,none⟩=some (.int .i64 (L[k]:Nat))∧g<wr.heap.size:=by
    rcases HT.o.od with⟨-,h⟩|⟨g,cap2,hv,hg2,hc2,hm2,hr⟩
    ·exfalso;rw [h] at hlt;exact absurd hlt sI
    ·simp only [Value.slice.injEq,true_and] at hv;refine⟨g,hv.1,?_,?_⟩
     ·have:=hr.1 k hlt 0 _ rfl
      simpa [qD9] using this
     ·have h3:=HT.o.oq g (by rw [hv.1];rfl);have:=HT.o.mp.lt;omega
   obtain⟨g,rfl,o0,hgl⟩:=t1;generalize l[L[k]]=x at *;generalize L[k]=i at *;have hil':(i:Int)<l.length:=by omega
   have hSS:∀W':World,Below wr.heap.size wr W'→(W'.cell? ⟨sb,0,none⟩=some (.slice a0 l0 c0)∧W'.cell? ⟨sb,1,none⟩=some (.slice a1 l1 c1)∧W'.cell? ⟨sb,2,none⟩=some (.slice a2 l2 c2))∧W'.cell? ⟨w.heap.size,0,none⟩=some (.slice (some ⟨b,off,none⟩) l.length cap)∧qV W' b (off+i*17) x:=λW' hb'=>by
    have h:=HT.o.next hb'
    exact⟨⟨h.st.cell 0 _ rfl,h.st.cell 1 _ rfl,h.st.cell 2 _ rfl⟩,h.bx.cell 0 _ rfl,he0.below h.bel hb⟩
   have hFl:∀r,Fm w.heap.size sb mb (.slice ad m cd) r→r<wr.heap.size:=λr h=>by
    rcases h with e|e|e|e
    ·have:=HT.o.rs.lt;omega
    ·have:=HT.o.mp.lt;omega
    ·have:=HT.o.st.lt;omega
    ·exact(hx0.lt r e).2
   have hk18:k<19:=by omega
   obtain⟨n1,q1,hq⟩:∃n1 q1,zV p x=(n1,q1):=⟨_,_,rfl⟩;rw [hq] at hst;dsimp only at hst;have HQ:=mH hq;clear hq;have HX:=mH (aI hpR (aI hokx (aI hst (aI hfr (aI hSS (aI hFl hil))))));have HZ:=mH (aI hs1 (aI hs2 hs3));clear hpR hokx hst hfr hSS hFl hs1 hs2 hs3 hcc he0 hp hR hnd hlk hx0;go_wp2_with fail;go_cut [11,12] from 40 to 50 (λq r wc=>∃hb u0 u1 u2,q=.pointer (some ⟨hb,0,none⟩)∧r=.int .i64 n1∧wr.heap.size≤hb∧qC wc hb #[u0,u1,u2] 69∧Below wr.heap.size wr wc∧PlF (Fm w.heap.size sb mb (.slice ad m cd)) wc u0 u1 u2 q1)
   case first =>
    have hdr:Below wr.heap.size wr wr.drew:=by exact qS
    have hS:=HX.o.2.2.2.2.1 wr.drew hdr;refine qA.start (λW:World=>(W.cell? ⟨sb,0,none⟩=some (.slice a0 l0 c0)∧W.cell? ⟨sb,1,none⟩=some (.slice a1 l1 c1)∧W.cell? ⟨sb,2,none⟩=some (.slice a2 l2 c2))∧W.cell? ⟨w.heap.size,0,none⟩=some (.slice (some ⟨b,off,none⟩) l.length cap)∧qV W b (off+i*17) x) [11] kR ?_;refine qA.q 0 ?_;refine qA.t 1 hS ?_;refine qA.t 2 hS ?_;refine qA.q 3 ?_;refine qA.q 4 ?_;refine qA.take (i:=5) (v:=.agg ↑x) rfl kR kR kR kR (λ_ _ _ h=>h) hS (yieldsIf_load_mid (by first|rfl|(go_simp;done)) 81 _ rfl (b) (off+i*17) rF ↑x _ (λ_ h=>h.2.2) underlying81 rfl kR) ?_;try simp only [Act.put,zL,zN,zH,zM,zK,zI]
    refine qA.ready (rs:=[6,10]) kR sI (qA3.cons rfl (λK hK=>?_) (qA3.cons rfl (λK hK=>?_) qA3.nil))
    ·go_simp;have hcall:=(qId p x HX.o.1 (by have:=HZ.o.1;omega) (by have:=HZ.o.2.1;omega) (by have:=HZ.o.2.2;omega) (qM3 HX.o.1) HX.o.2.1 (Fm w.heap.size sb mb (.slice ad m cd)) _ _ _ wr.drew HX.o.2.2.2.2.2.1 (HT.o.pl.next hdr));rw [HQ.o] at hcall;refine hcall.mono ?_;clear hcall;rintro r w4 ⟨u0,u1,u2,rfl,hpf,hb4⟩;obtain⟨b0,m0,d0,rfl⟩:=jM hpf.arr.s;obtain⟨b1,m1,d1,rfl⟩:=jM hpf.arr.c;obtain⟨b2,m2,d2,rfl⟩:=jM hpf.arr.x;have hb4':Below wr.heap.size wr w4:=hdr.trans hb4;have hS4:=HX.o.2.2.2.2.1 w4 hb4';have hS5:=HX.o.2.2.2.2.1 (w4.alloc (.cells #[.slice none 0 0,.slice none 0 0,.slice none 0 0] 69)) (qB hb4' _ hb4'.size);have H4:=mH (aI hpf hb4');clear hpf hb4 hb4' hS;refine qA.on hK (λ_ _=>hS4) ?_;clear hK K;refine qA.q 7 ?_;refine qA.q 8 ?_;refine qA.q 9 ?_;refine qA.nx 10 λK hK=>?_;go_simp
     refine qA.on hK (λ_ _=>hS5) ?_;clear hK K;clear hS4 hS5;refine qA.nx 11 λK hK=>?_;go_simp
     refine qA.o hK ?_;clear hK K;refine qA.q 12 ?_;refine qA.done kR ?_;go_wp2_with fail;go_meet;exact⟨_,_,_,_,rfl,rfl,H4.o.2.size,qC.new _ _ _,qB H4.o.2 _ H4.o.2.size,H4.o.1.next (qB bR _ lR)⟩
    ·go_simp;have hb4:Below wr.heap.size wr (wr.alloc (.cells #[.slice none 0 0,.slice none 0 0,.slice none 0 0] 69)).drew:=by exact qS
     have hbn:qC (wr.alloc (.cells #[.slice none 0 0,.slice none 0 0,.slice none 0 0] 69)).drew wr.heap.size #[.slice none 0 0,.slice none 0 0,.slice none 0 0] 69:=(qC.new wr _ _).drew;have hS4:=HX.o.2.2.2.2.1 _ hb4;refine qA.on hK (λ_ _=>hS4) ?_;clear hK K;refine qA.nx 6 λK hK=>?_;go_simp
     have hcall:=(qId p x HX.o.1 (by have:=HZ.o.1;omega) (by have:=HZ.o.2.1;omega) (by have:=HZ.o.2.2;omega) (qM3 HX.o.1) HX.o.2.1 (λr=>Fm w.heap.size sb mb (.slice ad m cd) r∨r=wr.heap.size) _ _ _ (wr.alloc (.cells #[.slice none 0 0,.slice none 0 0,.slice none 0 0] 69)).drew (λr h=>by
      have hz4:=hbn.lt
      rcases h with h|h
      ·have:=HX.o.2.2.2.2.2.1 r h;omega
      ·omega) ((HT.o.pl.tw (G:=λr=>Fm w.heap.size sb mb (.slice ad m cd) r∨r=wr.heap.size) (λb h1 h2 h3=>h3.elim h2 (λe=>by omega))).next hb4))
     rw [HQ.o] at hcall;refine hcall.mono ?_;clear hcall;rintro r w5 ⟨u0,u1,u2,rfl,hpf,hb5⟩;obtain⟨b0,m0,d0,rfl⟩:=jM hpf.arr.s;obtain⟨b1,m1,d1,rfl⟩:=jM hpf.arr.c;obtain⟨b2,m2,d2,rfl⟩:=jM hpf.arr.x;have hb5':=hb4.trans (hb5.mono hb4.size);have hS5:=HX.o.2.2.2.2.1 w5 hb5';have hr5:=hbn.below hb5 hbn.lt;refine qA.on hK (λ_ _=>hS5) ?_;clear hK K;refine qA.q 7 ?_;refine qA.q 8 ?_;refine qA.q 9 ?_;have x0:=hr5.cell 0 _ rfl;have x1:=hr5.cell 1 _ rfl;have x2:=hr5.cell 2 _ rfl;have f0:=hr5.free 0;have f1:=hr5.free 1;have f2:=hr5.free 2;have H5':=mH (aI hr5 (aI hb5' hpf));clear hr5 hb5' hb5 hb4 hbn hS hS4 hS5 hpf;refine qA.nx 11 λK hK=>?_;go_simp
     refine qA.o hK ?_;clear hK K;refine qA.q 12 ?_;refine qA.done kR ?_;go_wp2_with fail;go_meet;exact⟨_,_,_,_,rfl,rfl,Nat.le_refl _,qC.fill3 H5'.o.1,Below.fill3 H5'.o.2.1 lR _ _ _,(H5'.o.2.2.grown (qO wr.heap.size [.slice b0 m0 d0,.slice b1 m1 d1,.slice b2 m2 d2] 0 w5) (λb e=>.inr (Option.some.inj e).symm)).tw (λb _ h1 h2=>h1 (.inl h2))⟩
   case rest =>
   obtain⟨hbx,u0,u1,u2,rfl,rfl,hlo,hbh,hbc,hpf⟩:=hcut;rename World=>W6
   obtain⟨b0,m0,d0,rfl⟩:=jM hpf.arr.s;obtain⟨b1,m1,d1,rfl⟩:=jM hpf.arr.c;obtain⟨b2,m2,d2,rfl⟩:=jM hpf.arr.x;have hT6:=HT.o.next hbc
   have y0:=hbh.cell 0 _ rfl;have y1:=hbh.cell 1 _ rfl;have y2:=hbh.cell 2 _ rfl;have s0:=hT6.st.cell 0 _ rfl;have s1:=hT6.st.cell 1 _ rfl;have s2:=hT6.st.cell 2 _ rfl;have s3:=hT6.st.cell 3 _ rfl;have s4:=hT6.st.cell 4 _ rfl;have f0:=hT6.st.free 0;have f1:=hT6.st.free 1;have f2:=hT6.st.free 2;have f3:=hT6.st.free 3;have hlb:=hbh.lt;have hls:=hT6.st.lt;have hfr:=HX.o.2.2.2.1;have hst:=HX.o.2.2.1
   by_cases hz:n1=0
   ·have hzb:(n1 != 0)=false:=by rw [hz];rfl
    have hst0:jU l (L.take (k+1))=(q1,R):=by rw [hst,if_neg (by simpa using hz)]
    have hT9:=(hT6.planted hpf).next (qB bR (.cells #[.int .i64 (i:Nat)] 3) lR)
    obtain⟨xs9,hx9⟩:=hT9.dn;have HF:=mH (aI hT9 hst0);clear hT9 hst0 hst hfr hT6 hpf hbh hbc hz;go_wp2_with ((at_builtin;go_must (refine wpList_append_own_at _ rfl _ _ 22 rfl _ 3 _ (.int .i64 0) 1 8 underlying22 hi hz0 hz1 hz2 rfl dE _ _ _ rfl hx9 ⟨W6.heap.size,0,none⟩ 1 1 [.int .i64 (i:Int)] rfl rfl (by exact qBC (by first|rfl|simp) rF) (by simp [Value.oneCell']) (by unfold maxLen;omega) oM szq ?_));intro v' w8 hown8 hg8 _ hob8;obtain⟨a8,c8,rfl⟩:=jO hown8;have hst8:=HF.o.1.st.grown hg8 (λe=>by have:=(hx9.lt _ e.symm).1;omega);have z3:=hst8.cell 3 _ rfl;have z3f:=hst8.free 3;have z3l:=hst8.lt);refine⟨⟨k+1,.slice b0 m0 d0,.slice b1 m1 d1,.slice b2 m2 d2,.slice a8 (m+1) c8,m+1,by omega,by omega,by go_num,?_⟩,by simp [intOf];omega⟩;rw [HF.o.2];have h:=HF.o.1.longer hg8 hown8 hob8;exact { h with mp:=h.mp.mono oM }
   ·have hzb:(n1 != 0)=true:=by simpa using hz
    have hqp:q1=p:=by have:=qS6 (p:=p) (e:=x) (by rw [HQ.o];exact hz);rw [HQ.o] at this;exact this
    have hst0:jU l (L.take (k+1))=(p,R++[(i,n1)]):=by rw [hst,if_pos hz,hqp]
    obtain⟨kl,hkl⟩:=qJQ (i:Int) (WalkArith.wf_i64 oM);have HF:=mH (aI hT6 (aI hst0 (aI hkl hfr)));clear hst0 hst hfr hT6 hpf hbh hbc hkl hqp;go_wp2_with (at_mapUpdate;refine qCU rF _ _ _ _ rfl qEl underlying151 qLy HF.o.1.mp (by unfold maxLen;omega) rfl (i:Int) HF.o.2.2.1 rfl _ rfl ?_;intro w7 hM7 hg7);refine⟨⟨k+1,.slice a0 l0 c0,.slice a1 l1 c1,.slice a2 l2 c2,.slice ad m cd,m,by omega,by omega,by go_num,?_⟩,by simp [intOf];omega⟩;rw [HF.o.2.1];exact HF.o.1.mapped hg7 (hM7.congr λq=>qKr HF.o.2.2.2 q)
theorem qPn:(prog.info? 56).map (λi=>(i.zero,i.size,i.bytes))=some (some (.int .i64 0),1,8):=by kernel_rfl
theorem qN5 (W:World) (a b c d e:Value):(Instr.field 175 (.agg #[a,b,c,d,e]) 0).run prog W=.ok (.agg #[a,b,c]) W:=by
 kernel_rfl
theorem qFM (l:List qD) (v:Value) (at_:Int) (w:World) (hA:qI qD.cells 17 w l v) (hl:l.length<19) (hE:qAD qP l) (hok:∀e∈l,jF e.spc) (hkd:∀e∈l,zC e.kind 1 5=false) :
  Calls prog 68 #[v,.int .i64 at_] w λe w'=>∃v0 v1 v2,e=.returned (.agg #[v0,v1,v2])∧PlF (λr=>r<w.heap.size) w' v0 v1 v2 (zB l at_)∧Below w.heap.size w w':=by
 have hb:qC (w.alloc (.cells #[.slice none 0 0,.slice none 0 0,.slice none 0 0] 69)) w.heap.size #[.slice none 0 0,.slice none 0 0,.slice none 0 0] 69:=qC.new _ _ _;have hBa:Below w.heap.size w (w.alloc (.cells #[.slice none 0 0,.slice none 0 0,.slice none 0 0] 69)):=qB bR _ lR;have hz:(w.alloc (.cells #[.slice none 0 0,.slice none 0 0,.slice none 0 0] 69)).heap.size=w.heap.size+1:=by simp
 have HA:=mH (aI (hA.below hBa) (aI hE (aI hok (aI hkd (aI hb (aI hBa hz))))));clear hA hE hok hkd hb hBa hz;go_enter func68,ntmps68;go_wp2_with fail;generalize w.alloc (.cells #[.slice none 0 0,.slice none 0 0,.slice none 0 0] 69)=W1 at *;refine(qMA l v at_ W1 HA.o.1 hl HA.o.2.1 HA.o.2.2.1 HA.o.2.2.2.1).mono ?_;rintro e W2 ⟨v0,v1,v2,ad,m,cd,mb,n,rfl,hpl,-,-,hb2⟩;obtain⟨a0,l0,c0,rfl⟩:=jM hpl.arr.s;obtain⟨a1,l1,c1,rfl⟩:=jM hpl.arr.c;obtain⟨a2,l2,c2,rfl⟩:=jM hpl.arr.x;have hr2:=HA.o.2.2.2.2.1.below hb2 HA.o.2.2.2.2.1.lt;have hB2:=HA.o.2.2.2.2.2.1.trans (hb2.mono HA.o.2.2.2.2.2.1.size);have r0:=hr2.cell 0 _ rfl;have r1:=hr2.cell 1 _ rfl;have r2:=hr2.cell 2 _ rfl;have f0:=hr2.free 0;have f1:=hr2.free 1;have f2:=hr2.free 2;have hlr:=hr2.lt;have H2:=mH (aI hpl (aI hr2 hB2));have hfld:=λW:World=>qN5 W (.slice a0 l0 c0) (.slice a1 l1 c1) (.slice a2 l2 c2) (.slice ad m cd) (.map (some mb))
 clear hpl hr2 hB2 hb2;go_wp2;have hg:W2.grownBy _ (some w.heap.size):=qO w.heap.size [.slice a0 l0 c0,.slice a1 l1 c1,.slice a2 l2 c2] 0 W2;refine bodyPost_ret (v:=.agg #[.slice a0 l0 c0,.slice a1 l1 c1,.slice a2 l2 c2]) ?_ rfl ⟨_,_,_,rfl,?_,?_⟩
 ·exact results_cell_row rfl _ _ w.heap.size 69 #[.slice a0 l0 c0,.slice a1 l1 c1,.slice a2 l2 c2] (0,0) _ rfl (qC.fill3 H2.o.2.1) underlying69 rfl kR
 ·exact(H2.o.1.grown hg (λb e=>by have:=Option.some.inj e;have:=HA.o.2.2.2.2.2.2;omega)).tw (λb _ h1 h2=>h1 (by have h3:b<w.heap.size:=h2;have:=HA.o.2.2.2.2.2.2;omega))
 ·exact Below.fill3 H2.o.2.2 lR _ _ _
theorem qG5 (l:List qD) (v:Value) (at_:Int) (w:World) (hA:qI qD.cells 17 w l v) (hl:l.length<19) (hE:qAD qP l) (hok:∀e∈l,jF e.spc) (hkd:∀e∈l,zC e.kind 1 5=false) :
  Calls prog 68 #[v,.int .i64 at_] w λe w'=>∃v0 v1 v2,e=.returned (.agg #[v0,v1,v2])∧qAN w' v0 v1 v2 (zB l at_).S (zB l at_).C (zB l at_).X∧Below w.heap.size w w' :=
 (qFM l v at_ w hA hl hE hok hkd).mono λe w' h=>by
  obtain⟨v0,v1,v2,h1,h2,h3⟩:=h;exact⟨v0,v1,v2,h1,h2.arr,h3⟩
theorem qSQ (l:List qD) (k:Nat):(qCT l k).length≤k:=by
 unfold qCT;exact Nat.le_trans (List.length_filterMap_le _ _) sI
theorem qGs {W:World} {B B2 sz sz2 n m:Nat} {e e2:TypeId} {v u:Value} {xs ys:List Value} (h:W.ownsRow B e sz v n xs) (h2:W.ownsRow B2 e2 sz2 u m ys) (ht:e≠e2):∀r,u.ownBlock=some r→v.ownBlock≠some r:=by
 intro r hr
 rcases h2.2 with⟨rfl,_⟩|⟨g,cap,cur,rfl,_,hh,_⟩
 ·cases hr
 ·simp only [Value.ownBlock,Option.some.injEq] at hr;subst hr;exact qA2 h hh ht
def qU9 (l:List qD) (w:World) (e:Ending) (w':World):Prop:=∃v1 v2,e=.returned (.tuple #[v1,v2])∧w'.ownsRow w.heap.size 3 1 v1 (qCT l l.length).length ((qCT l l.length).map λq=>Value.int .i64 (q.1:Nat))∧w'.ownsRow w.heap.size 56 1 v2 (qCT l l.length).length ((qCT l l.length).map λq=>Value.int .i64 q.2)∧Below w.heap.size w w'
theorem qLd (l:List qD) (v:Value) (w:World) (hA:qI qD.cells 17 w l v) (hl:l.length<19) (hE:qAD qP l) (hok:∀e∈l,jF e.spc) (hkd:∀e∈l,zC e.kind 1 5=false) :
  Calls prog 104 #[v] w (qU9 l w):=by
 obtain⟨i0,hi,hz0,hz1,hz2⟩:=info_parts qGv;obtain⟨e0,ei,ez0,ez1,ez2⟩:=info_parts qPn;obtain⟨a,cap,rfl,-⟩:=id hA;have HA:=mH (aI hA (aI hE (aI hok hkd)));clear hA hE hok hkd;go_enter func104,ntmps104;go_wp2_with fail;refine(qMA l _ 345686400000 w HA.o.1 hl HA.o.2.1 HA.o.2.2.1 HA.o.2.2.2).mono ?_;rintro e W2 ⟨v0,v1,v2,ad,m,cd,mb,n,rfl,hpl,hm,hn,hb2⟩;obtain⟨a0,l0,c0,rfl⟩:=jM hpl.arr.s;obtain⟨a1,l1,c1,rfl⟩:=jM hpl.arr.c;obtain⟨a2,l2,c2,rfl⟩:=jM hpl.arr.x;have hbx:qC (W2.alloc (.cells #[.slice a0 l0 c0,.slice a1 l1 c1,.slice a2 l2 c2,.slice ad m cd,.map (some mb)] 175)) W2.heap.size #[.slice a0 l0 c0,.slice a1 l1 c1,.slice a2 l2 c2,.slice ad m cd,.map (some mb)] 175:=qC.new _ _ _;have hB3:Below w.heap.size w (W2.alloc (.cells #[.slice a0 l0 c0,.slice a1 l1 c1,.slice a2 l2 c2,.slice ad m cd,.map (some mb)] 175)):=qB hb2 _ hb2.size;have hm3:=hm.alloc (.cells #[.slice a0 l0 c0,.slice a1 l1 c1,.slice a2 l2 c2,.slice ad m cd,.map (some mb)] 175);have hmb:=hm.lt;have hz3:W2.heap.size+1≤(W2.alloc (.cells #[.slice a0 l0 c0,.slice a1 l1 c1,.slice a2 l2 c2,.slice ad m cd,.map (some mb)] 175)).heap.size:=by simp
 have hw2:=hb2.size;have H3:=mH (aI hB3 (aI hbx (aI hm3 hz3)));clear hpl hm hb2 hbx hB3 hm3 hz3;go_wp2_with fail;generalize W2.alloc (.cells #[.slice a0 l0 c0,.slice a1 l1 c1,.slice a2 l2 c2,.slice ad m cd,.map (some mb)] 175)=W3 at *;go_loopw [5,6,14] (λo1 o2 iv wr=>∃k:Nat,k≤l.length∧iv=.int .i64 k∧wr.ownsRow (W2.heap.size+1) 3 1 o1 (qCT l k).length ((qCT l k).map λq=>Value.int .i64 (q.1:Nat))∧wr.ownsRow (W2.heap.size+1) 56 1 o2 (qCT l k).length ((qCT l k).map λq=>Value.int .i64 q.2)∧Below w.heap.size w wr∧qC wr W2.heap.size #[.slice a0 l0 c0,.slice a1 l1 c1,.slice a2 l2 c2,.slice ad m cd,.map (some mb)] 175∧zA prog 3 qFQ wr mb n (qC9 (qBw l))∧W2.heap.size+1≤wr.heap.size) (λo1 o2 iv _=>l.length - (intOf iv).toNat)
 case atStart=>exact⟨0,by omega,rfl,World.ownsRow_nil _ _ _ _,World.ownsRow_nil _ _ _ _,H3.o.1,H3.o.2.1,H3.o.2.2.1,H3.o.2.2.2⟩
 case round =>
  clear H3;obtain⟨k,hk,rfl,h1,h2,hB,hbx,hm,hz⟩:=hrel;have hln:=qSQ l k;have hsu:=qPy l k;obtain⟨K,hK⟩:=eX (qCT l k);rw [hK] at h1 h2 hln hsu;obtain⟨b1,d1,hv1⟩:=jO h1;subst hv1;obtain⟨b2,d2,hv2⟩:=jO h2;subst hv2;have s4:=hbx.cell 4 (.map (some mb)) rfl;have hlb:=hbx.lt;have HB:=mH (aI h1 (aI h2 (aI hB (aI hbx (aI hm (aI hsu hK))))));clear h1 h2 hB hbx hm hsu hK
  by_cases hlt:k<l.length
  rotate_left
  ·obtain rfl:k=l.length:=by omega
   go_wp2;go_ret2;have h1:=HB.o.1;have h2:=HB.o.2.1;rw [←HB.o.2.2.2.2.2.2] at h1 h2 ⊢;exact⟨_,_,rfl,qAm h1 oM,qAm h2 oM,HB.o.2.2.1⟩
  have hk':(k:Int)<l.length:=by omega
  obtain⟨kl,hkl⟩:=qJQ (k:Int) (WalkArith.wf_i64 oM);have HM:=mH (aI HB.o.2.2.2.2.1 hkl);clear hkl
  cases hr:qBl (qBw l) k with
  | some r =>
   have hsu:=HB.o.2.2.2.2.2.1;rw [hr] at hsu;have hq1:(qC9 (qBw l) (k:Int)).getD (.int .i64 0)=.int .i64 r:=by rw [qD2,hr];rfl
   have hq2:(qC9 (qBw l) (k:Int)).isSome=true:=by rw [qD2,hr];rfl
   have HSU:Hx (qCT l (k+1)=K++[(k,r)]):=mH hsu;clear hr hsu;go_wp2_with (first|(at_lookup;refine qDt rF _ _ _ rfl qEl underlying151 (qIL _) HM.o.1 rfl (k:Int) HM.o.2 rfl ?_;rw [hq1,hq2])|((at_builtin;(refine wpList_append_own _ rfl _ _ 22 rfl _ 3 _ (.int .i64 0) 1 8 underlying22 hi hz0 hz1 hz2 rfl dE _ _ _ rfl (HB.o.1.alloc _) ⟨wr.heap.size,0,none⟩ 1 1 [.int .i64 (k:Int)] rfl rfl (by exact qBC (by first|rfl|simp) rF) (by simp [Value.oneCell']) (by unfold maxLen;omega) oM szq ?_));intro v' w4 hown4 hg4 _;have hz4:wr.heap.size+1≤w4.heap.size:=(by have:=hg4.size;simpa using this))|((at_builtin;(refine wpList_append_own _ rfl _ _ 164 rfl _ 56 _ (.int .i64 0) 1 8 underlying164 ei ez0 ez1 ez2 rfl dE _ _ _ rfl ((jK (HB.o.2.1.alloc _) hg4 (qGs HB.o.2.1 HB.o.1 dE)).alloc _) ⟨w4.heap.size,0,none⟩ 1 1 [.int .i64 r] rfl rfl (by exact qBC (by first|rfl|simp) rF) (by simp [Value.oneCell']) (by unfold maxLen;omega) oM szq ?_));intro v'' w5 hown5 hg5 _));have h24:=jK (HB.o.2.1.alloc (.cells #[.int .i64 (k:Int)] 3)) hg4 (qGs HB.o.2.1 HB.o.1 dE);have hb4:Below (W2.heap.size+1) wr w4:=(qB (Below.refl _ wr) _ hz).trans (qCt (HB.o.1.alloc _) hg4 (by simp;omega));have hb5:Below (W2.heap.size+1) w4 w5:=(qB (Below.refl _ w4) _ oM).trans (qCt (h24.alloc _) hg5 (by simp;omega));have hb:=hb4.trans hb5;have h15:=jK (hown4.alloc _) hg5 (qGs hown4 h24 dE);refine⟨⟨k+1,by omega,by go_num,?_,?_,HB.o.2.2.1.trans (hb.mono oM),HB.o.2.2.2.1.below hb oM,HB.o.2.2.2.2.1.below hb oM,Nat.le_trans hz hb.size⟩,by simp [intOf];omega⟩
   ·rw [HSU.o,List.length_append,List.map_append];exact h15
   ·rw [HSU.o,List.length_append,List.map_append];exact hown5
  | none =>
   have hsu:=HB.o.2.2.2.2.2.1;rw [hr] at hsu;have hq1:(qC9 (qBw l) (k:Int)).getD (.int .i64 0)=.int .i64 0:=by rw [qD2,hr];rfl
   have hq2:(qC9 (qBw l) (k:Int)).isSome=false:=by rw [qD2,hr];rfl
   have HSU:Hx (qCT l (k+1)=K):=mH (by rw [hsu];simp);clear hr hsu;go_wp2_with (at_lookup;refine qDt rF _ _ _ rfl qEl underlying151 (qIL _) HM.o.1 rfl (k:Int) HM.o.2 rfl ?_;rw [hq1,hq2]);refine⟨⟨k+1,by omega,by go_num,?_,?_,HB.o.2.2.1,HB.o.2.2.2.1,HB.o.2.2.2.2.1,hz⟩,by simp [intOf];omega⟩
   ·rw [HSU.o];exact HB.o.1
   ·rw [HSU.o];exact HB.o.2.1
section
variable {P : Program} {ops : Array Oper} {Q : Exit → Act → World → Prop} {md : Region.Mode} {S : World → Prop} {T : List Nat}
theorem qA.qc (i:Nat) {oi:Oper} {v:Value} {a':Act} {f:Nat} {listed:Array Bool} {a:Act} {w:World} (h:qA P md ops Q S T f (listed.setIfInBounds i true) a' w)
  (hi:ops[i]? = some oi:=by rfl) (hs:Region.noSelect ops=true:=by kernel_rfl) (hf:Region.free md ops listed i=true:=by kernel_rfl) (hr:(Region.ready md ops listed).contains i=true:=by kernel_rfl)
  (hg:Region.wanted oi (yielded ops a.tmps)=true:=by rfl) (hy:∀w,True→(execOp a.eval oi).run P w=.ok (.value v) w:=by intro wS hSw;go_simp <;> first|(with_reducible rfl)|(rw [if_neg (by first|omega|(simp only [ByteArray.size_append];omega)|(simp;omega))] <;> first|rfl|(go_simp;with_reducible rfl)))
  (ha:a.put oi.dst v=a':=by(try simp only [Act.put,zL,zN,zH,zM,zK,zI]);exact rfl) (hQ:∀c a w,Q (.panic c) (a.put oi.dst v) w→Q (.panic c) a w:=by exact λ_ _ _ h=>h):qA P md ops Q S T (f+1) listed a w :=
 qA.quiet hi hs hf hr hQ (.inl ⟨hg,hy⟩) (ha ▸ h)
end
def HpS (W:World) (b:Nat) (h:Hop):Prop:=W.cell? ⟨b,0,none⟩=some (.string h.fib.cable)∧W.cell? ⟨b,1,none⟩=some (.int .i64 h.fib.no)∧W.cell? ⟨b,2,none⟩=some (.string h.fr)∧W.cell? ⟨b,3,none⟩=some (.string h.tw)∧b<W.heap.size
theorem HpS.below {W W':World} {b:Nat} {h:Hop} (hh:HpS W b h) (hb:Below W.heap.size W W'):HpS W' b h :=
 have hl:=hh.2.2.2.2
 ⟨(hb.cell (p:=⟨b,_,none⟩) hl).trans hh.1,(hb.cell (p:=⟨b,_,none⟩) hl).trans hh.2.1,(hb.cell (p:=⟨b,_,none⟩) hl).trans hh.2.2.1,(hb.cell (p:=⟨b,_,none⟩) hl).trans hh.2.2.2.1,Nat.lt_of_lt_of_le hl hb.size⟩
theorem qMr (l:List UInt8) (h:Hop):bA l++(h.fib.cable++⟨#[32]⟩++qBq h.fib.no++⟨#[32]⟩++h.fr++⟨#[32]⟩++h.tw++⟨#[10]⟩)=bA (l++qCQ h):=by
 apply ByteArray.ext
 simp [qCQ,bA,qBq]
theorem qII {H:List Hop} {k:Nat} (hk:k<H.length):(H.take (k+1)).flatMap qCQ=(H.take k).flatMap qCQ++qCQ H[k]:=by
 rw [List.take_succ_eq_append_getElem hk,List.flatMap_append];simp
theorem qT2 {h:Hop} (hw:qND h):(qCQ h).length≤3000030:=by
 obtain⟨h1,h2,h3,h4⟩:=hw;have h5:=qCu h2;have e1:=Lib.size_eq h.fib.cable;have e2:=Lib.size_eq h.fr;have e3:=Lib.size_eq h.tw;unfold qCQ;simp only [List.length_append,List.length_cons,List.length_nil];omega
theorem qFo {H:List Hop} (h:∀x∈H,qND x) (k:Nat):((H.take k).flatMap qCQ).length≤k*3000030:=by
 induction k with
 | zero=>simp
 | succ k ih =>
  by_cases hk:k<H.length
  ·rw [qII hk,List.length_append];have h6:=qT2 (h H[k] (List.getElem_mem hk));omega
  ·have h1:H.take k=H:=List.take_of_length_le oM;have h2:H.take (k+1)=H:=List.take_of_length_le oM;rw [h1] at ih;rw [h2];exact Nat.le_trans ih (Nat.mul_le_mul_right _ oM)
theorem qNu (l:List UInt8):bA l++⟨#[111,107,10]⟩=bA (l++okT):=by
 apply ByteArray.ext
 simp [okT,bA]
def qTo (r:Int × List UInt8) (w:World) (e:Ending) (w':World):Prop:=∃s,e=.returned (.tuple #[.string s,.int .i64 r.1])∧(r.1=0→s=bA r.2)∧Below w.heap.size w w'
theorem qRH (E:List qD) (at_:Int) (cb:Nat) (vE:Value) (f:qQ) (site:ByteArray) (w:World) (hb:qC w cb #[vE,.int .i64 at_] 90) (hA:qI qD.cells 17 w E vE) (hE:qBg E) (hl:E.length≤100) (hW:∀y∈E,qB2 y) (hf1:f.cable.size≤1000000) (hf2:(Lit.int .i64 f.no).wf=true) (hs:site.size≤1000000) (ht:Tab10 w) :
  Calls prog 59 #[.pointer (some ⟨cb,0,none⟩),.string f.cable,.int .i64 f.no,.string site] w (qTo (qBa (zB E at_) f site) w):=by
 obtain⟨a,cap,rfl,-⟩:=id hA;have hP:=qC4 (at_:=at_) hE hl;have hf:qBb f:=⟨Nat.le_trans hf1 (by unfold maxLen;omega),hf2⟩;have HQ:=qG2 hP.1 hf1 hf2 hs;have hpl:=qHp (C:=(zB E at_).C) (X:=(zB E at_).X) (f,site);have hlen:(qB9 (zB E at_).C (zB E at_).X (f,site)).length≤101:=by omega
 have HA:=mH (aI hA (aI hE (aI hW (aI hf (aI hP (aI HQ (aI ht hb)))))));have HL:=mH hlen;have hS:w.drew.cell? ⟨cb,0,none⟩=some (.slice a E.length cap)∧w.drew.cell? ⟨cb,1,none⟩=some (.int .i64 at_):=⟨hb.cell 0 _ rfl,hb.cell 1 _ rfl⟩;have hlt:=hb.lt;clear hA hE hW hf HQ ht hb hpl hlen hP;go_enter func59,ntmps59;go_wp2_with fail;refine qA.start (λW=>W.cell? ⟨cb,0,none⟩=some (.slice a E.length cap)∧W.cell? ⟨cb,1,none⟩=some (.int .i64 at_)) [] kR ?_;refine qA.q 0 ?_;refine qA.q 1 ?_;refine qA.q 2 ?_;refine qA.t 3 hS ?_;refine qA.q 4 ?_;refine qA.q 5 ?_;refine qA.q 6 ?_;refine qA.t 7 hS ?_;refine qA.q 12 ?_;refine qA.q 13 ?_;refine qA.q 14 ?_;refine qA.q 15 ?_;refine qA.nx 8 λK hK=>?_;go_simp
 refine(qEr E _ at_ w.drew (HA.o.1.below (by exact qS)) HA.o.2.1 hl HA.o.2.2.1).mono ?_;rintro e w2 ⟨gb,nn,rfl,hgr,hb2⟩;obtain⟨vS,vC,vX,g0,g1,g2,hpl,hgb,-⟩:=hgr.read;obtain⟨aS,cS,rfl,-⟩:=id hpl.s;obtain⟨aC,cC,rfl,-⟩:=id hpl.c;obtain⟨aX,cX,rfl,-⟩:=id hpl.x;have H2:=mH (aI hpl (show Below w.heap.size w w2 from(Below.refl w.heap.size w).drew.trans hb2));have hS2:w2.cell? ⟨cb,0,none⟩=some (.slice a E.length cap)∧w2.cell? ⟨cb,1,none⟩=some (.int .i64 at_):=⟨(hb2.cell (p:=⟨cb,0,none⟩) hlt).trans hS.1,(hb2.cell (p:=⟨cb,1,none⟩) hlt).trans hS.2⟩;clear hgr hpl hb2;refine qA.on hK (λ_ _=>hS2) ?_;clear hK K;refine qA.q 9 ?_;refine qA.q 10 ?_;refine qA.nx 11 λK hK=>?_;go_simp
 refine qA.on hK (λ_ h=>h) ?_;clear hK K;refine qA.nx 16 λK hK=>?_;go_simp
 refine(qQN (zB E at_) HA.o.2.2.2.2.1.1 HA.o.2.2.2.2.1.2.1 HA.o.2.2.2.2.1.2.2.1 HA.o.2.2.2.2.1.2.2.2 f HA.o.2.2.2.1 site (Nat.le_trans hs (by unfold maxLen;omega)) _ _ _ w2 H2.o.1).mono ?_;rintro e w3 ⟨v3,rfl,hb3,ho3⟩;have H3:=mH (aI (H2.o.2.trans (hb3.mono H2.o.2.size)) ho3);have hS3:w3.cell? ⟨cb,0,none⟩=some (.slice a E.length cap)∧w3.cell? ⟨cb,1,none⟩=some (.int .i64 at_):=⟨(hb3.cell (p:=⟨cb,0,none⟩) (Nat.lt_of_lt_of_le hlt H2.o.2.size)).trans hS2.1,(hb3.cell (p:=⟨cb,1,none⟩) (Nat.lt_of_lt_of_le hlt H2.o.2.size)).trans hS2.2⟩;clear hb3 ho3;refine qA.on hK (λ_ _=>hS3) ?_;clear hK K;refine qA.q 17 ?_;refine qA.q 18 ?_;refine qA.q 19 ?_;refine qA.q 20 ?_;refine qA.q 21 ?_;refine qA.done kR ?_;have hpe:=qLg (zB E at_) f site
 by_cases h0:qDb (zB E at_) f site=0
 rotate_left
 ·have hne:(qDb (zB E at_) f site != 0)=true:=by simpa using h0
  rw [if_pos h0] at hpe;have HV:=mH hpe;have H0:=mH h0;clear hpe h0 hS hS2 hS3;go_wp2;refine bodyPost_ret (results_tmp2 rfl _ _ _) rfl ⟨⟨#[]⟩,by first|(rw [HV.o];done)|(rw [HV.o];rfl),λh=>absurd (by rw [HV.o] at h;exact h) H0.o,H3.o.1⟩
 rw [if_neg (by rw [h0];simp)] at hpe;have HV:=mH hpe;have ho:=H3.o.2 h0;rw [h0];obtain⟨H,hH⟩:=eX (qB9 (zB E at_).C (zB E at_).X (f,site));rw [hH] at ho HL;have hhw:∀x∈H,qND x:=by rw [←hH];exact HA.o.2.2.2.2.2.1
 have hfin:qBa (zB E at_) f site=(0,H.flatMap qCQ++okT):=by rw [←hH];exact hpe
 have hA3:=qI.of_own Hop.cells_len ho;obtain⟨a3,c3,rfl,-,hm3,hc3⟩:=hA3;have hHl:=HL.o;have HX:=mH (aI hc3 (aI hhw (aI hfin (aI H3.o.1 (HA.o.2.2.2.2.2.2.1.below H3.o.1)))));clear hS hS2 hS3 hpe h0 HV ho hH hhw hfin hm3 hc3 H3 H2 g0 g1 g2 hgb;go_wp2;go_loopw [12,40] (λov iv wr=>∃k:Nat,k≤H.length∧iv=.int .i64 k∧ov=.string (bA ((H.take k).flatMap qCQ))∧Below w3.heap.size w3 wr) (λ_ iv _=>H.length - (intOf iv).toNat)
 case atStart=>exact⟨0,by omega,rfl,rfl,Below.refl _ _⟩
 case round =>
  obtain⟨k,hk,rfl,rfl,hB⟩:=hrel;have hsz:=hB.size;have HB:=mH hB
  by_cases hlt:k<H.length
  ·obtain⟨b,off,rfl,hbl,hcc⟩:=HX.o.1 k hlt;have c0:=(hB.cell (p:=⟨b,_,none⟩) hbl).trans (hcc 0 _ rfl);have c1:=(hB.cell (p:=⟨b,_,none⟩) hbl).trans (hcc 1 _ rfl);have c2:=(hB.cell (p:=⟨b,_,none⟩) hbl).trans (hcc 2 _ rfl);have c3:=(hB.cell (p:=⟨b,_,none⟩) hbl).trans (hcc 3 _ rfl);simp only [Nat.add_zero] at c0;have hk':(k:Int)<H.length:=by omega
   obtain⟨z1,zw,z3,z4⟩:=HX.o.2.1 H[k] (List.getElem_mem hlt);have hOl:=qFo HX.o.2.1 k;have hst:=qII hlt;have hZ:=qIH zw;have HZ:=mH (aI hst hZ);obtain⟨L,hL⟩:=eY ((H.take k).flatMap qCQ);rw [←hL] at hOl HZ
   try rw [←hL]
   have zO:(bA L).size≤k*3000030:=by rw [qCJ];exact hOl
   obtain⟨O,hO⟩:=eY (bA L);rw [←hO] at zO
   try rw [←hO]
   obtain⟨h,hh⟩:=eY (H[k]);rw [←hh] at c0 c1 c2 c3 z1 z3 z4 HZ;obtain⟨T,hT⟩:=eY (qBq h.fib.no);have zT:T.size≤20:=by rw [hT];show(bA (Lib.itoa h.fib.no)).size≤20;rw [qCJ,hh];exact qCu zw
   have HT:=mH (aI hT hO);clear hcc hst hB hOl hL hO hh hZ zw hT;go_wp2_with fail;have hS:HpS (wr.alloc (.cells ↑h 157)).drew wr.heap.size h:=by
    have hb:=(qC.new wr ↑h 157).drew;exact⟨hb.cell 0 _ rfl,hb.cell 1 _ rfl,hb.cell 2 _ rfl,hb.cell 3 _ rfl,hb.lt⟩
   have HBx:=mH (show Below w3.heap.size w3 (wr.alloc (.cells ↑h 157)).drew from(qB HB.o _ hsz).drew);refine qA.start (λW=>HpS W wr.heap.size h) [] kR ?_;clear c0 c1 c2 c3;generalize (wr.alloc (.cells ↑h 157)).drew=W1 at *;refine qA.q 0 ?_;refine qA.q 1 ?_;refine qA.q 2 ?_;refine qA.t 3 hS ?_;refine qA.qc 4 ?_;refine qA.q 5 ?_;refine qA.q 6 ?_;refine qA.t 7 hS ?_;refine qA.q 11 ?_;refine qA.t 12 hS ?_;refine qA.q 15 ?_;refine qA.t 16 hS ?_;refine qA.nx 8 λK hK=>?_;go_simp
   refine(qCH h.fib.no HZ.o.2.1 HZ.o.2.2 W1 (HX.o.2.2.2.2.below HBx.o)).mono ?_;rintro e w5 ⟨rfl,hb5⟩;rw [←HT.o.1];have hS5:=hS.below hb5;have H5:=mH (HBx.o.trans (hb5.mono HBx.o.size));refine qA.on hK (λ_ _=>hS5) ?_;clear hK K hb5;refine qA.qc 9 ?_;refine qA.qc 10 ?_;refine qA.qc 13 ?_;refine qA.qc 14 ?_;refine qA.qc 17 ?_;refine qA.qc 18 ?_;refine qA.qc 19 ?_;refine qA.q 20 ?_;refine qA.done kR ?_;go_wp2;refine⟨⟨k+1,by omega,by go_num,?_,H5.o⟩,by simp [intOf];omega⟩;rw [HZ.o.1,HT.o.2,HT.o.1,←qMr]
  obtain rfl:k=H.length:=by omega
  rw [List.take_length];have hOl:=qFo HX.o.2.1 H.length;rw [List.take_length] at hOl;have HF:=mH (qNu (H.flatMap qCQ));have zO:(bA (H.flatMap qCQ)).size≤H.length*3000030:=by rw [qCJ];exact hOl
  obtain⟨O,hO⟩:=eY (bA (H.flatMap qCQ));rw [←hO] at zO HF
  try rw [←hO]
  have aa:¬9223372036854775807<O.size+3:=by omega
  clear hOl hO hB;go_wp2;refine bodyPost_ret (results_tmp2 rfl _ _ _) rfl ⟨_,by first|(rw [HX.o.2.2.1];done)|(rw [HX.o.2.2.1];rfl),λ_=>by rw [HX.o.2.2.1];exact HF.o,HX.o.2.2.2.1.trans (HB.o.mono HX.o.2.2.2.1.size)⟩
theorem qFe {p:Pl} (hp:jS p) {k:ByteArray} {c:qG} (hc:qY p.C k=some c):∀n∈qBK p c,1≤n∧n≤144:=by
 intro n hn;unfold qBK at hn;obtain⟨h1,_⟩:=List.mem_filter.1 hn;obtain⟨m,hm,rfl⟩:=List.mem_map.1 h1;have:=List.mem_range.1 hm;obtain⟨_,h2,h3⟩:=qFc hp hc;omega
theorem qGw {p:Pl} (hp:jS p) {k:ByteArray} {c:qG} (hc:qY p.C k=some c):(qBK p c).length≤144:=by
 unfold qBK;refine Nat.le_trans (List.length_filter_le _ _) ?_;obtain⟨_,h2,h3⟩:=qFc hp hc;simp;omega
def qDR (l:List Int):List ByteArray:=l.map qBq
theorem qGR (l:List Int):(qDR l).map (·.data.toList)=l.map Lib.itoa:=by
 unfold qDR;rw [List.map_map];rfl
theorem qPC {n:Int} (h:1≤n∧n≤144):(Lib.itoa n).length≤20:=qCu (WalkArith.wf_i64 oM)
theorem qJC {l:List Int} (h:∀n∈l,1≤n∧n≤144) (hl:l.length≤144):(Lib.join ((qDR l).map (·.data.toList)) [32]).length≤3024:=by
 rw [qGR];refine Nat.le_trans (qMW 20 _ (λx hx=>?_)) (by rw [List.length_map];omega);obtain⟨n,hn,rfl⟩:=List.mem_map.1 hx;exact qPC (h n hn)
theorem qLD {l:List Int} {k:Nat} (hk:k<l.length):qDR (l.take (k+1))=qDR (l.take k)++[qBq l[k]]:=by
 unfold qDR;rw [List.take_succ_eq_append_getElem hk,List.map_append];rfl
theorem qIO (l:List UInt8):(⟨l.toArray⟩:ByteArray)++⟨#[10]⟩=bA (l++[10]):=by
 apply ByteArray.ext
 simp [bA]
theorem qIX {l:List ByteArray} {v:Value} {w:World} (h:qI strCells 1 w l v) (h0:0<l.length):∃b o c,v=.slice (some ⟨b,o,none⟩) l.length c∧l.length≤c∧b<w.heap.size∧∀(j:Nat) x,l[j]? = some x→w.cell? ⟨b,o+j,none⟩=some (.string x):=by
 obtain⟨a,cap,rfl,hcap,hmax,hc⟩:=h;obtain⟨b,o,rfl,hb,_⟩:=hc 0 h0;refine⟨b,o,cap,rfl,hcap,hb,λj x hj=>?_⟩;obtain⟨hjl,rfl⟩:=List.getElem?_eq_some_iff.1 hj;obtain⟨b',o',he,_,hcc⟩:=hc j hjl;simp only [Option.some.injEq,Addr.mk.injEq,and_true] at he;obtain⟨rfl,rfl⟩:=he;have:=hcc 0 _ rfl
 simpa using this
theorem qQv (E:List qD) (at_:Int) (cb:Nat) (vE:Value) (key:ByteArray) (w:World) (hb:qC w cb #[vE,.int .i64 at_] 90) (hA:qI qD.cells 17 w E vE) (hE:qBg E) (hl:E.length≤100) (hW:∀y∈E,qB2 y) (ht:Tab10 w) :
  Calls prog 60 #[.pointer (some ⟨cb,0,none⟩),.string key] w (qTo (qCA (zB E at_) key) w):=by
 obtain⟨i0,hi,hz0,hz1,hz2⟩:=info_parts qDv;obtain⟨a,cap,rfl,-⟩:=id hA;have hP:=qC4 (at_:=at_) hE hl;have HA:=mH (aI hA (aI hE (aI hW (aI hP ht))));have hS:w.drew.cell? ⟨cb,0,none⟩=some (.slice a E.length cap)∧w.drew.cell? ⟨cb,1,none⟩=some (.int .i64 at_):=⟨hb.cell 0 _ rfl,hb.cell 1 _ rfl⟩;have hlt:=hb.lt;clear hA hE hW ht hb hP;go_enter func60,ntmps60;go_wp2_with fail;refine qA.start (λW=>W.cell? ⟨cb,0,none⟩=some (.slice a E.length cap)∧W.cell? ⟨cb,1,none⟩=some (.int .i64 at_)) [] kR ?_;refine qA.q 0 ?_;refine qA.q 1 ?_;refine qA.q 2 ?_;refine qA.t 3 hS ?_;refine qA.q 4 ?_;refine qA.q 5 ?_;refine qA.q 6 ?_;refine qA.t 7 hS ?_;refine qA.q 12 ?_;refine qA.nx 8 λK hK=>?_;go_simp
 refine(qEr E _ at_ w.drew (HA.o.1.below (by exact qS)) HA.o.2.1 hl HA.o.2.2.1).mono ?_;rintro e w2 ⟨gb,nn,rfl,hgr,hb2⟩;obtain⟨vS,vC,vX,g0,g1,g2,hpl,hgb,-⟩:=hgr.read;obtain⟨aS,cS,rfl,-⟩:=id hpl.s;obtain⟨aC,cC,rfl,-⟩:=id hpl.c;obtain⟨aX,cX,rfl,-⟩:=id hpl.x;have H2:=mH (aI hpl (show Below w.heap.size w w2 from(Below.refl w.heap.size w).drew.trans hb2));have hS2:w2.cell? ⟨cb,0,none⟩=some (.slice a E.length cap)∧w2.cell? ⟨cb,1,none⟩=some (.int .i64 at_):=⟨(hb2.cell (p:=⟨cb,0,none⟩) hlt).trans hS.1,(hb2.cell (p:=⟨cb,1,none⟩) hlt).trans hS.2⟩;clear hgr hpl hb2;refine qA.on hK (λ_ _=>hS2) ?_;clear hK K;refine qA.q 9 ?_;refine qA.q 10 ?_;refine qA.nx 11 λK hK=>?_;go_simp
 refine qA.on hK (λ_ h=>h) ?_;clear hK K;refine qA.nx 13 λK hK=>?_;go_simp
 obtain⟨r,hr⟩:=eX (qET (zB E at_) key);have hcall:=(qQ1 (zB E at_) HA.o.2.2.2.1.1 HA.o.2.2.2.1.2.1 HA.o.2.2.2.1.2.2.1 HA.o.2.2.2.1.2.2.2 key _ _ _ w2 H2.o.1);rw [hr] at hcall;refine hcall.mono ?_;rintro e w3 ⟨v3,rfl,hb3,ho3⟩;have H3:=mH (aI (H2.o.2.trans (hb3.mono H2.o.2.size)) ho3);have hS3:w3.cell? ⟨cb,0,none⟩=some (.slice a E.length cap)∧w3.cell? ⟨cb,1,none⟩=some (.int .i64 at_):=⟨(hb3.cell (p:=⟨cb,0,none⟩) (Nat.lt_of_lt_of_le hlt H2.o.2.size)).trans hS2.1,(hb3.cell (p:=⟨cb,1,none⟩) (Nat.lt_of_lt_of_le hlt H2.o.2.size)).trans hS2.2⟩;clear hb3 ho3 hcall;refine qA.on hK (λ_ _=>hS3) ?_;clear hK K;refine qA.q 14 ?_;refine qA.q 15 ?_;refine qA.q 16 ?_;refine qA.q 17 ?_;refine qA.q 18 ?_;refine qA.done kR ?_;have HTb:=mH (HA.o.2.2.2.2.below H3.o.1)
 cases hg:qY (zB E at_).C key with
 | none =>
  obtain rfl:r=8:=by rw [←hr];unfold qET;rw [hg];rfl
  have HV:Hx (qCA (zB E at_) key=(8,[])):=by unfold qCA;rw [hg];exact mH rfl
  clear hr hg hS hS2 hS3;go_wp2;refine bodyPost_ret (results_tmp2 rfl _ _ _) rfl ⟨⟨#[]⟩,by first|(rw [HV.o];done)|(rw [HV.o];rfl),(λh=>by rw [HV.o] at h;cases h),H3.o.1⟩
 | some c =>
  obtain rfl:r=0:=by rw [←hr];unfold qET;rw [hg];rfl
  have hv:qCA (zB E at_) key=(0,(if qBK (zB E at_) c=[] then [110,111,110,101] else qEv 32 ((qBK (zB E at_) c).map Lib.itoa))++[10]):=by unfold qCA;rw [hg]
  have hrg:=qFe HA.o.2.2.2.1.1 hg;have hln:=qGw HA.o.2.2.2.1.1 hg;have ho:=H3.o.2 c hg;obtain⟨F,hF⟩:=eX (qBK (zB E at_) c);rw [hF] at ho hrg hln hv;obtain⟨a3,c3,rfl,-,-,hc3⟩:=qI.of_ints ho;have HX:=mH (aI hc3 (aI hrg (aI hv H3.o.1)));clear hr hg hS hS2 hS3 hv hrg ho hF hc3 H3 H2 g0 g1 g2 hgb;go_wp2;go_loopw [8,33] (λov iv wr=>∃k:Nat,k≤F.length∧iv=.int .i64 k∧wr.ownsRow w3.heap.size 9 1 ov k ((qDR (F.take k)).flatMap strCells)∧Below w3.heap.size w3 wr) (λ_ iv _=>F.length - (intOf iv).toNat)
  case atStart=>exact⟨0,by omega,rfl,World.ownsRow_nil _ _ _ _,Below.refl _ _⟩
  case round =>
   obtain⟨k,hk,rfl,ho,hB⟩:=hrel;have hsz:=hB.size;have HB:=mH (aI ho hB)
   by_cases hlt:k<F.length
   ·obtain⟨b,off,rfl,hbl,hcc⟩:=HX.o.1 k hlt;have c0:=(hB.cell (p:=⟨b,_,none⟩) hbl).trans (hcc 0 _ rfl);simp only [Nat.mul_one,Nat.add_zero] at c0;have hk':(k:Int)<F.length:=by omega
    have hn:=HX.o.2.1 F[k] (List.getElem_mem hlt);have HN:=mH (aI hn (qLD hlt));obtain⟨av,cv,hav⟩:=jO ho;subst hav;clear hcc hn ho hB;go_wp2_with fail;obtain⟨t,ht⟩:=eX (qBq F[k]);have hcall:=qCH F[k] (by have:=HN.o.1;omega) (by have:=HN.o.1;omega) wr (HTb.o.below HB.o.2);rw [ht] at hcall;refine hcall.mono ?_;rintro e w5 ⟨rfl,hb5⟩;have H5:=mH (aI (qAv HB.o.1 hb5) (HB.o.2.trans (hb5.mono HB.o.2.size)));have hz5:w3.heap.size≤w5.heap.size:=H5.o.2.size;have HT:=mH ht;clear hb5 ht c0 hcall;go_wp2_with ((at_builtin;go_must (refine wpList_append_own _ rfl _ _ 26 rfl _ 9 _ (.string ⟨#[]⟩) 1 16 underlying26 hi hz0 hz1 hz2 rfl dE _ _ _ rfl (H5.o.1.alloc _) ⟨w5.heap.size,0,none⟩ 1 1 [.string t] rfl rfl (by exact qBC (by first|rfl|simp) rF) (by simp [Value.oneCell']) (by unfold maxLen;omega) oM szq ?_));intro v' w6 hown6 hg6 _);refine⟨⟨k+1,by omega,by go_num,?_,jG (H5.o.2.trans (qB bR _ hz5)) (H5.o.1.alloc _) hg6 lR (by simp;omega)⟩,by simp [intOf];omega⟩;rw [HN.o.2,HT.o,List.flatMap_append];simpa [strCells] using hown6
   obtain rfl:k=F.length:=by omega
   rw [List.take_length] at HB ho;obtain⟨av,cv,hav⟩:=jO ho;subst hav;have hl:(qDR F).length=F.length:=by simp [qDR]
   clear hB
   by_cases h0:F.length=0
   ·obtain rfl:=List.length_eq_zero_iff.1 h0;have hlit:qI strCells 1 (wr.alloc (.cells #[.string ⟨#[110,111,110,101]⟩] 9)) [⟨#[110,111,110,101]⟩] (.slice (some ⟨wr.heap.size,0,none⟩) 1 1):=qI.litAt (cells:=strCells) (sz:=1) (λ_=>rfl) rfl (by simp [strCells]) rfl (by simp [maxLen]);have HLit:=mH (aI hlit (qC.new wr #[.string ⟨#[110,111,110,101]⟩] 9));have hBa:Below w3.heap.size w3 (wr.alloc (.cells #[.string ⟨#[110,111,110,101]⟩] 9)):=qB HB.o.2 _ hsz;have HBa:=mH hBa;clear hlit hBa ho;go_wp2_with fail;refine(Tryz.strings_Join wr.heap.size 0 1 [⟨#[110,111,110,101]⟩] ⟨#[32]⟩ _ (λj x hj=>?_) HLit.o.2.lt sI sI (by simp [Lib.join_one])).mono ?_
    ·match j,hj with
     | 0,hj=>obtain rfl:=Option.some.inj hj;exact HLit.o.2.cell 0 _ rfl
     | j+1,hj=>simp at hj
    rintro e w6 ⟨rfl,hb6⟩;have hj:Lib.join ([(⟨#[110,111,110,101]⟩:ByteArray)].map (·.data.toList)) (⟨#[32]⟩:ByteArray).data.toList=[110,111,110,101]:=Lib.join_one _ _;rw [hj];have H6:=mH (HBa.o.trans (hb6.mono HBa.o.size));clear hb6 hj;go_wp2;refine bodyPost_ret (results_tmp2 rfl _ _ _) rfl ⟨_,by first|(rw [HX.o.2.2.1];done)|(rw [HX.o.2.2.1];rfl),λ_=>by rw [HX.o.2.2.1];rfl,HX.o.2.2.2.trans (H6.o.mono HX.o.2.2.2.size)⟩
   ·have h0i:((F.length:Int)==0)=false:=by simpa using h0
    have hAs:qI strCells 1 wr (qDR F) (.slice av F.length cv):=by
     rw [←hl];rw [←hl] at ho;exact qI.of_own (cells:=strCells) (λ_=>rfl) ho
    obtain⟨b,o,c,hv,hcap,hbl,hcells⟩:=qIX hAs oM;rw [hl] at hv hcap;simp only [Value.slice.injEq] at hv;obtain⟨rfl,-,rfl⟩:=hv;have hjl:=qJC HX.o.2.1 hln;have HJ:=mH (aI hcells hjl);clear ho hAs hcells hjl;go_wp2_with fail;rw [←hl];refine(Tryz.strings_Join b o cv (qDR F) ⟨#[32]⟩ wr HJ.o.1 hbl oM oM (Nat.le_trans HJ.o.2 oM)).mono ?_;rintro e w6 ⟨rfl,hb6⟩;have hjs:(⟨#[32]⟩:ByteArray).data.toList=[32]:=rfl;rw [hjs];obtain⟨J,hJ⟩:=eY ((⟨(Lib.join ((qDR F).map (·.data.toList)) [32]).toArray⟩:ByteArray));have zJ:J.size≤3024:=by rw [hJ];show(bA _).size≤3024;rw [qCJ];exact HJ.o.2
    have aa:¬9223372036854775807<J.size+1:=by omega
    rw [←hJ];have H6:=mH (aI (HB.o.2.trans (hb6.mono HB.o.2.size)) hJ);clear hb6 hJ;go_wp2;refine bodyPost_ret (results_tmp2 rfl _ _ _) rfl ⟨_,by first|(rw [HX.o.2.2.1];done)|(rw [HX.o.2.2.1];rfl),λ_=>?_,HX.o.2.2.2.trans (H6.o.1.mono HX.o.2.2.2.size)⟩;rw [HX.o.2.2.1,H6.o.2,qIO,qGR,if_neg (λh=>h0 (by rw [h];rfl)),qFH]
theorem qRv (F:List Int) (hrg:∀n∈F,1≤n∧n≤144) (hln:F.length≤144) (h0:0<F.length) (v:Value) (w:World) (hA:qI qA6 1 w F v) (ht:Tab10 w) :
  Calls prog 113 #[v] w λe w'=>e=.returned (.string (bA (qEv 32 (F.map Lib.itoa))))∧Below w.heap.size w w':=by
 obtain⟨i0,hi,hz0,hz1,hz2⟩:=info_parts qDv;obtain⟨a3,c3,rfl,-,-,hc3⟩:=id hA;have HX:=mH (aI hc3 (aI hrg ht));clear hA hc3 hrg ht;go_enter func113,ntmps113;go_wp2;obtain⟨wo,rfl⟩:∃wo:World,wo=w:=⟨_,rfl⟩;go_loopw [3,8] (λov iv wr=>∃k:Nat,k≤F.length∧iv=.int .i64 k∧wr.ownsRow wo.heap.size 9 1 ov k ((qDR (F.take k)).flatMap strCells)∧Below wo.heap.size wo wr) (λ_ iv _=>F.length - (intOf iv).toNat)
 case atStart=>exact⟨0,by omega,rfl,World.ownsRow_nil _ _ _ _,Below.refl _ _⟩
 case round =>
  obtain⟨k,hk,rfl,ho,hB⟩:=hrel;have hsz:=hB.size;have HB:=mH (aI ho hB)
  by_cases hlt:k<F.length
  ·obtain⟨b,off,rfl,hbl,hcc⟩:=HX.o.1 k hlt;have c0:=(hB.cell (p:=⟨b,_,none⟩) hbl).trans (hcc 0 _ rfl);simp only [Nat.mul_one,Nat.add_zero] at c0;have hk':(k:Int)<F.length:=by omega
   have hn:=HX.o.2.1 F[k] (List.getElem_mem hlt);have HN:=mH (aI hn (qLD hlt));obtain⟨av,cv,hav⟩:=jO ho;subst hav;clear hcc hn ho hB;go_wp2_with fail;obtain⟨t,hte⟩:=eX (qBq F[k]);have hcall:=qCH F[k] (by have:=HN.o.1;omega) (by have:=HN.o.1;omega) wr (HX.o.2.2.below HB.o.2);rw [hte] at hcall;refine hcall.mono ?_;rintro e w5 ⟨rfl,hb5⟩;have H5:=mH (aI (qAv HB.o.1 hb5) (HB.o.2.trans (hb5.mono HB.o.2.size)));have hz5:wo.heap.size≤w5.heap.size:=H5.o.2.size;have HT:=mH hte;clear hb5 hte c0 hcall;go_wp2_with ((at_builtin;go_must (refine wpList_append_own _ rfl _ _ 26 rfl _ 9 _ (.string ⟨#[]⟩) 1 16 underlying26 hi hz0 hz1 hz2 rfl dE _ _ _ rfl (H5.o.1.alloc _) ⟨w5.heap.size,0,none⟩ 1 1 [.string t] rfl rfl (by exact qBC (by first|rfl|simp) rF) (by simp [Value.oneCell']) (by unfold maxLen;omega) oM szq ?_));intro v' w6 hown6 hg6 _);refine⟨⟨k+1,by omega,by go_num,?_,jG (H5.o.2.trans (qB bR _ hz5)) (H5.o.1.alloc _) hg6 lR (by simp;omega)⟩,by simp [intOf];omega⟩;rw [HN.o.2,HT.o,List.flatMap_append];simpa [strCells] using hown6
  obtain rfl:k=F.length:=by omega
  rw [List.take_length] at HB ho;obtain⟨av,cv,hav⟩:=jO ho;subst hav;have hl:(qDR F).length=F.length:=by simp [qDR]
  clear hB;have hAs:qI strCells 1 wr (qDR F) (.slice av F.length cv):=by
   rw [←hl];rw [←hl] at ho;exact qI.of_own (cells:=strCells) (λ_=>rfl) ho
  obtain⟨b,o,c,hv,hcap,hbl,hcells⟩:=qIX hAs oM;rw [hl] at hv hcap;simp only [Value.slice.injEq] at hv;obtain⟨rfl,-,rfl⟩:=hv;have hjl:=qJC HX.o.2.1 hln;have HJ:=mH (aI hcells hjl);clear ho hAs hcells hjl;go_wp2_with fail;rw [←hl];refine(Tryz.strings_Join b o cv (qDR F) ⟨#[32]⟩ wr HJ.o.1 hbl oM oM (Nat.le_trans HJ.o.2 oM)).mono ?_;rintro e w6 ⟨rfl,hb6⟩;have hjs:(⟨#[32]⟩:ByteArray).data.toList=[32]:=rfl;rw [hjs];obtain⟨J,hJ⟩:=eY ((⟨(Lib.join ((qDR F).map (·.data.toList)) [32]).toArray⟩:ByteArray));rw [←hJ];have H6:=mH (aI (HB.o.2.trans (hb6.mono HB.o.2.size)) hJ);clear hb6 hJ;go_wp2;go_ret;refine⟨?_,H6.o.1⟩;rw [H6.o.2,qGR,qFH]
  rfl
theorem qLa {n:Int} (h0:0≤n) (h1:n≤12):(qD6 n).length≤100:=by
 unfold qD6;have:=qCu (n:=n) (WalkArith.wf_i64 oM);simp only [List.length_append,List.length_cons,List.length_nil];omega
theorem qQm {p:Pl} (hp:jS p) (k:ByteArray):(qCA p k).2.length≤400000000:=by
 unfold qCA
 cases hc:qY p.C k with
 | none=>simp
 | some c =>
  dsimp only;have hr:=qFe hp hc;have hl:=qGw hp hc;have hj:=qMW 20 ((qBK p c).map Lib.itoa) (λx hx=>by
   obtain⟨n,hn,rfl⟩:=List.mem_map.1 hx;have:=hr n hn;exact qCu (WalkArith.wf_i64 oM))
  rw [List.length_map] at hj;rw [List.length_append]
  split
  ·simp
  ·rw [qFH];simp only [List.length_cons,List.length_nil];omega
theorem qT6 {E:List qD} {at_:Int} {W:List ByteArray} (hD:qBR E at_) (hl:E.length≤100) (hs:∀x∈W,x.size≤1000000):(zR E at_ W).1.2.length≤400000000:=by
 obtain⟨hp,_,_,hX⟩:=qC4 (at_:=at_) hD.ent hl;unfold zR
 split
 ·split
  ·simp
  ·split
   ·simp
   ·split
    ·simp
    ·simp [okT]
 ·split
  ·split
   ·simp
   ·simp [okT]
  ·split
   ·split
    ·simp
    ·rename_i n hn
     dsimp only;rw [qLg]
     split
     ·simp
     ·have hw:=qG2 hp (f:=⟨wd W 1,n⟩) (site:=wd W 3) (qCk hs 1) (qEn oM hn) (qCk hs 3);have h1:=qFo hw (qB9 (zB E at_).C (zB E at_).X (⟨wd W 1,n⟩,wd W 3)).length;rw [List.take_length] at h1;have h2:=qHp (C:=(zB E at_).C) (X:=(zB E at_).X) (⟨wd W 1,n⟩,wd W 3);have h3:(qB9 (zB E at_).C (zB E at_).X (⟨wd W 1,n⟩,wd W 3)).length*3000030≤101*3000030:=Nat.mul_le_mul_right _ oM;simp only [List.length_append,okT,List.length_cons,List.length_nil];omega
   ·split
    ·exact qQm hp _
    ·split
     ·dsimp only;rw [List.length_append];have:=qCu (n:=((zB E at_).X.length:Int)) (WalkArith.wf_i64 oM);simp only [List.length_cons,List.length_nil];omega
     ·simp
theorem qTk {E:List qD} {at_:Int} (hD:qBR E at_) (hl:E.length≤100) {line:ByteArray} (hs:line.size≤1000000):(doV (E,at_) line).1.length≤400000000:=by
 unfold doV
 split
 ·exact Nat.le_trans (qLa oM oM) oM
 ·dsimp only;unfold qBu
  split
  ·have:=qKk E at_ (qAb 32 line);exact Nat.le_trans (qLa this.1 this.2) oM
  ·exact qT6 hD hl (λx hx=>Nat.le_trans (qBp hx) hs)
theorem qJv:∀(l:List ByteArray) (D:List qD × Int),qBR D.1 D.2→D.1.length+l.length≤100→(∀x∈l,x.size≤1000000)→(qBB l D).1.length≤l.length*400000000
 | [],D,_,_,_=>by simp [qBB]
 | x::l,D,hD,hl,hs=>by
  have h1:=qLj hD x;simp only [List.length_cons] at hl;have h2:=qJv l (doV D x).2 h1.1 (by have:=h1.2;omega) (λy hy=>hs y (List.mem_cons_of_mem _ hy));have h3:=qTk (E:=D.1) (at_:=D.2) hD oM (hs x (List.mem_cons_self ..));simp only [qBB,List.length_append,List.length_cons];have h4:(doV D x).1.length≤400000000:=h3;omega
theorem qNc (E:List qD) (v:Value) (at_:Int) (w:World) (hA:qI qD.cells 17 w E v) (hE:qBg E) (hl:E.length≤100) (hat:qCl at_=true):Calls prog 45 #[v,.int .i64 at_] w
  λe w'=>e=.returned (.int .i64 0)∧Below w.heap.size w w':=by
 have HA:=mH (aI hA hE);have hc:=hE.chk;clear hA hE;go_enter func45,ntmps45;go_wp2_with fail;refine(qCs E v w HA.o.1 oM HA.o.2.toP).mono ?_;rintro e w1 ⟨rfl,hb1⟩;rw [hc];have HB:=mH hb1;clear hb1 hc;go_wp2_with (go_at_call 70;refine(qCx _ _).mono ?_;rintro e' w' ⟨rfl,rfl⟩);go_ret;exact⟨rfl,HB.o⟩
theorem qNS (E:List qD) (v:Value) (at_:Int) (w:World) (hA:qI qD.cells 17 w E v) (hE:qBg E) (hl:E.length≤100) (hW:∀y∈E,qB2 y) (hat:qCl at_=true):Calls prog 33 #[v,.int .i64 at_] w
  λe w'=>∃vS vC vX,e=.returned (.tuple #[.agg #[vS,vC,vX],.int .i64 0])∧qAN w' vS vC vX (zB E at_).S (zB E at_).C (zB E at_).X∧Below w.heap.size w w':=by
 have hbr:qC (w.alloc (.cells #[.slice none 0 0,.slice none 0 0,.slice none 0 0] 69)) w.heap.size #[.slice none 0 0,.slice none 0 0,.slice none 0 0] 69:=qC.new w _ _;have hBa:Below w.heap.size w (w.alloc (.cells #[.slice none 0 0,.slice none 0 0,.slice none 0 0] 69)):=by exact qS
 have HA:=mH (aI hA (aI hE hW));have H1:=mH (aI hbr hBa);clear hA hE hW hbr hBa;go_enter func33,ntmps33;go_wp2_with fail;generalize w.alloc (.cells #[.slice none 0 0,.slice none 0 0,.slice none 0 0] 69)=W1 at *;refine(qNc E v at_ W1 (HA.o.1.below H1.o.2) HA.o.2.1 hl hat).mono ?_;rintro e w2 ⟨rfl,hb2⟩;have H2:=mH (aI (H1.o.1.below hb2 H1.o.1.lt) (H1.o.2.trans (hb2.mono H1.o.2.size)));clear hb2 H1;go_wp2_with fail;refine(qEr E v at_ w2 (HA.o.1.below H2.o.2) HA.o.2.1 hl HA.o.2.2).mono ?_;rintro e w3 ⟨gb,nn,rfl,hgr,hb3⟩;obtain⟨vS,vC,vX,g0,g1,g2,hpl,hgb,hkp⟩:=hgr.read;have hbr3:=H2.o.1.below hb3 H2.o.1.lt;have x0:=hbr3.cell 0 (.slice none 0 0) rfl;have x1:=hbr3.cell 1 (.slice none 0 0) rfl;have x2:=hbr3.cell 2 (.slice none 0 0) rfl;have f0:=hbr3.free 0;have f1:=hbr3.free 1;have f2:=hbr3.free 2;have hne:w.heap.size≠gb:=by
  obtain⟨u,hu⟩:=hgr;have h1:=hu.low.1;have h2:=H2.o.1.lt;omega
 obtain⟨aS,cS,rfl,-⟩:=id hpl.s;obtain⟨aC,cC,rfl,-⟩:=id hpl.c;obtain⟨aX,cX,rfl,-⟩:=id hpl.x;have H3:=mH (aI hbr3 (aI hpl (aI (H2.o.2.trans (hb3.mono H2.o.2.size)) (aI hkp H2.o.1.lt))));clear hbr3 hpl hb3 hgr H2 hkp;go_wp2;refine bodyPost_ret (v:=.tuple #[.agg #[.slice aS (zB E at_).S.length cS,.slice aC (zB E at_).C.length cC,.slice aX (zB E at_).X.length cX],.int .i64 0]) ?_ rfl ⟨_,_,_,rfl,?_,?_⟩
 ·exact qF rfl _ _ w.heap.size 69 #[.slice aS (zB E at_).S.length cS,.slice aC (zB E at_).C.length cC,.slice aX (zB E at_).X.length cX] _ (0,0) _ rfl rfl (qC.fill3 H3.o.1) underlying69 rfl kR
 ·exact H3.o.2.2.2.1 _ w.heap.size (qO w.heap.size [.slice aS (zB E at_).S.length cS,.slice aC (zB E at_).C.length cC,.slice aX (zB E at_).X.length cX] 0 w3) H3.o.2.2.2.2
 ·exact Below.fill3 H3.o.2.2.1 lR _ _ _
end Go.Proofs.YtbgnlfgkgklkdaaGreatDoor
