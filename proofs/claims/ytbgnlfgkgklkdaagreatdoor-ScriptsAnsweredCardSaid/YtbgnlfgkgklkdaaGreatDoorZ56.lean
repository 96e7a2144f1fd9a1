/- Parts of the proof of ScriptsAnswered: SoC, SoD, SpW, SpQ, SpR, SpS, SpK, SpL. No condition. -/
import Derived.Test.YtbgnlfgkgklkdaaGreatDoorZ27
set_option linter.unusedVariables false
set_option linter.unusedSimpArgs false
set_option maxHeartbeats 8000000
set_option maxRecDepth 100000
namespace Go.Proofs.YtbgnlfgkgklkdaaGreatDoor
open Go Go.RowKit Tryz
theorem qOu (n:Nat):((List.range n).map λ(i:Nat)=>Value.int .i64 (i:Int))=(List.range n).flatMap qAP:=by
 rw [show qAP=λi=>[qD9 i] from rfl,qEB];rfl
theorem qRM (l:List qD) (v:Value) (w:World) (hA:qI qD.cells 17 w l v) (h0:0<l.length) (hl:l.length≤1000):Calls prog 71 #[v] w
  λe w'=>∃v' L,e=.returned v'∧L.Perm (List.range l.length)∧Asc (cIx l) L∧zG qAP 1 w.heap.size w' v' L∧Below w.heap.size w w'∧∀k,v'.ownBlock=some k→∃cs,qC w' k cs 3:=by
 obtain⟨i0,hi,hz0,hz1,hz2⟩:=info_parts qGv;obtain⟨a,cap,rfl,hcap,hmax,hc⟩:=hA;have HA:=mH (show qI qD.cells 17 w l (.slice a l.length cap) from⟨a,cap,rfl,hcap,hmax,hc⟩);clear hcap hmax hc;go_enter func71,ntmps71;go_wp2;have hbv:qC (w.alloc (.cells #[.slice a l.length cap] 62)) w.heap.size #[.slice a l.length cap] 62:=qC.new w _ _;go_loopw [3,7] (λov i wr=>∃k:Nat,k≤l.length∧i=.int .i64 k∧wr.ownsRow (w.heap.size+1) 3 1 ov k ((List.range k).map λ(i:Nat)=>Value.int .i64 (i:Int))∧Below w.heap.size w wr∧qC wr w.heap.size #[.slice a l.length cap] 62∧w.heap.size+1≤wr.heap.size) (λ_ i _=>l.length - (intOf i).toNat)
 case atStart=>exact⟨0,by omega,rfl,World.ownsRow_nil _ _ _ _,by exact qS,hbv,by simp⟩
 case round =>
  obtain⟨k,hk,rfl,hown,hB,hbl,hz⟩:=hrel;have hsz:=hB.size;have hs:List.range (k+1)=List.range k++[k]:=List.range_succ;have HO:=mH (aI hown (aI hB (aI hbl (aI hz hs))));have t0:=hbl.cell 0 (.slice a l.length cap) rfl;clear hown hB hs
  by_cases hlt:k<l.length
  ·go_wp2_with ((at_builtin;go_must (refine wpList_append_own _ rfl _ _ 22 rfl _ 3 _ (.int .i64 0) 1 8 underlying22 hi hz0 hz1 hz2 rfl dE _ _ _ rfl (HO.o.1.alloc _) ⟨wr.heap.size,0,none⟩ 1 1 [.int .i64 (k:Int)] rfl rfl (by exact qBC (by first|rfl|simp) rF) (by simp [Value.oneCell']) (by unfold maxLen;omega) oM szq ?_));intro v' w4 hown4 hg4 _);go_roundw
   case rel=>exact⟨k+1,by omega,by go_num,by rw [HO.o.2.2.2.2,List.map_append];exact hown4,jG (by have:=HO.o.2.1;exact qS) (HO.o.1.alloc (.cells #[.int .i64 (k:Int)] 3)) hg4 oM (by simp;omega),(HO.o.2.2.1.alloc _).grown hg4 (λe=>qA2 (HO.o.1.alloc (.cells #[.int .i64 (k:Int)] 3)) (HO.o.2.2.1.alloc _) dE e.symm),Nat.le_trans HO.o.2.2.2.1 (Nat.le_trans sI hg4.size)⟩
   case measure=>simp [intOf];omega
  ·obtain rfl:k=l.length:=by omega
   obtain⟨g,cap2,cur,rfl,hg,hb,hc2,hm2,hs2,ht2⟩:=qEi HO.o.1 h0;have ho':wr.ownsRow (w.heap.size+1) 3 1 (.slice (some ⟨g,0,none⟩) (List.range l.length).length cap2) (List.range l.length).length ((List.range l.length).flatMap qAP):=by
    rw [List.length_range,←qOu];exact HO.o.1
   have hrow:=Row.of_own (cells:=qAP) (sz:=1) (λ_=>rfl) ho' rfl;have HR:=mH (aI hrow (aI hg (aI hc2 hm2)));have HBK:=mH hb;have hcl:qE2 (λi=>i<l.length) 119 #[.pointer (some ⟨w.heap.size,0,none⟩)] qD9 (cIx l) wr (.slice (some ⟨g,0,none⟩) (List.range l.length).length cap2):=by
    intro x y w' hx hy hgr;have hgr':wr.grownBy w' (some g):=hgr;have hB':Below w.heap.size w w':=HO.o.2.1.trans (jE hgr' oM HO.o.2.1.size);exact qOS l x y hx hy w.heap.size _ _ w' (HO.o.2.2.1.grown hgr' (λe=>by have:=Option.some.inj e;omega)) (HA.o.below hB')
   have HCL:=mH hcl;clear hrow hg hb hc2 hm2 hs2 ht2 ho' hcl;go_wp2_with fail;have hsort:=qLl (λi=>i<l.length) g cap2 (w.heap.size+1) (List.range l.length) (λx hx=>List.mem_range.1 hx) (by simpa using h0) (cIx l) 119 #[.pointer (some ⟨w.heap.size,0,none⟩)] wr HR.o.1 HR.o.2.1 (by simpa using HR.o.2.2.1) HR.o.2.2.2 (by simp;omega) (qJL l) (qAB func119 kR rfl) HCL.o;rw [List.length_range] at hsort;refine hsort.mono ?_;rintro e w5 ⟨rfl,L,hp,has,hrv,hg5,hbk5⟩;have hB5:Below w.heap.size w w5:=HO.o.2.1.trans (jE hg5 (by have:=HR.o.2.1;omega) HO.o.2.1.size);have H5:=mH (aI hp (aI has (aI hrv (aI hB5 (hbk5 _ _ HBK.o)))));clear hsort hp has hrv hB5 hg5 hbk5;go_wp2;go_ret;exact⟨_,L,rfl,H5.o.1,H5.o.2.1,H5.o.2.2.1.low oM,H5.o.2.2.2.1,λk hk=>by obtain rfl:=Option.some.inj hk;exact H5.o.2.2.2.2⟩
def qDc (w:World):World :=
 ((((w.alloc (.map #[] 0)).alloc (.map #[] 0)).alloc (.map #[] 0)).alloc (.map #[] 0)).alloc (.cells #[.slice none 0 0,.slice none 0 0,.slice none 0 0,.map (some w.heap.size),.map (some (w.heap.size+1)),.map (some (w.heap.size+2)),.map (some (w.heap.size+3))] 105)
theorem qDH {w:World} {P:Program} {k:TypeId} {α:Type} {kv:α→Value} {b:Nat} (hb:b=w.heap.size):zA P k kv (w.alloc (.map #[] 0)) b 0 (λ_=>none):=by subst hb;exact zA.made w P k kv
theorem qAe.new (w:World):qAe w.heap.size (qDc w) (qDc w) (w.heap.size+4) 0 Pl.nil:=by
 unfold qDc;refine⟨⟨.slice none 0 0,.slice none 0 0,.slice none 0 0,w.heap.size,w.heap.size+1,w.heap.size+2,w.heap.size+3⟩,qC.newAt sI,⟨by omega,by simp,by simp,by simp,by simp⟩,World.ownsRow_nil _ _ _ _,World.ownsRow_nil _ _ _ _,World.ownsRow_nil _ _ _ _,?_,?_,?_,?_,⟨by simp;try omega,by simp;try omega,by simp;try omega,by simp;try omega,by simp;try omega,by simp;try omega⟩,Tfr.refl _⟩
 ·exact zA.congr ((((qDH rfl).alloc _).alloc _).alloc _ |>.alloc _) λ_=>rfl
 ·exact zA.congr (((qDH sI).alloc _).alloc _ |>.alloc _) λ_=>rfl
 ·exact zA.congr ((qDH sI).alloc _ |>.alloc _) λ_=>rfl
 ·exact⟨λ_=>none,(qDH sI).alloc _⟩
theorem qDM (w:World):Below w.heap.size w (qDc w):=by
 unfold qDc;exact qB (qB (qB (qB (qB bR _ lR) _ sI) _ (by simp;omega)) _ (by simp;omega)) _ (by simp;omega)
structure qCe (W:World) (wb nn:Nat) (vS vC vX:Value) (kS kC kE:Nat) (m1 m2:ByteArray→Option Value) (m3:qQ × ByteArray→Option Value):Prop where
 blk:qC W wb #[vS,vC,vX,.map (some kS),.map (some kC),.map (some kE),.map none] 254
 mS:qAq W kS nn m1
 mC:qAq W kC nn m2
 mE:qGZ W kE nn m3
section
variable {W W' : World} {wb nn : Nat} {vS vC vX : Value} {kS kC kE : Nat} {m1 m2 : ByteArray → Option Value} {m3 : qQ × ByteArray → Option Value}
theorem qCe.below (h:qCe W wb nn vS vC vX kS kC kE m1 m2 m3) (hb:Below W.heap.size W W'):qCe W' wb nn vS vC vX kS kC kE m1 m2 m3 :=
 ⟨h.blk.below hb h.blk.lt,h.mS.below hb h.mS.lt,h.mC.below hb h.mC.lt,h.mE.below hb h.mE.lt⟩
theorem qCe.mono (h:qCe W wb nn vS vC vX kS kC kE m1 m2 m3) {n':Nat} (hn:nn≤n'):qCe W wb n' vS vC vX kS kC kE m1 m2 m3:=⟨h.blk,h.mS.mono hn,h.mC.mono hn,h.mE.mono hn⟩
end
structure qAz (w W:World) (hs nn:Nat) (vS vC vX:Value) (m1 m2:ByteArray→Option Value) (m3:qQ × ByteArray→Option Value):Prop where
 bx:qC W hs #[vS,vC,vX] 69
 web:qCe W (hs+4) nn vS vC vX (hs+1) (hs+2) (hs+3) m1 m2 m3
 bl:Below hs w W
 sz:hs+5≤W.heap.size
section
variable {w W W' : World} {hs nn : Nat} {vS vC vX : Value} {m1 m2 : ByteArray → Option Value} {m3 : qQ × ByteArray → Option Value}
theorem qAz.below (h:qAz w W hs nn vS vC vX m1 m2 m3) (hb:Below W.heap.size W W'):qAz w W' hs nn vS vC vX m1 m2 m3 :=
 ⟨h.bx.below hb h.bx.lt,h.web.below hb,h.bl.trans (hb.mono (by have:=h.sz;omega)),Nat.le_trans h.sz hb.size⟩
theorem qAz.alloc (h:qAz w W hs nn vS vC vX m1 m2 m3) (o:Obj):qAz w (W.alloc o) hs nn vS vC vX m1 m2 m3:=h.below (qB bR o lR)
theorem qAz.drew (h:qAz w W hs nn vS vC vX m1 m2 m3):qAz w W.drew hs nn vS vC vX m1 m2 m3:=h.below (Below.drew bR)
theorem qAy {a b:Nat} (h:a≠b):some a≠some b:=λe=>h (Option.some.inj e)
theorem qAz.mapS (h:qAz w W hs nn vS vC vX m1 m2 m3) (hg:W.grownBy W' (some (hs+1))) {n':Nat} (hn:nn≤n') {m':ByteArray→Option Value} (hm:qAq W' (hs+1) n' m'):qAz w W' hs n' vS vC vX m' m2 m3 :=
 ⟨h.bx.grown hg (qAy oM),⟨h.web.blk.grown hg (qAy oM),hm,(h.web.mC.kept hg (qAy oM)).mono hn,(h.web.mE.kept hg (qAy oM)).mono hn⟩,h.bl.trans (jE hg oM (by have:=h.sz;omega)),Nat.le_trans h.sz hg.size⟩
theorem qAz.mapC (h:qAz w W hs nn vS vC vX m1 m2 m3) (hg:W.grownBy W' (some (hs+2))) {n':Nat} (hn:nn≤n') {m':ByteArray→Option Value} (hm:qAq W' (hs+2) n' m'):qAz w W' hs n' vS vC vX m1 m' m3 :=
 ⟨h.bx.grown hg (qAy oM),⟨h.web.blk.grown hg (qAy oM),(h.web.mS.kept hg (qAy oM)).mono hn,hm,(h.web.mE.kept hg (qAy oM)).mono hn⟩,h.bl.trans (jE hg oM (by have:=h.sz;omega)),Nat.le_trans h.sz hg.size⟩
theorem qAz.mapE (h:qAz w W hs nn vS vC vX m1 m2 m3) (hg:W.grownBy W' (some (hs+3))) {n':Nat} (hn:nn≤n') {m':qQ × ByteArray→Option Value} (hm:qGZ W' (hs+3) n' m'):qAz w W' hs n' vS vC vX m1 m2 m' :=
 ⟨h.bx.grown hg (qAy oM),⟨h.web.blk.grown hg (qAy oM),(h.web.mS.kept hg (qAy oM)).mono hn,(h.web.mC.kept hg (qAy oM)).mono hn,hm⟩,h.bl.trans (jE hg oM (by have:=h.sz;omega)),Nat.le_trans h.sz hg.size⟩
theorem qAz.congr (h:qAz w W hs nn vS vC vX m1 m2 m3) {m1' m2':ByteArray→Option Value} {m3':qQ × ByteArray→Option Value} (e1:∀k,m1 k=m1' k) (e2:∀k,m2 k=m2' k) (e3:∀k,m3 k=m3' k):qAz w W hs nn vS vC vX m1' m2' m3' :=
 ⟨h.bx,⟨h.web.blk,h.web.mS.congr e1,h.web.mC.congr e2,h.web.mE.congr e3⟩,h.bl,h.sz⟩
end
def qMD (w:World) (vS vC vX:Value):World :=
 ((((w.alloc (.cells #[vS,vC,vX] 69)).alloc (.map #[] 0)).alloc (.map #[] 0)).alloc (.map #[] 0)).alloc (.cells #[vS,vC,vX,.map (some (w.heap.size+1)),.map (some (w.heap.size+2)),.map (some (w.heap.size+3)),.map none] 254)
theorem qAz.new (w:World) (vS vC vX:Value):qAz w (qMD w vS vC vX) w.heap.size 0 vS vC vX (qBE []) (qAT []) (qAV []):=by
 unfold qMD;refine⟨((((qC.new w _ _).alloc _).alloc _).alloc _).alloc _,⟨qC.newAt sI,?_,?_,?_⟩,by exact qS,by simp⟩
 ·exact zA.congr ((((qDH sI).alloc _).alloc _).alloc _) λ_=>rfl
 ·exact zA.congr (((qDH sI).alloc _).alloc _) λ_=>rfl
 ·exact zA.congr ((qDH sI).alloc _) λ_=>rfl
theorem qK5 {S:List qJ} (h:qAD cS S) {k:Nat} (hk:k<S.length) (q:ByteArray):qB0 (qBE (S.take k)) S[k].key (.int .i64 S[k].kind) q=qBE (S.take (k+1)) q:=by
 rw [List.take_succ_eq_append_getElem hk];have:=qLx (A:=S.take k) (B:=[]) (s:=S[k]) (λy hy=>?_) q
 ·simpa using this
 ·rw [List.append_nil] at hy;obtain⟨j,hj,rfl⟩:=List.getElem_of_mem hy;rw [List.length_take] at hj;rw [List.getElem_take];have h1:=List.pairwise_iff_getElem.1 h j k oM hk oM;intro e;unfold cS at h1;rw [e,qEd.refl] at h1;omega
theorem qLA {C:List qG} (h:qAD cC C) {k:Nat} (hk:k<C.length) (q:ByteArray):qB0 (qAT (C.take k)) C[k].key (.agg ⟨C[k].cells⟩) q=qAT (C.take (k+1)) q:=by
 rw [List.take_succ_eq_append_getElem hk];have:=qMF (A:=C.take k) (B:=[]) (s:=C[k]) (λy hy=>?_) q
 ·simpa using this
 ·rw [List.append_nil] at hy;obtain⟨j,hj,rfl⟩:=List.getElem_of_mem hy;rw [List.length_take] at hj;rw [List.getElem_take];have h1:=List.pairwise_iff_getElem.1 h j k oM hk oM;intro e;unfold cC at h1;rw [e,qEd.refl] at h1;omega
theorem qQA {X:List qE} (h:X.Pairwise λa b=>jC a b=false) {k:Nat} (hk:k<X.length) (q:qQ × ByteArray):qB0 (qB0 (qAV (X.take k)) (X[k].x,X[k].site) (.agg ⟨X[k].cells⟩)) (X[k].y,X[k].site) (.agg ⟨X[k].cells⟩) q=qAV (X.take (k+1)) q:=by
 rw [List.take_succ_eq_append_getElem hk];have:=qM5 (A:=X.take k) (B:=[]) (s:=X[k]) (λy hy=>?_) q
 ·simpa using this
 ·rw [List.append_nil] at hy;obtain⟨j,hj,rfl⟩:=List.getElem_of_mem hy;rw [List.length_take] at hj;rw [List.getElem_take];exact List.pairwise_iff_getElem.1 h j k oM hk oM
theorem qE4 {k:ByteArray} (h:qL k=true):k.size≤maxLen:=by
 have:=(qFG h).2;unfold maxLen;omega
theorem qJF {p:Pl} (h:jS p) {s:qJ} (hs:s∈p.S):qL s.key=true∧1≤s.kind∧s.kind≤4:=by
 have h2:=h.s2 s hs;unfold qA4 at h2
 split at h2
 ·omega
 ·rename_i h3
  split at h2
  ·omega
  ·rename_i h4
   have h5:zC s.kind 1 4=false:=by simpa using h4
   exact⟨by simpa using h3,qAU.1 h5⟩
theorem qMN {p:Pl} (h:jS p) {s:qG} (hs:s∈p.C):qL s.key=true:=by
 have h2:=h.c2 s hs;unfold jP at h2
 split at h2
 ·omega
 ·rename_i h3;simpa using h3
def WcC (W:World) (wb kC b:Nat) (c:qG):Prop:=W.cell? ⟨wb,4,none⟩=some (.map (some kC))∧W.cell? ⟨b,0,none⟩=some (.string c.key)∧W.cell? ⟨b,1,none⟩=some (.string c.a)∧W.cell? ⟨b,2,none⟩=some (.string c.b)∧W.cell? ⟨b,3,none⟩=some (.int .i64 c.long)∧W.cell? ⟨b,4,none⟩=some (.int .i64 c.fibs)
def WcX (W:World) (wb kE b:Nat) (s:qE):Prop:=W.cell? ⟨wb,5,none⟩=some (.map (some kE))∧qAJ W b s
theorem qJo (p:Pl) (hp:jS p) (hs:p.S.length≤100) (hc:p.C.length≤100) (hx:p.X.length≤100) (vS vC vX:Value) (w:World) (hA:qAN w vS vC vX p.S p.C p.X):Calls prog 151 #[.agg #[vS,vC,vX]] w
  λe w'=>e=.returned (.pointer (some ⟨w.heap.size+4,0,none⟩))∧qCe w' (w.heap.size+4) 400 vS vC vX (w.heap.size+1) (w.heap.size+2) (w.heap.size+3) (qBE p.S) (qAT p.C) (qAV p.X)∧Below w.heap.size w w':=by
 obtain⟨⟨aS,capS,rfl,hcS,hmS,hAS⟩,⟨aC,capC,rfl,hcC,hmC,hAC⟩,⟨aX,capX,rfl,hcX,hmX,hAX⟩⟩:=hA;unfold maxLen at hmS hmC hmX;have HAX:=mH hAX;have HAC:=mH hAC;have HAS:=mH hAS;have HP:=mH hp;clear hAS hAC hAX hp;have hmm:=@run_makeMap prog;have hn:=qAz.new w (.slice aS p.S.length capS) (.slice aC p.C.length capC) (.slice aX p.X.length capX);unfold qMD at hn;have t1:=hn.bx.cell 0 _ rfl;have HN:=mH hn;clear hn;go_enter func151,ntmps151;go_wp2;go_loopw [19] (λiv wr=>∃k:Nat,k≤p.S.length∧iv=.int .i64 k∧qAz w wr w.heap.size k (.slice aS p.S.length capS) (.slice aC p.C.length capC) (.slice aX p.X.length capX) (qBE (p.S.take k)) (qAT []) (qAV [])) (λiv _=>p.S.length - (intOf iv).toNat)
 case atStart=>exact⟨0,by omega,rfl,HN.o⟩
 case round =>
  obtain⟨k,hk,rfl,hst⟩:=hrel;clear HN
  by_cases hlt:k<p.S.length
  ·obtain⟨b,off,rfl,hb,hcc⟩:=HAS.o k hlt;obtain⟨c0,c1⟩:=qDq hcc;replace c0:=(hst.bl.cell (p:=⟨b,_,none⟩) hb).trans c0;replace c1:=(hst.bl.cell (p:=⟨b,_,none⟩) hb).trans c1;obtain⟨kl,hkl⟩:=qBy p.S[k].key (qE4 (qJF HP.o (List.getElem_mem hlt)).1);have HK:=mH (aI hkl (λq=>qK5 HP.o.s1 hlt q));have hst2:=(hst.alloc (.cells ↑(p.S[k]) 73)).drew;have hS:(wr.alloc (.cells ↑(p.S[k]) 73)).drew.cell? ⟨w.heap.size+4,3,none⟩=some (.map (some (w.heap.size+1)))∧(wr.alloc (.cells ↑(p.S[k]) 73)).drew.cell? ⟨wr.heap.size,0,none⟩=some (.string p.S[k].key)∧(wr.alloc (.cells ↑(p.S[k]) 73)).drew.cell? ⟨wr.heap.size,1,none⟩=some (.int .i64 p.S[k].kind) :=
    ⟨hst2.web.blk.cell 3 _ rfl,(qC.new wr _ 73).drew.cell 0 _ rfl,(qC.new wr _ 73).drew.cell 1 _ rfl⟩
   have H2:=mH hst2;clear hkl hst hst2 hcc;go_wp2_with fail;refine qA.start (λW=>W.cell? ⟨w.heap.size+4,3,none⟩=some (.map (some (w.heap.size+1)))∧W.cell? ⟨wr.heap.size,0,none⟩=some (.string p.S[k].key)∧W.cell? ⟨wr.heap.size,1,none⟩=some (.int .i64 p.S[k].kind)) [8] kR ?_;generalize (wr.alloc (.cells ↑(p.S[k]) 73)).drew=W1 at *;refine qA.q 0 ?_;refine qA.q 1 ?_;refine qA.q 2 ?_;refine qA.t 3 hS ?_;refine qA.q 4 ?_;refine qA.t 5 hS ?_;refine qA.q 6 ?_;refine qA.t 7 hS ?_;refine qA.nx 8 λK hK=>?_
   refine qC2 rF _ _ _ 100 rfl qAO underlying100 qEk H2.o.web.mS (by unfold maxLen;omega) rF p.S[k].key HK.o.1 rF (.int .i64 p.S[k].kind) rF ?_;intro W7 hm7 hg7;have H7:=mH ((H2.o.mapS hg7 (Nat.le_succ k) hm7).congr HK.o.2 (λ_=>rfl) (λ_=>rfl));clear hm7 hg7;refine qA.o hK ?_;clear hK K;refine qA.done kR ?_;go_wp2;exact⟨⟨k+1,by omega,by go_num,H7.o⟩,by simp [intOf];omega⟩
  obtain rfl:k=p.S.length:=by omega
  rw [List.take_length] at hst;have t2:=hst.bx.cell 1 _ rfl;have HN:=mH hst;clear hst hlt hk;go_wp2;go_loopw [35] (λiv wr=>∃k:Nat,k≤p.C.length∧iv=.int .i64 k∧qAz w wr w.heap.size (p.S.length+k) (.slice aS p.S.length capS) (.slice aC p.C.length capC) (.slice aX p.X.length capX) (qBE p.S) (qAT (p.C.take k)) (qAV [])) (λiv _=>p.C.length - (intOf iv).toNat)
  case atStart=>exact⟨0,by omega,rfl,HN.o⟩
  case round =>
   clear HN t2;obtain⟨k,hk,rfl,hst⟩:=hrel
   by_cases hlt:k<p.C.length
   ·obtain⟨b,off,rfl,hb,hcc⟩:=HAC.o k hlt;obtain⟨c0,c1,c2,c3,c4⟩:=qCW hcc;replace c0:=(hst.bl.cell (p:=⟨b,_,none⟩) hb).trans c0;replace c1:=(hst.bl.cell (p:=⟨b,_,none⟩) hb).trans c1;replace c2:=(hst.bl.cell (p:=⟨b,_,none⟩) hb).trans c2;replace c3:=(hst.bl.cell (p:=⟨b,_,none⟩) hb).trans c3;replace c4:=(hst.bl.cell (p:=⟨b,_,none⟩) hb).trans c4;obtain⟨kl,hkl⟩:=qBy p.C[k].key (qE4 (qMN HP.o (List.getElem_mem hlt)));have HK:=mH (aI hkl (λq=>qLA HP.o.c1 hlt q));have hst2:=(hst.alloc (.cells ↑(p.C[k]) 75)).drew;have hx2:qC (wr.alloc (.cells ↑(p.C[k]) 75)).drew wr.heap.size ↑(p.C[k]) 75:=(qC.new wr _ 75).drew;have hS:WcC (wr.alloc (.cells ↑(p.C[k]) 75)).drew (w.heap.size+4) (w.heap.size+2) wr.heap.size p.C[k]:=⟨hst2.web.blk.cell 4 _ rfl,hx2.cell 0 _ rfl,hx2.cell 1 _ rfl,hx2.cell 2 _ rfl,hx2.cell 3 _ rfl,hx2.cell 4 _ rfl⟩;have H2:=mH hst2;clear hkl hst hst2 hcc hx2;go_wp2_with fail;refine qA.start (λW=>WcC W (w.heap.size+4) (w.heap.size+2) wr.heap.size p.C[k]) [7] kR ?_;generalize (wr.alloc (.cells ↑(p.C[k]) 75)).drew=W1 at *;refine qA.q 0 ?_;refine qA.q 1 ?_;refine qA.q 2 ?_;refine qA.t 3 hS ?_;refine qA.q 4 ?_;refine qA.t 5 hS ?_;refine qA.t 6 hS ?_;refine qA.nx 7 λK hK=>?_
    refine qC2 rF _ _ _ 101 rfl qAO underlying101 qEk H2.o.web.mC (by unfold maxLen;omega) rF p.C[k].key HK.o.1 rF (.agg ⟨p.C[k].cells⟩) rF ?_;intro W7 hm7 hg7;have H7:=mH ((H2.o.mapC hg7 (Nat.le_succ (p.S.length+k)) hm7).congr (λ_=>rfl) HK.o.2 (λ_=>rfl));clear hm7 hg7;refine qA.o hK ?_;clear hK K;refine qA.done kR ?_;go_wp2;exact⟨⟨k+1,by omega,by go_num,H7.o⟩,by simp [intOf];omega⟩
   obtain rfl:k=p.C.length:=by omega
   rw [List.take_length] at hst;have t3:=hst.bx.cell 2 _ rfl;have HN:=mH hst;clear hst hlt hk;go_wp2;go_loopw [50] (λiv wr=>∃(k nn:Nat),k≤p.X.length∧iv=.int .i64 k∧nn≤200+2*k∧qAz w wr w.heap.size nn (.slice aS p.S.length capS) (.slice aC p.C.length capC) (.slice aX p.X.length capX) (qBE p.S) (qAT p.C) (qAV (p.X.take k))) (λiv _=>p.X.length - (intOf iv).toNat)
   case atStart=>exact⟨0,p.S.length+p.C.length,by omega,rfl,by omega,HN.o⟩
   case round =>
    clear HN t3;obtain⟨k,nn,hk,rfl,hnn,hst⟩:=hrel
    by_cases hlt:k<p.X.length
    rotate_left
    ·obtain rfl:k=p.X.length:=by omega
     rw [List.take_length] at hst;have HN:=mH hst;clear hst hlt hk;go_wp2;go_ret;exact⟨rfl,HN.o.web.mono oM,HN.o.bl⟩
    obtain⟨b,off,rfl,hb,hcc⟩:=HAX.o k hlt;obtain⟨c0,c1,c2,c3,c4,c5⟩:=qBo hcc;replace c0:=(hst.bl.cell (p:=⟨b,_,none⟩) hb).trans c0;replace c1:=(hst.bl.cell (p:=⟨b,_,none⟩) hb).trans c1;replace c2:=(hst.bl.cell (p:=⟨b,_,none⟩) hb).trans c2;replace c3:=(hst.bl.cell (p:=⟨b,_,none⟩) hb).trans c3;replace c4:=(hst.bl.cell (p:=⟨b,_,none⟩) hb).trans c4;replace c5:=(hst.bl.cell (p:=⟨b,_,none⟩) hb).trans c5;obtain⟨kx,hkx⟩:=(qEH HP.o (List.getElem_mem hlt)).x;obtain⟨ky,hky⟩:=(qEH HP.o (List.getElem_mem hlt)).y;have HK:=mH (aI hkx (aI hky (λq=>qQA HP.o.x3 hlt q)));have hst2:=(hst.alloc (.cells ↑(p.X[k]) 79)).drew;have hx2:qC (wr.alloc (.cells ↑(p.X[k]) 79)).drew wr.heap.size ↑(p.X[k]) 79:=(qC.new wr _ 79).drew;have hS:WcX (wr.alloc (.cells ↑(p.X[k]) 79)).drew (w.heap.size+4) (w.heap.size+3) wr.heap.size p.X[k]:=⟨hst2.web.blk.cell 5 _ rfl,qAJ.of hx2⟩;have H2:=mH (aI hst2 hx2);have hwz:w.heap.size+5≤wr.heap.size:=hst.sz;clear hkx hky hst hst2 hcc hx2;generalize p.X[k]=sx at *;go_wp2_with fail;refine qA.start (λW=>WcX W (w.heap.size+4) (w.heap.size+3) wr.heap.size sx) [10] kR ?_;generalize (wr.alloc (.cells ↑sx 79)).drew=W1 at *;refine qA.q 0 ?_;refine qA.q 1 ?_;refine qA.q 2 ?_;refine qA.t 3 hS ?_;refine qA.q 4 ?_;refine qA.t 5 hS ?_;refine qA.q 6 ?_;refine qA.t 7 hS ?_;refine qA.q 8 ?_;refine qA.t 9 hS ?_;refine qA.nx 10 λK hK=>?_
    refine qC2 rF _ _ _ 102 rfl qBv underlying102 qC7 H2.o.1.web.mE (by unfold maxLen;omega) rF (sx.x,sx.site) HK.o.1 rF (.agg ⟨sx.cells⟩) rF ?_;intro W7 hm7 hg7;have H7:=mH (aI (H2.o.1.mapE hg7 (Nat.le_succ nn) hm7).drew (H2.o.2.grown hg7 (qAy oM)).drew);clear hm7 hg7;refine qA.o hK ?_;clear hK K;refine qA.done kR ?_;clear hS H2;have hS:WcX W7.drew (w.heap.size+4) (w.heap.size+3) wr.heap.size sx:=⟨H7.o.1.web.blk.cell 5 _ rfl,qAJ.of H7.o.2⟩;go_wp2_with fail;refine qA.start (λW=>WcX W (w.heap.size+4) (w.heap.size+3) wr.heap.size sx) [10] kR ?_;generalize W7.drew=W8 at *;refine qA.q 0 ?_;refine qA.q 1 ?_;refine qA.q 2 ?_;refine qA.t 3 hS ?_;refine qA.q 4 ?_;refine qA.t 5 hS ?_;refine qA.q 6 ?_;refine qA.t 7 hS ?_;refine qA.q 8 ?_;refine qA.t 9 hS ?_;refine qA.nx 10 λK hK=>?_
    refine qC2 rF _ _ _ 102 rfl qBv underlying102 qC7 H7.o.1.web.mE (by unfold maxLen;omega) rF (sx.y,sx.site) HK.o.2.1 rF (.agg ⟨sx.cells⟩) rF ?_;intro W9 hm9 hg9;have H9:=mH ((H7.o.1.mapE hg9 (Nat.le_succ (nn+1)) hm9).congr (λ_=>rfl) (λ_=>rfl) HK.o.2.2);clear hm9 hg9;refine qA.o hK ?_;clear hK K;refine qA.done kR ?_;go_wp2;exact⟨⟨k+1,nn+2,by omega,by go_num,by omega,H9.o⟩,by simp [intOf];omega⟩
theorem qHV {k j:Nat} (h:j+1=k) (hk:k≤10000):IntKind.i64.wrap ((k:Int) - 1)=(j:Nat):=by rw [IntWalk.i64_in _ oM];omega
theorem qOh (L:List qJ) (v:Value) (w:World) (hA:qI qJ.cells 2 w L v) (hl:L.length≤100) (hs:qAD cS L) (h2:∀s∈L,qA4 s=0):Calls prog 253 #[v] w
  λe w'=>e=.returned (.int .i64 0)∧Below w.heap.size w w':=by
 obtain⟨a,cap,rfl,hcap,hmax,hc⟩:=hA;unfold maxLen at hmax;have HP:=mH (aI hs (aI h2 hc));clear hs h2 hc;go_enter func253,ntmps253;go_wp2;go_loopw [11] (λiv wr=>∃k:Nat,k≤L.length∧iv=.int .i64 k∧Below w.heap.size w wr) (λiv _=>L.length - (intOf iv).toNat)
 case atStart=>exact⟨0,by omega,rfl,Below.refl _ _⟩
 case round =>
  obtain⟨k,hk,rfl,hB⟩:=hrel
  by_cases hlt:k<L.length
  rotate_left
  ·go_wp2;go_ret;exact⟨rfl,hB⟩
  obtain⟨b,off,rfl,hb,hcc⟩:=HP.o.2.2 k hlt;obtain⟨c0,c1⟩:=qDq hcc;replace c0:=(hB.cell (p:=⟨b,_,none⟩) hb).trans c0;replace c1:=(hB.cell (p:=⟨b,_,none⟩) hb).trans c1;have hx:=HP.o.2.1 L[k] (List.getElem_mem hlt);have hprev:0<k→∃j y,j+1=k∧wr.cell? ⟨b,off+j*2,none⟩=some (.string y)∧leB L[k].key y=false:=λhp=>by
   obtain⟨j,hj⟩:∃j,j+1=k:=⟨k - 1,by omega⟩;have hjl:j<L.length:=by omega
   obtain⟨b',off',he,hb',hcj⟩:=HP.o.2.2 j hjl;simp only [Option.some.injEq,Addr.mk.injEq,and_true] at he;obtain⟨rfl,rfl⟩:=he;have h1:=List.pairwise_iff_getElem.1 HP.o.1 j k hjl hlt oM;exact⟨j,L[j].key,hj,(hB.cell (p:=⟨b,_,none⟩) hb').trans (hcj 0 _ rfl),qIJ h1⟩
  have hsz:=hB.size;have hk':(k:Int)<L.length:=by omega
  have HX:=mH hx;have HV:=mH hprev;clear hcc hx hprev;generalize L[k]=x at *;have HBx:Hx (Below w.heap.size w (wr.alloc (.cells ↑x 73))):=⟨hB.trans (qB bR _ hsz)⟩;have HB:=mH hB;clear hB;go_wp2_with fail;refine(qFL x _).mono ?_;rintro e w1 ⟨rfl,hb1⟩;have hz:qA4 x=0:=HX.o;rw [hz];have hB1:Below w.heap.size w w1:=HBx.o.trans (hb1.mono HBx.o.size);have hbx1:qC w1 wr.heap.size ↑x 73:=(qC.new wr _ _).below hb1 sI;have hw1:Below wr.heap.size wr w1:=(qB bR _ lR).trans (hb1.mono sI);have HB1:=mH hB1.drew;clear hb1 hz hB1 c0 c1
  by_cases hp:0<k
  ·obtain⟨j,y,hj,hy,hle⟩:=HV.o hp;have hwp:=qHV hj oM;have hj':(j:Int)<L.length:=by omega
   have hle':(Op.bytesLess x.key.toList y.toList || x.key.toList==y.toList)=false:=hle;have hS:w1.drew.cell? ⟨wr.heap.size,0,none⟩=some (.string x.key)∧w1.drew.cell? ⟨b,off+j*2,none⟩=some (.string y):=⟨hbx1.cell 0 _ rfl,(hw1.cell (p:=⟨b,_,none⟩) (Nat.lt_of_lt_of_le hb hsz)).trans hy⟩;have HJ:=mH hj;clear hy hj hle hbx1;go_wp2_with fail;refine qA.start (λW=>W.cell? ⟨wr.heap.size,0,none⟩=some (.string x.key)∧W.cell? ⟨b,off+j*2,none⟩=some (.string y)) [] kR ?_;generalize w1.drew=W2 at *;refine qA.q 0 ?_;refine qA.q 1 ?_;refine qA.q 2 ?_;refine qA.qg 3 ?_;refine qA.tg 4 hS ?_;refine qA.qg 5 ?_;refine qA.qg 6 ?_;refine qA.qg 7 ?_;refine qA.qg 8 ?_;refine qA.qg 9 ?_;refine qA.tg 10 hS ?_;refine qA.qg 11 ?_;refine qA.q 12 ?_;refine qA.done kR ?_;go_wp2;exact⟨⟨k+1,by omega,by go_num,HB1.o⟩,by simp [intOf];omega⟩
  ·have hp0:k=0:=by omega
   clear hbx1;go_wp2_with fail;refine qA.start (λW=>True) [] kR ?_;have hS:True:=trivial;refine qA.q 0 ?_;refine qA.q 1 ?_;refine qA.q 2 ?_;refine qA.qf 3 ?_;refine qA.qf 4 ?_;refine qA.qf 5 ?_;refine qA.qf 6 ?_;refine qA.qf 7 ?_;refine qA.qf 8 ?_;refine qA.qf 9 ?_;refine qA.qf 10 ?_;refine qA.qf 11 ?_;refine qA.q 12 ?_;refine qA.done kR ?_;go_wp2;exact⟨⟨k+1,by omega,by go_num,HB1.o⟩,by simp [intOf];omega⟩
theorem qNY (L:List qG) (S:List qJ) (hS:∀k,0≤qAG S k) (kb nn:Nat) (v:Value) (w:World) (hA:qI qG.cells 5 w L v) (hl:L.length≤100) (hs:qAD cC L) (hm:qAq w kb nn (qBE S)) (hkb:kb<w.heap.size) (h2:∀s∈L,jP S s=0∧s.a.size≤maxLen∧s.b.size≤maxLen):Calls prog 254 #[v,.map (some kb)] w
  λe w'=>e=.returned (.int .i64 0)∧Below w.heap.size w w':=by
 obtain⟨a,cap,rfl,hcap,hmax,hc⟩:=hA;unfold maxLen at hmax;have HP:=mH (aI hs (aI h2 hc));clear hs h2 hc;have HM:=mH hm;clear hm;go_enter func254,ntmps254;go_wp2;go_loopw [13] (λiv wr=>∃k:Nat,k≤L.length∧iv=.int .i64 k∧Below w.heap.size w wr) (λiv _=>L.length - (intOf iv).toNat)
 case atStart=>exact⟨0,by omega,rfl,Below.refl _ _⟩
 case round =>
  obtain⟨k,hk,rfl,hB⟩:=hrel
  by_cases hlt:k<L.length
  rotate_left
  ·go_wp2;go_ret;exact⟨rfl,hB⟩
  obtain⟨b,off,rfl,hb,hcc⟩:=HP.o.2.2 k hlt;obtain⟨c0,c1,c2,c3,c4⟩:=qCW hcc;replace c0:=(hB.cell (p:=⟨b,_,none⟩) hb).trans c0;replace c1:=(hB.cell (p:=⟨b,_,none⟩) hb).trans c1;replace c2:=(hB.cell (p:=⟨b,_,none⟩) hb).trans c2;replace c3:=(hB.cell (p:=⟨b,_,none⟩) hb).trans c3;replace c4:=(hB.cell (p:=⟨b,_,none⟩) hb).trans c4;have hx:=HP.o.2.1 L[k] (List.getElem_mem hlt);have hprev:0<k→∃j y,j+1=k∧wr.cell? ⟨b,off+j*5,none⟩=some (.string y)∧leB L[k].key y=false:=λhp=>by
   obtain⟨j,hj⟩:∃j,j+1=k:=⟨k - 1,by omega⟩;have hjl:j<L.length:=by omega
   obtain⟨b',off',he,hb',hcj⟩:=HP.o.2.2 j hjl;simp only [Option.some.injEq,Addr.mk.injEq,and_true] at he;obtain⟨rfl,rfl⟩:=he;have h1:=List.pairwise_iff_getElem.1 HP.o.1 j k hjl hlt oM;exact⟨j,L[j].key,hj,(hB.cell (p:=⟨b,_,none⟩) hb').trans (hcj 0 _ rfl),qIJ h1⟩
  have hsz:=hB.size;have hk':(k:Int)<L.length:=by omega
  have HX:=mH hx;have HV:=mH hprev;clear hcc hx hprev;generalize L[k]=x at *;have HBx:Hx (Below w.heap.size w (wr.alloc (.cells ↑x 75))):=⟨hB.trans (qB bR _ hsz)⟩;have HB:=mH hB;clear hB;go_wp2_with fail;refine(qE6 S hS x kb nn _ (HM.o.below (HBx.o) hkb) HX.o.2.1 HX.o.2.2).mono ?_;rintro e w1 ⟨rfl,hb1⟩;have hz:jP S x=0:=HX.o.1;rw [hz];have hB1:Below w.heap.size w w1:=HBx.o.trans (hb1.mono HBx.o.size);have hbx1:qC w1 wr.heap.size ↑x 75:=(qC.new wr _ _).below hb1 sI;have hw1:Below wr.heap.size wr w1:=(qB bR _ lR).trans (hb1.mono sI);have HB1:=mH hB1.drew;clear hb1 hz hB1 c0 c1 c2 c3 c4
  by_cases hp:0<k
  ·obtain⟨j,y,hj,hy,hle⟩:=HV.o hp;have hwp:=qHV hj oM;have hj':(j:Int)<L.length:=by omega
   have hle':(Op.bytesLess x.key.toList y.toList || x.key.toList==y.toList)=false:=hle;have hS:w1.drew.cell? ⟨wr.heap.size,0,none⟩=some (.string x.key)∧w1.drew.cell? ⟨b,off+j*5,none⟩=some (.string y):=⟨hbx1.cell 0 _ rfl,(hw1.cell (p:=⟨b,_,none⟩) (Nat.lt_of_lt_of_le hb hsz)).trans hy⟩;have HJ:=mH hj;clear hy hj hle hbx1;go_wp2_with fail;refine qA.start (λW=>W.cell? ⟨wr.heap.size,0,none⟩=some (.string x.key)∧W.cell? ⟨b,off+j*5,none⟩=some (.string y)) [] kR ?_;generalize w1.drew=W2 at *;refine qA.q 0 ?_;refine qA.q 1 ?_;refine qA.q 2 ?_;refine qA.qg 3 ?_;refine qA.tg 4 hS ?_;refine qA.qg 5 ?_;refine qA.qg 6 ?_;refine qA.qg 7 ?_;refine qA.qg 8 ?_;refine qA.qg 9 ?_;refine qA.tg 10 hS ?_;refine qA.qg 11 ?_;refine qA.q 12 ?_;refine qA.done kR ?_;go_wp2;exact⟨⟨k+1,by omega,by go_num,HB1.o⟩,by simp [intOf];omega⟩
  ·have hp0:k=0:=by omega
   clear hbx1;go_wp2_with fail;refine qA.start (λW=>True) [] kR ?_;have hS:True:=trivial;refine qA.q 0 ?_;refine qA.q 1 ?_;refine qA.q 2 ?_;refine qA.qf 3 ?_;refine qA.qf 4 ?_;refine qA.qf 5 ?_;refine qA.qf 6 ?_;refine qA.qf 7 ?_;refine qA.qf 8 ?_;refine qA.qf 9 ?_;refine qA.qf 10 ?_;refine qA.qf 11 ?_;refine qA.q 12 ?_;refine qA.done kR ?_;go_wp2;exact⟨⟨k+1,by omega,by go_num,HB1.o⟩,by simp [intOf];omega⟩
def qFN (W:World) (b o:Nat) (s:qE):Prop:=W.cell? ⟨b,o,none⟩=some (.string s.site)∧W.cell? ⟨b,o+1,none⟩=some (.string s.x.cable)∧W.cell? ⟨b,o+2,none⟩=some (.int .i64 s.x.no)∧W.cell? ⟨b,o+3,none⟩=some (.string s.y.cable)∧W.cell? ⟨b,o+4,none⟩=some (.int .i64 s.y.no)∧W.cell? ⟨b,o+5,none⟩=some (.int .i64 s.loss)
theorem qFN.below {W W':World} {B b o:Nat} {s:qE} (h:qFN W b o s) (hb:Below B W W') (hl:b<B):qFN W' b o s:=by
 obtain⟨h0,h1,h2,h3,h4,h5⟩:=h;have q:∀o,W'.cell? ⟨b,o,none⟩=W.cell? ⟨b,o,none⟩:=λo=>hb.cell (p:=⟨b,o,none⟩) hl
 exact⟨(q _).trans h0,(q _).trans h1,(q _).trans h2,(q _).trans h3,(q _).trans h4,(q _).trans h5⟩
def qL0 (X:List qE) (e:qQ × ByteArray):Bool:=X.any λs=>qAI e s
def qDd (X:List qE) (e:qQ × ByteArray):Option Value:=if qL0 X e=true then some (.bool true) else none
theorem qLI {X:List qE} {s:qE} (h:∀o∈X,jC o s=false) {e:qQ × ByteArray} (he:qAI e s=true):qL0 X e=false:=by
 unfold qL0;rw [List.any_eq_false];intro o ho;rw [qOC (h o ho) he];simp
theorem qPe (X:List qE) (s:qE) (e:qQ × ByteArray):qB0 (qB0 (qDd X) (s.x,s.site) (.bool true)) (s.y,s.site) (.bool true) e=qDd (X++[s]) e:=by
 unfold qB0 qDd qL0;rw [List.any_append];simp only [List.any_cons,List.any_nil,Bool.or_false];rw [qHR]
 by_cases h1:e=(s.y,s.site)
 ·simp [h1]
 ·by_cases h2:e=(s.x,s.site)
  ·simp [h1,h2]
  ·simp [h1,h2]
theorem qPz {X:List qE} (h:X.Pairwise λa b=>jC a b=false) {k:Nat} (hk:k<X.length):∀o∈X.take k,jC o X[k]=false:=by
 intro o ho;obtain⟨j,hj,rfl⟩:=List.getElem_of_mem ho;rw [List.length_take] at hj;rw [List.getElem_take];exact List.pairwise_iff_getElem.1 h j k oM hk oM
def qOo (X:List qE) (s:qE) (j:Nat):qQ × ByteArray→Option Value:=if j=0 then qDd X else if j=1 then qB0 (qDd X) (s.x,s.site) (.bool true) else qB0 (qB0 (qDd X) (s.x,s.site) (.bool true)) (s.y,s.site) (.bool true)
theorem qTz (x:qE) (w:World):(Instr.index 319 (.agg #[.string x.x.cable,.int .i64 x.x.no,.string x.y.cable,.int .i64 x.y.no]) (.int .i64 0)).run prog w=.ok (.agg #[.string x.x.cable,.int .i64 x.x.no]) w:=by kernel_rfl
theorem qTj (x:qE) (w:World):(Instr.index 319 (.agg #[.string x.x.cable,.int .i64 x.x.no,.string x.y.cable,.int .i64 x.y.no]) (.int .i64 1)).run prog w=.ok (.agg #[.string x.y.cable,.int .i64 x.y.no]) w:=by kernel_rfl
theorem qKd (w:World):(zeroValue 4).run prog w=.ok (.bool false) w:=by kernel_rfl
structure PcS (w W:World) (hs nn:Nat) (vS vC vX:Value) (m2:ByteArray→Option Value):Prop where
 bx:qC W hs #[vS,vC,vX] 69
 mC:qAq W (hs+1) nn m2
 bl:Below hs w W
 sz:hs+2≤W.heap.size
section
variable {w W W' : World} {hs nn : Nat} {vS vC vX : Value} {m2 : ByteArray → Option Value}
theorem PcS.below (h:PcS w W hs nn vS vC vX m2) (hb:Below W.heap.size W W'):PcS w W' hs nn vS vC vX m2 :=
 ⟨h.bx.below hb h.bx.lt,h.mC.below hb h.mC.lt,h.bl.trans (hb.mono (by have:=h.sz;omega)),Nat.le_trans h.sz hb.size⟩
theorem PcS.alloc (h:PcS w W hs nn vS vC vX m2) (o:Obj):PcS w (W.alloc o) hs nn vS vC vX m2:=h.below (qB bR o lR)
theorem PcS.mapC (h:PcS w W hs nn vS vC vX m2) (hg:W.grownBy W' (some (hs+1))) {n':Nat} {m':ByteArray→Option Value} (hm:qAq W' (hs+1) n' m'):PcS w W' hs n' vS vC vX m' :=
 ⟨h.bx.grown hg (qAy oM),hm,h.bl.trans (jE hg oM (by have:=h.sz;omega)),Nat.le_trans h.sz hg.size⟩
theorem PcS.row (h:PcS w W hs nn vS vC vX m2) {r:Nat} (hg:W.grownBy W' (some r)) (hr:hs+2≤r):PcS w W' hs nn vS vC vX m2 :=
 ⟨h.bx.grown hg (qAy oM),h.mC.kept hg (qAy oM),h.bl.trans (jE hg oM (by have:=h.sz;omega)),Nat.le_trans h.sz hg.size⟩
theorem PcS.congr (h:PcS w W hs nn vS vC vX m2) {m2':ByteArray→Option Value} (e2:∀k,m2 k=m2' k):PcS w W hs nn vS vC vX m2':=⟨h.bx,h.mC.congr e2,h.bl,h.sz⟩
end
theorem qL4 (p:Pl) (hp:jS p) (hS':∀k,0≤qAG p.S k) (hc':p.C.length≤100) (hx':p.X.length≤100) (kb nk:Nat) (vS vC vX:Value) (w:World) (hA:qAN w vS vC vX p.S p.C p.X) (hm:qAq w kb nk (qBE p.S)):Calls prog 255 #[.agg #[vS,vC,vX],.map (some kb)] w
  λe w'=>e=.returned (.int .i64 0)∧Below w.heap.size w w':=by
 obtain⟨⟨aS,capS,rfl,-,hmS,-⟩,⟨aC,capC,rfl,hcC,hmC,hAC⟩,⟨aX,capX,rfl,hcX,hmX,hAX⟩⟩:=hA;unfold maxLen at hmC hmX hmS;have HAX:=mH hAX;have HAC:=mH hAC;have HP:=mH (aI hp (aI hm hm.lt));clear hAC hAX hp hm;have hmm:=@run_makeMap prog;have hn:PcS w ((w.alloc (.cells #[.slice aS p.S.length capS,.slice aC p.C.length capC,.slice aX p.X.length capX] 69)).alloc (.map #[] 0)) w.heap.size 0 (.slice aS p.S.length capS) (.slice aC p.C.length capC) (.slice aX p.X.length capX) (qAT []) :=
  ⟨(qC.new w _ _).alloc _,zA.congr (qDH sI) (λ_=>rfl),by exact qS,by simp⟩
 have t1:=hn.bx.cell 1 (.slice aC p.C.length capC) rfl;have HN:=mH hn;clear hn;go_enter func255,ntmps255;go_wp2;generalize (w.alloc (.cells #[.slice aS p.S.length capS,.slice aC p.C.length capC,.slice aX p.X.length capX] 69)).alloc (.map #[] 0)=W0 at *;go_loopw [25] (λiv wr=>∃k:Nat,k≤p.C.length∧iv=.int .i64 k∧PcS w wr w.heap.size k (.slice aS p.S.length capS) (.slice aC p.C.length capC) (.slice aX p.X.length capX) (qAT (p.C.take k))) (λiv _=>p.C.length - (intOf iv).toNat)
 case atStart=>exact⟨0,by omega,rfl,HN.o⟩
 case round =>
  clear HN t1;obtain⟨k,hk,rfl,hst⟩:=hrel
  by_cases hlt:k<p.C.length
  ·obtain⟨b,off,rfl,hb,hcc⟩:=HAC.o k hlt;obtain⟨c0,c1,c2,c3,c4⟩:=qCW hcc;replace c0:=(hst.bl.cell (p:=⟨b,_,none⟩) hb).trans c0;replace c1:=(hst.bl.cell (p:=⟨b,_,none⟩) hb).trans c1;replace c2:=(hst.bl.cell (p:=⟨b,_,none⟩) hb).trans c2;replace c3:=(hst.bl.cell (p:=⟨b,_,none⟩) hb).trans c3;replace c4:=(hst.bl.cell (p:=⟨b,_,none⟩) hb).trans c4;obtain⟨kl,hkl⟩:=qBy p.C[k].key (qE4 (qMN HP.o.1 (List.getElem_mem hlt)));have HK:=mH (aI hkl (λq=>qLA HP.o.1.c1 hlt q));have HST:=mH (hst.alloc (.cells ↑(p.C[k]) 75));clear hkl hst hcc;go_wp2_with (at_mapUpdate;refine qCU rF _ _ _ _ rfl qAO underlying101 qEk HST.o.mC (by unfold maxLen;omega) rfl p.C[k].key HK.o.1 rfl (.agg ⟨p.C[k].cells⟩) rfl ?_;intro W7 hm7 hg7);exact⟨⟨k+1,by omega,by go_num,(HST.o.mapC hg7 hm7).congr HK.o.2⟩,by simp [intOf];omega⟩
  obtain rfl:k=p.C.length:=by omega
  rw [List.take_length] at hst;have t2:=hst.bx.cell 2 (.slice aX p.X.length capX) rfl;have HN:=mH hst;clear hst hlt hk;go_wp2;go_loopw [37] (λiv wr=>∃k:Nat,k≤p.X.length∧iv=.int .i64 k∧PcS w wr w.heap.size p.C.length (.slice aS p.S.length capS) (.slice aC p.C.length capC) (.slice aX p.X.length capX) (qAT p.C)) (λiv _=>p.X.length - (intOf iv).toNat)
  case atStart=>exact⟨0,by omega,rfl,HN.o⟩
  case round =>
   clear HN t2;obtain⟨k,hk,rfl,hst⟩:=hrel
   by_cases hlt:k<p.X.length
   ·obtain⟨b,off,rfl,hb,hcc⟩:=HAX.o k hlt;have e1:qFN wr b (off+k*6) p.X[k]:=qFN.below (qBo hcc) hst.bl hb;have hprev:0<k→∃j y,j+1=k∧qFN wr b (off+j*6) y∧0<zF p.X[k] y:=λhq=>by
     obtain⟨j,hj⟩:∃j,j+1=k:=⟨k - 1,by omega⟩;have hjl:j<p.X.length:=by omega
     obtain⟨b',off',he,hb',hcj⟩:=HAX.o j hjl;simp only [Option.some.injEq,Addr.mk.injEq,and_true] at he;obtain⟨rfl,rfl⟩:=he;have h1:=List.pairwise_iff_getElem.1 HP.o.1.x1 j k hjl hlt oM;exact⟨j,p.X[j],hj,qFN.below (qBo hcj) hst.bl hb',(qAh.flip _ _).1 h1⟩
    have hz:jA p.S p.C p.X[k]=0:=HP.o.1.x2 _ (List.getElem_mem hlt);have hsk:qDz p.X[k]:=qEH HP.o.1 (List.getElem_mem hlt);have hk':(k:Int)<p.X.length:=by omega
    have HV:=mH (aI hprev (aI hz hsk));have HST:=mH (aI hst (hst.alloc (.cells ↑(p.X[k]) 79)));have hbs:b<wr.heap.size:=Nat.lt_of_lt_of_le hb hst.bl.size;clear hcc hprev hz hsk hst;generalize p.X[k]=x at *;obtain⟨c0,c1,c2,c3,c4,c5⟩:=e1;go_wp2_with fail;refine(qGN p.S p.C x kb (w.heap.size+1) (nk+p.C.length) _ ((HP.o.2.1.below (HST.o.2.bl) HP.o.2.2).mono oM) (HST.o.2.mC.mono oM) (hS' _) HV.o.2.2).mono ?_;rintro e w1 ⟨rfl,hb1⟩;rw [HV.o.2.1];have hst1:=HST.o.2.below hb1;have hbx1:qC w1 wr.heap.size ↑x 79:=(qC.new wr _ _).below hb1 sI;have hw1:Below wr.heap.size wr w1:=(qB bR _ lR).trans (hb1.mono sI);have HB1:=mH (hst1.below (Below.drew bR));have hX2:=hst1.bx.cell 2 (.slice (some ⟨b,off,none⟩) p.X.length capX) rfl;clear hb1 c0 c1 c2 c3 c4 c5 hst1
    by_cases hq:0<k
    ·obtain⟨j,y,hj,hy,hord⟩:=HV.o.1 hq;have hwp:=qHV hj oM;have hj':(j:Int)<p.X.length:=by omega
     have hna:decide (zF x y≤0)=false:=by simp;omega
     have hS:qAJ w1.drew wr.heap.size x∧qFN w1.drew b (off+j*6) y∧w1.drew.cell? ⟨w.heap.size,2,none⟩=some (.slice (some ⟨b,off,none⟩) p.X.length capX):=⟨qAJ.of hbx1,qFN.below hy hw1.drew hbs,hX2⟩;have HJ:=mH (aI hj hord);clear hy hj hord hbx1 hX2;go_wp2_with fail;refine qA.start (λW=>qAJ W wr.heap.size x∧qFN W b (off+j*6) y∧W.cell? ⟨w.heap.size,2,none⟩=some (.slice (some ⟨b,off,none⟩) p.X.length capX)) [10] kR ?_;generalize w1.drew=W2 at *;refine qA.q 0 ?_;refine qA.q 1 ?_;refine qA.q 2 ?_;refine qA.tg 3 hS ?_;refine qA.qg 4 ?_;refine qA.tg 5 hS ?_;refine qA.qg 6 ?_;refine qA.qg 7 ?_;refine qA.qg 8 ?_;refine qA.tg 9 hS ?_;refine qA.nx 10 λK hK=>?_;go_simp
     refine(qFq x y _).mono ?_;rintro e W3 ⟨rfl,hg3⟩;have HB3:=mH (HB1.o.below hg3.below);clear hg3;refine qA.o hK ?_;clear hK K;refine qA.qg 11 ?_;refine qA.q 12 ?_;refine qA.done kR ?_;go_wp2;exact⟨⟨k+1,by omega,by go_num,HB3.o⟩,by simp [intOf];omega⟩
    ·have hp0:k=0:=by omega
     clear hbx1 hX2;go_wp2_with fail;refine qA.start (λW=>True) [] kR ?_;have hS:True:=trivial;refine qA.q 0 ?_;refine qA.q 1 ?_;refine qA.q 2 ?_;refine qA.qf 3 ?_;refine qA.qf 4 ?_;refine qA.qf 5 ?_;refine qA.qf 6 ?_;refine qA.qf 7 ?_;refine qA.qf 8 ?_;refine qA.qf 9 ?_;refine qA.qf 10 ?_;refine qA.qf 11 ?_;refine qA.q 12 ?_;refine qA.done kR ?_;go_wp2;exact⟨⟨k+1,by omega,by go_num,HB1.o⟩,by simp [intOf];omega⟩
   obtain rfl:k=p.X.length:=by omega
   have t2:=(hst.alloc (.map #[] 0)).bx.cell 2 (.slice aX p.X.length capX) rfl;have hsm:zA prog 197 qEQ (wr.alloc (.map #[] 0)) wr.heap.size 0 (qDd []):=zA.congr (qDH rfl) λ_=>rfl
   have hsb:w.heap.size+2≤wr.heap.size:=hst.sz;obtain⟨sb,hsbb⟩:=eX (wr.heap.size);have HN:=mH (aI (hst.alloc (.map #[] 0)) hsm);clear hst hlt hk hsm;rw [hsbb] at HN hsb;go_wp2
   try rw [hsbb]
   generalize wr.alloc (.map #[] 0)=W0 at *;clear hsbb;go_loopw [67] (λiv wr=>∃(k nn:Nat),k≤p.X.length∧iv=.int .i64 k∧nn≤2*k∧PcS w wr w.heap.size p.C.length (.slice aS p.S.length capS) (.slice aC p.C.length capC) (.slice aX p.X.length capX) (qAT p.C)∧zA prog 197 qEQ wr sb nn (qDd (p.X.take k))) (λiv _=>p.X.length - (intOf iv).toNat)
   case atStart=>exact⟨0,0,by omega,rfl,by omega,HN.o.1,HN.o.2⟩
   case round =>
    clear HN t2;obtain⟨k,nn,hk,rfl,hnn,hst,hM⟩:=hrel
    by_cases hlt:k<p.X.length
    rotate_left
    ·have HF:=mH hst.bl;clear hst hM;go_wp2;go_ret;exact⟨rfl,HF.o⟩
    obtain⟨b,off,rfl,hb,hcc⟩:=HAX.o k hlt;obtain⟨c0,c1,c2,c3,c4,c5⟩:qFN wr b (off+k*6) p.X[k]:=qFN.below (qBo hcc) hst.bl hb;have hmt:=qPz HP.o.1.x3 hlt;have hsk:qDz p.X[k]:=qEH HP.o.1 (List.getElem_mem hlt);have hne:=(qIl HP.o.1 (List.getElem_mem hlt)).2.2;have htk:p.X.take (k+1)=p.X.take k++[p.X[k]]:=List.take_succ_eq_append_getElem hlt;obtain⟨kx,hkx⟩:=hsk.x;obtain⟨ky,hky⟩:=hsk.y;have hk':(k:Int)<p.X.length:=by omega
    have HK:=mH (aI hmt (aI hne (aI hkx (aI hky htk))));have hsw:wr.heap.size=wr.heap.size:=rfl;have HST:=mH (aI (hst.alloc (.cells ↑(p.X[k]) 79)) (aI (hM.alloc (.cells ↑(p.X[k]) 79)) ((qC.new wr _ _:qC (wr.alloc (.cells ↑(p.X[k]) 79)) wr.heap.size ↑(p.X[k]) 79))));have hwz:sb<wr.heap.size:=hM.lt;clear hcc hmt hsk hne htk hkx hky hsw hst hM;generalize p.X[k]=x at *;have i0:=qTz x;have i1:=qTj x;go_wp2;clear c0 c1 c2 c3 c4 c5;obtain⟨bx,hbx⟩:=eX (wr.heap.size);rw [hbx] at HST hwz ⊢;generalize wr.alloc (.cells ↑x 79)=W1 at *;clear hbx;go_loopw [76] (λiv wr=>∃(j nj:Nat),j≤2∧iv=.int .i64 j∧nj≤2*k+j∧PcS w wr w.heap.size p.C.length (.slice aS p.S.length capS) (.slice aC p.C.length capC) (.slice (some ⟨b,off,none⟩) p.X.length capX) (qAT p.C)∧zA prog 197 qEQ wr sb nj (qOo (p.X.take k) x j)∧qC wr bx ↑x 79) (λiv _=>2 - (intOf iv).toNat)
    case atStart=>exact⟨0,nn,by omega,rfl,by omega,HST.o.1,HST.o.2.1,HST.o.2.2⟩
    case round =>
     clear HST;obtain⟨j,nj,hj,rfl,hnj,hst,hM,hbx⟩:=hrel
     rcases (show j=0∨j=1∨j=2 by omega) with rfl|rfl|rfl
     ·have e0:=hbx.cell 0 (.string x.site) rfl;have hlk:(qOo (p.X.take k) x 0 (x.x,x.site)).getD (.bool false)=.bool false:=by show((qDd (p.X.take k)) (x.x,x.site)).getD _=_;unfold qDd;rw [qLI HK.o.1 (by unfold qAI;simp)];rfl
      have HB:=mH (aI hst (aI hM hbx));have hltx:bx<wr.heap.size:=hbx.lt;clear hst hM hbx;go_wp2_with (first|(at_lookup;refine qAX rF _ _ _ rfl qBv underlying318 (qKd _) ((HB.o.2.1.alloc _).alloc _) rfl (x.x,x.site) HK.o.2.2.1 rfl hlk ?_)|(at_mapUpdate;refine qCU rF _ _ _ _ rfl qBv underlying318 qC7 ((HB.o.2.1.alloc _).alloc _) (by unfold maxLen;omega) rfl (x.x,x.site) HK.o.2.2.1 rfl (.bool true) rfl ?_;intro W7 hm7 hg7));refine⟨⟨1,nj+1,by omega,by go_num,by omega,(((HB.o.1.alloc _).alloc _).row hg7 hsb),?_,(((HB.o.2.2.alloc _).alloc _).grown hg7 (qAy oM))⟩,by simp [intOf]⟩;exact hm7
     ·have e0:=hbx.cell 0 (.string x.site) rfl;have hlk:(qOo (p.X.take k) x 1 (x.y,x.site)).getD (.bool false)=.bool false:=by
       have h1:¬((x.y,x.site):qQ × ByteArray)=(x.x,x.site):=λq=>HK.o.2.1 (congrArg Prod.fst q).symm
       show(qB0 (qDd (p.X.take k)) (x.x,x.site) (.bool true) (x.y,x.site)).getD _=_
       unfold qB0;rw [if_neg h1];unfold qDd;rw [qLI HK.o.1 (by unfold qAI;simp)];rfl
      have HB:=mH (aI hst (aI hM hbx));have hltx:bx<wr.heap.size:=hbx.lt;clear hst hM hbx;go_wp2_with (first|(at_lookup;refine qAX rF _ _ _ rfl qBv underlying318 (qKd _) ((HB.o.2.1.alloc _).alloc _) rfl (x.y,x.site) HK.o.2.2.2.1 rfl hlk ?_)|(at_mapUpdate;refine qCU rF _ _ _ _ rfl qBv underlying318 qC7 ((HB.o.2.1.alloc _).alloc _) (by unfold maxLen;omega) rfl (x.y,x.site) HK.o.2.2.2.1 rfl (.bool true) rfl ?_;intro W7 hm7 hg7));refine⟨⟨2,nj+1,by omega,by go_num,by omega,(((HB.o.1.alloc _).alloc _).row hg7 hsb),?_,(((HB.o.2.2.alloc _).alloc _).grown hg7 (qAy oM))⟩,by simp [intOf]⟩;exact hm7
     ·have hM':=hM.congr (m':=qDd (p.X.take (k+1))) (λq=>by rw [HK.o.2.2.2.2];exact qPe _ _ q);have HF:=mH (aI hst hM');clear hst hM hM' hbx;go_wp2;exact⟨⟨k+1,nj,by omega,by go_num,by omega,HF.o.1,HF.o.2⟩,by simp [intOf];omega⟩
theorem qIF {p:Pl} (hp:jS p) (k:ByteArray):0≤qAG p.S k:=by
 unfold qAG
 cases h:p.S.find? (λs=>decide (s.key=k)) with
 | none=>exact Int.le_refl 0
 | some s=>have:=(qJF hp (List.mem_of_find?_eq_some h)).2.1;simp only;omega
theorem qJ4 (p:Pl) (hp:jS p) (hs:p.S.length≤100) (hc:p.C.length≤100) (hx:p.X.length≤100) (vS vC vX:Value) (w:World) (hA:qAN w vS vC vX p.S p.C p.X):Calls prog 210 #[.agg #[vS,vC,vX]] w
  λe w'=>e=.returned (.int .i64 0)∧Below w.heap.size w w':=by
 obtain⟨aS,capS,rfl,-,hmS,hAS⟩:=id hA.s;obtain⟨aC,capC,rfl,-,hmC,-⟩:=id hA.c;obtain⟨aX,capX,rfl,-,hmX,-⟩:=id hA.x;unfold maxLen at hmS hmC hmX;have HA:=mH (aI hA hAS);have HP:=mH hp;have hbx:qC (w.alloc (.cells #[.slice aS p.S.length capS,.slice aC p.C.length capC,.slice aX p.X.length capX] 69)) w.heap.size #[.slice aS p.S.length capS,.slice aC p.C.length capC,.slice aX p.X.length capX] 69:=qC.new w _ _;have hBa:Below w.heap.size w (w.alloc (.cells #[.slice aS p.S.length capS,.slice aC p.C.length capC,.slice aX p.X.length capX] 69)):=by exact qS
 have H1:=mH (aI hbx hBa);have hmm:=@run_makeMap prog;clear hA hAS hp hbx hBa;go_enter func210,ntmps210;go_wp2_with fail;generalize w.alloc (.cells #[.slice aS p.S.length capS,.slice aC p.C.length capC,.slice aX p.X.length capX] 69)=W1 at *;refine(qOh p.S _ W1 ((HA.o.1.below H1.o.2).s) hs HP.o.s1 HP.o.s2).mono ?_;rintro e w2 ⟨rfl,hb2⟩;have hz1:w.heap.size+1≤W1.heap.size:=H1.o.1.lt;have hbx2:=H1.o.1.below hb2 H1.o.1.lt;have hB2:=H1.o.2.trans (hb2.mono oM);have hz2:w.heap.size+1≤w2.heap.size:=Nat.le_trans hz1 hb2.size;have hm0:qAq (w2.alloc (.map #[] 0)) w2.heap.size 0 (qBE []):=zA.congr (qDH rfl) λ_=>rfl
 obtain⟨kb,hkb⟩:=eX (w2.heap.size);have t0:=(hbx2.alloc (.map #[] 0)).cell 0 (.slice aS p.S.length capS) rfl;have H2:=mH (aI (hbx2.alloc (.map #[] 0)) (aI (hB2.trans (qB bR (.map #[] 0) oM)) hm0));clear hbx2 hB2 hm0 hb2 H1 hz1;rw [hkb] at H2 hz2;go_wp2
 try rw [hkb]
 generalize w2.alloc (.map #[] 0)=W3 at *;clear hkb;go_loopw [18] (λiv wr=>∃k:Nat,k≤p.S.length∧iv=.int .i64 k∧qC wr w.heap.size #[.slice aS p.S.length capS,.slice aC p.C.length capC,.slice aX p.X.length capX] 69∧qAq wr kb k (qBE (p.S.take k))∧Below w.heap.size w wr∧w.heap.size+1≤wr.heap.size) (λiv _=>p.S.length - (intOf iv).toNat)
 case atStart=>exact⟨0,by omega,rfl,H2.o.1,H2.o.2.2,H2.o.2.1,H2.o.1.lt⟩
 case round =>
  clear H2 t0;obtain⟨k,hk,rfl,hbx,hm,hB,hz⟩:=hrel
  by_cases hlt:k<p.S.length
  ·obtain⟨b,off,rfl,hb,hcc⟩:=HA.o.2 k hlt;obtain⟨c0,c1⟩:=qDq hcc;replace c0:=(hB.cell (p:=⟨b,_,none⟩) hb).trans c0;replace c1:=(hB.cell (p:=⟨b,_,none⟩) hb).trans c1;obtain⟨kl,hkl⟩:=qBy p.S[k].key (qE4 (qJF HP.o (List.getElem_mem hlt)).1);have HK:=mH (aI hkl (λq=>qK5 HP.o.s1 hlt q));have hBa:Below w.heap.size w (wr.alloc (.cells ↑(p.S[k]) 73)):=hB.trans (qB bR _ oM);have HST:=mH (aI (hbx.alloc (.cells ↑(p.S[k]) 73)) (aI (hm.alloc (.cells ↑(p.S[k]) 73)) hBa));clear hkl hbx hm hB hcc hBa;go_wp2_with (at_mapUpdate;refine qCU rF _ _ _ _ rfl qAO underlying100 qEk HST.o.2.1 (by unfold maxLen;omega) rfl p.S[k].key HK.o.1 rfl (.int .i64 p.S[k].kind) rfl ?_;intro W7 hm7 hg7);exact⟨⟨k+1,by omega,by go_num,HST.o.1.grown hg7 (qAy oM),hm7.congr HK.o.2,HST.o.2.2.trans (jE hg7 oM (by simp;omega)),by have:=hg7.size;simp at this;omega⟩,by simp [intOf];omega⟩
  obtain rfl:k=p.S.length:=by omega
  rw [List.take_length] at hm;have t1:=hbx.cell 1 (.slice aC p.C.length capC) rfl;have t2:=hbx.cell 2 (.slice aX p.X.length capX) rfl;have HST:=mH (aI hbx (aI hm hB));clear hbx hm hB hlt hk;go_wp2_with fail;refine(qNY p.C p.S (qIF HP.o) kb p.S.length _ wr ((HA.o.1.below HST.o.2.2).c) hc HP.o.c1 HST.o.2.1 HST.o.2.1.lt (λc hcm=>by
   obtain⟨q1,q2,_⟩:=qEa (HP.o.c2 c hcm);exact⟨HP.o.c2 c hcm,qE4 (qCh HP.o q1),qE4 (qCh HP.o q2)⟩)).mono ?_
  rintro e w4 ⟨rfl,hb4⟩;have hbx4:=HST.o.1.below hb4 HST.o.1.lt;have y0:=hbx4.cell 0 (.slice aS p.S.length capS) rfl;have y1:=hbx4.cell 1 (.slice aC p.C.length capC) rfl;have y2:=hbx4.cell 2 (.slice aX p.X.length capX) rfl;have H4:=mH (aI (HST.o.2.1.below hb4 HST.o.2.1.lt) (HST.o.2.2.trans (hb4.mono oM)));clear hb4 hbx4 HST t1 t2;go_wp2_with fail;refine(qL4 p HP.o (qIF HP.o) hc hx kb p.S.length _ _ _ w4 (HA.o.1.below H4.o.2) H4.o.1).mono ?_;rintro e w5 ⟨rfl,hb5⟩;have H5:=mH (H4.o.2.trans (hb5.mono H4.o.2.size));clear hb5;go_wp2;go_ret;exact⟨rfl,H5.o⟩
theorem qQU (n at_:Int) (cb:Nat) (vE:Value) (w:World) (hb:qC w cb #[vE,.int .i64 at_] 90):Calls prog 56 #[.pointer (some ⟨cb,0,none⟩),.int .i64 n] w
  λe w'=>e=.returned (.int .i64 (if qCl n=false then 1 else if n<at_ then 7 else 0))∧qC w' cb #[vE,.int .i64 (if qCl n=false then at_ else if n<at_ then at_ else n)] 90∧w.grownBy w' (some cb):=by
 have t1:=hb.cell 1 (.int .i64 at_) rfl;have f1:=hb.free 1;have HB:=mH hb;clear hb
 cases hm:qCl n
 ·simp only [if_true];go_enter func56,ntmps56;go_wp2_with (go_at_call 70;refine(qCx _ _).mono ?_;rintro e' w' ⟨rfl,rfl⟩);go_ret;exact⟨rfl,HB.o,qCE _ _⟩
 simp only [reduceCtorEq,if_false]
 by_cases hl:n<at_
 ·simp only [if_pos hl];go_enter func56,ntmps56;go_wp2_with (go_at_call 70;refine(qCx _ _).mono ?_;rintro e' w' ⟨rfl,rfl⟩);go_ret;exact⟨rfl,HB.o,qCE _ _⟩
 ·simp only [if_neg hl];go_enter func56,ntmps56;go_wp2_with (go_at_call 70;refine(qCx _ _).mono ?_;rintro e' w' ⟨rfl,rfl⟩);go_ret;exact⟨rfl,HB.o.set 1 _,qO cb [_] 1 _⟩
theorem qQC (W:World) (e:qQ × ByteArray) {kl:Lit} (hk:keyOf prog 197 (qEQ e)=some kl) :
  (Instr.lookup 102 (.map none) (qEQ e) true).run prog W=.ok (.tuple #[.agg ↑zX,.bool false]) W :=
 Maps.look_nil true qBv underlying102 (qEo W) hk
def WbC (W:World) (wb b0 kE nn:Nat) (X:List qE) (f:qQ) (site:ByteArray):Prop:=qGZ W kE nn (qAV X)∧W.cell? ⟨wb,6,none⟩=some (.map none)∧W.cell? ⟨wb,5,none⟩=some (.map (some kE))∧qCR W b0 f site∧wb<W.heap.size∧b0<W.heap.size∧kE<W.heap.size
theorem qCR.below {W W':World} {b:Nat} {f:qQ} {k:ByteArray} (h:qCR W b f k) (hb:Below W.heap.size W W') (hl:b<W.heap.size):qCR W' b f k:=by
 have q:∀o,W'.cell? ⟨b,o,none⟩=W.cell? ⟨b,o,none⟩:=λo=>hb.cell (p:=⟨b,o,none⟩) hl
 exact⟨(q _).trans h.1,(q _).trans h.2.1,(q _).trans h.2.2⟩
theorem WbC.below {W W':World} {wb b0 kE nn:Nat} {X:List qE} {f:qQ} {site:ByteArray} (h:WbC W wb b0 kE nn X f site) (hb:Below W.heap.size W W'):WbC W' wb b0 kE nn X f site:=by
 obtain⟨h1,h2,h3,h4,h5,h6,h7⟩:=h;exact⟨h1.below hb h7,(hb.cell (p:=⟨wb,6,none⟩) h5).trans h2,(hb.cell (p:=⟨wb,5,none⟩) h5).trans h3,h4.below hb h6,Nat.lt_of_lt_of_le h5 hb.size,Nat.lt_of_lt_of_le h6 hb.size,Nat.lt_of_lt_of_le h7 hb.size⟩
theorem qI0 (X:List qE) (f:qQ) (site:ByteArray) (wb nn kS kC kE:Nat) (vS vC vX:Value) (m1 m2:ByteArray→Option Value) (w:World) (hw:qCe w wb nn vS vC vX kS kC kE m1 m2 (qAV X)) (hs:site.size≤maxLen) (hf:qBb f) :
  Calls prog 148 #[.pointer (some ⟨wb,0,none⟩),.agg #[.string site,.string (f).cable,.int .i64 (f).no]] w
  λe w'=>e=.returned (.tuple #[.agg ↑((zD X f site).getD qAi),.bool (zD X f site).isSome])∧Below w.heap.size w w':=by
 obtain⟨o,ho⟩:=eX ((zD X f site).getD qAi);obtain⟨bo,hbo⟩:=eX ((zD X f site).isSome);obtain⟨kl,hkl⟩:=qLw (f,site) hs hf;have HO:=mH (aI ho hbo);have HK:=mH hkl;rw [ho,hbo];clear ho hbo hkl hs hf;have hBa:Below w.heap.size w ((w.alloc (.cells #[.string site,.string (f).cable,.int .i64 (f).no] 197)).alloc (.cells ↑zX 79)).drew:=by exact qS
 have hx0:qC ((w.alloc (.cells #[.string site,.string (f).cable,.int .i64 (f).no] 197)).alloc (.cells ↑zX 79)).drew w.heap.size #[.string site,.string (f).cable,.int .i64 (f).no] 197:=((qC.new w _ _).alloc _).drew;have hr0:qC ((w.alloc (.cells #[.string site,.string (f).cable,.int .i64 (f).no] 197)).alloc (.cells ↑zX 79)).drew (w.heap.size+1) ↑zX 79:=(qC.newAt sI).drew;have hw0:=hw.below hBa;have hS:WbC ((w.alloc (.cells #[.string site,.string (f).cable,.int .i64 (f).no] 197)).alloc (.cells ↑zX 79)).drew wb w.heap.size kE nn X f site:=⟨hw0.mE,hw0.blk.cell 6 _ rfl,hw0.blk.cell 5 _ rfl,qCR.of hx0,hw0.blk.lt,hx0.lt,hw0.mE.lt⟩;have H1:=mH (aI hBa (aI hr0 hr0.lt));clear hBa hx0 hr0 hw0 hw;go_enter func148,ntmps148;go_wp2_with fail;refine qA.start (λW=>WbC W wb w.heap.size kE nn X f site) [10] kR ?_;generalize ((w.alloc (.cells #[.string site,.string (f).cable,.int .i64 (f).no] 197)).alloc (.cells ↑zX 79)).drew=W1 at *;refine qA.q 0 ?_;refine qA.q 1 ?_;refine qA.q 2 ?_;refine qA.t 3 hS ?_;refine qA.t 4 hS ?_;refine qA.take (i:=5) (v:=.tuple #[.agg ↑zX,.bool false]) rfl kR kR kR kR (λ_ _ _ h=>h) hS (Or.inl ⟨by rfl,?_⟩) ?_;(· (intro wS hSw;(try dsimp only at hSw);have hlk:=qQC wS (f,site) HK.o;go_simp;first|rfl|exact congrArg (λr=>Result.andThen r λa w'=>Result.ok (Next.value a) w') hlk));try simp only [Act.put,zL,zN,zH,zM,zK,zI]
 refine qA.q 6 ?_;refine qA.q 7 ?_;refine qA.q 8 ?_;refine qA.nx 9 λK hK=>?_;go_simp
 have hS2:=hS.below (qB bR (.cells ↑zX 79) lR);refine hK.out _ _ (λ_ _=>hS2) ?_;clear hK K;try simp only [Act.put,zL,zN,zH,zM,zK,zI]
 refine qA.nx 10 λK hK=>?_;go_simp
 refine qA.o hK ?_;clear hK K;refine qA.q 11 ?_;refine qA.done kR ?_;have H2:=mH (aI (H1.o.1.trans (qB bR (.cells ↑zX 79) H1.o.1.size)).drew (aI (H1.o.2.1.alloc (.cells ↑zX 79)).drew (show w.heap.size+1<(W1.alloc (.cells ↑zX 79)).drew.heap.size by have:=H1.o.2.2;simp;omega)));have hS3:WbC (W1.alloc (.cells ↑zX 79)).drew wb w.heap.size kE nn X f site:=hS2.below (Below.drew bR);clear hS hS2 H1;have hS:=hS3;clear hS3;go_wp2_with fail;refine qA.start (λW=>WbC W wb w.heap.size kE nn X f site) [10] kR ?_;generalize (W1.alloc (.cells ↑zX 79)).drew=W2 at *;refine qA.q 0 ?_;refine qA.q 1 ?_;refine qA.q 2 ?_;refine qA.t 3 hS ?_;refine qA.t 4 hS ?_;refine qA.take (i:=5) (v:=.tuple #[.agg ↑o,.bool bo]) rfl kR kR kR kR (λ_ _ _ h=>h) hS (Or.inl ⟨by rfl,?_⟩) ?_;(· (intro wS hSw;(try dsimp only at hSw);obtain⟨hEM,_⟩:=hSw;have hlk:=qIm hEM (f,site) HK.o;rw [HO.o.1,HO.o.2] at hlk;go_simp;first|rfl|exact congrArg (λr=>Result.andThen r λa w'=>Result.ok (Next.value a) w') hlk));try simp only [Act.put,zL,zN,zH,zM,zK,zI]
 refine qA.q 6 ?_;refine qA.q 7 ?_;refine qA.q 8 ?_;refine qA.nx 9 λK hK=>?_;go_simp
 have hS2:=hS.below (qB bR (.cells ↑zX 79) lR);refine hK.out _ _ (λ_ _=>hS2) ?_;clear hK K;try simp only [Act.put,zL,zN,zH,zM,zK,zI]
 refine qA.nx 10 λK hK=>?_;go_simp
 refine qA.o hK ?_;clear hK K;refine qA.q 11 ?_;refine qA.done kR ?_;have hr3:=H2.o.2.1.alloc (.cells ↑o 79);have hB3:Below w.heap.size w (W2.alloc (.cells ↑o 79)):=H2.o.1.trans (qB bR _ H2.o.1.size);have hx3:qC (W2.alloc (.cells ↑o 79)) W2.heap.size ↑o 79:=qC.new _ _ _;clear hS hS2;obtain⟨b8,hb8⟩:=eX (W2.heap.size);rw [hb8] at hx3 ⊢;generalize W2.alloc (.cells ↑o 79)=W3 at *;clear hb8;obtain⟨x0,x1,x2,x3,x4,x5,hfz⟩:=hr3.at6;have f0:=hfz 0;have f1:=hfz 1;have f2:=hfz 2;have f3:=hfz 3;have f4:=hfz 4;have f5:=hfz 5;obtain⟨y0,y1,y2,y3,y4,y5,_⟩:=hx3.at6;have HF:=mH (aI hr3 hB3);clear hr3 hB3 hx3 hfz;go_wp2;refine bodyPost_ret (v:=.tuple #[.agg ↑o,.bool bo]) ?_ rfl ⟨?_,?_⟩
 ·exact qF rfl _ _ (w.heap.size+1) 79 ↑o _ (0,0) _ rfl rfl (qC.fill6 HF.o.1) underlying79 rfl kR
 ·rfl
 ·exact Below.fill6 HF.o.2 (Nat.le_succ _) _ _ _ _ _ _
end Go.Proofs.YtbgnlfgkgklkdaaGreatDoor
