/- Parts of the proof of ScriptsAnswered: SoE, SpB, SrC. No condition. -/
import Derived.Test.YtbgnlfgkgklkdaaGreatDoorZ56
set_option linter.unusedVariables false
set_option linter.unusedSimpArgs false
set_option maxHeartbeats 8000000
set_option maxRecDepth 100000
namespace Go.Proofs.YtbgnlfgkgklkdaaGreatDoor
open Go Go.RowKit Tryz
def qBH (l:List qD) (L:List Nat) (k:Nat):Pl:=(L.take k).foldl (λp i=>(zV p (zZ l i)).2) Pl.nil
theorem qHa (l:List qD) (L:List Nat) {k:Nat} (hk:k<L.length):qBH l L (k+1)=(zV (qBH l L k) (zZ l L[k])).2:=by
 unfold qBH;rw [List.take_succ_eq_append_getElem hk,List.foldl_append];rfl
theorem qHW (l:List qD) (L:List Nat):∀k,k≤L.length→k≤100→jS (qBH l L k)∧(qBH l L k).S.length≤k∧(qBH l L k).C.length≤k∧(qBH l L k).X.length≤k
 | 0,_,_=>⟨qOA,by simp [qBH,Pl.nil],by simp [qBH,Pl.nil],by simp [qBH,Pl.nil]⟩
 | k+1,hk,h1=>by
  obtain⟨q1,q2,q3,q4⟩:=qHW l L k oM oM;rw [qHa l L oM];obtain⟨r1,r2,r3,r4⟩:=qJJ q1 (zZ l L[k]) oM oM oM;exact⟨r1,by omega,by omega,by omega⟩
theorem qUO:Oth 3:=by unfold Oth;decide
theorem qOE {α:Type} {cells:α→List Value} {sz:Nat} {w w':World} {g:Nat} {l:List α} {cs:Array Value} {t:TypeId} (h:Row cells sz w g l) (h1:qC w g cs t) (h2:qC w' g cs t) (hs:w.heap.size≤w'.heap.size):Row cells sz w' g l :=
 h.kept (show w'.heap[g]? = w.heap[g]? from by unfold qC at h1 h2;rw [h1,h2]) hs
structure qUZ (J:Nat→World→Prop) (l:List qD) (v:Value) (L:List Nat) (base:Nat) (F:FuncId) (cp:Array Value):Prop where
 run:∀(args:Array Value) (w:World),(callFunc F args).run prog w=.ok (.enter F args) w
 below:∀k W W',J k W→Below base W W'→J k W'
 arr:∀k W,J k W→qI qD.cells 17 W l v
 call:∀k (hk:k<L.length) W,J k W→Calls prog F (#[.int .i64 (L[k]:Nat),.int .i64 (zV (qBH l L k) (zZ l L[k])).1]++cp) W λe W'=>e=.returned (.tuple #[])∧J (k+1) W'∧∃row,(∀b,row=some b→b<base)∧W.grownBy W' row
theorem qJs (l:List qD) (v:Value) (at_:Int) (F:FuncId) (cp:Array Value) (w:World) (hA:qI qD.cells 17 w l v) (h0:0<l.length) (hl:l.length≤100)
  (hE:∀e∈l,qB2 e∧zC e.kind 1 5=false) (J:List Nat→Nat→World→Prop) (hJ0:∀L W,Below w.heap.size w W→J L 0 W) (hsee:∀L,L.Perm (List.range l.length)→Asc (cIx l) L→qUZ (J L) l v L w.heap.size F cp) :
  Calls prog 46 #[v,.int .i64 at_,.func (.func F) #[] cp] w
  λe w'=>∃gb nn L k,e=.returned (.pointer (some ⟨gb,0,none⟩))∧L.Perm (List.range l.length)∧Asc (cIx l) L∧k≤L.length∧nn≤400∧(∀j (hj:j<L.length),j<k→(zZ l L[j]).at_≤at_)∧(∀h:k<L.length,at_<(zZ l L[k]).at_) ∧
   qAe w.heap.size w' w' gb nn (qBH l L k)∧J L k w':=by
 obtain⟨a,cap,rfl,hcap,hmax,hc⟩:=hA;have HA:=mH (show qI qD.cells 17 w l (.slice a l.length cap) from⟨a,cap,rfl,hcap,hmax,hc⟩);clear hcap hmax hc;have HE:=mH (aI hE (aI hJ0 hsee));clear hE hJ0 hsee;have hmm:=@run_makeMap prog;have hW:(((((w.alloc (.map #[] 0)).alloc (.map #[] 0)).alloc (.map #[] 0)).alloc (.map #[] 0)).alloc (.cells #[.slice none 0 0,.slice none 0 0,.slice none 0 0,.map (some w.heap.size),.map (some (w.heap.size+1)),.map (some (w.heap.size+2)),.map (some (w.heap.size+3))] 105))=qDc w:=rfl;have HW:=mH hW;clear hW;go_enter func46,ntmps46;go_wp2_with fail
 show Calls prog 71 #[.slice a l.length cap] (qDc w) _
 obtain⟨gb,hgb⟩:∃g,w.heap.size+1+1+1+1=g:=⟨_,rfl⟩;rw [hgb];have hnw:qAe w.heap.size (qDc w) (qDc w) gb 0 Pl.nil:=hgb ▸ qAe.new w;refine(qRM l _ (qDc w) (HA.o.below (qDM w)) h0 oM).mono ?_;rintro e W1 ⟨v1,L,rfl,hp,has,hrv,hb1,hbk⟩;have hLn:L.length=l.length:=by rw [hp.length_eq,List.length_range]
 rcases hrv with⟨_,rfl⟩|⟨g,cap1,rfl,hg,hc1,hm1,hrow⟩
 ·simp at hLn;omega
 obtain⟨cs1,hbk⟩:=hbk g rfl;have h1:=(hnw.below hb1).rebase;have hB1:Below w.heap.size w W1:=(qDM w).trans (hb1.mono (qDM w).size);have HL:=mH (aI hp (aI has (HE.o.2.2 L hp has)));have H1:=mH (aI h1 (aI hB1 (aI hrow hbk)));clear hp has hnw h1 hB1 hrow hbk hb1 hgb;go_wp2_with fail;go_loopw [19] (λiv wr=>∃k nn,k≤L.length∧iv=.int .i64 (k:Nat)∧nn≤3*k∧qAe w.heap.size wr wr gb nn (qBH l L k)∧J L k wr∧Row qAP 1 wr g L∧(∃cs,qC wr g cs 3)∧w.heap.size≤wr.heap.size∧∀j (hj:j<L.length),j<k→(zZ l L[j]).at_≤at_) (λiv _=>L.length - (intOf iv).toNat)
 case atStart=>exact⟨0,0,by omega,rfl,by omega,H1.o.1,HE.o.2.1 L _ H1.o.2.1,H1.o.2.2.1,⟨_,H1.o.2.2.2⟩,H1.o.2.1.size,λj _ h=>by omega⟩
 case round =>
  obtain⟨k,nn,hk,rfl,hnn,hgr,hJ,hrow,⟨cs,hbk⟩,hz,hat⟩:=hrel
  by_cases hlt:k<L.length
  rotate_left
  ·obtain rfl:k=L.length:=by omega
   have HF:=mH (aI hgr (aI hJ hat));clear hgr hJ hrow hbk hat;go_wp2;go_ret;exact⟨gb,nn,L,L.length,rfl,HL.o.1,HL.o.2.1,by omega,by omega,HF.o.2.2,λh=>by omega,HF.o.1,HF.o.2.1⟩
  have hLk:L[k]<l.length:=List.mem_range.1 (HL.o.1.mem_iff.1 (List.getElem_mem hlt));obtain⟨a',cap',he,hcap',hmax',hc'⟩:=HL.o.2.2.arr k wr hJ;simp only [Value.slice.injEq,true_and] at he;obtain⟨rfl,rfl⟩:=he;obtain⟨b,off,rfl,hb,hcc⟩:=hc' L[k] hLk;have hx:zZ l L[k]=l[L[k]]:=qBV hLk;have e1:qB1 wr b (off+L[k]*17) l[L[k]]:=qB1.of hcc;obtain⟨he1,he2⟩:=HE.o.1 l[L[k]] (List.getElem_mem hLk);obtain⟨hp,p1,p2,p3⟩:=qHW l L k hk oM;have hs:=qHa l L hlt;have hcall:=HL.o.2.2.call k hlt;have hrun:=HL.o.2.2.run;have t0:wr.cell? ⟨g,k,none⟩=some (.int .i64 (L[k]:Nat)):=by
   have:=hrow.1 k hlt 0 _ rfl
   simpa [qD9] using this
  have hat':∀j (hj:j<L.length),j<k+1→(zZ l L[k]).at_≤at_→(zZ l L[j]).at_≤at_:=λj hj hjk h=>by
   rcases Nat.lt_or_ge j k with h1|h1
   ·exact hat j hj h1
   ·obtain rfl:j=k:=by omega
    exact h
  have hend:at_<(zZ l L[k]).at_→∀h:k<L.length,at_<(zZ l L[k]).at_:=λh _=>h
  rw [hx] at hs hcall hat' hend;have H:=mH (aI hgr (aI hJ (aI hrow (aI hbk (aI hz (aI hat' (aI hend (aI he1 (aI he2 (aI hp (aI (aI p1 (aI p2 p3)) (aI hs hcall))))))))))));have HAT:=mH hat;have hLk':((L[k]:Nat):Int)<l.length:=by omega
  clear hgr hJ hrow hbk hz hat' hend he1 he2 hp p1 p2 p3 hs hcall hat hc' hcc hx hcap' hmax' hb;generalize l[L[k]]=x at *;obtain⟨c0,c1,c2,c3,c4,c5,c6,c7,c8,c9,c10,c11,c12,c13,c14,c15,c16⟩:=e1
  by_cases hq:at_<x.at_
  ·have hq1:decide (at_<x.at_)=true:=by simp [hq]
   go_wp2;go_ret;exact⟨gb,nn,L,k,rfl,HL.o.1,HL.o.2.1,by omega,by omega,HAT.o,H.o.2.2.2.2.2.2.1 hq,H.o.1,H.o.2.1⟩
  have hq1:decide (at_<x.at_)=false:=by simp [hq]
  go_wp2_with fail;obtain⟨hgr,hJ,hrow,hbk,hz,hat',hend,he1,he2,hp,⟨p1,p2,p3⟩,hs,hcall⟩:=H;refine(qQe w.heap.size gb nn (qBH l L k) x wr hgr hp he1 he2 oM oM oM oM hz).mono ?_;rintro e W2 ⟨rfl,h2,hb2⟩;have hbk2:=h2.fr _ _ _ qUO hbk;have hJ2:=HL.o.2.2.below k _ _ hJ hb2;have hrow2:=qOE hrow hbk hbk2 hb2.size;have hc2:=hcall W2 hJ2;have H2:=mH (aI h2 (aI hbk2 (aI hrow2 (aI hc2 (aI (Nat.le_trans hz hb2.size) (aI hs (hat' · · · oM)))))));clear h2 hbk2 hJ2 hrow2 hc2 hgr hJ hrow hbk hat' hend hs hcall he1 he2 hp p1 p2 p3 hb2;go_wp2_with fail;refine H2.o.2.2.2.1.mono ?_;rintro e W3 ⟨rfl,hJ3,row,hr3,hg3⟩;obtain⟨h2,hbk2,hrow2,-,hz2,hs,hat2⟩:=H2;obtain⟨u,h2⟩:=h2;have hgb:w.heap.size≤g:=Nat.le_trans (qDM w).size hg;have h3:=h2.kept hg3 hr3;have hbk3:=hbk2.grown hg3 (λe=>by have:=hr3 g e.symm;omega);have hrow3:=qOE hrow2 hbk2 hbk3 hg3.size;have H3:=mH (aI (show qAe w.heap.size W3 W3 gb (nn+3) (qBH l L (k+1)) from hs ▸ ⟨u,h3⟩) (aI hrow3 (aI hbk3 (aI hat2 (Nat.le_trans hz2 hg3.size)))));clear h2 hbk2 hrow2 hz2 hs hat2 h3 hbk3 hrow3;go_wp2;exact⟨⟨k+1,nn+3,by omega,by go_num,by omega,H3.o.1,hJ3,H3.o.2.1,⟨_,H3.o.2.2.1⟩,H3.o.2.2.2.2,H3.o.2.2.2.1⟩,by simp [intOf];omega⟩
theorem qHq (l:List qD) (L:List Nat) (k:Nat):qBH l L k=(jU l (L.take k)).1:=by
 rw [qLL];unfold qBH qFJ;rw [List.foldl_map]
def qC9 (R:List (Nat × Int)) (i:Int):Option Value:=if 0≤i then (qBl R i.toNat).map (Value.int .i64) else none
theorem qKr {R:List (Nat × Int)} {i:Nat} {n:Int} (h:∀q∈R,q.1≠i) (j:Int):qB0 (qC9 R) (i:Int) (.int .i64 n) j=qC9 (R++[(i,n)]) j:=by
 unfold qB0 qC9
 by_cases hj:0≤j
 ·rw [if_pos hj,if_pos hj,qPp h]
  by_cases hi:j=(i:Int)
  ·subst hi;simp
  ·have h2:j.toNat≠i:=by omega
   simp [hi,h2]
 ·rw [if_neg hj,if_neg hj];have hi:¬j=(i:Int):=by omega
  simp [hi]
theorem qJk {l:List qD} {L:List Nat} (hn:L.Nodup) {k:Nat} (hk:k<L.length):∀q∈(jU l (L.take k)).2,q.1≠L[k]:=by
 intro q hq he;have h1:=(qQu l _ q hq).1;rw [he] at h1;obtain⟨j,hj,hjk⟩:=List.getElem_of_mem h1;rw [List.length_take] at hj;rw [List.getElem_take] at hjk;exact List.pairwise_iff_getElem.1 hn j k oM hk oM hjk
structure qUC (l:List qD) (v:Value) (w0:World) (L:List Nat) (k:Nat) (W:World):Prop where
 below:Below w0.heap.size w0 W
 size:w0.heap.size+2≤W.heap.size
 box:qC W (w0.heap.size+1) #[.map (some w0.heap.size)] 151
 map:zA prog 3 qFQ W w0.heap.size k (qC9 (jU l (L.take k)).2)
theorem qMC (i n:Int) (mb bb nn:Nat) (m:Int→Option Value) (w:World) (hb:qC w bb #[.map (some mb)] 151) (hm:zA prog 3 qFQ w mb nn m) (hi : -9223372036854775808≤i∧i≤9223372036854775807) (hnn:nn≤1000) :
  Calls prog 146 #[.int .i64 i,.int .i64 n,.pointer (some ⟨bb,0,none⟩)] w λe w'=>e=.returned (.tuple #[])∧w.grownBy w' (some mb)∧zA prog 3 qFQ w' mb (nn+1) (if n≠0 then qB0 m i (.int .i64 n) else m):=by
 have t0:=hb.cell 0 (.map (some mb)) rfl;obtain⟨kl,hkl⟩:=qJQ i (WalkArith.wf_i64 oM);have HK:=mH (aI hkl hm);clear hkl hm
 by_cases h:n=0
 ·have hq:(n==0)=true:=by simp [h]
  go_enter func146,ntmps146;go_wp2
  ((try simp only [Exit.inBlock,Exit.then]);refine bodyPost_end (results_none rfl _ _ _) rfl ?_)
  exact⟨rfl,qCE _ _,HK.o.2.mono oM⟩
 ·have hq:(n==0)=false:=by simp [h]
  go_enter func146,ntmps146;go_wp2_with (at_mapUpdate;refine qCU rF _ _ _ _ rfl qEl underlying151 qLy HK.o.2 (by unfold maxLen;omega) rfl i HK.o.1 rfl _ rfl ?_;intro w5 hM5 hg5)
  ((try simp only [Exit.inBlock,Exit.then]);refine bodyPost_end (results_none rfl _ _ _) rfl ?_)
  exact⟨rfl,hg5,hM5⟩
theorem qOQ {L:List Nat} {n:Nat} (h:L.Perm (List.range n)):L.Nodup:=h.nodup_iff.2 List.nodup_range
theorem qNQ (l:List qD) (v:Value) (w:World) (hA:qI qD.cells 17 w l v) (h0:0<l.length) (hl:l.length≤100) (hE:∀e∈l,qB2 e∧zC e.kind 1 5=false) (hat:∀e∈l,qCl e.at_=true) (hs:qAD qP l) :
  Calls prog 92 #[v] w λe w'=>∃mb n,e=.returned (.map (some mb))∧zA prog 3 qFQ w' mb n (qC9 (qBw l))∧n≤100∧Below w.heap.size w w':=by
 have HE:=mH (aI hA (aI hE (aI hat hs)));clear hA hE hat hs;have hmm:=@run_makeMap prog;go_enter func92,ntmps92;go_wp2_with fail;have hb:qC ((w.alloc (.map #[] 0)).alloc (.cells #[.map (some w.heap.size)] 151)) (w.heap.size+1) #[.map (some w.heap.size)] 151:=qC.newAt sI;have hJ0:∀L,qUC l v w L 0 ((w.alloc (.map #[] 0)).alloc (.cells #[.map (some w.heap.size)] 151)):=λL =>
  ⟨by exact qS,by simp,hb,(zA.congr (zA.made _ _ _ _) λq=>by simp [qKf,qC9,qBl]).alloc _⟩
 have hs0:((w.alloc (.map #[] 0)).alloc (.cells #[.map (some w.heap.size)] 151)).heap.size=w.heap.size+2:=by simp
 have HJ:=mH (aI hJ0 hs0);clear hb hJ0 hs0;generalize (w.alloc (.map #[] 0)).alloc (.cells #[.map (some w.heap.size)] 151)=W1 at *;obtain⟨HJ0,HS⟩:=HJ;refine(qJs l v 345686400000 146 #[.pointer (some ⟨w.heap.size+1,0,none⟩)] W1 (HE.o.1.below (HJ0 []).below) h0 hl HE.o.2.1 (qUC l v w) (λL W hb=>?_) (λL hp ha=>?_)).mono ?_
 ·have h:=HJ0 L;exact⟨h.below.trans (hb.mono h.below.size),Nat.le_trans h.size hb.size,h.box.below hb oM,h.map.below hb oM⟩
 ·refine⟨qAB func146 kR rfl,λk W W' h hb=>?_,λk W h=>HE.o.1.below h.below,λk hk W h=>?_⟩
  ·rw [HS] at hb;exact⟨h.below.trans (hb.mono oM),Nat.le_trans h.size hb.size,h.box.below hb oM,h.map.below hb oM⟩
  ·have hlt:L[k]<l.length:=List.mem_range.1 (hp.mem_iff.1 (List.getElem_mem hk));have hkl:L.length=l.length:=by rw [hp.length_eq,List.length_range]
   refine(qMC (L[k]:Nat) _ w.heap.size (w.heap.size+1) k _ W h.box h.map oM oM).mono ?_;rintro e W' ⟨rfl,hg,hm⟩;refine⟨rfl,⟨h.below.trans (jE hg oM (by have:=h.size;omega)),Nat.le_trans h.size hg.size,h.box.grown hg (λe=>by have:=Option.some.inj e;omega),?_⟩,some w.heap.size,λb hb=>by have:=Option.some.inj hb;omega,hg⟩;refine hm.congr λq=>?_
   rw [qJj hk,qHq]
   by_cases hz:(zV (jU l (L.take k)).1 (zZ l L[k])).1≠0
   ·simp only [if_pos hz];exact qKr (qJk (qOQ hp) hk) q
   ·simp only [if_neg hz]
 ·rintro e W2 ⟨gb,nn,L,k,rfl,hp,ha,hk,hnn,h1,h2,hgr,hJ⟩;have hkl:L.length=l.length:=by rw [hp.length_eq,List.length_range]
  have hkk:k=L.length:=by
   rcases Nat.lt_or_ge k L.length with h|h
   ·have h3:=h2 h;have hlt:L[k]<l.length:=List.mem_range.1 (hp.mem_iff.1 (List.getElem_mem h));have h4:=HE.o.2.2.1 l[L[k]] (List.getElem_mem hlt);rw [qBV hlt] at h3;unfold qCl at h4;have:=qAU.1 (by simpa using h4);omega
   ·omega
  subst hkk;have hix:=qNq HE.o.2.2.2 hp ha lR h1 h2;have hM:=hJ.map;rw [hix] at hM;have t0:=hJ.box.cell 0 (.map (some w.heap.size)) rfl;have H2:=mH (aI hM hJ.below);clear hgr hJ h1 h2 hp ha hix hM;go_wp2;go_ret;exact⟨w.heap.size,_,rfl,H2.o.1,by omega,H2.o.2⟩
theorem qRf (a:Option Addr) (cap:Nat) (lim:Int) (F:FuncId) (cp:Array Value) (w:World):Calls prog 173 #[.slice a 0 cap,.int .i64 0,.int .i64 0,.int .i64 lim,.func (.func F) #[] cp] w λe w'=>e=.returned (.tuple #[])∧w'=w:=by
 go_enter func173,ntmps173;go_wp2;go_loopw [1,2] (λav bv wr=>av=.int .i64 0∧bv=.int .i64 0∧wr=w) (λ_ _ _=>0)
 case atStart=>exact⟨rfl,rfl,rfl⟩
 case round =>
  obtain⟨rfl,rfl,hw⟩:=hrel;have hw:=hw.symm;subst hw;go_wp2_with fail;refine(qHO a cap F cp w).mono ?_;rintro e w1 ⟨rfl,rfl⟩;go_wp2;refine bodyPost_ret (v:=.tuple #[]) (by simp [results,go_sem]) rfl ?_;exact⟨rfl,rfl⟩
theorem qOi (a:Option Addr) (cap:Nat) (F:FuncId) (cp:Array Value) (w:World):Calls prog 118 #[.slice a 0 cap,.func (.func F) #[] cp] w λe w'=>e=.returned (.tuple #[])∧w'=w:=by
 go_enter func118,ntmps118;go_wp2_with fail;refine(Tryz.bits_Len 0 _ oM oM).mono ?_;rintro e w1 ⟨rfl,rfl⟩;go_wp2_with fail;refine(qRf a cap _ F cp _).mono ?_;rintro e w2 ⟨rfl,rfl⟩;go_wp2
 ((try simp only [Exit.inBlock,Exit.then]);refine bodyPost_end (results_none rfl _ _ _) rfl ?_)
 exact⟨rfl,rfl⟩
theorem qRE (a:Option Addr) (cap:Nat) (hcap:cap≤maxLen) (w:World):Calls prog 71 #[.slice a 0 cap] w
  λe w'=>∃a' cap',e=.returned (.slice a' 0 cap')∧Below w.heap.size w w':=by
 go_enter func71,ntmps71;go_wp2;have hB0:Below w.heap.size w (w.alloc (.cells #[.slice a 0 cap] 62)):=by exact qS
 have HB0:=mH hB0;clear hB0;generalize w.alloc (.cells #[.slice a 0 cap] 62)=W0 at *;go_loopw [3,7] (λov iv wr=>ov=.slice none 0 0∧iv=.int .i64 0∧wr=W0) (λ_ _ _=>0)
 case atStart=>exact⟨rfl,rfl,rfl⟩
 case round =>
  obtain⟨rfl,rfl,hw⟩:=hrel;have hw:=hw.symm;subst hw;go_wp2_with fail;refine(qOi none 0 119 #[.pointer (some ⟨w.heap.size,0,none⟩)] _).mono ?_;rintro e w1 ⟨rfl,rfl⟩;go_wp2;go_ret;exact⟨none,0,rfl,HB0.o⟩
theorem qPJ (a:Option Addr) (cap:Nat) (hcap:cap≤maxLen) (at_:Int) (F:FuncId) (cp:Array Value) (w:World):Calls prog 46 #[.slice a 0 cap,.int .i64 at_,.func (.func F) #[] cp] w
  λe w'=>∃gb,e=.returned (.pointer (some ⟨gb,0,none⟩))∧qAe w.heap.size w' w' gb 0 Pl.nil∧Below w.heap.size w w':=by
 have hmm:=@run_makeMap prog;have hW:(((((w.alloc (.map #[] 0)).alloc (.map #[] 0)).alloc (.map #[] 0)).alloc (.map #[] 0)).alloc (.cells #[.slice none 0 0,.slice none 0 0,.slice none 0 0,.map (some w.heap.size),.map (some (w.heap.size+1)),.map (some (w.heap.size+2)),.map (some (w.heap.size+3))] 105))=qDc w:=rfl;have HW:=mH hW;clear hW;go_enter func46,ntmps46;go_wp2_with fail
 show Calls prog 71 #[.slice a 0 cap] (qDc w) _
 refine(qRE a cap hcap (qDc w)).mono ?_;rintro e W1 ⟨a1,c1,rfl,hb1⟩;have h1:=((qAe.new w).below hb1).rebase;have hB1:Below w.heap.size w W1:=(qDM w).trans (hb1.mono (qDM w).size);have H1:=mH (aI h1 hB1);clear h1 hB1 hb1;go_wp2;go_loopw [19] (λiv wr=>iv=.int .i64 0∧wr=W1) (λ_ _=>0)
 case atStart=>exact⟨rfl,rfl⟩
 case round =>
  obtain⟨rfl,hw⟩:=hrel;have hw:=hw.symm;subst hw;go_wp2;go_ret;exact⟨_,rfl,H1.o.1,H1.o.2⟩
end Go.Proofs.YtbgnlfgkgklkdaaGreatDoor
