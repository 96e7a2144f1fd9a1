/- Parts of the proof of ScriptsAnswered: SuF, StS, StT, StD, StF, StK. No condition. -/
import Derived.Test.YtbgnlfgkgklkdaaGreatDoorZ49
import Derived.Test.YtbgnlfgkgklkdaaGreatDoorZ45
set_option linter.unusedVariables false
set_option linter.unusedSimpArgs false
set_option maxHeartbeats 8000000
set_option maxRecDepth 100000
namespace Go.Proofs.YtbgnlfgkgklkdaaGreatDoor
open Go Go.RowKit Tryz
def qLo (cb:Nat) (r:Int × List qD) (at_:Int) (vE:Value) (w:World) (x:Ending) (w':World):Prop :=
 ∃v',x=.returned (.string (bA (qBu (r.1,okT))))∧qC w' cb #[v',.int .i64 at_] 98∧qI qD.cells 17 w' r.2 v'∧w.grownBy w' (some cb)∧(v'=vE∨∀b off n c,v'=.slice (some ⟨b,off,none⟩) n c→w.heap.size≤b)
theorem qLo.bad {cb:Nat} {f:Int} {E:List qD} {at_:Int} {vE:Value} {w w':World} (hb:qC w cb #[vE,.int .i64 at_] 98) (hA:qI qD.cells 17 w E vE) (hf:f≠0) (hB:Below w.heap.size w w'):qLo cb (f,E) at_ vE w (.returned (.string (qKA f))) w' :=
 ⟨vE,by unfold qBu;rw [if_pos hf];rfl,hb.below hB hb.lt,hA.below hB,qH _ hB,.inl rfl⟩
theorem qSC (l:List qD):∀L:List Nat,∀q∈(jU l L).2,q.2≠0:=by
 refine qEK (λq h=>by cases h) λL x ih q hq=>?_
 rw [qEY] at hq
 by_cases h:(zV (jU l L).1 (zZ l x)).1≠0
 ·rw [if_pos h] at hq
  rcases List.mem_append.1 hq with r|r
  ·exact ih q r
  ·rw [List.mem_singleton.1 r];exact h
 ·rw [if_neg h] at hq;exact ih q hq
theorem qTM {R:List (Nat × Int)} (h:∀q∈R,q.2≠0) {i:Nat} {v:Int} (hv:qBl R i=some v):v≠0:=by
 unfold qBl at hv;obtain⟨q,hq,rfl⟩:=Option.map_eq_some_iff.1 hv;exact h q (List.mem_of_find?_eq_some hq)
def ix1 (q:Nat × Int):List Value:=[.int .i64 (q.1:Nat)]
def ix2 (q:Nat × Int):List Value:=[.int .i64 q.2]
theorem qPB (E:List qD) (at_:Int) (team:ByteArray) (e:qD) (cb:Nat) (vE:Value) (w:World) (hb:qC w cb #[vE,.int .i64 at_] 98) (hA:qI qD.cells 17 w E vE) (hD:qBR E at_) (hk:zC e.kind 1 5=false) (hf:qCq e=true) (hn0:e.no=0) (hlen:E.length<18) (hSp:∀y∈E,jF y.spc) (hSe:jF e.spc) (ht:Tab10 w) :
  Calls prog 65 #[.pointer (some ⟨cb,0,none⟩),.string team,.agg ↑e] w (qLo cb (qAC E at_ team e) at_ vE w):=by
 have HCB:Hx (cb<w.heap.size):=mH hb.lt;obtain⟨a,cap,rfl,hcap,hmax,hc⟩:=id hA;unfold maxLen at hmax;have HP:=mH (aI hA (aI hD (aI hc (aI hSp (aI hSe (aI (qKq hD hk hf oM:qEg (qA7 E at_ team e)) ht))))));have hcb:=hb.lt;have hcbn:cb≠w.heap.size:=by omega
 have HB:=mH hb;have t1:=hb.cell 1 _ rfl;clear hA hD hc hSp hSe hk hf hb ht;obtain⟨e0,he0⟩:=eX (e.no);rw [he0] at hn0;have HN0:=mH hn0;clear hn0;go_enter func65,ntmps65;go_wp2_with fail;rw [he0];clear he0;have hS:(w.alloc (.cells #[.string e.team,.int .i64 (e0),.int .i64 e.at_,.int .i64 e.kind,.string e.site.key,.int .i64 e.site.kind,.string e.cab.key,.string e.cab.a,.string e.cab.b,.int .i64 e.cab.long,.int .i64 e.cab.fibs,.string e.spc.site,.string e.spc.x.cable,.int .i64 e.spc.x.no,.string e.spc.y.cable,.int .i64 e.spc.y.no,.int .i64 e.spc.loss] 81)).drew.cell? ⟨cb,1,none⟩=some (.int .i64 at_):=(HB.o.alloc _).drew.cell 1 _ rfl;refine qA.start (λW=>W.cell? ⟨cb,1,none⟩=some (.int .i64 at_)) [] kR ?_;clear t1;refine qA.q 0 ?_;refine qA.q 1 ?_;refine qA.q 2 ?_;refine qA.q 3 ?_;refine qA.t 4 hS ?_;refine qA.q 5 ?_;refine qA.nx 6 λK hK=>?_;go_simp
 refine hK.out _ _ (λ_ _=>(HB.o.alloc _).drew.cell 1 _ rfl) ?_;clear hK K hS;try simp only [Act.put,zL,zN,zH,zM,zK,zI]
 refine qA.q 7 ?_;refine qA.nx 8 λK hK=>?_;go_simp
 refine hK.out _ _ (λ_ _=>(HB.o.alloc _).drew.cell 1 _ rfl) ?_;clear hK K;try simp only [Act.put,zL,zN,zH,zM,zK,zI]
 refine qA.done kR ?_;have hx0:qC (w.alloc (.cells #[.string team,.int .i64 (e0),.int .i64 at_,.int .i64 e.kind,.string e.site.key,.int .i64 e.site.kind,.string e.cab.key,.string e.cab.a,.string e.cab.b,.int .i64 e.cab.long,.int .i64 e.cab.fibs,.string e.spc.site,.string e.spc.x.cable,.int .i64 e.spc.x.no,.string e.spc.y.cable,.int .i64 e.spc.y.no,.int .i64 e.spc.loss] 81)).drew w.heap.size #[.string team,.int .i64 (e0),.int .i64 at_,.int .i64 e.kind,.string e.site.key,.int .i64 e.site.kind,.string e.cab.key,.string e.cab.a,.string e.cab.b,.int .i64 e.cab.long,.int .i64 e.cab.fibs,.string e.spc.site,.string e.spc.x.cable,.int .i64 e.spc.x.no,.string e.spc.y.cable,.int .i64 e.spc.y.no,.int .i64 e.spc.loss] 81:=(qC.new w _ _).drew;have hb0:qC (w.alloc (.cells #[.string team,.int .i64 (e0),.int .i64 at_,.int .i64 e.kind,.string e.site.key,.int .i64 e.site.kind,.string e.cab.key,.string e.cab.a,.string e.cab.b,.int .i64 e.cab.long,.int .i64 e.cab.fibs,.string e.spc.site,.string e.spc.x.cable,.int .i64 e.spc.x.no,.string e.spc.y.cable,.int .i64 e.spc.y.no,.int .i64 e.spc.loss] 81)).drew cb #[.slice a E.length cap,.int .i64 at_] 98:=(HB.o.alloc _).drew;have hB0:Below w.heap.size w (w.alloc (.cells #[.string team,.int .i64 (e0),.int .i64 at_,.int .i64 e.kind,.string e.site.key,.int .i64 e.site.kind,.string e.cab.key,.string e.cab.a,.string e.cab.b,.int .i64 e.cab.long,.int .i64 e.cab.fibs,.string e.spc.site,.string e.spc.x.cable,.int .i64 e.spc.x.no,.string e.spc.y.cable,.int .i64 e.spc.y.no,.int .i64 e.spc.loss] 81)).drew:=by exact qS
 have hz0:w.heap.size<(w.alloc (.cells #[.string team,.int .i64 (e0),.int .i64 at_,.int .i64 e.kind,.string e.site.key,.int .i64 e.site.kind,.string e.cab.key,.string e.cab.a,.string e.cab.b,.int .i64 e.cab.long,.int .i64 e.cab.fibs,.string e.spc.site,.string e.spc.x.cable,.int .i64 e.spc.x.no,.string e.spc.y.cable,.int .i64 e.spc.y.no,.int .i64 e.spc.loss] 81)).drew.heap.size:=by simp
 have H0:=mH (aI hx0 (aI hb0 (aI hB0 hz0)));have t0:=hb0.cell 0 _ rfl;clear hx0 hb0 hB0 hz0;generalize (w.alloc (.cells #[.string team,.int .i64 (e0),.int .i64 at_,.int .i64 e.kind,.string e.site.key,.int .i64 e.site.kind,.string e.cab.key,.string e.cab.a,.string e.cab.b,.int .i64 e.cab.long,.int .i64 e.cab.fibs,.string e.spc.site,.string e.spc.x.cable,.int .i64 e.spc.x.no,.string e.spc.y.cable,.int .i64 e.spc.y.no,.int .i64 e.spc.loss] 81)).drew=W0 at *;go_wp2;go_loopw [29] (λiv wr=>∃(k:Nat) (n:Int),k≤E.length∧iv=.int .i64 k∧n=mxN (E.take k) team∧qC wr w.heap.size #[.string team,.int .i64 (n),.int .i64 at_,.int .i64 e.kind,.string e.site.key,.int .i64 e.site.kind,.string e.cab.key,.string e.cab.a,.string e.cab.b,.int .i64 e.cab.long,.int .i64 e.cab.fibs,.string e.spc.site,.string e.spc.x.cable,.int .i64 e.spc.x.no,.string e.spc.y.cable,.int .i64 e.spc.y.no,.int .i64 e.spc.loss] 81∧qC wr cb #[.slice a E.length cap,.int .i64 at_] 98∧Below w.heap.size w wr∧w.heap.size<wr.heap.size) (λiv _=>E.length - (intOf iv).toNat)
 case atStart=>exact⟨0,e0,by omega,rfl,by rw [HN0.o];simp [mxN],H0.o.1,H0.o.2.1,H0.o.2.2.1,H0.o.2.2.2⟩
 case round =>
  clear H0 t0;obtain⟨k,n,hk,rfl,hn,hx,hb,hB,hz⟩:=hrel
  by_cases hlt:k<E.length
  ·obtain⟨b,off,rfl,hbb,hcc⟩:=HP.o.2.2.1 k hlt;have e1:=mH ((qC0 hcc).below hB hbb);have hmt:=qL8 (team:=team) hlt;have hno:=HP.o.2.1.no E[k] (List.getElem_mem hlt);have x1:=hx.cell 1 _ rfl;have f1:=hx.free 1;have HX:=mH (aI hx (aI hb (aI hB hn)));have hk':(k:Int)<E.length:=by omega
   generalize E[k]=y at *;clear hcc hx hb hB hn
   by_cases ht:y.team=team
   ·have hte:(y.team.toList==team.toList)=true:=by rw [ht];simp
    obtain⟨m,hm⟩:=eX (max n y.no);have HM:Hx (m=mxN (E.take (k+1)) team):=by
     rw [hmt,if_pos ht];have:=HX.o.2.2.2;refine mH ?_;rw [←hm];omega
    clear hmt ht hno;go_wp2_with (first|(refine wpList_load_mid rfl 81 _ rfl (b) (off+k*17) rF ↑y _ (e1.o) underlying81 rfl kR ?_)|(refine jR (w0:=wr) rfl 81 _ _ rfl _ ↑y rF rF kR rfl (zS y) ?_));refine⟨⟨k+1,m,by omega,by go_num,HM.o,(HX.o.1.set 1 (.int .i64 m)).alloc _,(HX.o.2.1.setOther hcbn 1 (.int .i64 m)).alloc _,?_,?_⟩,by simp [intOf];omega⟩
    ·have:=HX.o.2.2.1;exact qS
    ·simp;omega
   ·have hte:(y.team.toList==team.toList)=false:=qAZ ht;have HM:Hx (n=mxN (E.take (k+1)) team):=by rw [hmt,if_neg ht];exact mH HX.o.2.2.2
    clear hmt ht hno;go_wp2_with (first|(refine wpList_load_mid rfl 81 _ rfl (b) (off+k*17) rF ↑y _ (e1.o) underlying81 rfl kR ?_)|(refine jR (w0:=wr) rfl 81 _ _ rfl _ ↑y rF rF kR rfl (zS y) ?_));refine⟨⟨k+1,n,by omega,by go_num,HM.o,HX.o.1.alloc _,HX.o.2.1.alloc _,?_,?_⟩,by simp [intOf];omega⟩
    ·have:=HX.o.2.2.1;exact qS
    ·simp;omega
  obtain rfl:k=E.length:=by omega
  rw [List.take_length] at hn;have hnr:=(qJc team E).1;have hnr2:=qMH team E.length oM E HP.o.2.1.no;rw [←hn] at hnr hnr2;have hnw:IntKind.i64.wrap (n+1)=n+1:=IntWalk.i64_in _ oM;have hx1:qC (wr.setCell ⟨w.heap.size,1,none⟩ (.int .i64 (n+1))) w.heap.size ↑(qA7 E at_ team e) 81:=by rw [show(qA7 E at_ team e).no=n+1 by rw [hn];rfl];exact hx.set 1 (.int .i64 (n+1))
  have hb1:qC (wr.setCell ⟨w.heap.size,1,none⟩ (.int .i64 (n+1))) cb #[.slice a E.length cap,.int .i64 at_] 98:=hb.setOther hcbn 1 (.int .i64 (n+1));have hB1:Below w.heap.size w (wr.setCell ⟨w.heap.size,1,none⟩ (.int .i64 (n+1))):=hB.setCell lR _;have hz1:w.heap.size<(wr.setCell ⟨w.heap.size,1,none⟩ (.int .i64 (n+1))).heap.size:=by simpa using hz
  have x1:=hx.cell 1 _ rfl;have f1:=hx.free 1;obtain⟨x,hx⟩:=eX (qA7 E at_ team e);rw [hx] at hx1;have hF:Hx (x=qA7 E at_ team e):=mH hx.symm;have H1:=mH (aI hx1 (aI hb1 (aI hB1 hz1)));have hG:qEg x:=hx ▸ HP.o.2.2.2.2.2.1;have hadd:qL x.team=true→qBg (jV qP x E):=λhk=>by
   rw [←hx] at hk ⊢;refine qKV HP.o.2.1.ent HP.o.2.1.at2 ?_;rw [HP.o.2.2.2.2.2.1.fault,hk];rfl
  have hap:∀y∈E,qP y x≠0:=by rw [←hx];exact qHB
  have hSx:jF x.spc:=by rw [←hx];exact HP.o.2.2.2.2.1
  have HQ:=mH (aI hG (aI hadd (aI hap hSx)));have he1:=mH (qV.box (x:=x) hx1);clear hG hadd hap hx hSx hx1 hb1 hB1 hz1 hb hB hn hnr hnr2;go_upto_region 9 with fail;generalize wr.setCell ⟨w.heap.size,1,none⟩ (.int .i64 (n+1))=W1 at *;clear x1 f1 hnw;have hx2:qI qD.cells 17 (W1.alloc (.cells ↑x 81)) [x] (.slice (some ⟨W1.heap.size,0,none⟩) 1 1):=qI.litAt qD.cells_len rfl (by simp [qD.cells]) rfl (by simp [maxLen]);have hBa:Below W1.heap.size W1 (W1.alloc (.cells ↑x 81)):=qB bR _ lR;have H2:=mH (aI hx2 (aI (H1.o.1.below hBa H1.o.1.lt) (aI (H1.o.2.1.below hBa H1.o.2.1.lt) (aI (H1.o.2.2.1.trans (hBa.mono H1.o.2.2.1.size)) (by have:=H1.o.2.2.2;simp;omega:w.heap.size<(W1.alloc (.cells ↑x 81)).heap.size)))));clear hx2 hBa;go_wp2_with (first|(refine wpList_load_mid rfl 81 _ rfl (w.heap.size) (0) rF ↑x _ (he1.o) underlying81 rfl kR ?_));generalize W1.alloc (.cells ↑x 81)=W2 at *;have hcall:=qKc [x] _ W2 H2.o.1 sI (qMm HQ.o.1);rw [qNl HQ.o.1] at hcall
  cases hk:qL x.team
  ·have hf5:qBm x=5:=by rw [HQ.o.1.fault,hk];rfl
   have HE:Hx (qAC E at_ team e=(5,E)):=by
    unfold qAC;rw [←hF.o,hf5];exact mH sI
   rw [hf5] at hcall;clear hf5 hk;refine hcall.mono ?_;clear hcall;rintro e' W3 ⟨rfl,hb3⟩;have H3:=mH (H2.o.2.2.2.1.trans (hb3.mono H2.o.2.2.2.1.size));clear hb3;go_wp2_with fail;refine(jW 5 dE dE W3 (HP.o.2.2.2.2.2.2.below H3.o)).mono ?_;rintro e' W9 ⟨rfl,hb9⟩;go_wp2;go_ret;rw [HE.o];exact qLo.bad HB.o HP.o.1 dE (H3.o.trans (hb9.mono H3.o.size))
  have hf0:qBm x=0:=by rw [HQ.o.1.fault,hk];rfl
  rw [hf0] at hcall;have hRL:=HQ.o.2.1 hk;obtain⟨L,hxL,hE,hWL,hlL,hRL,hmer⟩:∃L:List qD,x∈L∧qAC E at_ team e=enO (qBl (qBw L) (L.idxOf x)) E L∧(∀y∈L,jF y.spc∧zC y.kind 1 5=false)∧L.length<19∧qBg L ∧
    ∀(va vb:Value) (w:World),qI qD.cells 17 w E va→qI qD.cells 17 w [x] vb→Calls prog 103 #[va,vb] w λe w'=>∃v',e=.returned (.tuple #[v',.int .i64 0])∧qI qD.cells 17 w' L v'∧Below w.heap.size w w'∧∀b off n c,v'=.slice (some ⟨b,off,none⟩) n c→w.heap.size≤b:=by
   refine⟨jV qP x E,qE8.2 (.inr rfl),?_,λy hy=>?_,by rw [qGA];omega,hRL,λva vb w h1 h2=>qOT E x va vb w h1 h2 HP.o.2.1.ent hRL HQ.o.2.2.1 oM⟩
   ·rw [qKl,←hF.o,hf0];exact if_neg sI
   ·rcases qE8.1 hy with h|h
    ·exact⟨HP.o.2.2.2.1 y h,(qDI (HP.o.2.1.ent.ok y h)).1.kind⟩
    ·rw [h];exact⟨HQ.o.2.2.2,HQ.o.1.kind⟩
  have HL:=mH (aI hxL (aI hE (aI hWL (aI hRL hmer))));clear hf0 hk hxL hE hWL hRL hmer;refine hcall.mono ?_;clear hcall;rintro e' W3 ⟨rfl,hb3⟩;have H3:=mH (aI (H2.o.1.below hb3) (aI (H2.o.2.1.below hb3 H2.o.2.1.lt) (aI (H2.o.2.2.1.below hb3 H2.o.2.2.1.lt) (aI (H2.o.2.2.2.1.trans (hb3.mono H2.o.2.2.2.1.size)) (Nat.lt_of_lt_of_le H2.o.2.2.2.2 hb3.size)))));have t0:=H3.o.2.2.1.cell 0 _ rfl;clear hb3 H2 he1;go_wp2_with fail;refine(HL.o.2.2.2.2 _ _ W3 (HP.o.1.below H3.o.2.2.2.1) H3.o.1).mono ?_;rintro e' W4 ⟨v4,rfl,hA4,hb4,hfr4⟩;obtain⟨a4,c4,rfl,-⟩:=id hA4;have H4:=mH (aI hA4 (aI (H3.o.2.1.below hb4 H3.o.2.1.lt) (aI (H3.o.2.2.1.below hb4 H3.o.2.2.1.lt) (aI (H3.o.2.2.2.1.trans (hb4.mono H3.o.2.2.2.1.size)) (aI (Nat.lt_of_lt_of_le H3.o.2.2.2.2 hb4.size) hfr4)))));have hz4:w.heap.size≤W3.heap.size:=H3.o.2.2.2.1.size;clear hA4 hb4 hfr4 t0;go_wp2_with fail;refine(qLd L _ W4 H4.o.1 oM HL.o.2.2.2.1.asc (λy hy=>(HL.o.2.2.1 y hy).1) (λy hy=>(HL.o.2.2.1 y hy).2)).mono ?_;rintro e' W5 ⟨v1,v2,rfl,ho1,ho2,hb5⟩;obtain⟨R,hR⟩:=eX (qCT L L.length);rw [hR] at ho1 ho2;have hRm:∀q∈R,q.1<L.length∧qBl (qBw L) q.1=some q.2∧0≤q.2∧q.2≤12∧q.2≠0:=λq hq=>by
   rw [←hR] at hq;have h1:=qIg.1 hq;have h2:=qJa (qI6 L _) h1.2;exact⟨h1.1,h1.2,h2.1,h2.2,qTM (qSC L _) h1.2⟩
  have hR1:qI ix1 1 W5 R v1:=by
   rw [←show R.flatMap ix1=R.map (λq=>Value.int .i64 (q.1:Nat)) from qEB (λq:Nat × Int=>Value.int .i64 (q.1:Nat)) R] at ho1;exact qI.of_own (cells:=ix1) (λ_=>rfl) ho1
  have hR2:qI ix2 1 W5 R v2:=by
   rw [←show R.flatMap ix2=R.map (λq=>Value.int .i64 q.2) from qEB (λq:Nat × Int=>Value.int .i64 q.2) R] at ho2;exact qI.of_own (cells:=ix2) (λ_=>rfl) ho2
  have hRl:R.length≤18:=by rw [←hR];unfold qCT;have:=List.length_filterMap_le (λi=>(qBl (qBw L) i).map λf=>(i,f)) (List.range L.length);rw [List.length_range] at this;omega
  obtain⟨b1,d1,rfl,-,-,hc1⟩:=hR1;obtain⟨b2,d2,rfl,-,-,hc2⟩:=hR2;have hA5:=H4.o.1.below hb5;obtain⟨a4',c4',hv4,hcap4,hmax4,hc4⟩:=id hA5;simp only [Value.slice.injEq] at hv4;obtain⟨rfl,-,rfl⟩:=hv4;have hB5:Below w.heap.size w W5:=H4.o.2.2.2.1.trans (hb5.mono H4.o.2.2.2.1.size);have H5:=mH (aI (H4.o.2.1.below hb5 H4.o.2.1.lt) (aI (H4.o.2.2.1.below hb5 H4.o.2.2.1.lt) (aI hB5 (aI hA5 (aI hc1 (aI hc2 (aI hc4 (aI hRm (aI hR H4.o.2.2.2.2.2)))))))));have hz5:w.heap.size<W5.heap.size:=Nat.lt_of_lt_of_le H4.o.2.2.2.2.1 hb5.size;clear ho1 ho2 hb5 hA5 hc1 hc2 hc4 hRm hR hB5 H4 H3;go_wp2;go_loopw [76] (λiv wr=>∃k:Nat,k≤R.length∧iv=.int .i64 k∧(∀j (hj:j<R.length),j<k→qP (zZ L R[j].1) x≠0)∧Below W5.heap.size W5 wr) (λiv _=>R.length - (intOf iv).toNat)
  case atStart=>exact⟨0,by omega,rfl,λj _ h=>by omega,Below.refl _ _⟩
  case round =>
   obtain⟨k,hk,rfl,hno,hB⟩:=hrel;have hsz:=hB.size
   by_cases hlt:k<R.length
   rotate_left
   ·obtain rfl:k=R.length:=by omega
    have HV:Hx (qAC E at_ team e=(0,L)):=by
     have hm:=qSd HL.o.1 (λq hq=>by
      rw [H5.o.2.2.2.2.2.2.2.2.1] at hq;obtain⟨j,hj,rfl⟩:=List.getElem_of_mem hq;exact hno j hj hj)
     rw [HL.o.2.1,hm];exact mH rfl
    have HBw:=mH (aI hB (H5.o.2.1.below hB H5.o.2.1.lt));have t0:=HBw.o.2.cell 0 _ rfl;have f0:=HBw.o.2.free 0;clear hno hB;go_wp2;go_ret;have hBw:Below w.heap.size w wr:=H5.o.2.2.1.trans (HBw.o.1.mono H5.o.2.2.1.size);refine⟨_,by rw [HV.o];rfl,HBw.o.2.set 0 _,?_,qK (qH _ hBw) (qO cb [_] 0 wr),.inr (λb off n c h=>Nat.le_trans hz4 (H5.o.2.2.2.2.2.2.2.2.2 b off n c h))⟩;rw [HV.o];exact(H5.o.2.2.2.1.below HBw.o.1).grownBy (s:=cb) (qO cb [_] 0 wr) (λb off n c h=>Nat.lt_of_lt_of_le HCB.o (Nat.le_trans hz4 (H5.o.2.2.2.2.2.2.2.2.2 b off n c h)))
   obtain⟨g1,o1,rfl,hg1,hcc1⟩:=H5.o.2.2.2.2.1 k hlt;obtain⟨g2,o2,rfl,hg2,hcc2⟩:=H5.o.2.2.2.2.2.1 k hlt;have c1:=(hB.cell (p:=⟨g1,_,none⟩) hg1).trans (hcc1 0 _ rfl);have c2:=(hB.cell (p:=⟨g2,_,none⟩) hg2).trans (hcc2 0 _ rfl);simp only [Nat.mul_one,Nat.add_zero] at c1 c2;obtain⟨m1,m2,m3,m4,m5⟩:=H5.o.2.2.2.2.2.2.2.1 R[k] (List.getElem_mem hlt);have hqk:R[k]∈R:=List.getElem_mem hlt;have hstep:qP (zZ L R[k].1) x≠0→∀j (hj:j<R.length),j<k+1→qP (zZ L R[j].1) x≠0:=λh j hj hjk=>by
    by_cases hjk2:j=k
    ·subst hjk2;exact h
    ·exact hno j hj oM
   obtain⟨q,hq⟩:=eX (R[k]);rw [hq] at c1 c2 m1 m2 m3 m4 m5 hqk hstep;obtain⟨n,f⟩:=q;dsimp only at c1 c2 m1 m2 m3 m4 m5 hqk hstep;obtain⟨bm,off,rfl,hbm,hcc⟩:=H5.o.2.2.2.2.2.2.1 n m1;have hge:=qBV m1;obtain⟨y,hy⟩:=eX (L[n]);rw [hy] at hcc hge;rw [hge] at hstep;have hS:qV wr.drew bm (off+n*17) y∧qV wr.drew w.heap.size 0 x:=⟨(qC0 hcc).below hB.drew hbm,(qV.box H5.o.1).below hB.drew hz5⟩;have hk':(k:Int)<R.length:=by omega
   have hn':(n:Int)<L.length:=by omega
   have HX:=mH (aI hB (aI hno (aI m2 (aI hqk (aI hge hstep)))));clear hcc1 hcc2 hcc hno hB m2 hqk hge hstep hq hy;obtain⟨z,hz⟩:=eX (qP y x);have hcall:=λW=>qDl y x W
   rw [hz] at hcall;have HZ:=mH hz;clear hz;go_upto_region 20 with fail;refine qA.start (λW=>qV W bm (off+n*17) y∧qV W w.heap.size 0 x) [] kR ?_;have hzz:wr.drew.heap.size=wr.heap.size:=rfl;have HBd:=mH (show Below W5.heap.size W5 wr.drew from HX.o.1.drew)
   by_cases hz0:z=0
   ·have hzb:(z==0)=true:=by simpa using hz0
    have HV:Hx (qAC E at_ team e=(f,E)):=by
     have hm:=qTG HL.o.2.2.2.1.asc HL.o.1 (q:=(n,f)) (by rw [H5.o.2.2.2.2.2.2.2.2.1];exact HX.o.2.2.2.1) (by dsimp only;rw [HX.o.2.2.2.2.1,HZ.o];exact hz0);rw [HL.o.2.1,hm];exact mH rfl
    clear hz0;refine qA.q 0 ?_;refine qA.q 1 ?_;refine qA.q 2 ?_;refine qA.take (i:=3) (v:=.agg ↑y) rfl kR kR kR kR (λ_ _ _ h=>h) hS (yieldsIf_load_mid (by first|rfl|(go_simp;done)) 81 _ rfl (bm) (off+n*17) rF ↑y _ (λ_ h=>h.1) underlying81 rfl kR) ?_;try simp only [Act.put,zL,zN,zH,zM,zK,zI]
    refine qA.take (i:=4) (v:=.agg ↑x) rfl kR kR kR kR (λ_ _ _ h=>h) hS (yieldsIf_load_mid (by first|rfl|(go_simp;done)) 81 _ rfl (w.heap.size) (0) rF ↑x _ (λ_ h=>h.2) underlying81 rfl kR) ?_;try simp only [Act.put,zL,zN,zH,zM,zK,zI]
    refine qA.nx 5 λK hK=>?_;go_simp
    refine(hcall _).mono ?_;rintro e' W7 ⟨rfl,hgr⟩;have hb7:=hgr.below;have hS7:qV W7 bm (off+n*17) y∧qV W7 w.heap.size 0 x:=⟨hS.1.below hb7 oM,hS.2.below hb7 oM⟩;have H7:=mH (HBd.o.trans (hb7.mono HBd.o.size));have c2':=(hb7.cell (p:=⟨g2,o2+k,none⟩) (by show g2<wr.drew.heap.size;omega)).trans c2;refine qA.on hK (λ_ _=>hS7) ?_;clear hK K hgr hb7 hcall;refine qA.q 6 ?_;refine qA.done kR ?_;have hBw:Below w.heap.size w W7:=H5.o.2.2.1.trans (H7.o.mono H5.o.2.2.1.size);have HBW:=mH hBw;clear hBw;go_wp2_with fail;refine(jW f m3 oM W7 (HP.o.2.2.2.2.2.2.below HBW.o)).mono ?_;rintro e' W9 ⟨rfl,hb9⟩;go_wp2;go_ret;rw [HV.o];exact qLo.bad HB.o HP.o.1 m5 (HBW.o.trans (hb9.mono HBW.o.size))
   ·have hzb:(z==0)=false:=by simpa using hz0
    have HNZ:=mH hz0;clear hz0;refine qA.q 0 ?_;refine qA.q 1 ?_;refine qA.q 2 ?_;refine qA.take (i:=3) (v:=.agg ↑y) rfl kR kR kR kR (λ_ _ _ h=>h) hS (yieldsIf_load_mid (by first|rfl|(go_simp;done)) 81 _ rfl (bm) (off+n*17) rF ↑y _ (λ_ h=>h.1) underlying81 rfl kR) ?_;try simp only [Act.put,zL,zN,zH,zM,zK,zI]
    refine qA.take (i:=4) (v:=.agg ↑x) rfl kR kR kR kR (λ_ _ _ h=>h) hS (yieldsIf_load_mid (by first|rfl|(go_simp;done)) 81 _ rfl (w.heap.size) (0) rF ↑x _ (λ_ h=>h.2) underlying81 rfl kR) ?_;try simp only [Act.put,zL,zN,zH,zM,zK,zI]
    refine qA.nx 5 λK hK=>?_;go_simp
    refine(hcall _).mono ?_;rintro e' W7 ⟨rfl,hgr⟩;have hb7:=hgr.below;have hS7:qV W7 bm (off+n*17) y∧qV W7 w.heap.size 0 x:=⟨hS.1.below hb7 oM,hS.2.below hb7 oM⟩;have H7:=mH (HBd.o.trans (hb7.mono HBd.o.size));refine qA.on hK (λ_ _=>hS7) ?_;clear hK K hgr hb7 hcall;refine qA.q 6 ?_;refine qA.done kR ?_;go_wp2;exact⟨⟨k+1,by omega,by go_num,HX.o.2.2.2.2.2 (by rw [HZ.o];exact HNZ.o),H7.o⟩,by simp [intOf];omega⟩
theorem qRa {p:Pl} (hp:jS p):∀c∈p.C,0≤c.fibs∧c.fibs≤144:=λc hc=>by
 have h:=hp.c2 c hc;unfold jP at h
 split at h
 ·omega
 ·split at h
  ·omega
  ·split at h
   ·omega
   ·split at h
    ·omega
    ·rename_i q
     have q2:zC c.fibs 1 144=false:=by
      cases hq:zC c.fibs 1 144 with
      | false=>rfl
      | true=>exact absurd (Or.inr hq) q
     have:=qAU.1 q2;omega
theorem qQ9 (E:List qD) (at_:Int) (db:Nat) (vE:Value) (key:ByteArray) (w:World) (hb:qC w db #[vE,.int .i64 at_] 98) (hA:qI qD.cells 17 w E vE) (hE:qBg E) (hl:E.length<19) (hok:∀e∈E,jF e.spc) (ht:Tab10 w) :
  Calls prog 67 #[.pointer (some ⟨db,0,none⟩),.string key] w λe w'=>e=.returned (.string (bA (qBu (qCA (zB E at_) key))))∧Below w.heap.size w w':=by
 have hkd:∀e∈E,zC e.kind 1 5=false:=λe he=>(qDI (hE.ok e he)).1.kind
 have hP:=qC4 (at_:=at_) hE oM;obtain⟨aE,nE,cE,hfE⟩:=jD hA;subst hfE;have hS0:∀W':World,Below w.heap.size w W'→(W'.cell? ⟨db,0,none⟩=some (.slice aE nE cE)∧W'.cell? ⟨db,1,none⟩=some (.int .i64 at_)):=λW' hB=>⟨(hb.below hB hb.lt).cell 0 _ rfl,(hb.below hB hb.lt).cell 1 _ rfl⟩
 have HA:=mH (aI hA (aI hE.asc (aI hok (aI hkd (aI hP (aI ht hS0))))));have hdl:=hb.lt;clear hA hE hok hkd hP ht hS0 hb;obtain⟨p,hp⟩:=eX (zB E at_);rw [hp] at HA ⊢;have HPE:=mH hp;clear hp;go_enter func67,ntmps67;go_wp2_with fail;go_cut [5] from 7 to 16 (λq wc=>∃hb u0 u1 u2,q=.pointer (some ⟨hb,0,none⟩)∧qC wc hb #[u0,u1,u2] 69∧qAN wc u0 u1 u2 p.S p.C p.X∧Below w.heap.size w wc)
 case first =>
  have hdr:Below w.heap.size w w.drew:=by exact qS
  have hS:=HA.o.2.2.2.2.2.2 w.drew hdr;refine qA.start (λW:World=>(W.cell? ⟨db,0,none⟩=some (.slice aE nE cE)∧W.cell? ⟨db,1,none⟩=some (.int .i64 at_))) [10] kR ?_;refine qA.q 0 ?_;refine qA.q 1 ?_;refine qA.q 2 ?_;refine qA.t 3 hS ?_;refine qA.q 4 ?_;refine qA.q 5 ?_;refine qA.q 6 ?_;refine qA.t 7 hS ?_;refine qA.ready (rs:=[8,9]) kR sI (qA3.cons rfl (λK hK=>?_) (qA3.cons rfl (λK hK=>?_) qA3.nil))
  ·go_simp;have hcall:=qG5 E _ at_ w.drew (HA.o.1.below hdr) hl HA.o.2.1 HA.o.2.2.1 HA.o.2.2.2.1;rw [HPE.o] at hcall;refine hcall.mono ?_;clear hcall;rintro e w4 ⟨v0,v1,v2,rfl,hpl,hb4⟩;obtain⟨b0,m0,d0,rfl⟩:=jD hpl.s;obtain⟨b1,m1,d1,rfl⟩:=jD hpl.c;obtain⟨b2,m2,d2,rfl⟩:=jD hpl.x;have hb4':=hdr.trans hb4;have hS4:=HA.o.2.2.2.2.2.2 w4 hb4';have hS5:=HA.o.2.2.2.2.2.2 (w4.alloc (.cells #[.slice none 0 0,.slice none 0 0,.slice none 0 0] 69)) (qB hb4' _ hb4'.size);have H4:=mH (aI hpl hb4');clear hpl hb4 hb4' hS;refine qA.on hK (λ_ _=>hS4) ?_;clear hK K;refine qA.nx 9 λK hK=>?_;go_simp
   refine qA.on hK (λ_ _=>hS5) ?_;clear hK K;clear hS4 hS5;refine qA.nx 10 λK hK=>?_;go_simp
   refine qA.o hK ?_;clear hK K;refine qA.done kR ?_;go_wp2_with fail;go_meet;exact⟨_,_,_,_,rfl,qC.new _ _ _,H4.o.1.below (qB bR _ lR),qB H4.o.2 _ H4.o.2.size⟩
  ·go_simp;have hb4:Below w.heap.size w (w.alloc (.cells #[.slice none 0 0,.slice none 0 0,.slice none 0 0] 69)).drew:=by exact qS
   have hbn:qC (w.alloc (.cells #[.slice none 0 0,.slice none 0 0,.slice none 0 0] 69)).drew w.heap.size #[.slice none 0 0,.slice none 0 0,.slice none 0 0] 69:=(qC.new w _ _).drew;have hS4:=HA.o.2.2.2.2.2.2 _ hb4;refine qA.on hK (λ_ _=>hS4) ?_;clear hK K;refine qA.nx 8 λK hK=>?_;go_simp
   have hcall:=qFM E _ at_ (w.alloc (.cells #[.slice none 0 0,.slice none 0 0,.slice none 0 0] 69)).drew (HA.o.1.below hb4) hl HA.o.2.1 HA.o.2.2.1 HA.o.2.2.2.1;rw [HPE.o] at hcall;refine hcall.mono ?_;clear hcall;rintro e w5 ⟨v0,v1,v2,rfl,hpf,hb5⟩;obtain⟨b0,m0,d0,rfl⟩:=jD hpf.arr.s;obtain⟨b1,m1,d1,rfl⟩:=jD hpf.arr.c;obtain⟨b2,m2,d2,rfl⟩:=jD hpf.arr.x;have hb5':=hb4.trans (hb5.mono hb4.size);have hS5:=HA.o.2.2.2.2.2.2 w5 hb5';have hr5:=hbn.below hb5 hbn.lt;refine qA.on hK (λ_ _=>hS5) ?_;clear hK K;have x0:=hr5.cell 0 _ rfl;have x1:=hr5.cell 1 _ rfl;have x2:=hr5.cell 2 _ rfl;have f0:=hr5.free 0;have f1:=hr5.free 1;have f2:=hr5.free 2;have hnl:=hbn.lt;have H5:=mH (aI hr5 (aI hb5' hpf));clear hr5 hb5' hb5 hb4 hbn hS hS4 hS5 hpf;refine qA.nx 10 λK hK=>?_;go_simp
   refine qA.o hK ?_;clear hK K;refine qA.done kR ?_;go_wp2_with fail;go_meet;exact⟨_,_,_,_,rfl,qC.fill3 H5.o.1,(H5.o.2.2.grown (qO w.heap.size [.slice b0 m0 d0,.slice b1 m1 d1,.slice b2 m2 d2] 0 w5) (λb e=>by rw [←Option.some.inj e];exact hnl)).arr,Below.fill3 H5.o.2.1 lR _ _ _⟩
 case rest =>
 obtain⟨hbx,u0,u1,u2,rfl,hbh,hpl,hbc⟩:=hcut;rename World=>W6
 obtain⟨b0,m0,d0,rfl⟩:=jD hpl.s;obtain⟨b1,m1,d1,rfl⟩:=jD hpl.c;obtain⟨b2,m2,d2,rfl⟩:=jD hpl.x;have y0:=hbh.cell 0 _ rfl;have y1:=hbh.cell 1 _ rfl;have y2:=hbh.cell 2 _ rfl;have hlb:=hbh.lt;obtain⟨bs,hbs⟩:=eX ((qY p.C key).isSome);have hcall:=qFP p key _ _ _ W6 hpl;rw [hbs] at hcall;have H6:=mH (aI hbh (aI hpl hbc));clear hbh hpl hbc;go_wp2_with fail;refine hcall.mono ?_;clear hcall;rintro e W7 ⟨rfl,hb7⟩;have hx7:=H6.o.1.below hb7 H6.o.1.lt;have hB7:=H6.o.2.2.trans (hb7.mono H6.o.2.2.size);have hp7:=H6.o.2.1.below hb7;clear y0 y1 y2 hlb;have y0:=hx7.cell 0 _ rfl;have y1:=hx7.cell 1 _ rfl;have y2:=hx7.cell 2 _ rfl;have hlb:=hx7.lt;have H7:=mH (aI hx7 (aI hp7 hB7));clear hx7 hp7 hB7 hb7 H6
 cases hg:qY p.C key with
 | none =>
  rw [hg] at hbs;obtain rfl:false=bs:=hbs;have HV:Hx (qBu (qCA p key)=qD6 8):=mH (by unfold qCA;rw [hg];rfl);clear hg;go_wp2_with fail;refine(jW 8 dE dE W7 (HA.o.2.2.2.2.2.1.below H7.o.2.2)).mono ?_;rintro e W8 ⟨rfl,hb8⟩;go_wp2;go_ret;rw [HV.o];exact⟨rfl,H7.o.2.2.trans (hb8.mono H7.o.2.2.size)⟩
 | some c =>
  rw [hg] at hbs;obtain rfl:true=bs:=hbs;have hrg:=qFe HA.o.2.2.2.2.1.1 hg;have hln:=qGw HA.o.2.2.2.2.1.1 hg;have hv:qCA p key=(0,(if qBK p c=[] then [110,111,110,101] else qEv 32 ((qBK p c).map Lib.itoa))++[10]):=by unfold qCA;rw [hg]
  have hcall:=qON p HA.o.2.2.2.2.1.2.2.1 (qRa HA.o.2.2.2.2.1.1) key _ _ _ W7 H7.o.2.1;rw [qSE HA.o.2.2.2.2.1.1 hg] at hcall;obtain⟨F,hF⟩:=eX (qBK p c);rw [hF] at hcall hrg hln hv;have HF:=mH (aI hrg (aI hln hv));clear hg hF hrg hv;go_wp2_with fail;refine hcall.mono ?_;clear hcall;rintro e W8 ⟨v8,rfl,ho,hb8⟩;obtain⟨a8,c8,rfl⟩:=jO ho;have hB8:=H7.o.2.2.trans (hb8.mono H7.o.2.2.size);have H8:=mH (aI (qI.of_ints ho) hB8);clear ho hb8 hB8 y0 y1 y2 hlb H7
  by_cases h0:F.length=0
  ·have h0b:((F.length:Int)==0)=true:=by simpa using h0
   obtain rfl:=List.length_eq_zero_iff.1 h0;have HV:Hx (qBu (qCA p key)=[110,111,110,101,10]):=mH (by rw [HF.o.2.2];rfl);go_wp2;go_ret;rw [HV.o];exact⟨rfl,H8.o.2⟩
  have h0b:((F.length:Int)==0)=false:=by simpa using h0
  have HV:Hx (qBu (qCA p key)=qEv 32 (F.map Lib.itoa)++[10]):=mH (by rw [HF.o.2.2,if_neg (λh=>h0 (by rw [h];rfl))];rfl);have hsz:(qEv 32 (F.map Lib.itoa)).length≤3024:=by
   have:=qJC HF.o.1 HF.o.2.1;rw [qGR] at this;rw [qFH];exact this
  obtain⟨J,hJ⟩:=eY (bA (qEv 32 (F.map Lib.itoa)));have hcall:=qRv F HF.o.1 HF.o.2.1 oM _ W8 H8.o.1 (HA.o.2.2.2.2.2.1.below H8.o.2);rw [←hJ] at hcall;have aa:¬9223372036854775807<J.size+1:=by rw [hJ,qCJ];omega
  have HJ:=mH hJ;clear hJ hsz;go_wp2_with fail;refine hcall.mono ?_;clear hcall;rintro e W9 ⟨rfl,hb9⟩;go_wp2;go_ret;rw [HV.o];exact⟨by rw [HJ.o];exact congrArg (λx=>Ending.returned (.string x)) (qIO _),H8.o.2.trans (hb9.mono H8.o.2.size)⟩
structure DpS (w W:World) (hb:Nat) (v0 v1 v2:Value) (p:Pl) (f:qQ):Prop where
 bx:qC W hb #[v0,v1,v2] 69
 fb:qC W w.heap.size ↑f 77
 pl:qAN W v0 v1 v2 p.S p.C p.X
 bel:Below w.heap.size w W
theorem DpS.next {w W W':World} {hb:Nat} {v0 v1 v2:Value} {p:Pl} {f:qQ} (h:DpS w W hb v0 v1 v2 p f) (hB:Below W.heap.size W W'):DpS w W' hb v0 v1 v2 p f :=
 ⟨h.bx.below hB h.bx.lt,h.fb.below hB h.fb.lt,h.pl.below hB,h.bel.trans (hB.mono h.bel.size)⟩
theorem qQI (E:List qD) (at_:Int) (db:Nat) (vE:Value) (f:qQ) (site:ByteArray) (w:World) (hb:qC w db #[vE,.int .i64 at_] 98) (hA:qI qD.cells 17 w E vE) (hE:qBg E) (hl:E.length<19) (hok:∀e∈E,jF e.spc) (ht:Tab10 w)
  (hf1:f.cable.size≤1000000) (hf2:(Lit.int .i64 f.no).wf=true) (hs:site.size≤1000000) :
  Calls prog 66 #[.pointer (some ⟨db,0,none⟩),.agg ↑f,.string site] w λe w'=>e=.returned (.string (bA (qBu (qBa (zB E at_) f site))))∧Below w.heap.size w w':=by
 have hkd:∀e∈E,zC e.kind 1 5=false:=λe he=>(qDI (hE.ok e he)).1.kind
 have hP:=qC4 (at_:=at_) hE oM;obtain⟨aE,nE,cE,hfE⟩:=jD hA;subst hfE;have hB1:Below w.heap.size w (w.alloc (.cells ↑f 77)):=qB bR _ lR;have hbf:qC (w.alloc (.cells ↑f 77)) w.heap.size ↑f 77:=qC.new _ _ _;have hz1:w.heap.size+1=(w.alloc (.cells ↑f 77)).heap.size:=by simp
 have hb1:=hb.below hB1 hb.lt;have hA1:=hA.below hB1;have HT0:=mH ht;have H1:=mH (aI hB1 (aI hbf hz1));have HQ:=qG2 hP.1 hf1 hf2 hs;have hpl:=qHp (C:=(zB E at_).C) (X:=(zB E at_).X) (f,site);have hlen:(qB9 (zB E at_).C (zB E at_).X (f,site)).length≤101:=by omega
 have HW:=mH (aI HQ hlen);clear hA hB1 hbf hz1 ht HQ hpl hlen;obtain⟨p,hp⟩:=eX (zB E at_);rw [hp] at hP HW ⊢;have HPE:=mH hp;clear hp;have hdl:=hb1.lt;go_enter func66,ntmps66;go_wp2_with fail;generalize w.alloc (.cells ↑f 77)=w1 at *;have hS0:∀W':World,Below w1.heap.size w1 W'→(W'.cell? ⟨db,0,none⟩=some (.slice aE nE cE)∧W'.cell? ⟨db,1,none⟩=some (.int .i64 at_)):=λW' hB=>⟨(hb1.below hB hb1.lt).cell 0 _ rfl,(hb1.below hB hb1.lt).cell 1 _ rfl⟩
 have HA:=mH (aI hA1 (aI hE.asc (aI hok (aI hkd (aI hP (aI trivial hS0))))));clear hA1 hE hok hkd hP hS0 hb1 hb;go_cut [7] from 13 to 22 (λq wc=>∃hb u0 u1 u2,q=.pointer (some ⟨hb,0,none⟩)∧qC wc hb #[u0,u1,u2] 69∧qAN wc u0 u1 u2 p.S p.C p.X∧Below w1.heap.size w1 wc)
 case first =>
  have hdr:Below w1.heap.size w1 w1.drew:=by exact qS
  have hS:=HA.o.2.2.2.2.2.2 w1.drew hdr;refine qA.start (λW:World=>(W.cell? ⟨db,0,none⟩=some (.slice aE nE cE)∧W.cell? ⟨db,1,none⟩=some (.int .i64 at_))) [10] kR ?_;refine qA.q 0 ?_;refine qA.q 1 ?_;refine qA.q 2 ?_;refine qA.t 3 hS ?_;refine qA.q 4 ?_;refine qA.q 5 ?_;refine qA.q 6 ?_;refine qA.t 7 hS ?_;refine qA.ready (rs:=[8,9]) kR sI (qA3.cons rfl (λK hK=>?_) (qA3.cons rfl (λK hK=>?_) qA3.nil))
  ·go_simp;have hcall:=qG5 E _ at_ w1.drew (HA.o.1.below hdr) hl HA.o.2.1 HA.o.2.2.1 HA.o.2.2.2.1;rw [HPE.o] at hcall;refine hcall.mono ?_;clear hcall;rintro e w4 ⟨v0,v1,v2,rfl,hpl,hb4⟩;obtain⟨b0,m0,d0,rfl⟩:=jD hpl.s;obtain⟨b1,m1,d1,rfl⟩:=jD hpl.c;obtain⟨b2,m2,d2,rfl⟩:=jD hpl.x;have hb4':=hdr.trans hb4;have hS4:=HA.o.2.2.2.2.2.2 w4 hb4';have hS5:=HA.o.2.2.2.2.2.2 (w4.alloc (.cells #[.slice none 0 0,.slice none 0 0,.slice none 0 0] 69)) (qB hb4' _ hb4'.size);have H4:=mH (aI hpl hb4');clear hpl hb4 hb4' hS;refine qA.on hK (λ_ _=>hS4) ?_;clear hK K;refine qA.nx 9 λK hK=>?_;go_simp
   refine qA.on hK (λ_ _=>hS5) ?_;clear hK K;clear hS4 hS5;refine qA.nx 10 λK hK=>?_;go_simp
   refine qA.o hK ?_;clear hK K;refine qA.done kR ?_;go_wp2_with fail;go_meet;exact⟨_,_,_,_,rfl,qC.new _ _ _,H4.o.1.below (qB bR _ lR),qB H4.o.2 _ H4.o.2.size⟩
  ·go_simp;have hb4:Below w1.heap.size w1 (w1.alloc (.cells #[.slice none 0 0,.slice none 0 0,.slice none 0 0] 69)).drew:=by exact qS
   have hbn:qC (w1.alloc (.cells #[.slice none 0 0,.slice none 0 0,.slice none 0 0] 69)).drew w1.heap.size #[.slice none 0 0,.slice none 0 0,.slice none 0 0] 69:=(qC.new w1 _ _).drew;have hS4:=HA.o.2.2.2.2.2.2 _ hb4;refine qA.on hK (λ_ _=>hS4) ?_;clear hK K;refine qA.nx 8 λK hK=>?_;go_simp
   have hcall:=qFM E _ at_ (w1.alloc (.cells #[.slice none 0 0,.slice none 0 0,.slice none 0 0] 69)).drew (HA.o.1.below hb4) hl HA.o.2.1 HA.o.2.2.1 HA.o.2.2.2.1;rw [HPE.o] at hcall;refine hcall.mono ?_;clear hcall;rintro e w5 ⟨v0,v1,v2,rfl,hpf,hb5⟩;obtain⟨b0,m0,d0,rfl⟩:=jD hpf.arr.s;obtain⟨b1,m1,d1,rfl⟩:=jD hpf.arr.c;obtain⟨b2,m2,d2,rfl⟩:=jD hpf.arr.x;have hb5':=hb4.trans (hb5.mono hb4.size);have hS5:=HA.o.2.2.2.2.2.2 w5 hb5';have hr5:=hbn.below hb5 hbn.lt;refine qA.on hK (λ_ _=>hS5) ?_;clear hK K;have x0:=hr5.cell 0 _ rfl;have x1:=hr5.cell 1 _ rfl;have x2:=hr5.cell 2 _ rfl;have f0:=hr5.free 0;have f1:=hr5.free 1;have f2:=hr5.free 2;have hnl:=hbn.lt;have H5:=mH (aI hr5 (aI hb5' hpf));clear hr5 hb5' hb5 hb4 hbn hS hS4 hS5 hpf;refine qA.nx 10 λK hK=>?_;go_simp
   refine qA.o hK ?_;clear hK K;refine qA.done kR ?_;go_wp2_with fail;go_meet;exact⟨_,_,_,_,rfl,qC.fill3 H5.o.1,(H5.o.2.2.grown (qO w1.heap.size [.slice b0 m0 d0,.slice b1 m1 d1,.slice b2 m2 d2] 0 w5) (λb e=>by rw [←Option.some.inj e];exact hnl)).arr,Below.fill3 H5.o.2.1 lR _ _ _⟩
 case rest =>
 obtain⟨hbx,u0,u1,u2,rfl,hbh,hpl,hbc⟩:=hcut;rename World=>W6
 obtain⟨b0,m0,d0,rfl⟩:=jD hpl.s;obtain⟨b1,m1,d1,rfl⟩:=jD hpl.c;obtain⟨b2,m2,d2,rfl⟩:=jD hpl.x;have H6:=mH (DpS.mk (w:=w) hbh (H1.o.2.1.below hbc H1.o.2.1.lt) hpl (H1.o.1.trans (hbc.mono H1.o.1.size)));clear hbh hpl hbc;have y0:=H6.o.bx.cell 0 _ rfl;have y1:=H6.o.bx.cell 1 _ rfl;have y2:=H6.o.bx.cell 2 _ rfl;have s0:=H6.o.fb.cell 0 (.string f.cable) rfl;have s1:=H6.o.fb.cell 1 (.int .i64 f.no) rfl;have hlb:=H6.o.bx.lt;have hlf:=H6.o.fb.lt;obtain⟨fb,hfb⟩:=eX (jX p.C f);have hcall:=qGY p f _ _ _ W6 H6.o.pl;rw [hfb] at hcall;go_wp2_with fail;refine hcall.mono ?_;clear hcall;rintro e W7 ⟨rfl,hb7⟩;have H7:=mH (H6.o.next hb7);clear hb7 H6 y0 y1 y2 s0 s1 hlb hlf;have y0:=H7.o.bx.cell 0 _ rfl;have y1:=H7.o.bx.cell 1 _ rfl;have y2:=H7.o.bx.cell 2 _ rfl;have s0:=H7.o.fb.cell 0 (.string f.cable) rfl;have s1:=H7.o.fb.cell 1 (.int .i64 f.no) rfl;have hlb:=H7.o.bx.lt;have hlf:=H7.o.fb.lt
 cases fb
 ·have HV:Hx (qBu (qBa p f site)=qD6 8):=mH (by unfold qBa;rw [if_pos (.inl hfb)];rfl)
  (go_wp2_with fail;refine(jW 8 dE dE W7 (HT0.o.below H7.o.bel)).mono ?_;rintro e W9 ⟨rfl,hb9⟩;go_wp2;go_ret;rw [HV.o];exact⟨rfl,H7.o.bel.trans (hb9.mono H7.o.bel.size)⟩)
 obtain⟨sb,hsb⟩:=eX (qAQ p.S site);have hcall:=qDZ p site _ _ _ W7 H7.o.pl;rw [hsb] at hcall;go_wp2_with fail;refine hcall.mono ?_;clear hcall;rintro e W8 ⟨rfl,hb8⟩;have H8:=mH (H7.o.next hb8);clear hb8 H7 y0 y1 y2 s0 s1 hlb hlf;have y0:=H8.o.bx.cell 0 _ rfl;have y1:=H8.o.bx.cell 1 _ rfl;have y2:=H8.o.bx.cell 2 _ rfl;have s0:=H8.o.fb.cell 0 (.string f.cable) rfl;have s1:=H8.o.fb.cell 1 (.int .i64 f.no) rfl;have hlb:=H8.o.bx.lt;have hlf:=H8.o.fb.lt
 cases sb
 ·have HV:Hx (qBu (qBa p f site)=qD6 8):=mH (by unfold qBa;rw [if_pos (.inr hsb)];rfl)
  (go_wp2_with fail;refine(jW 8 dE dE W8 (HT0.o.below H8.o.bel)).mono ?_;rintro e W9 ⟨rfl,hb9⟩;go_wp2;go_ret;rw [HV.o];exact⟨rfl,H8.o.bel.trans (hb9.mono H8.o.bel.size)⟩)
 obtain⟨eb,heb⟩:=eX (qAA p.C f site);have hcall:=qHQ p f site _ _ _ W8 H8.o.pl;rw [heb] at hcall;go_wp2_with fail;refine hcall.mono ?_;clear hcall;rintro e Wa ⟨rfl,hba⟩;have Ha:=mH (H8.o.next hba);clear hba H8 y0 y1 y2 s0 s1 hlb hlf;have y0:=Ha.o.bx.cell 0 _ rfl;have y1:=Ha.o.bx.cell 1 _ rfl;have y2:=Ha.o.bx.cell 2 _ rfl;have s0:=Ha.o.fb.cell 0 (.string f.cable) rfl;have s1:=Ha.o.fb.cell 1 (.int .i64 f.no) rfl;have hlb:=Ha.o.bx.lt;have hlf:=Ha.o.fb.lt;have hn1:¬(jX p.C f=false∨qAQ p.S site=false):=by rw [hfb,hsb];simp
 cases eb
 ·have HV:Hx (qBu (qBa p f site)=qD6 3):=mH (by unfold qBa;rw [if_neg hn1,if_pos heb];rfl)
  (go_wp2_with fail;refine(jW 3 dE dE Wa (HT0.o.below Ha.o.bel)).mono ?_;rintro e W9 ⟨rfl,hb9⟩;go_wp2;go_ret;rw [HV.o];exact⟨rfl,Ha.o.bel.trans (hb9.mono Ha.o.bel.size)⟩)
 obtain⟨so,hso⟩:=eX (zD p.X f site);have hcall:=qJ7 p f site _ _ _ Wa Ha.o.pl;rw [hso] at hcall;obtain⟨sv,hsv⟩:∃sv:qE,so.getD ⟨⟨#[]⟩,⟨⟨#[]⟩,0⟩,⟨⟨#[]⟩,0⟩,0⟩=sv:=⟨_,rfl⟩;obtain⟨ib,hib⟩:=eX (so.isSome);rw [hsv,hib] at hcall;go_wp2_with fail;refine hcall.mono ?_;clear hcall;rintro e Wb ⟨rfl,hbb⟩;have hbc:Below Wa.heap.size Wa (Wb.alloc (.cells ↑sv 79)):=qB hbb _ hbb.size;have Hb:=mH (Ha.o.next hbb);have Hc:=mH (Ha.o.next hbc);clear hbb hbc Ha y0 y1 y2 s0 s1 hlb hlf;have y0:=Hb.o.bx.cell 0 _ rfl;have y1:=Hb.o.bx.cell 1 _ rfl;have y2:=Hb.o.bx.cell 2 _ rfl;have s0:=Hb.o.fb.cell 0 (.string f.cable) rfl;have s1:=Hb.o.fb.cell 1 (.int .i64 f.no) rfl;have hlb:=Hb.o.bx.lt;have hlf:=Hb.o.fb.lt
 cases ib
 rotate_left
 ·have HV:Hx (qBu (qBa p f site)=qD6 11):=mH (by unfold qBa;rw [if_neg hn1,if_neg (by rw [heb];simp),if_pos (by rw [hso];exact hib)];rfl);go_wp2_with fail;refine(jW 11 dE dE _ (HT0.o.below Hc.o.bel)).mono ?_;rintro e W9 ⟨rfl,hb9⟩;go_wp2;go_ret;rw [HV.o];exact⟨rfl,Hc.o.bel.trans (hb9.mono Hc.o.bel.size)⟩
 have hnone:zD p.X f site=none:=by
  rw [hso]
  cases so with
  | none=>rfl
  | some x=>cases hib
 have hfin0:qBa p f site=(0,(qB9 p.C p.X (f,site)).flatMap qCQ++okT):=by unfold qBa;rw [if_neg hn1,if_neg (by rw [heb];simp),if_neg (by rw [hnone];simp)]
 have hcall:=qLM p HA.o.2.2.2.2.1.1 f site _ _ _ _ Hc.o.pl HA.o.2.2.2.2.1.2.2.2 heb hnone (qIG HA.o.2.2.2.2.1.1 hfb).1;obtain⟨H,hH⟩:=eX (qB9 p.C p.X (f,site));rw [hH] at hcall hfin0 HW;clear hnone hn1 hso hsv hib heb hsb hfb hH;go_wp2_with fail;refine hcall.mono ?_;clear hcall;rintro e w3 ⟨v3,rfl,ho,hb3⟩;obtain⟨a3,c3,rfl,-,hm3,hc3⟩:=qI.of_own Hop.cells_len ho;have hHl:=HW.o.2;have hB3:=Hc.o.bel.trans (hb3.mono Hc.o.bel.size);have hfin:qBu (qBa p f site)=H.flatMap qCQ++okT:=by rw [hfin0];rfl
 have HX:=mH (aI hc3 (aI HW.o.1 (aI hfin (aI hB3 (HT0.o.below hB3)))));clear ho hb3 hc3 hm3 hfin hfin0 hB3 Hb Hc y0 y1 y2 s0 s1 hlb hlf;go_wp2;go_loopw [10,55] (λov iv wr=>∃k:Nat,k≤H.length∧iv=.int .i64 k∧ov=.string (bA ((H.take k).flatMap qCQ))∧Below w3.heap.size w3 wr) (λ_ iv _=>H.length - (intOf iv).toNat)
 case atStart=>exact⟨0,by omega,rfl,rfl,Below.refl _ _⟩
 case round =>
  obtain⟨k,hk,rfl,rfl,hB⟩:=hrel;have hsz:=hB.size;have HB:=mH hB
  by_cases hlt:k<H.length
  ·obtain⟨b,off,rfl,hbl,hcc⟩:=HX.o.1 k hlt;have c0:=(hB.cell (p:=⟨b,_,none⟩) hbl).trans (hcc 0 _ rfl);have c1:=(hB.cell (p:=⟨b,_,none⟩) hbl).trans (hcc 1 _ rfl);have c2:=(hB.cell (p:=⟨b,_,none⟩) hbl).trans (hcc 2 _ rfl);have c3:=(hB.cell (p:=⟨b,_,none⟩) hbl).trans (hcc 3 _ rfl);simp only [Nat.add_zero] at c0;have hk':(k:Int)<H.length:=by omega
   obtain⟨z1,zw,z3,z4⟩:=HX.o.2.1 H[k] (List.getElem_mem hlt);have hOl:=qFo HX.o.2.1 k;have hst:=qII hlt;have hZ:=qIH zw;have HZ:=mH (aI hst hZ);obtain⟨L,hL⟩:=eY ((H.take k).flatMap qCQ);rw [←hL] at hOl HZ
   try rw [←hL]
   have zO:(bA L).size≤k*3000030:=by rw [qCJ];exact hOl
   obtain⟨O,hO⟩:=eY (bA L);rw [←hO] at zO
   try rw [←hO]
   obtain⟨h,hh⟩:=eY (H[k]);rw [←hh] at c0 c1 c2 c3 z1 z3 z4 HZ;obtain⟨T,hT⟩:=eY (qBq h.fib.no);have zT:T.size≤20:=by rw [hT];show(bA (Lib.itoa h.fib.no)).size≤20;rw [qCJ,hh];exact qCu zw
   have HT:=mH (aI hT hO);clear hcc hst hB hOl hL hO hh hZ zw hT;go_wp2_with fail;have hS:HpS (wr.alloc (.cells ↑h 157)).drew wr.heap.size h:=by
    have hb:=(qC.new wr ↑h 157).drew;exact⟨hb.cell 0 _ rfl,hb.cell 1 _ rfl,hb.cell 2 _ rfl,hb.cell 3 _ rfl,hb.lt⟩
   have HBx:=mH (show Below w3.heap.size w3 (wr.alloc (.cells ↑h 157)).drew from(qB HB.o _ hsz).drew);refine qA.start (λW=>HpS W wr.heap.size h) [] kR ?_;clear c0 c1 c2 c3;generalize (wr.alloc (.cells ↑h 157)).drew=W1 at *;refine qA.q 0 ?_;refine qA.q 1 ?_;refine qA.q 2 ?_;refine qA.t 3 hS ?_;refine qA.qc 4 ?_;refine qA.q 5 ?_;refine qA.q 6 ?_;refine qA.t 7 hS ?_;refine qA.q 11 ?_;refine qA.t 12 hS ?_;refine qA.q 15 ?_;refine qA.t 16 hS ?_;refine qA.nx 8 λK hK=>?_;go_simp
   refine(qCH h.fib.no HZ.o.2.1 HZ.o.2.2 W1 (HX.o.2.2.2.2.below HBx.o)).mono ?_;rintro e w5 ⟨rfl,hb5⟩;rw [←HT.o.1];have hS5:=hS.below hb5;have H5:=mH (HBx.o.trans (hb5.mono HBx.o.size));refine qA.on hK (λ_ _=>hS5) ?_;clear hK K hb5;refine qA.qc 9 ?_;refine qA.qc 10 ?_;refine qA.qc 13 ?_;refine qA.qc 14 ?_;refine qA.qc 17 ?_;refine qA.qc 18 ?_;refine qA.qc 19 ?_;refine qA.q 20 ?_;refine qA.done kR ?_;go_wp2;refine⟨⟨k+1,by omega,by go_num,?_,H5.o⟩,by simp [intOf];omega⟩;rw [HZ.o.1,HT.o.2,HT.o.1,←qMr]
  obtain rfl:k=H.length:=by omega
  rw [List.take_length];have hOl:=qFo HX.o.2.1 H.length;rw [List.take_length] at hOl;have HF:=mH (qNu (H.flatMap qCQ));have zO:(bA (H.flatMap qCQ)).size≤H.length*3000030:=by rw [qCJ];exact hOl
  obtain⟨O,hO⟩:=eY (bA (H.flatMap qCQ));rw [←hO] at zO HF
  try rw [←hO]
  have aa:¬9223372036854775807<O.size+3:=by omega
  clear hOl hO hB;go_wp2;go_ret;rw [HX.o.2.2.1];exact⟨congrArg (λx=>Ending.returned (.string x)) HF.o,HX.o.2.2.2.1.trans (HB.o.mono HX.o.2.2.2.1.size)⟩
def AnP (cb:Nat) (r:(Int × List UInt8) × List qD × Int) (w:World) (x:Ending) (w':World):Prop :=
 ∃s v',x=.returned (.tuple #[.string s,.int .i64 r.1.1])∧(r.1.1=0→s=bA r.1.2)∧qC w' cb #[v',.int .i64 r.2.2] 90∧qI qD.cells 17 w' r.2.1 v'∧w.grownBy w' (some cb)∧(w.cell? ⟨cb,0,none⟩=some v'∨∀b off n c,v'=.slice (some ⟨b,off,none⟩) n c→w.heap.size≤b)
theorem qPk {W W':World} {cb:Nat} {x y:Value} {t:TypeId} {l:List qD} {v:Value} (hA:qI qD.cells 17 W l v) (hb:qC W cb #[x,y] t) (hg:W.grownBy W' (some cb)):qI qD.cells 17 W' l v:=by
 obtain⟨a,cap,rfl,h2,h3,h4⟩:=hA;refine⟨a,cap,rfl,h2,h3,λk hk=>?_⟩;obtain⟨b,off,ha,hbl,hc⟩:=h4 k hk;have hne:b≠cb:=by
  rintro rfl;have h:=hc 16 _ rfl;unfold qC at hb;simp [World.cell?,hb] at h
 exact⟨b,off,ha,Nat.lt_of_lt_of_le hbl hg.size,λj u hu=>hg.cell (hc j u hu) (by simpa using hne)⟩
theorem qPl {W:World} {b cb off n c:Nat} {a:Option Addr} {Q:ByteArray} {k:IntKind} {y:Int} {t:TypeId} (hb:qC W cb #[.slice a n c,.int k y] t) (h:W.cell? ⟨b,off+1,none⟩=some (.string Q)):b≠cb:=by
 rintro rfl;unfold qC at hb;simp only [World.cell?,hb] at h
 cases off with
 | zero=>simp at h
 | succ n=>simp at h
theorem AnP.stay {cb:Nat} {E:List qD} {at_:Int} {vE:Value} {w w':World} {r:Int × List UInt8} {s:ByteArray} (hb:qC w cb #[vE,.int .i64 at_] 90) (hA:qI qD.cells 17 w E vE) (hB:Below w.heap.size w w') (hs:r.1=0→s=bA r.2):AnP cb (r,E,at_) w (.returned (.tuple #[.string s,.int .i64 r.1])) w' :=
 ⟨s,vE,rfl,hs,hb.below hB hb.lt,hA.below hB,qH _ hB,.inl (hb.cell 0 _ rfl)⟩
theorem AnP.bad {cb:Nat} {E:List qD} {at_:Int} {vE:Value} {w w':World} (hb:qC w cb #[vE,.int .i64 at_] 90) (hA:qI qD.cells 17 w E vE) (hB:Below w.heap.size w w'):AnP cb ((9,[]),E,at_) w (.returned (.tuple #[.string ⟨#[]⟩,.int .i64 9])) w' :=
 AnP.stay hb hA hB (λh=>by cases h)
theorem qQQ (E:List qD) (at_:Int) (cb:Nat) (vE:Value) (W:List ByteArray) (v:Value) (w:World) (hb:qC w cb #[vE,.int .i64 at_] 90) (hA:qI qD.cells 17 w E vE) (hD:qBR E at_) (hlen:E.length<18) (hW:∀y∈E,qB2 y) (hA2:qI strCells 1 w W v) (h0:0<W.length) (hs:∀x∈W,x.size≤1000000) (ht:Tab10 w) (hn:¬(wd W 0=wAt∧W.length=2)∧¬(wd W 0=wDo∧2<W.length)∧¬(wd W 0=qAp∧W.length=4)∧¬(wd W 0=qAn∧W.length=2)∧¬(wd W 0=qAo∧W.length=1)):Calls prog 42 #[.pointer (some ⟨cb,0,none⟩),v] w (AnP cb (zR E at_ W) w):=by
 obtain⟨n1,n2,n3,n4,n5⟩:=hn;have hV:zR E at_ W=((9,[]),E,at_):=by unfold zR;rw [if_neg n1,if_neg n2,if_neg n3,if_neg n4,if_neg n5]
 rw [hV];obtain⟨a,cap,rfl,-⟩:=id hA;obtain⟨b,off,capW,rfl,hcap,hmax,hbW,hcell⟩:=qAF hA2 h0;have d0:w.cell? ⟨b,off,none⟩=some (.string (wd W 0)):=hcell 0 h0;have h0i:(0:Int)<W.length:=by omega
 have HA:=mH (aI hb hA);clear hV hA2 hs hcell hb hA hW hD ht
 by_cases hw:wd W 0=wAt
 ·have q0:((wd W 0).toList==[97,116])=true:=qBZ (c:=wAt) hw rfl;have q1:((wd W 0).toList==[100,111])=false:=qR (c:=wDo) (by rw [hw];decide) rfl;have q2:((wd W 0).toList==[112,97,116,104])=false:=qR (c:=qAp) (by rw [hw];decide) rfl;have q3:((wd W 0).toList==[102,114,101,101])=false:=qR (c:=qAn) (by rw [hw];decide) rfl;have q4:((wd W 0).toList==[115,112,108,105,99,101,115])=false:=qR (c:=qAo) (by rw [hw];decide) rfl;have hl:((W.length:Int)==2)=false:=by simp;intro h;exact n1 ⟨hw,by omega⟩
  clear n1 n2 n3 n4 n5 hw;generalize wd W 0=Q at *;go_enter func42,ntmps42;go_wp2;go_ret2;exact AnP.bad HA.o.1 HA.o.2 (by exact qS)
 have e0:((wd W 0).toList==[97,116])=false:=qR (c:=wAt) hw rfl;clear hw
 by_cases hw:wd W 0=wDo
 ·have q0:((wd W 0).toList==[97,116])=false:=qR (c:=wAt) (by rw [hw];decide) rfl;have q1:((wd W 0).toList==[100,111])=true:=qBZ (c:=wDo) hw rfl;have q2:((wd W 0).toList==[112,97,116,104])=false:=qR (c:=qAp) (by rw [hw];decide) rfl;have q3:((wd W 0).toList==[102,114,101,101])=false:=qR (c:=qAn) (by rw [hw];decide) rfl;have q4:((wd W 0).toList==[115,112,108,105,99,101,115])=false:=qR (c:=qAo) (by rw [hw];decide) rfl;have hl:decide ((2:Int)<W.length)=false:=by simp;have:=mt (λh=>(⟨hw,h⟩:wd W 0=wDo∧2<W.length)) n2;omega
  clear n1 n2 n3 n4 n5 hw;generalize wd W 0=Q at *;go_enter func42,ntmps42;go_wp2;go_ret2;exact AnP.bad HA.o.1 HA.o.2 (by exact qS)
 have e1:((wd W 0).toList==[100,111])=false:=qR (c:=wDo) hw rfl;clear hw
 by_cases hw:wd W 0=qAp
 ·have q0:((wd W 0).toList==[97,116])=false:=qR (c:=wAt) (by rw [hw];decide) rfl;have q1:((wd W 0).toList==[100,111])=false:=qR (c:=wDo) (by rw [hw];decide) rfl;have q2:((wd W 0).toList==[112,97,116,104])=true:=qBZ (c:=qAp) hw rfl;have q3:((wd W 0).toList==[102,114,101,101])=false:=qR (c:=qAn) (by rw [hw];decide) rfl;have q4:((wd W 0).toList==[115,112,108,105,99,101,115])=false:=qR (c:=qAo) (by rw [hw];decide) rfl;have hl:((W.length:Int)==4)=false:=by simp;intro h;exact n3 ⟨hw,by omega⟩
  clear n1 n2 n3 n4 n5 hw;generalize wd W 0=Q at *;go_enter func42,ntmps42;go_wp2;go_ret2;exact AnP.bad HA.o.1 HA.o.2 (by exact qS)
 have e2:((wd W 0).toList==[112,97,116,104])=false:=qR (c:=qAp) hw rfl;clear hw
 by_cases hw:wd W 0=qAn
 ·have q0:((wd W 0).toList==[97,116])=false:=qR (c:=wAt) (by rw [hw];decide) rfl;have q1:((wd W 0).toList==[100,111])=false:=qR (c:=wDo) (by rw [hw];decide) rfl;have q2:((wd W 0).toList==[112,97,116,104])=false:=qR (c:=qAp) (by rw [hw];decide) rfl;have q3:((wd W 0).toList==[102,114,101,101])=true:=qBZ (c:=qAn) hw rfl;have q4:((wd W 0).toList==[115,112,108,105,99,101,115])=false:=qR (c:=qAo) (by rw [hw];decide) rfl;have hl:((W.length:Int)==2)=false:=by simp;intro h;exact n4 ⟨hw,by omega⟩
  clear n1 n2 n3 n4 n5 hw;generalize wd W 0=Q at *;go_enter func42,ntmps42;go_wp2;go_ret2;exact AnP.bad HA.o.1 HA.o.2 (by exact qS)
 have e3:((wd W 0).toList==[102,114,101,101])=false:=qR (c:=qAn) hw rfl;clear hw
 by_cases hw:wd W 0=qAo
 ·have q0:((wd W 0).toList==[97,116])=false:=qR (c:=wAt) (by rw [hw];decide) rfl;have q1:((wd W 0).toList==[100,111])=false:=qR (c:=wDo) (by rw [hw];decide) rfl;have q2:((wd W 0).toList==[112,97,116,104])=false:=qR (c:=qAp) (by rw [hw];decide) rfl;have q3:((wd W 0).toList==[102,114,101,101])=false:=qR (c:=qAn) (by rw [hw];decide) rfl;have q4:((wd W 0).toList==[115,112,108,105,99,101,115])=true:=qBZ (c:=qAo) hw rfl;have hl:((W.length:Int)==1)=false:=by simp;intro h;exact n5 ⟨hw,by omega⟩
  clear n1 n2 n3 n4 n5 hw;generalize wd W 0=Q at *;go_enter func42,ntmps42;go_wp2;go_ret2;exact AnP.bad HA.o.1 HA.o.2 (by exact qS)
 have e4:((wd W 0).toList==[115,112,108,105,99,101,115])=false:=qR (c:=qAo) hw rfl;clear hw;clear n1 n2 n3 n4 n5;generalize wd W 0=Q at *;go_enter func42,ntmps42;go_wp2;go_ret2;exact AnP.bad HA.o.1 HA.o.2 (by exact qS)
theorem qTL (E:List qD) (at_:Int) (cb:Nat) (vE:Value) (W:List ByteArray) (v:Value) (w:World) (hb:qC w cb #[vE,.int .i64 at_] 90) (hA:qI qD.cells 17 w E vE) (hD:qBR E at_) (hlen:E.length<18) (hW:∀y∈E,qB2 y) (hA2:qI strCells 1 w W v) (h0:0<W.length) (hs:∀x∈W,x.size≤1000000) (ht:Tab10 w) (hw:wd W 0=wAt) (hl:W.length=2):Calls prog 42 #[.pointer (some ⟨cb,0,none⟩),v] w (AnP cb (zR E at_ W) w):=by
 obtain⟨a,cap,rfl,-⟩:=id hA;obtain⟨b,off,capW,rfl,hcap,hmax,hbW,hcell⟩:=qAF hA2 h0;have d0:w.cell? ⟨b,off,none⟩=some (.string (wd W 0)):=hcell 0 h0;have d1:=hcell 1 oM;have q0:((wd W 0).toList==[97,116])=true:=qBZ (c:=wAt) hw rfl;have q1:((wd W 0).toList==[100,111])=false:=qR (c:=wDo) (by rw [hw];decide) rfl;have q2:((wd W 0).toList==[112,97,116,104])=false:=qR (c:=qAp) (by rw [hw];decide) rfl;have q3:((wd W 0).toList==[102,114,101,101])=false:=qR (c:=qAn) (by rw [hw];decide) rfl;have q4:((wd W 0).toList==[115,112,108,105,99,101,115])=false:=qR (c:=qAo) (by rw [hw];decide) rfl;have hl1:((W.length:Int)==2)=true:=by simp;omega
 have h0i:(0:Int)<W.length:=by omega
 have h1i:(1:Int)<W.length:=by omega
 have hV:zR E at_ W=(match qAW 12 W 1 with|none=>((9,[]),E,at_)|some n=>if qCl n=false then ((1,[]),E,at_) else if n<at_ then ((7,[]),E,at_) else ((0,okT),E,n)):=by unfold zR;rw [if_pos ⟨hw,hl⟩];rfl
 have z1:=qCk hs 1;have HA:=mH (aI hb (aI hA (aI hV z1)));clear hA2 hs hcell hb hA hW hD ht hV z1 hw;unfold qAW at HA;generalize zR E at_ W=R at *;generalize wd W 0=Q at *;generalize wd W 1=Q1 at *;go_enter func42,ntmps42;go_wp2_with fail;obtain⟨o,hn⟩:=eX (jH 12 Q1.data.toList);have hcall:=qF2 Q1 12 oM w HA.o.2.2.2;unfold qDh at hcall;rw [hn] at hcall;refine hcall.mono ?_;rintro e w2 ⟨rfl,hb2⟩;clear hcall
 cases o with
 | none =>
  have hV:=HA.o.2.2.1;rw [hn] at hV;have HV:=mH hV;have HB:=mH hb2;clear hV hn hb2;simp only [Option.getD_none,Option.isSome_none];go_wp2;refine bodyPost_ret (results_tmp2 rfl _ _ _) rfl ?_;rw [HV.o];exact AnP.bad HA.o.1 HA.o.2.1 HB.o
 | some n =>
  have hV:=HA.o.2.2.1;rw [hn] at hV;have HV:=mH hV;have HB:=mH (aI (HA.o.1.below hb2 HA.o.1.lt) (aI (HA.o.2.1.below hb2) hb2));clear hV hn hb2;simp only [Option.getD_some,Option.isSome_some];go_wp2_with fail;obtain⟨r,hr⟩:∃r:Int,(if qCl n=false then 1 else if n<at_ then 7 else 0)=r:=⟨_,rfl⟩;have hcall:=qQU n at_ cb _ w2 HB.o.1;rw [hr] at hcall;refine hcall.mono ?_;rintro e w3 ⟨rfl,hb3,hg3⟩;have H3:=mH (aI hb3 hg3);have HR:=mH hr;clear hr hb3 hg3 hcall;go_wp2;refine bodyPost_ret (results_tmp2 rfl _ _ _) rfl ?_;rw [HV.o];have hAw:qI qD.cells 17 w3 E (.slice a E.length cap):=qPk HB.o.2.1 HB.o.1 H3.o.2;have hr:=HR.o;dsimp only
  cases hm:qCl n
  ·rw [if_pos hm] at hr;have h3:=H3.o.1;rw [hm,if_pos rfl] at h3;rw [if_pos rfl];exact⟨_,_,by subst hr;rfl,(λh=>by cases h),h3,hAw,qK (qH _ HB.o.2.2) H3.o.2,.inl (HA.o.1.cell 0 _ rfl)⟩
  ·rw [if_neg (by rw [hm];simp)] at hr;rw [if_neg sI];have h3:=H3.o.1;rw [hm,if_neg sI] at h3
   by_cases hlt:n<at_
   ·rw [if_pos hlt] at hr h3 ⊢;exact⟨_,_,by subst hr;rfl,(λh=>by cases h),h3,hAw,qK (qH _ HB.o.2.2) H3.o.2,.inl (HA.o.1.cell 0 _ rfl)⟩
   ·rw [if_neg hlt] at hr h3 ⊢;exact⟨_,_,by subst hr;rfl,λ_=>rfl,h3,hAw,qK (qH _ HB.o.2.2) H3.o.2,.inl (HA.o.1.cell 0 _ rfl)⟩
theorem qTZ (E:List qD) (at_:Int) (cb:Nat) (vE:Value) (W:List ByteArray) (v:Value) (w:World) (hb:qC w cb #[vE,.int .i64 at_] 90) (hA:qI qD.cells 17 w E vE) (hD:qBR E at_) (hlen:E.length<18) (hW:∀y∈E,qB2 y) (hA2:qI strCells 1 w W v) (h0:0<W.length) (hs:∀x∈W,x.size≤1000000) (ht:Tab10 w) (hw:wd W 0=wDo) (hl:2<W.length):Calls prog 42 #[.pointer (some ⟨cb,0,none⟩),v] w (AnP cb (zR E at_ W) w):=by
 obtain⟨a,cap,rfl,-⟩:=id hA;obtain⟨b,off,capW,rfl,hcap,hmax,hbW,hcell⟩:=qAF hA2 h0;have d0:w.cell? ⟨b,off,none⟩=some (.string (wd W 0)):=hcell 0 h0;have hD2:=qCy 2 hA2 oM;have hcn:¬capW=2:=by omega
 rw [if_neg hcn] at hD2;have d1:=hcell 1 oM;have hbc:b≠cb:=qPl hb d1;have q0:((wd W 0).toList==[97,116])=false:=qR (c:=wAt) (by rw [hw];decide) rfl;have q1:((wd W 0).toList==[100,111])=true:=qBZ (c:=wDo) hw rfl;have q2:((wd W 0).toList==[112,97,116,104])=false:=qR (c:=qAp) (by rw [hw];decide) rfl;have q3:((wd W 0).toList==[102,114,101,101])=false:=qR (c:=qAn) (by rw [hw];decide) rfl;have q4:((wd W 0).toList==[115,112,108,105,99,101,115])=false:=qR (c:=qAo) (by rw [hw];decide) rfl;have hl1:decide ((2:Int)<W.length)=true:=by simp;omega
 have h0i:(0:Int)<W.length:=by omega
 have h1i:(1:Int)<W.length:=by omega
 have h2i:(2:Int)≤W.length:=by omega
 have hci:(W.length:Int)≤capW:=by omega
 have hV:zR E at_ W=(match qX 12 (W.drop 2) with|none=>((9,[]),E,at_)|some e=>(((qAC E at_ (wd W 1) e).1,okT),(qAC E at_ (wd W 1) e).2,at_)):=by
  unfold zR;rw [if_neg (λh=>absurd (h.1.symm.trans hw) dE),if_pos ⟨hw,hl⟩];rfl
 have hsd:∀x∈W.drop 2,x.size≤1000000:=λx hx=>hs x (List.mem_of_mem_drop hx)
 have HA:=mH (aI hb (aI hA (aI hV (aI hsd (aI hD2 (aI hD hW))))));clear hA2 hs hcell hb hA hW hD ht hV hw hsd hD2;generalize zR E at_ W=R at *;generalize wd W 0=Q at *;generalize wd W 1=Q1 at *;go_enter func42,ntmps42;go_wp2_with fail;obtain⟨o,hn⟩:=eX (qX 12 (W.drop 2));have hcall:=qLQ (W.drop 2) _ 12 oM w HA.o.2.2.2.2.1 (by rw [List.length_drop];omega) HA.o.2.2.2.1;rw [hn] at hcall;refine hcall.mono ?_;rintro e w2 ⟨rfl,hb2⟩;clear hcall
 cases o with
 | none =>
  have hV:=HA.o.2.2.1;rw [hn] at hV;have HV:=mH hV;have HB:=mH hb2;clear hV hn hb2;simp only [Option.getD_none,Option.isSome_none];go_wp2_with (first|(refine jR (w0:=w2) rfl 81 _ _ rfl _ ↑qAx rF rF kR rfl (zS qAx) ?_));refine bodyPost_ret (results_tmp2 rfl _ _ _) rfl ?_;rw [HV.o];exact AnP.bad HA.o.1 HA.o.2.1 (qB HB.o _ HB.o.size)
 | some x =>
  have hV:=HA.o.2.2.1;rw [hn] at hV;have HV:=mH hV;have hf:=qJO hn;have hEW:=qIa oM HA.o.2.2.2.1 hn;have d1':=(hb2.cell (p:=⟨b,_,none⟩) hbW).trans d1;have HB:=mH (aI (HA.o.1.below hb2 HA.o.1.lt) (aI (HA.o.2.1.below hb2) (aI hb2 (aI hf hEW))));clear hV hn hb2 hf hEW d0 d1;simp only [Option.getD_some,Option.isSome_some];go_wp2_with (first|(refine jR (w0:=w2) rfl 81 _ _ rfl _ ↑x rF rF kR rfl (zS x) ?_));have hbx:qC (w2.alloc (.cells ↑x 81)).drew w2.heap.size ↑x 81:=(qC.new w2 _ _).drew;have hBa:Below w2.heap.size w2 (w2.alloc (.cells ↑x 81)).drew:=by exact qS
  have hS:(w2.alloc (.cells ↑x 81)).drew.cell? ⟨b,off+1,none⟩=some (.string Q1)∧qV (w2.alloc (.cells ↑x 81)).drew w2.heap.size 0 x:=⟨(hBa.cell (p:=⟨b,_,none⟩) (Nat.lt_of_lt_of_le hbW HB.o.2.2.1.size)).trans d1',qV.box hbx⟩;have H3:=mH (aI (HB.o.1.below hBa HB.o.1.lt) (aI (HB.o.2.1.below hBa) (HB.o.2.2.1.trans (hBa.mono HB.o.2.2.1.size))));have hbx2:w2.heap.size≠cb:=by have:=HB.o.1.lt;omega
  clear hbx hBa d1';refine qA.start (λW'=>W'.cell? ⟨b,off+1,none⟩=some (.string Q1)∧qV W' w2.heap.size 0 x) [] kR ?_;generalize (w2.alloc (.cells ↑x 81)).drew=W3 at *;refine qA.q 0 ?_;refine qA.q 1 ?_;refine qA.q 2 ?_;refine qA.t 3 hS ?_;refine qA.take (i:=4) (v:=.agg ↑x) rfl kR kR kR kR (λ_ _ _ h=>h) hS (yieldsIf_load_mid (by first|rfl|(go_simp;done)) 81 _ rfl (w2.heap.size) (0) rF ↑x _ (λ_ h=>h.2) underlying81 rfl kR) ?_;try simp only [Act.put,zL,zN,zH,zM,zK,zI]
  refine qA.nx 5 λK hK=>?_;go_simp
  refine(qS4 E at_ Q1 x cb _ W3 H3.o.1 H3.o.2.1 HA.o.2.2.2.2.2.1 (qAU.2 ⟨HB.o.2.2.2.1.1,HB.o.2.2.2.1.2.1⟩) HB.o.2.2.2.1.2.2.1 hlen HA.o.2.2.2.2.2.2 HB.o.2.2.2.2).mono ?_;rintro e' W5 ⟨v',rfl,hb5,hA5,hg5,hfr⟩;have hfr':w.cell? ⟨cb,0,none⟩=some v'∨∀b off n c,v'=.slice (some ⟨b,off,none⟩) n c→w.heap.size≤b:=by
   rcases hfr with h|h
   ·exact .inl (h ▸ HA.o.1.cell 0 _ rfl)
   ·exact .inr λb off n c e=>Nat.le_trans H3.o.2.2.size (h b off n c e)
  have H5:=mH (aI hb5 (aI hA5 (aI (qK (qH (some cb) H3.o.2.2) hg5) hfr')));clear hfr hfr';have hS5:W5.cell? ⟨b,off+1,none⟩=some (.string Q1)∧qV W5 w2.heap.size 0 x:=⟨hg5.cell hS.1 (by simpa using hbc),λj u hu=>hg5.cell (hS.2 j u hu) (by simpa using hbx2)⟩;refine qA.on hK (λ_ _=>hS5) ?_;clear hK K hb5 hA5 hg5;refine qA.q 6 ?_;refine qA.q 7 ?_;refine qA.done kR ?_;go_wp2;refine bodyPost_ret (results_tmp2 rfl _ _ _) rfl ?_;rw [HV.o];exact⟨_,_,rfl,λ_=>rfl,H5.o.1,H5.o.2.1,H5.o.2.2.1,H5.o.2.2.2⟩
theorem qQr (E:List qD) (at_:Int) (cb:Nat) (vE:Value) (W:List ByteArray) (v:Value) (w:World) (hb:qC w cb #[vE,.int .i64 at_] 90) (hA:qI qD.cells 17 w E vE) (hD:qBR E at_) (hlen:E.length<18) (hW:∀y∈E,qB2 y) (hA2:qI strCells 1 w W v) (h0:0<W.length) (hs:∀x∈W,x.size≤1000000) (ht:Tab10 w) (hw:wd W 0=qAp) (hl:W.length=4):Calls prog 42 #[.pointer (some ⟨cb,0,none⟩),v] w (AnP cb (zR E at_ W) w):=by
 obtain⟨a,cap,rfl,-⟩:=id hA;obtain⟨b,off,capW,rfl,hcap,hmax,hbW,hcell⟩:=qAF hA2 h0;have d0:w.cell? ⟨b,off,none⟩=some (.string (wd W 0)):=hcell 0 h0;have d1:=hcell 1 oM;have d2:=hcell 2 oM;have d3:=hcell 3 oM;have q0:((wd W 0).toList==[97,116])=false:=qR (c:=wAt) (by rw [hw];decide) rfl;have q1:((wd W 0).toList==[100,111])=false:=qR (c:=wDo) (by rw [hw];decide) rfl;have q2:((wd W 0).toList==[112,97,116,104])=true:=qBZ (c:=qAp) hw rfl;have q3:((wd W 0).toList==[102,114,101,101])=false:=qR (c:=qAn) (by rw [hw];decide) rfl;have q4:((wd W 0).toList==[115,112,108,105,99,101,115])=false:=qR (c:=qAo) (by rw [hw];decide) rfl;have hl1:((W.length:Int)==4)=true:=by simp;omega
 have h0i:(0:Int)<W.length:=by omega
 have h1i:(1:Int)<W.length:=by omega
 have h2i:(2:Int)<W.length:=by omega
 have h3i:(3:Int)<W.length:=by omega
 have hV:zR E at_ W=(match qAW 12 W 2 with|none=>((9,[]),E,at_)|some n=>(qBa (zB E at_) ⟨wd W 1,n⟩ (wd W 3),E,at_)):=by
  unfold zR;rw [if_neg (λh=>absurd (h.1.symm.trans hw) dE),if_neg (λh=>absurd (h.1.symm.trans hw) dE),if_pos ⟨hw,hl⟩];rfl
 have z1:=qCk hs 1;have z2:=qCk hs 2;have z3:=qCk hs 3;have hwf:∀n,qAW 12 W 2=some n→(Lit.int .i64 n).wf=true:=λn h=>qEn oM h
 have HA:=mH (aI hb (aI hA (aI hV (aI z2 (aI hD (aI hW (aI ht (aI z1 (aI z3 hwf)))))))));clear hA2 hs hcell hb hA hW hD ht hV z1 z2 z3 hw hwf;unfold qAW at HA;generalize zR E at_ W=R at *;generalize wd W 0=Q at *;generalize wd W 1=Q1 at *;generalize wd W 2=Q2 at *;generalize wd W 3=Q3 at *;go_enter func42,ntmps42;go_wp2_with fail;obtain⟨o,hn⟩:=eX (jH 12 Q2.data.toList);have hcall:=qF2 Q2 12 oM w HA.o.2.2.2.1;unfold qDh at hcall;rw [hn] at hcall;refine hcall.mono ?_;rintro e w2 ⟨rfl,hb2⟩;clear hcall
 cases o with
 | none =>
  have hV:=HA.o.2.2.1;rw [hn] at hV;have HV:=mH hV;have HB:=mH hb2;clear hV hn hb2;simp only [Option.getD_none,Option.isSome_none];go_wp2;refine bodyPost_ret (results_tmp2 rfl _ _ _) rfl ?_;rw [HV.o];exact AnP.bad HA.o.1 HA.o.2.1 HB.o
 | some n =>
  have hV:=HA.o.2.2.1;rw [hn] at hV;have HV:=mH (aI hV (HA.o.2.2.2.2.2.2.2.2.2 n hn));have HB:=mH (aI (HA.o.1.below hb2 HA.o.1.lt) (aI (HA.o.2.1.below hb2) (aI hb2 (HA.o.2.2.2.2.2.2.1.below hb2))));have hS:w2.drew.cell? ⟨b,off+1,none⟩=some (.string Q1)∧w2.drew.cell? ⟨b,off+3,none⟩=some (.string Q3):=⟨(hb2.cell (p:=⟨b,_,none⟩) hbW).trans d1,(hb2.cell (p:=⟨b,_,none⟩) hbW).trans d3⟩;have hlb:b<w2.drew.heap.size:=Nat.lt_of_lt_of_le hbW hb2.size;clear hV hn hb2 d0 d1 d2 d3;simp only [Option.getD_some,Option.isSome_some];go_wp2_with fail;refine qA.start (λW'=>W'.cell? ⟨b,off+1,none⟩=some (.string Q1)∧W'.cell? ⟨b,off+3,none⟩=some (.string Q3)) [] kR ?_;refine qA.q 0 ?_;refine qA.q 1 ?_;refine qA.q 2 ?_;refine qA.t 3 hS ?_;refine qA.q 4 ?_;refine qA.q 5 ?_;refine qA.q 6 ?_;refine qA.t 7 hS ?_;refine qA.nx 8 λK hK=>?_;go_simp
  refine(qRH E at_ cb _ ⟨Q1,n⟩ Q3 w2.drew (HB.o.1.drew) (HB.o.2.1.below (by exact qS)) HA.o.2.2.2.2.1.ent oM HA.o.2.2.2.2.2.1 HA.o.2.2.2.2.2.2.2.1 HV.o.2 HA.o.2.2.2.2.2.2.2.2.1 (HB.o.2.2.2.below (by exact qS))).mono ?_;rintro e' w3 ⟨s3,rfl,hs3,hb3⟩;have H3:=mH (aI ((show Below w.heap.size w w2.drew from(by have:=HB.o.2.2.1;exact qS)).trans (Below.mono hb3 HB.o.2.2.1.size:Below w.heap.size w2.drew w3)) hs3);have hS3:w3.cell? ⟨b,off+1,none⟩=some (.string Q1)∧w3.cell? ⟨b,off+3,none⟩=some (.string Q3):=⟨(hb3.cell (p:=⟨b,_,none⟩) hlb).trans hS.1,(hb3.cell (p:=⟨b,_,none⟩) hlb).trans hS.2⟩;obtain⟨r,hr⟩:=eX ((qBa (zB E at_) ⟨Q1,n⟩ Q3).1);have HR:=mH hr;rw [hr];refine qA.on hK (λ_ _=>hS3) ?_;clear hK K hb3 hs3 hr;refine qA.q 9 ?_;refine qA.q 10 ?_;refine qA.q 11 ?_;refine qA.q 12 ?_;refine qA.done kR ?_;go_wp2;refine bodyPost_ret (results_tmp2 rfl _ _ _) rfl ?_;rw [HV.o.1,←HR.o];exact AnP.stay HA.o.1 HA.o.2.1 H3.o.1 H3.o.2
theorem qQw (E:List qD) (at_:Int) (cb:Nat) (vE:Value) (W:List ByteArray) (v:Value) (w:World) (hb:qC w cb #[vE,.int .i64 at_] 90) (hA:qI qD.cells 17 w E vE) (hD:qBR E at_) (hlen:E.length<18) (hW:∀y∈E,qB2 y) (hA2:qI strCells 1 w W v) (h0:0<W.length) (hs:∀x∈W,x.size≤1000000) (ht:Tab10 w) (hw:wd W 0=qAn) (hl:W.length=2):Calls prog 42 #[.pointer (some ⟨cb,0,none⟩),v] w (AnP cb (zR E at_ W) w):=by
 obtain⟨a,cap,rfl,-⟩:=id hA;obtain⟨b,off,capW,rfl,hcap,hmax,hbW,hcell⟩:=qAF hA2 h0;have d0:w.cell? ⟨b,off,none⟩=some (.string (wd W 0)):=hcell 0 h0;have d1:=hcell 1 oM;have q0:((wd W 0).toList==[97,116])=false:=qR (c:=wAt) (by rw [hw];decide) rfl;have q1:((wd W 0).toList==[100,111])=false:=qR (c:=wDo) (by rw [hw];decide) rfl;have q2:((wd W 0).toList==[112,97,116,104])=false:=qR (c:=qAp) (by rw [hw];decide) rfl;have q3:((wd W 0).toList==[102,114,101,101])=true:=qBZ (c:=qAn) hw rfl;have q4:((wd W 0).toList==[115,112,108,105,99,101,115])=false:=qR (c:=qAo) (by rw [hw];decide) rfl;have hl1:((W.length:Int)==2)=true:=by simp;omega
 have h0i:(0:Int)<W.length:=by omega
 have h1i:(1:Int)<W.length:=by omega
 have hV:zR E at_ W=(qCA (zB E at_) (wd W 1),E,at_):=by
  unfold zR;rw [if_neg (λh=>absurd (h.1.symm.trans hw) dE),if_neg (λh=>absurd (h.1.symm.trans hw) dE),if_neg (λh=>absurd (h.1.symm.trans hw) dE),if_pos ⟨hw,hl⟩]
 have HA:=mH (aI hb (aI hA (aI hV (aI hD (aI hW ht)))));clear hA2 hs hcell hb hA hW hD ht hV hw;generalize zR E at_ W=R at *;generalize wd W 0=Q at *;generalize wd W 1=Q1 at *;go_enter func42,ntmps42;go_wp2_with fail;refine(qQv E at_ cb _ Q1 w HA.o.1 HA.o.2.1 HA.o.2.2.2.1.ent oM HA.o.2.2.2.2.1 HA.o.2.2.2.2.2).mono ?_;rintro e' w3 ⟨s3,rfl,hs3,hb3⟩;have H3:=mH (aI hb3 hs3);obtain⟨r,hr⟩:=eX ((qCA (zB E at_) Q1).1);have HR:=mH hr;rw [hr];clear hb3 hs3 hr;go_wp2;refine bodyPost_ret (results_tmp2 rfl _ _ _) rfl ?_;rw [HA.o.2.2.1,←HR.o];exact AnP.stay HA.o.1 HA.o.2.1 H3.o.1 H3.o.2
theorem qQa (E:List qD) (at_:Int) (cb:Nat) (vE:Value) (W:List ByteArray) (v:Value) (w:World) (hb:qC w cb #[vE,.int .i64 at_] 90) (hA:qI qD.cells 17 w E vE) (hD:qBR E at_) (hlen:E.length<18) (hW:∀y∈E,qB2 y) (hA2:qI strCells 1 w W v) (h0:0<W.length) (hs:∀x∈W,x.size≤1000000) (ht:Tab10 w) (hw:wd W 0=qAo) (hl:W.length=1):Calls prog 42 #[.pointer (some ⟨cb,0,none⟩),v] w (AnP cb (zR E at_ W) w):=by
 obtain⟨a,cap,rfl,-⟩:=id hA;obtain⟨b,off,capW,rfl,hcap,hmax,hbW,hcell⟩:=qAF hA2 h0;have d0:w.cell? ⟨b,off,none⟩=some (.string (wd W 0)):=hcell 0 h0;have q0:((wd W 0).toList==[97,116])=false:=qR (c:=wAt) (by rw [hw];decide) rfl;have q1:((wd W 0).toList==[100,111])=false:=qR (c:=wDo) (by rw [hw];decide) rfl;have q2:((wd W 0).toList==[112,97,116,104])=false:=qR (c:=qAp) (by rw [hw];decide) rfl;have q3:((wd W 0).toList==[102,114,101,101])=false:=qR (c:=qAn) (by rw [hw];decide) rfl;have q4:((wd W 0).toList==[115,112,108,105,99,101,115])=true:=qBZ (c:=qAo) hw rfl;have hl1:((W.length:Int)==1)=true:=by simp;omega
 have h0i:(0:Int)<W.length:=by omega
 have hV:zR E at_ W=((0,Lib.itoa (zB E at_).X.length++[10]),E,at_):=by
  unfold zR;rw [if_neg (λh=>absurd (h.1.symm.trans hw) dE),if_neg (λh=>absurd (h.1.symm.trans hw) dE),if_neg (λh=>absurd (h.1.symm.trans hw) dE),if_neg (λh=>absurd (h.1.symm.trans hw) dE),if_pos ⟨hw,hl⟩]
 have hP:=qC4 (at_:=at_) hD.ent (by omega:E.length≤100);have HA:=mH (aI hb (aI hA (aI hV (aI hD (aI hW (aI ht hP))))));have hS:w.drew.cell? ⟨cb,0,none⟩=some (.slice a E.length cap)∧w.drew.cell? ⟨cb,1,none⟩=some (.int .i64 at_):=⟨hb.cell 0 _ rfl,hb.cell 1 _ rfl⟩;have hlt:=hb.lt;clear hA2 hs hcell hb hA hW hD ht hV hw hP;generalize zR E at_ W=R at *;generalize wd W 0=Q at *;go_enter func42,ntmps42;go_wp2_with fail;refine qA.start (λW'=>W'.cell? ⟨cb,0,none⟩=some (.slice a E.length cap)∧W'.cell? ⟨cb,1,none⟩=some (.int .i64 at_)) [] kR ?_;refine qA.q 0 ?_;refine qA.q 1 ?_;refine qA.q 2 ?_;refine qA.t 3 hS ?_;refine qA.q 4 ?_;refine qA.q 5 ?_;refine qA.q 6 ?_;refine qA.t 7 hS ?_;refine qA.nx 8 λK hK=>?_;go_simp
 refine(qEr E _ at_ w.drew (HA.o.2.1.below (by exact qS)) HA.o.2.2.2.1.ent oM HA.o.2.2.2.2.1).mono ?_;rintro e w2 ⟨gb,nn,rfl,hgr,hb2⟩;obtain⟨vS,vC,vX,g0,g1,g2,hpl,hgb,-⟩:=hgr.read;obtain⟨aX,cX,rfl,-⟩:=id hpl.x;have H2:=mH (show Below w.heap.size w w2 from(Below.refl w.heap.size w).drew.trans hb2);have hS2:w2.cell? ⟨cb,0,none⟩=some (.slice a E.length cap)∧w2.cell? ⟨cb,1,none⟩=some (.int .i64 at_):=⟨(hb2.cell (p:=⟨cb,0,none⟩) hlt).trans hS.1,(hb2.cell (p:=⟨cb,1,none⟩) hlt).trans hS.2⟩;have hxl:(zB E at_).X.length≤100:=HA.o.2.2.2.2.2.2.2.2.2;clear hgr hpl hb2 g0 g1;obtain⟨N,hN⟩:=eX ((zB E at_).X.length);have HN:=mH hN;rw [hN] at g2 hxl;clear hN;refine qA.on hK (λ_ _=>hS2) ?_;clear hK K;refine qA.q 9 ?_;refine qA.q 10 ?_;refine qA.q 11 ?_;refine qA.nx 12 λK hK=>?_;go_simp
 refine qA.on hK (λ_ h=>h) ?_;clear hK K;refine qA.q 13 ?_;refine qA.nx 14 λK hK=>?_;go_simp
 refine(qCH (N:Int) oM oM w2 (HA.o.2.2.2.2.2.1.below H2.o)).mono ?_;rintro e w3 ⟨rfl,hb3⟩;have hS3:w3.cell? ⟨cb,0,none⟩=some (.slice a E.length cap)∧w3.cell? ⟨cb,1,none⟩=some (.int .i64 at_):=⟨(hb3.cell (p:=⟨cb,0,none⟩) (Nat.lt_of_lt_of_le hlt H2.o.size)).trans hS2.1,(hb3.cell (p:=⟨cb,1,none⟩) (Nat.lt_of_lt_of_le hlt H2.o.size)).trans hS2.2⟩;have H3:=mH (H2.o.trans (hb3.mono H2.o.size));obtain⟨T,hT⟩:=eX (qBq (N:Int));have zT:T.size≤20:=by rw [←hT];show(bA (Lib.itoa N)).size≤20;rw [qCJ];exact qCu (WalkArith.wf_i64 oM)
 have HT:=mH hT;rw [hT];clear hT hb3;refine qA.on hK (λ_ _=>hS3) ?_;clear hK K;refine qA.qc 15 ?_;refine qA.q 16 ?_;refine qA.q 17 ?_;refine qA.done kR ?_;go_wp2;refine bodyPost_ret (results_tmp2 rfl _ _ _) rfl ?_;rw [HA.o.2.2.1,HN.o];exact AnP.stay HA.o.1 HA.o.2.1 H3.o (λ_=>by rw [←HT.o];exact qIO _)
theorem qO6 (E:List qD) (at_:Int) (cb:Nat) (vE:Value) (W:List ByteArray) (v:Value) (w:World) (hb:qC w cb #[vE,.int .i64 at_] 90) (hA:qI qD.cells 17 w E vE) (hD:qBR E at_) (hlen:E.length<18) (hW:∀y∈E,qB2 y) (hA2:qI strCells 1 w W v) (h0:0<W.length) (hs:∀x∈W,x.size≤1000000) (ht:Tab10 w):Calls prog 42 #[.pointer (some ⟨cb,0,none⟩),v] w (AnP cb (zR E at_ W) w):=by
 by_cases h1:wd W 0=wAt∧W.length=2
 ·exact qTL E at_ cb vE W v w hb hA hD hlen hW hA2 h0 hs ht h1.1 h1.2
 by_cases h2:wd W 0=wDo∧2<W.length
 ·exact qTZ E at_ cb vE W v w hb hA hD hlen hW hA2 h0 hs ht h2.1 h2.2
 by_cases h3:wd W 0=qAp∧W.length=4
 ·exact qQr E at_ cb vE W v w hb hA hD hlen hW hA2 h0 hs ht h3.1 h3.2
 by_cases h4:wd W 0=qAn∧W.length=2
 ·exact qQw E at_ cb vE W v w hb hA hD hlen hW hA2 h0 hs ht h4.1 h4.2
 by_cases h5:wd W 0=qAo∧W.length=1
 ·exact qQa E at_ cb vE W v w hb hA hD hlen hW hA2 h0 hs ht h5.1 h5.2
 exact qQQ E at_ cb vE W v w hb hA hD hlen hW hA2 h0 hs ht ⟨h1,h2,h3,h4,h5⟩
def DoP (cb:Nat) (r:List UInt8 × List qD × Int) (w:World) (x:Ending) (w':World):Prop :=
 ∃v',x=.returned (.string (bA r.1))∧qC w' cb #[v',.int .i64 r.2.2] 90∧qI qD.cells 17 w' r.2.1 v'∧w.grownBy w' (some cb)∧(w.cell? ⟨cb,0,none⟩=some v'∨∀b off n c,v'=.slice (some ⟨b,off,none⟩) n c→w.heap.size≤b)
theorem Tab10.grownCb {w w':World} {cb:Nat} {x y:Value} (h:Tab10 w) (hb:qC w cb #[x,y] 90) (hg:w.grownBy w' (some cb)):Tab10 w':=by
 unfold Tab10 Lib.TabIs World.var? at *
 cases hq:prog.globalNamed "internal/strconv.uint64pow10" with
 | none=>simp [hq] at h
 | some g =>
  simp only [hq,Option.bind_some] at h ⊢;have hlt:g<w.heap.size:=by
   rcases Nat.lt_or_ge g w.heap.size with h'|h'
   ·exact h'
   ·rw [Array.getElem?_eq_none h'] at h;simp at h
  have hne:g≠cb:=by
   rintro rfl;unfold qC at hb;rw [hb] at h;simp [Lib.pow10Tab] at h;have:=congrArg List.length h;simp at this
  rw [hg.block g hlt (λe=>hne (Option.some.inj e))];exact h
theorem qUN (E:List qD) (at_:Int) (cb:Nat) (vE:Value) (line:ByteArray) (w:World) (hb:qC w cb #[vE,.int .i64 at_] 90) (hA:qI qD.cells 17 w E vE) (hD:qBR E at_) (hlen:E.length<18) (hW:∀y∈E,qB2 y) (hx:line.size≤200000) (ht:Tab10 w) (hM:MaxL w) :
  Calls prog 28 #[.pointer (some ⟨cb,0,none⟩),.string line] w (DoP cb (doV (E,at_) line) w):=by
 obtain⟨L,hL⟩:=eX (qAb 32 line);have hcs:=qGO line 32 w oM hM;rw [hL] at hcs;have hdo:doV (E,at_) line=if (L.any λx=>qDO ⟨#[]⟩ x) then (qD6 9,(E,at_)) else (qBu (zR E at_ L).1,(zR E at_ L).2):=by
  unfold doV;rw [hL,qS7]
 have hpos:=qBS 32 line;rw [hL] at hpos;have hsz:∀x∈L,x.size≤1000000:=λx h=>by
  rw [←hL] at h;have:=qBp h;omega
 have HH:=mH (aI hb (aI hA (aI hD (aI hlen (aI hW (aI ht (aI hdo (aI hpos hsz))))))));clear hb hA hD hlen hW ht hM hdo hpos hsz hL;generalize doV (E,at_) line=RR at *;go_enter func28,ntmps28;go_wp2_with fail;refine hcs.mono ?_;rintro e w1 ⟨rfl,hw1⟩;clear hcs;have hB1:Below w.heap.size w w1:=by rw [hw1];exact qB bR _ lR
 have hAr:qI strCells 1 w1 L (.slice (some ⟨w.heap.size,0,none⟩) L.length L.length):=by
  rw [hw1];exact qEA (qC.new w _ 9) (by have:=HH.o.2.2.2.2.2.2.2.1.2;unfold maxLen;omega)
 obtain⟨bh,hbh⟩:=eX ((L.any λx=>qDO ⟨#[]⟩ x));have hcc:=qJD _ L ⟨#[]⟩ w1 hAr;rw [hbh] at hcc;have hdo:=HH.o.2.2.2.2.2.2.1;rw [hbh] at hdo;have H1:=mH (aI hB1 (aI hAr hdo));clear hw1 hB1 hAr hbh hdo;go_wp2_with fail;refine hcc.mono ?_;rintro e w2 ⟨rfl,rfl⟩;clear hcc
 cases bh
 rotate_left
 ·have HV:Hx (RR=(qD6 9,(E,at_))):=mH (H1.o.2.2.trans (if_pos rfl));go_wp2_with fail;refine(qHP 9 dE dE w1 (HH.o.2.2.2.2.2.1.below H1.o.1)).mono ?_;rintro e w3 ⟨rfl,hb3⟩;have hB3:Below w.heap.size w w3:=H1.o.1.trans (hb3.mono H1.o.1.size);go_wp2;go_ret;rw [HV.o];exact⟨vE,rfl,HH.o.1.below hB3 HH.o.1.lt,HH.o.2.1.below hB3,qH _ hB3,.inl (HH.o.1.cell 0 _ rfl)⟩
 have HV:Hx (RR=(qBu (zR E at_ L).1,(zR E at_ L).2)):=mH (H1.o.2.2.trans (if_neg sI));have hca:=qO6 E at_ cb vE L _ w1 (HH.o.1.below H1.o.1 HH.o.1.lt) (HH.o.2.1.below H1.o.1) HH.o.2.2.1 HH.o.2.2.2.1 HH.o.2.2.2.2.1 H1.o.2.1 HH.o.2.2.2.2.2.2.2.1.1 HH.o.2.2.2.2.2.2.2.2 (HH.o.2.2.2.2.2.1.below H1.o.1);have hsm:=qKk E at_ L;obtain⟨RA,hRA⟩:=eX (zR E at_ L);obtain⟨⟨n,tx⟩,E2,at2⟩:=RA;rw [hRA] at hca hsm HV;dsimp only at hsm;clear hRA;go_wp2_with fail;refine hca.mono ?_;rintro e w3 ⟨s,v3,rfl,hs3,hb3,hA3,hg3,hfr⟩;have hs3':n=0→s=bA tx:=hs3;have hg:w.grownBy w3 (some cb):=qK (qH _ H1.o.1) hg3;have hfr':w.cell? ⟨cb,0,none⟩=some v3∨∀b off n c,v3=.slice (some ⟨b,off,none⟩) n c→w.heap.size≤b:=by
  rcases hfr with h|h
  ·exact .inl ((H1.o.1.cell (p:=⟨cb,0,none⟩) HH.o.1.lt).symm.trans h)
  ·exact .inr λb off n c e=>Nat.le_trans H1.o.1.size (h b off n c e)
 have H3:=mH (aI hs3' (aI hb3 (aI hA3 (aI hg hfr'))));clear hfr hfr';have hTw:Tab10 w3:=(HH.o.2.2.2.2.2.1.below H1.o.1).grownCb (HH.o.1.below H1.o.1 HH.o.1.lt) hg3;clear hs3 hs3' hb3 hA3 hg3 hg hca
 by_cases hz:n=0
 ·have hzb:(n != 0)=false:=by rw [hz];rfl
  have hs:s=bA tx:=H3.o.1 hz;have hV2:Hx (RR=(tx,E2,at2)):=mH (by rw [HV.o];unfold qBu;rw [if_neg (by simpa using hz)]);clear hz;go_wp2;go_ret;rw [hV2.o];exact⟨v3,by first|rfl|rw [hs],H3.o.2.1,H3.o.2.2.1,H3.o.2.2.2.1,H3.o.2.2.2.2⟩
 ·have hzb:(n != 0)=true:=by simpa using hz
  have hV2:Hx (RR=(qD6 n,E2,at2)):=mH (by rw [HV.o];unfold qBu;rw [if_pos hz]);clear hz;go_wp2_with fail;refine(qHP n hsm.1 oM w3 hTw).mono ?_;rintro e w4 ⟨rfl,hb4⟩;go_wp2;go_ret;rw [hV2.o];exact⟨v3,rfl,H3.o.2.1.below hb4 H3.o.2.1.lt,H3.o.2.2.1.below hb4,qK H3.o.2.2.2.1 (qH _ hb4),H3.o.2.2.2.2⟩
theorem qT7 (w:World):Calls prog 26 #[] w λe w'=>e=.returned (.pointer (some ⟨w.heap.size,0,none⟩))∧qC w' w.heap.size #[.slice none 0 0,.int .i64 0] 90∧Below w.heap.size w w':=by
 have HB:Hx (Below w.heap.size w (w.alloc (.cells #[.slice none 0 0,.int .i64 0] 90))):=mH (qB bR _ lR);go_enter func26,ntmps26;go_wp2;go_ret;exact⟨rfl,qC.new w _ _,HB.o⟩
theorem qMU {W:World} {l:List qD} {v:Value} {b off n c:Nat} (h:qI qD.cells 17 W l v) (h0:0<l.length) (hv:v=.slice (some ⟨b,off,none⟩) n c):b<W.heap.size:=by
 obtain⟨a,cap,e,_,_,hc⟩:=h;obtain⟨b',off',ha,hb,_⟩:=hc 0 h0;subst ha;rw [hv] at e;simp only [Value.slice.injEq,Option.some.injEq,Addr.mk.injEq] at e;omega
theorem qOD {W W':World} {l:List qD} {v:Value} (h:qI qD.cells 17 W l v) (hs:W.heap.size≤W'.heap.size) (hf:0<l.length→∀b off n c,v=.slice (some ⟨b,off,none⟩) n c→W'.heap[b]? = W.heap[b]?):qI qD.cells 17 W' l v:=by
 obtain⟨a,cap,rfl,h2,h3,hc⟩:=h;refine⟨a,cap,rfl,h2,h3,λk hk=>?_⟩;obtain⟨b,off,rfl,hb,hcc⟩:=hc k hk;have hq:=hf oM b off _ _ rfl;exact⟨b,off,rfl,by omega,λj u hu=>by
  have:=hcc j u hu;unfold World.cell? at this ⊢;rw [hq];exact this⟩
structure SeS (w W:World) (cb bb lb:Nat) (vE vr:Value) (L:List ByteArray) (D:List UInt8 × List qD × Int):Prop where
 con:qC W cb #[vE,.int .i64 D.2.2] 90
 ent:qI qD.cells 17 W D.2.1 vE
 bld:qEC bb vr D.1 W
 lin:qC W lb (L.map Value.string).toArray 9
 sep:0<D.2.1.length→∀b off n c,vE=.slice (some ⟨b,off,none⟩) n c→b≠bb∧vr.ownBlock≠some b
 row:∀r,vr.ownBlock=some r→r≠lb
 bel:Below w.heap.size w W
 l1:w.heap.size≤cb
 l2:cb<bb
 l3:bb<lb
theorem SeS.done {w W W':World} {cb bb lb:Nat} {vE vr v':Value} {L:List ByteArray} {D:List UInt8 × List qD × Int} {E':List qD × Int} (h:SeS w W cb bb lb vE vr L D) (hb:qC W' cb #[v',.int .i64 E'.2] 90) (hA:qI qD.cells 17 W' E'.1 v') (hg:W.grownBy W' (some cb))
  (hfr:W.cell? ⟨cb,0,none⟩=some v'∨∀b off n c,v'=.slice (some ⟨b,off,none⟩) n c→W.heap.size≤b):SeS w W' cb bb lb v' vr L (D.1,E'):=by
 have l2:=h.l2;have l3:=h.l3;have hcn:some cb≠some bb:=λe=>by have:=Option.some.inj e;omega
 refine⟨hb,hA,h.bld.grown hg hcn (λr e q=>by have:=(h.bld.2.1.lt r q).1;have:=Option.some.inj e;omega),h.lin.grown hg (λe=>by have:=Option.some.inj e;omega),λhp b off n c e=>?_,h.row,h.bel.trans (jE hg h.l1 h.bel.size),h.l1,h.l2,h.l3⟩
 rcases hfr with q|q
 ·have hv:v'=vE:=by have:=h.con.cell 0 _ rfl;rw [q] at this;exact Option.some.inj this
  rw [hv] at e;have hp2:0<D.2.1.length:=by
   obtain⟨x1,x2,x3,_⟩:=h.ent;obtain⟨y1,y2,y3,_⟩:=hA;rw [hv,x3] at y3;simp only [Value.slice.injEq] at y3;have hp3:0<E'.1.length:=hp;have:=y3.2.1;omega
  exact h.sep hp2 b off n c e
 ·have h1:=q b off n c e;have h2:=h.bld.lt;exact⟨by omega,λe2=>by have:=(h.bld.2.1.lt b e2).2;omega⟩
theorem SeS.wrote {w W W':World} {cb bb lb:Nat} {vE vr v':Value} {L:List ByteArray} {t u:List UInt8} {E:List qD × Int} (h:SeS w W cb bb lb vE vr L (t,E)) (hb:qEC bb v' (t++u) W') (hB:Below bb W W') (hf:∀k,k<W.heap.size→k≠bb→vr.ownBlock≠some k→W'.heap[k]? = W.heap[k]?)
  (ho:v'.ownBlock=vr.ownBlock∨∀r,v'.ownBlock=some r→W.heap.size≤r):SeS w W' cb bb lb vE v' L (t++u,E):=by
 have l1:=h.l1;have l2:=h.l2;have l3:=h.l3;have hll:=h.lin.lt;refine⟨h.con.below hB l2,qOD h.ent hB.size λhp b off n c e=>?_,hb,?_,λhp b off n c e=>?_,λr hr=>?_,h.bel.trans (hB.mono oM),h.l1,h.l2,h.l3⟩
 ·obtain⟨h1,h2⟩:=h.sep hp b off n c e;exact hf b (qMU h.ent hp e) h1 h2
 ·unfold qC;rw [hf lb hll oM (λe=>h.row lb e rfl)];exact h.lin
 ·obtain⟨h1,h2⟩:=h.sep hp b off n c e;refine⟨h1,?_⟩
  rcases ho with q|q
  ·rw [q];exact h2
  ·intro e2;have:=q b e2;have:=qMU h.ent hp e;omega
 ·rcases ho with q|q
  ·exact h.row r (q.symm.trans hr)
  ·have:=q r hr;omega
def qDN (L:List ByteArray) (k:Nat):List UInt8 × List qD × Int:=qBB ((L.take k).filter λx=>!decide (x.size=0)) ([],0)
theorem qQP {L:List ByteArray} {k:Nat} (hk:k<L.length):qDN L (k+1)=if L[k].size=0 then qDN L k else ((qDN L k).1++(doV (qDN L k).2 L[k]).1,(doV (qDN L k).2 L[k]).2):=by
 unfold qDN;rw [qP0 hk]
 split
 ·rw [List.append_nil]
 ·rw [qIy]
theorem qJM {L:List ByteArray} {k:Nat} (hn:(L.filter λx=>!decide (x.size=0)).length≤17) (hs:∀x∈L,x.size≤200000) :
  qBR (qDN L k).2.1 (qDN L k).2.2∧(qDN L k).2.1.length≤17∧(∀y∈(qDN L k).2.1,qB2 y)∧(qDN L k).1.length≤17*400000000:=by
 have h1:((L.take k).filter λx=>!decide (x.size=0)).length≤17:=Nat.le_trans (List.Sublist.length_le ((List.take_sublist k L).filter _)) hn;have h2:∀x∈(L.take k).filter λx=>!decide (x.size=0),x.size≤1000000:=λx hx=>Nat.le_trans (hs x (List.mem_of_mem_take (List.mem_filter.1 hx).1)) oM
 obtain⟨q1,q2⟩:=qIp ((L.take k).filter λx=>!decide (x.size=0)) ([],0) qGu;have q3:=qJv ((L.take k).filter λx=>!decide (x.size=0)) ([],0) qGu (by simp only [List.length_nil];omega) h2;refine⟨q1,by show(qBB _ _).2.1.length≤17;simp only [List.length_nil] at q2;omega,qK3 _ _ h2 (λy hy=>by cases hy),?_⟩;unfold qDN;exact Nat.le_trans q3 (Nat.mul_le_mul_right _ h1)
theorem qN2 (s:ByteArray) (w:World) (hs:s.size≤200000) (hn:(qBI s).length≤17) (ht:Tab10 w) (hM:MaxL w):Calls prog 11 #[.string s] w λe w'=>e=.returned (.string (bA (qCX s)))∧Below w.heap.size w w':=by
 have hV:qCX s=(qBB (qBI s) ([],0)).1:=by unfold qCX;rw [if_neg oM]
 obtain⟨L,hL⟩:=eX (qAb 10 s);have hlin:qBI s=L.filter λx=>!decide (x.size=0):=by unfold qBI;rw [hL]
 rw [hlin] at hV hn;have hsz:∀x∈L,x.size≤200000:=λx hx=>by rw [←hL] at hx;have:=qBp hx;omega
 have hll:=(qBS 10 s).2;rw [hL] at hll;have hVK:qCX s=(qDN L L.length).1:=by rw [hV];unfold qDN;rw [List.take_length]
 have hs2:decide ((200000:Int)<s.size)=false:=by simp;omega
 have HH:=mH (aI hVK (aI hn (aI hsz (aI ht hM))));have HSP:=mH (λW (hM:MaxL W)=>hL ▸ qGO s 10 W oM hM);clear hV hVK hn ht hM hsz hlin hL;generalize qCX s=RR at *;go_enter func11,ntmps11;go_wp2_with fail;refine(qT7 w).mono ?_;rintro e w1 ⟨rfl,hc1,hb1⟩;have hz1:=hc1.lt;go_wp2_with fail;have hb2:Below w.heap.size w (w1.alloc (.cells #[.pointer none,.slice none 0 0] 44)):=qB hb1 _ hb1.size;have hbo:=qEC.new w1;have hc2:=hc1.alloc (.cells #[.pointer none,.slice none 0 0] 44);have hz2:(w1.alloc (.cells #[.pointer none,.slice none 0 0] 44)).heap.size=w1.heap.size+1:=by simp
 have H2:=mH (aI hb2 (aI hbo (aI hc2 (aI hz2 hz1))));clear hb1 hc1 hb2 hbo hc2 hz2;generalize w1.alloc (.cells #[.pointer none,.slice none 0 0] 44)=w2 at *;refine(HSP.o w2 (HH.o.2.2.2.2.below H2.o.1)).mono ?_;rintro e w3 ⟨rfl,hw3⟩;have hB3:Below w2.heap.size w2 w3:=by rw [hw3];exact qB bR _ lR
 have hst:SeS w w3 w.heap.size w1.heap.size w2.heap.size (.slice none 0 0) (.slice none 0 0) L (qDN L 0):=by
  have hlb:qC w3 w2.heap.size (L.map Value.string).toArray 9:=by rw [hw3];exact qC.new _ _ _
  exact⟨H2.o.2.2.1.below hB3 H2.o.2.2.1.lt,qI.nil _ _ _,H2.o.2.1.grown (qH none hB3) sI (λr e=>by cases e),hlb,(λh=>by simp [qDN,qBB] at h),(λr e=>by cases e),H2.o.1.trans (hB3.mono H2.o.1.size),Nat.le_refl _,H2.o.2.2.2.2,by have:=H2.o.2.2.2.1;omega⟩
 have HST:=mH hst;clear hw3 hB3 hst;go_wp2;go_loopw [15] (λiv wr=>∃(k:Nat) (vE vr:Value),k≤L.length∧iv=.int .i64 k∧SeS w wr w.heap.size w1.heap.size w2.heap.size vE vr L (qDN L k)) (λiv _=>L.length - (intOf iv).toNat)
 case atStart=>exact⟨0,_,_,by omega,rfl,HST.o⟩
 case round =>
  clear HST;obtain⟨k,vE,vr,hk,rfl,hT⟩:=hrel;obtain⟨F1,F2,F3,F4⟩:=qJM (k:=k) HH.o.2.1 HH.o.2.2.1
  by_cases hlt:k<L.length
  rotate_left
  ·obtain rfl:k=L.length:=by omega
   have HT:=mH hT;clear hT F1 F2 F3 F4;go_wp2_with fail;refine(qT5 w1.heap.size w1.heap.size _ wr HT.o.bld.is (by have:=HT.o.bld.lt;omega)).mono ?_;rintro e w9 ⟨rfl,hb9⟩;go_wp2;go_ret;rw [HH.o.1];exact⟨rfl,HT.o.bel.trans (hb9.mono (by have:=H2.o.2.2.2.2;omega))⟩
  have hsu:=qQP hlt;have c0:wr.cell? ⟨w2.heap.size,k,none⟩=some (.string L[k]):=qCF hT.lin k hlt;have hxs:=HH.o.2.2.1 L[k] (List.getElem_mem hlt);have hk':(k:Int)<L.length:=by omega
  have hlb:=hT.lin.lt;have HT:=mH (aI hT (aI F1 (aI F2 (aI F3 (aI F4 (aI hsu hxs))))));have hnx:=qJM (k:=k+1) HH.o.2.1 HH.o.2.2.1;clear hT F1 F3 F4 hsu hxs;generalize L[k]=x at *
  by_cases hx:x.size=0
  ·have hx1:(x.toList==([]:List UInt8))=true:=by rw [beq_iff_eq,ByteArray.toList_eq];exact List.length_eq_zero_iff.1 (by rw [←Lib.size_eq];exact hx)
   have hx2:(x.toList != ([]:List UInt8))=false:=by rw [bne,hx1];rfl
   have hsu:=HT.o.2.2.2.2.2.1;rw [if_pos hx] at hsu;have HS:=mH hsu;clear hx hsu hnx;go_wp2;exact⟨⟨k+1,vE,vr,by omega,by go_num,by rw [HS.o];exact HT.o.1⟩,by simp [intOf];omega⟩
  have hx1:(x.toList==([]:List UInt8))=false:=by
   rw [beq_eq_false_iff_ne,ByteArray.toList_eq];intro e;exact hx (by rw [Lib.size_eq,e];rfl)
  have hx2:(x.toList != ([]:List UInt8))=true:=by rw [bne,hx1];rfl
  have hsu:=HT.o.2.2.2.2.2.1;rw [if_neg hx] at hsu;obtain⟨t,E,at_,hD⟩:∃t E at_,qDN L k=(t,E,at_):=⟨_,_,_,rfl⟩;rw [hD] at HT hsu F2;obtain⟨u,E2,at2,hU⟩:∃u E2 at2,doV (E,at_) x=(u,E2,at2):=⟨_,_,_,rfl⟩;dsimp only at hsu;rw [hU] at hsu;have hdo:=qUN E at_ w.heap.size vE x wr HT.o.1.con HT.o.1.ent HT.o.2.1 (by have:=F2;dsimp only at this;omega) HT.o.2.2.2.1 HT.o.2.2.2.2.2.2 (HH.o.2.2.2.1.below HT.o.1.bel) (HH.o.2.2.2.2.below HT.o.1.bel);rw [hU] at hdo;rw [hsu] at hnx;have HS:=mH (aI hsu (aI hnx hU));clear hsu hnx hx hU hD F2;go_wp2_with fail;refine hdo.mono ?_;clear hdo;rintro e w4 ⟨v',rfl,hb4,hA4,hg4,hfr4⟩;have h4:=HT.o.1.done hb4 hA4 hg4 hfr4;have H4:=mH h4;clear hb4 hA4 hg4 hfr4 h4 c0;go_wp2_with fail;refine(qOX w1.heap.size vr t (bA u) w4 H4.o.bld (by
   have h1:(t++u).length≤17*400000000:=HS.o.2.1.2.2.2;rw [List.length_append] at h1;have h2:(bA u).size=u.length:=by rw [Lib.size_eq,qKO]
   omega)).mono ?_
  rintro e w5 ⟨rfl,vr',hb5,hB5,hf5,ho5⟩;have h5:SeS w w5 w.heap.size w1.heap.size w2.heap.size v' vr' L (t++u,E2,at2):=H4.o.wrote (by rw [qKO] at hb5;exact hb5) hB5 hf5 ho5;have H5:=mH h5;clear hb5 hB5 hf5 ho5 h5;go_wp2;exact⟨⟨k+1,v',vr',by omega,by go_num,by rw [HS.o.1];exact H5.o⟩,by simp [intOf];omega⟩
end Go.Proofs.YtbgnlfgkgklkdaaGreatDoor
