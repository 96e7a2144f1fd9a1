/- Parts of the proof of ScriptsAnswered: SsG, StX, SuE, SuI, SuJ. No condition. -/
import Derived.Test.YtbgnlfgkgklkdaaGreatDoorZ54
import Derived.Test.YtbgnlfgkgklkdaaGreatDoorZ44
import Derived.Test.YtbgnlfgkgklkdaaGreatDoorZ45
set_option linter.unusedVariables false
set_option linter.unusedSimpArgs false
set_option maxHeartbeats 8000000
set_option maxRecDepth 100000
namespace Go.Proofs.YtbgnlfgkgklkdaaGreatDoor
open Go Go.RowKit Tryz
def rdR (loss:Bool) (most:Nat) (W:List ByteArray):Option qE:=if W.length=(if loss=true then 6 else 5)∧qL (wd W 0)=true∧qL (wd W 1)=true∧qL (wd W 3)=true then rdS most W else none
theorem qMu (loss:Bool) (W:List ByteArray) (v:Value) (most:Nat) (hm:most≤17) (w:World) (hA:qI strCells 1 w W v) (hs:∀x∈W,x.size≤1000000) (ht:Tab10 w):Calls prog 100 #[v,.bool loss,.int .i64 most] w (qF8 (rdR loss most W) w):=by
 obtain⟨i0,hi,hz0,hz1,hz2⟩:=info_parts qDv;obtain⟨many,hmany⟩:∃many:Nat,(if loss=true then 6 else 5)=many:=⟨_,rfl⟩
 by_cases hlen:W.length=many
 rotate_left
 ·obtain⟨a,cap,rfl,hcap,hmax,hc⟩:=hA;have HN:Hx (rdR loss most W=none):=by unfold rdR;rw [hmany,if_neg (λh=>hlen h.1)];exact mH rfl
  clear hc
  cases loss
  ·obtain rfl:5=many:=hmany;have hb:((W.length:Int) != 5)=true:=by simp;omega
   clear hlen;go_enter func100,ntmps100;go_wp2
   (refine bodyPost_ret (v:=.tuple #[.agg ↑zX,.bool false]) ?_ rfl ⟨?_,?_⟩;(· exact qF rfl _ _ w.heap.size 79 ↑zX _ (0,0) _ rfl rfl (qC.new w _ _) underlying79 rfl kR);(· rw [HN.o];rfl);(· exact qB bR _ lR))
  ·obtain rfl:6=many:=hmany;have hb:((W.length:Int) != 6)=true:=by simp;omega
   clear hlen;go_enter func100,ntmps100;go_wp2
   (refine bodyPost_ret (v:=.tuple #[.agg ↑zX,.bool false]) ?_ rfl ⟨?_,?_⟩;(· exact qF rfl _ _ w.heap.size 79 ↑zX _ (0,0) _ rfl rfl (qC.new w _ _) underlying79 rfl kR);(· rw [HN.o];rfl);(· exact qB bR _ lR))
 have h5:W.length=5∨W.length=6:=by cases loss <;> simp at hmany <;> omega
 have hD:=hA;obtain⟨b,off,cap,rfl,hcap,hmax,hb,hcell⟩:=qAF hA oM;replace hD:=qCy 5 hD oM;obtain⟨ad,had⟩:=eX ((if cap=5 then some (⟨b,off,none⟩:Addr) else some ⟨b,off+5,none⟩));rw [had] at hD;have hcz:w.cell? ⟨b,off,none⟩=some (.string (wd W 0)):=hcell 0 oM;have hc1:=hcell 1 oM;have hc3:=hcell 3 oM;have k1:(5:Int)≤W.length:=by omega
 have j0:0<W.length:=by omega
 have j1:(1:Int)<W.length:=by omega
 have j2:(2:Int)<W.length:=by omega
 have j3:(3:Int)<W.length:=by omega
 have j4:(4:Int)<W.length:=by omega
 have k2:(W.length:Int)≤cap:=by omega
 have HA:=mH (aI hcell (aI hD (aI hs (aI h5 (aI hlen (aI hmany ht))))));clear hs hD hcell hA;have HB:rdR loss most W=if qL (wd W 0)=true∧qL (wd W 1)=true∧qL (wd W 3)=true then rdS most W else none:=by
  unfold rdR;rw [hmany]
  by_cases h:qL (wd W 0)=true∧qL (wd W 1)=true∧qL (wd W 3)=true
  ·rw [if_pos ⟨hlen,h⟩,if_pos h]
  ·rw [if_neg (λq=>h q.2),if_neg h]
 have HR0:=mH HB;clear HB h5;generalize rdR loss most W=RR at *
 cases loss
 all_goals
  simp at hmany;subst hmany
  first|(have hlb:((W.length:Int) != 5)=false:=by simp;omega)|(have hlb:((W.length:Int) != 6)=false:=by simp;omega)
  have HLEN:=mH hlen;clear hlen;go_enter func100,ntmps100
  rcases Bool.eq_false_or_eq_true (qL (wd W 0)) with k0|k0
  rotate_left
  ·have HN:Hx (RR=none):=mH (HR0.o.trans (if_neg (λh=>by rw [k0] at h;cases h.1)));go_wp2_with (go_at_call 97;refine(qAj _ _).mono ?_;rintro e' w' ⟨rfl,rfl⟩;rw [k0])
   (refine bodyPost_ret (v:=.tuple #[.agg ↑zX,.bool false]) ?_ rfl ⟨?_,?_⟩;(· exact qF rfl _ _ w.heap.size 79 ↑zX _ (0,0) _ rfl rfl (qC.new w _ _) underlying79 rfl kR);(· rw [HN.o];rfl);(· exact qB bR _ lR))
  rcases Bool.eq_false_or_eq_true (qL (wd W 1)) with k1'|k1'
  rotate_left
  ·have HN:Hx (RR=none):=mH (HR0.o.trans (if_neg (λh=>by rw [k1'] at h;cases h.2.1)));go_wp2_with (go_at_call 97;refine(qAj _ _).mono ?_;rintro e' w' ⟨rfl,rfl⟩;first|rw [k0]|rw [k1'])
   (refine bodyPost_ret (v:=.tuple #[.agg ↑zX,.bool false]) ?_ rfl ⟨?_,?_⟩;(· exact qF rfl _ _ w.heap.size 79 ↑zX _ (0,0) _ rfl rfl (qC.new w _ _) underlying79 rfl kR);(· rw [HN.o];rfl);(· exact qB bR _ lR))
  rcases Bool.eq_false_or_eq_true (qL (wd W 3)) with k3|k3
  rotate_left
  ·have HN:Hx (RR=none):=mH (HR0.o.trans (if_neg (λh=>by rw [k3] at h;cases h.2.2)));go_wp2_with (go_at_call 97;refine(qAj _ _).mono ?_;rintro e' w' ⟨rfl,rfl⟩;first|rw [k0]|rw [k1']|rw [k3])
   (refine bodyPost_ret (v:=.tuple #[.agg ↑zX,.bool false]) ?_ rfl ⟨?_,?_⟩;(· exact qF rfl _ _ w.heap.size 79 ↑zX _ (0,0) _ rfl rfl (qC.new w _ _) underlying79 rfl kR);(· rw [HN.o];rfl);(· exact qB bR _ lR))
  go_wp2_with (go_at_call 97;refine(qAj _ _).mono ?_;rintro e' w' ⟨rfl,rfl⟩;first|rw [k0]|rw [k1']|rw [k3]);have h5:W.length=5∨W.length=6:=HA.o.2.2.2.1;have HRg:Hx (RR=rdS most W):=mH (HR0.o.trans (if_pos ⟨k0,k1',k3⟩));clear HR0;have hbx:qC (w.alloc (.cells ↑zX 79)) w.heap.size ↑zX 79:=qC.new w _ _;have hS:(w.alloc (.cells ↑zX 79)).drew.cell? ⟨b,off+2,none⟩=some (.string (wd W 2))∧(w.alloc (.cells ↑zX 79)).drew.cell? ⟨b,off+4,none⟩=some (.string (wd W 4)) :=
   ⟨by have:=HA.o.1 2 oM;go_simp,by have:=HA.o.1 4 oM;go_simp⟩
  have H1:=mH (aI (show Below w.heap.size w (w.alloc (.cells ↑zX 79)).drew by exact qS) (aI hbx.drew (show w.heap.size+1≤(w.alloc (.cells ↑zX 79)).drew.heap.size by simp)));clear hbx hcz hc1 hc3;refine qA.start (λw'=>w'.cell? ⟨b,off+2,none⟩=some (.string (wd W 2))∧w'.cell? ⟨b,off+4,none⟩=some (.string (wd W 4))) [6,9,11] kR ?_;generalize (w.alloc (.cells ↑zX 79)).drew=W1 at *;refine qA.q 0 ?_;refine qA.q 1 ?_;refine qA.t 2 hS ?_;refine qA.q 3 ?_;refine qA.q 4 ?_;refine qA.t 5 hS ?_;refine qA.q 7 ?_;refine qA.q 8 ?_;refine qA.q 10 ?_;refine qA.nx 6 λK hK=>?_;go_simp
  have hbl:qC (W1.alloc (.cells #[.string (wd W 2),.string (wd W 4)] 9)) W1.heap.size #[.string (wd W 2),.string (wd W 4)] 9:=qC.new W1 _ _;have H2:=mH (aI hbl (aI (show Below w.heap.size w (W1.alloc (.cells #[.string (wd W 2),.string (wd W 4)] 9)) from H1.o.1.trans (qB bR _ (by have:=H1.o.2.2;omega))) (H1.o.2.1.alloc (.cells #[.string (wd W 2),.string (wd W 4)] 9))));clear hbl;refine qA.o hK ?_;clear hK K;refine qA.nx 9 λK hK=>?_
  refine qBG (cells:=strCells) (λ_=>rfl) (HA.o.2.1.below H2.o.2.1) rfl _ _ _ rF (w.heap.size+1) 9 _ _ 16 underlying26 hi hz0 hz1 hz2 rfl dE (.slice (some ⟨W1.heap.size,0,none⟩) 2 2) 2 [.string (wd W 2),.string (wd W 4)] rF (qBN H2.o.1 (by have:=H1.o.2.2;omega) oM (by simp [maxLen]) rfl rfl rfl) rF (qMq _) (by rw [List.length_drop];unfold maxLen;omega) (by rw [List.length_drop];omega) (by simp;have:=H1.o.2.2;omega) ?_;intro v' W3 ho3 hg3;have hrow:W3.ownsRow (w.heap.size+1) 9 1 v' (qB7 W).length ((qB7 W).flatMap strCells):=by
   have e1:(qB7 W).length=2+(W.drop 5).length:=by unfold qB7;rw [List.length_append];rfl
   rw [e1];unfold qB7;rw [List.flatMap_append];exact ho3
  have H3:=mH (aI (qI.of_own (cells:=strCells) (λ_=>rfl) hrow) (aI (show Below w.heap.size w W3 from H2.o.2.1.trans (jE (g:=W1.heap.size) hg3 (by have:=H1.o.2.2;omega) H2.o.2.1.size)) (H2.o.2.2.grown (row:=some W1.heap.size) hg3 (λe=>by have:=Option.some.inj e;have:=H1.o.2.2;omega))));clear ho3 hg3 hrow H2 H1;refine qA.o hK ?_;clear hK K;refine qA.nx 11 λK hK=>?_;go_simp
  have hns:∀x∈qB7 W,x.size≤1000000:=λx hx=>HA.o.2.2.1 x (qK9 oM hx)
  refine(qKo v' (qB7 W) most hm W3 H3.o.1 hns (by unfold qB7;rw [List.length_append,List.length_drop];simp;omega) (HA.o.2.2.2.2.2.2.below H3.o.2.1)).mono ?_;rintro e W4 ⟨v4,bb,ns,rfl,hb4,hown,h41,h42⟩;have H4:=mH (aI (H3.o.2.1.trans (hb4.mono H3.o.2.1.size)) (aI (H3.o.2.2.below hb4 H3.o.2.2.lt) (aI (Nat.lt_of_lt_of_le H3.o.2.2.lt hb4.size) (H3.o.2.1.trans (hb4.mono H3.o.2.1.size)).size)));clear hns hb4 H3;refine qA.o hK ?_;clear hK K;refine qA.q 12 ?_;refine qA.q 13 ?_;refine qA.q 14 ?_;refine qA.q 15 ?_;refine qA.q 16 ?_;refine qA.done kR ?_
  cases bb
  ·have hr:=qMx (h42 rfl) h5;have HN:=mH (HRg.o.trans hr);obtain⟨x0,x1,x2,x3,x4,x5,hfz⟩:=H4.o.2.1.at6;have f0:=hfz 0;have f1:=hfz 1;have f2:=hfz 2;have f3:=hfz 3;have f4:=hfz 4;have f5:=hfz 5;clear h41 h42 hr hown h5;go_wp2;refine bodyPost_ret (v:=.tuple #[.agg ↑zX,.bool false]) ?_ rfl ⟨?_,?_⟩
   ·exact qF rfl _ _ w.heap.size 79 ↑zX _ (0,0) _ rfl rfl (qC.fill6 H4.o.2.1) underlying79 rfl kR
   ·rw [HN.o];rfl
   ·exact Below.fill6 H4.o.1 lR _ _ _ _ _ _
  have hns:=h41 rfl;obtain⟨a4,cap4,hv4,hcap4,hmax4,hc4⟩:=qI.of_ints hown;have hb0:b<W4.heap.size:=Nat.lt_of_lt_of_le hb H4.o.1.size;have hwc:∀k (hk:k<W.length),W4.drew.cell? ⟨b,off+k,none⟩=some (.string (wd W k)):=λk hk=>(H4.o.1.cell (p:=⟨b,off+k,none⟩) hb).trans (HA.o.1 k hk)
  have d0:W4.drew.cell? ⟨b,off,none⟩=some (.string (wd W 0)):=hwc 0 oM
  rcases qLr hns h5 with⟨h5',n,m,rfl,hr⟩|⟨h5',n,m,o,rfl,hr⟩
  ·first|(exact absurd (HLEN.o.symm.trans h5') dE)|skip
   all_goals
    subst hv4;obtain⟨b4,o4,rfl,hb4,hcc⟩:=hc4 0 sI;have n0:W4.drew.cell? ⟨b4,o4,none⟩=some (.int .i64 n):=by simpa using hcc 0 _ rfl
    obtain⟨b4',o4',he,_,hcc1⟩:=hc4 1 sI;simp only [Option.some.injEq,Addr.mk.injEq,and_true] at he;obtain⟨rfl,rfl⟩:=he;have n1:W4.drew.cell? ⟨b4,o4+1,none⟩=some (.int .i64 m):=by simpa using hcc1 0 _ rfl
    have HR:=mH (aI (HRg.o.trans hr) h5');have hS:RsC W4.drew b off b4 o4 W n m:=⟨d0,hwc 1 oM,hwc 3 oM,n0,n1,hb0,hb4⟩;have H5:=mH (aI H4.o.1.drew (aI H4.o.2.1.drew (show w.heap.size<W4.drew.heap.size from H4.o.2.2.1)));clear hr h5' h5 h41 h42 hcc hcc1 hc4 hwc d0 n0 n1 hns hown H4 hcap4 hmax4 hb0 hb4;go_wp2_with fail;refine qA.start (λw'=>RsC w' b off b4 o4 W n m) [19] kR ?_;generalize W4.drew=W5 at *;refine qA.q 0 ?_;refine qA.q 1 ?_;refine qA.t 2 hS ?_;refine qA.q 3 ?_;refine qA.q 4 ?_;refine qA.t 5 hS ?_;refine qA.q 6 ?_;refine qA.q 7 ?_;refine qA.t 8 hS ?_;refine qA.q 9 ?_;refine qA.q 10 ?_;refine qA.q 11 ?_;refine qA.t 12 hS ?_;refine qA.q 13 ?_;refine qA.q 14 ?_;refine qA.t 15 hS ?_;refine qA.q 16 ?_;refine qA.q 17 ?_;refine qA.nx 18 λK hK=>?_;go_simp
    have hS6:=hS.below (qB bR (.cells ↑zX 79) lR);refine hK.out _ _ (λ_ _=>hS6) ?_;clear hK K;try simp only [Act.put,zL,zN,zH,zM,zK,zI]
    refine qA.nx 19 λK hK=>?_;go_simp
    refine qA.o hK ?_;clear hK K;refine qA.done kR ?_;have hx6:=H5.o.2.1.alloc (.cells #[.string (wd W 0),.string (wd W 1),.int .i64 n,.string (wd W 3),.int .i64 m,.int .i64 0] 79);have hB6:Below w.heap.size w (W5.alloc (.cells #[.string (wd W 0),.string (wd W 1),.int .i64 n,.string (wd W 3),.int .i64 m,.int .i64 0] 79)):=H5.o.1.trans (qB bR _ (by have:=H5.o.2.2;omega));have hx8:qC (W5.alloc (.cells #[.string (wd W 0),.string (wd W 1),.int .i64 n,.string (wd W 3),.int .i64 m,.int .i64 0] 79)) W5.heap.size #[.string (wd W 0),.string (wd W 1),.int .i64 n,.string (wd W 3),.int .i64 m,.int .i64 0] 79:=qC.new _ _ _;have hlt:=H5.o.2.2;clear hS H5;obtain⟨b8,hb8⟩:=eX (W5.heap.size);rw [hb8] at hx8 hlt ⊢;generalize W5.alloc (.cells #[.string (wd W 0),.string (wd W 1),.int .i64 n,.string (wd W 3),.int .i64 m,.int .i64 0] 79)=W6 at *;clear hb8;obtain⟨x0,x1,x2,x3,x4,x5,hfz⟩:=hx6.at6;have f0:=hfz 0;have f1:=hfz 1;have f2:=hfz 2;have f3:=hfz 3;have f4:=hfz 4;have f5:=hfz 5;obtain⟨y0,y1,y2,y3,y4,y5,hfy⟩:=hx8.at6;have g5:=hfy 5;have HF:=mH (aI hx6 hB6);clear hx6 hB6 hx8 hfz hfy;go_wp2;refine bodyPost_ret (v:=.tuple #[.agg #[.string (wd W 0),.string (wd W 1),.int .i64 n,.string (wd W 3),.int .i64 m,.int .i64 0],.bool true]) ?_ rfl ⟨?_,?_⟩
    ·exact qF rfl _ _ w.heap.size 79 #[.string (wd W 0),.string (wd W 1),.int .i64 n,.string (wd W 3),.int .i64 m,.int .i64 0] _ (0,0) _ rfl rfl (qC.fill6 (HF.o.1)) underlying79 rfl kR
    ·rw [HR.o.1];rfl
    ·exact Below.fill6 (HF.o.2) lR _ _ _ _ _ _
  ·first|(exact absurd (HLEN.o.symm.trans h5') dE)|skip
   all_goals
    subst hv4;obtain⟨b4,o4,rfl,hb4,hcc⟩:=hc4 0 sI;have n0:W4.drew.cell? ⟨b4,o4,none⟩=some (.int .i64 n):=by simpa using hcc 0 _ rfl
    obtain⟨b4',o4',he,_,hcc1⟩:=hc4 1 sI;simp only [Option.some.injEq,Addr.mk.injEq,and_true] at he;obtain⟨rfl,rfl⟩:=he;have n1:W4.drew.cell? ⟨b4,o4+1,none⟩=some (.int .i64 m):=by simpa using hcc1 0 _ rfl
    obtain⟨b4'',o4'',he,_,hcc2⟩:=hc4 2 sI;simp only [Option.some.injEq,Addr.mk.injEq,and_true] at he;obtain⟨rfl,rfl⟩:=he;have n2:W4.drew.cell? ⟨b4,o4+2,none⟩=some (.int .i64 o):=by simpa using hcc2 0 _ rfl
    have HR:=mH (aI (HRg.o.trans hr) h5');have hS:RsC W4.drew b off b4 o4 W n m:=⟨d0,hwc 1 oM,hwc 3 oM,n0,n1,hb0,hb4⟩;have H5:=mH (aI H4.o.1.drew (aI H4.o.2.1.drew (aI n2 (show w.heap.size<W4.drew.heap.size from H4.o.2.2.1))));clear hr h5' h5 h41 h42 hcc hcc1 hcc2 n2 hc4 hwc d0 n0 n1 hns hown H4 hcap4 hmax4 hb0 hb4;go_wp2_with fail;refine qA.start (λw'=>RsC w' b off b4 o4 W n m) [19] kR ?_;generalize W4.drew=W5 at *;refine qA.q 0 ?_;refine qA.q 1 ?_;refine qA.t 2 hS ?_;refine qA.q 3 ?_;refine qA.q 4 ?_;refine qA.t 5 hS ?_;refine qA.q 6 ?_;refine qA.q 7 ?_;refine qA.t 8 hS ?_;refine qA.q 9 ?_;refine qA.q 10 ?_;refine qA.q 11 ?_;refine qA.t 12 hS ?_;refine qA.q 13 ?_;refine qA.q 14 ?_;refine qA.t 15 hS ?_;refine qA.q 16 ?_;refine qA.q 17 ?_;refine qA.nx 18 λK hK=>?_;go_simp
    have hS6:=hS.below (qB bR (.cells ↑zX 79) lR);refine hK.out _ _ (λ_ _=>hS6) ?_;clear hK K;try simp only [Act.put,zL,zN,zH,zM,zK,zI]
    refine qA.nx 19 λK hK=>?_;go_simp
    refine qA.o hK ?_;clear hK K;refine qA.done kR ?_;have hx6:=H5.o.2.1.alloc (.cells #[.string (wd W 0),.string (wd W 1),.int .i64 n,.string (wd W 3),.int .i64 m,.int .i64 0] 79);have hB6:Below w.heap.size w (W5.alloc (.cells #[.string (wd W 0),.string (wd W 1),.int .i64 n,.string (wd W 3),.int .i64 m,.int .i64 0] 79)):=H5.o.1.trans (qB bR _ (by have:=H5.o.2.2.2;omega));have hx8:qC (W5.alloc (.cells #[.string (wd W 0),.string (wd W 1),.int .i64 n,.string (wd W 3),.int .i64 m,.int .i64 0] 79)) W5.heap.size #[.string (wd W 0),.string (wd W 1),.int .i64 n,.string (wd W 3),.int .i64 m,.int .i64 0] 79:=qC.new _ _ _;have n2:(W5.alloc (.cells #[.string (wd W 0),.string (wd W 1),.int .i64 n,.string (wd W 3),.int .i64 m,.int .i64 0] 79)).cell? ⟨b4,o4+2,none⟩=some (.int .i64 o):=((qB bR _ lR).cell (p:=⟨b4,o4+2,none⟩) hS.2.2.2.2.2.2).trans H5.o.2.2.1;have hlt:=H5.o.2.2.2;clear hS H5;obtain⟨b8,hb8⟩:=eX (W5.heap.size);rw [hb8] at hx8 hlt ⊢;generalize W5.alloc (.cells #[.string (wd W 0),.string (wd W 1),.int .i64 n,.string (wd W 3),.int .i64 m,.int .i64 0] 79)=W6 at *;clear hb8;obtain⟨x0,x1,x2,x3,x4,x5,hfz⟩:=hx6.at6;have f0:=hfz 0;have f1:=hfz 1;have f2:=hfz 2;have f3:=hfz 3;have f4:=hfz 4;have f5:=hfz 5;obtain⟨y0,y1,y2,y3,y4,y5,hfy⟩:=hx8.at6;have g5:=hfy 5;have HF:=mH (aI hx6 hB6);clear hx6 hB6 hx8 hfz hfy;go_wp2;refine bodyPost_ret (v:=.tuple #[.agg #[.string (wd W 0),.string (wd W 1),.int .i64 n,.string (wd W 3),.int .i64 m,.int .i64 o],.bool true]) ?_ rfl ⟨?_,?_⟩
    ·exact qF rfl _ _ w.heap.size 79 #[.string (wd W 0),.string (wd W 1),.int .i64 n,.string (wd W 3),.int .i64 m,.int .i64 o] _ (0,0) _ rfl rfl (qC.fill6 (HF.o.1.setOther oM 5 _)) underlying79 rfl kR
    ·rw [HR.o.1];rfl
    ·exact Below.fill6 (HF.o.2.setCell (by show w.heap.size≤b8;omega) _) lR _ _ _ _ _ _
theorem qG8 (w:World):qC (w.alloc (.cells ↑zE 81)) w.heap.size ↑qAx 81:=qC.new w ↑zE _
theorem qP4 (W:List ByteArray) (v:Value) (most:Nat) (hm:most≤17) (w:World) (hA:qI strCells 1 w W v) (h0:0<W.length) (hs:∀x∈W,x.size≤1000000) (h1:wd W 0≠qA0) (h2:wd W 0≠qAE) (h3:wd W 0≠qAR) (h4:wd W 0≠qAt) (h5:wd W 0≠jL):Calls prog 64 #[v,.int .i64 most] w (qCK none w):=by
 (obtain⟨b,off,cap,rfl,hcap,hmax,hb,hcell⟩:=qAF hA h0)
 have d0:w.cell? ⟨b,off,none⟩=some (.string (wd W 0)):=hcell 0 h0;have q1:((wd W 0).toList==[115,105,116,101])=false:=qR (c:=qA0) h1 rfl;have q2:((wd W 0).toList==[99,97,98,108,101])=false:=qR (c:=qAE) h2 rfl;have q3:((wd W 0).toList==[106,111,105,110])=false:=qR (c:=qAR) h3 rfl;have q4:((wd W 0).toList==[99,117,116])=false:=qR (c:=qAt) h4 rfl;have q5:((wd W 0).toList==[114,101,116,105,114,101])=false:=qR (c:=jL) h5 rfl;have h0i:(0:Int)<W.length:=by omega
 obtain⟨e0,he0⟩:=eX (qAx);have hze:=qG8 w;rw [he0] at hze;have HZ0:=mH he0;have HE:=mH (aI hze (qV.box (x:=e0) hze));clear he0 hze;have HE0:Hx (Below w.heap.size w (w.alloc (.cells ↑zE 81))):=mH (qB bR _ lR);clear hA hs h1 h2 h3 h4 h5 hcell;generalize wd W 0=Q at *;go_enter func64,ntmps64;go_upto_region 22 with fail
 (go_wp2_with (first|(refine wpList_load_mid rfl 81 _ rfl (w.heap.size) (0) rF ↑e0 _ (HE.o.2) underlying81 rfl kR ?_)|(refine qT rfl 81 _ _ rfl (w.heap.size) _ ↑e0 rF rF (HE.o.1) kR rfl (zS e0) ?_));(refine bodyPost_ret (v:=.tuple #[.agg ↑e0,.bool false]) ?_ rfl ⟨?_,?_⟩;(· exact qF rfl _ _ w.heap.size 81 ↑e0 _ (0,0) _ rfl rfl (qC.setRow HE.o.1) underlying81 rfl kR));(· rw [←HZ0.o];rfl);(· exact Below.setRow HE0.o lR))
def RrP (o:Option qD) (w:World) (e:Ending) (w':World):Prop:=∃x:qD,e=.returned (.tuple #[.agg ↑x,.bool o.isSome])∧(∀y,o=some y→x=y)∧Below w.heap.size w w'
theorem RrP.bad {o:Option qD} {x:qD} {w w':World} (h:o=none) (hB:Below w.heap.size w w'):RrP o w (.returned (.tuple #[.agg ↑x,.bool false])) w':=⟨x,by rw [h];rfl,(λy e=>by rw [h] at e;cases e),hB⟩
theorem RrP.good {o:Option qD} {x:qD} {w w':World} (h:o=some x) (hB:Below w.heap.size w w'):RrP o w (.returned (.tuple #[.agg ↑x,.bool true])) w':=⟨x,by rw [h];rfl,(λy e=>by rw [h] at e;exact Option.some.inj e),hB⟩
def WeF (Q:ByteArray) (a b c d e:Bool):Prop:=(Q.toList==[115,105,116,101])=a∧(Q.toList==[99,97,98,108,101])=b∧(Q.toList==[106,111,105,110])=c∧(Q.toList==[99,117,116])=d∧(Q.toList==[114,101,116,105,114,101])=e
theorem qS8 {Q:ByteArray} (h:Q=qA0):WeF Q true false false false false :=
 ⟨qBZ (c:=qA0) h rfl,qR (c:=qAE) (by rw [h];decide) rfl,qR (c:=qAR) (by rw [h];decide) rfl,qR (c:=qAt) (by rw [h];decide) rfl,qR (c:=jL) (by rw [h];decide) rfl⟩
theorem qQ7 {Q:ByteArray} (h:Q=qAE):WeF Q false true false false false :=
 ⟨qR (c:=qA0) (by rw [h];decide) rfl,qBZ (c:=qAE) h rfl,qR (c:=qAR) (by rw [h];decide) rfl,qR (c:=qAt) (by rw [h];decide) rfl,qR (c:=jL) (by rw [h];decide) rfl⟩
theorem qRi {Q:ByteArray} (h:Q=qAR):WeF Q false false true false false :=
 ⟨qR (c:=qA0) (by rw [h];decide) rfl,qR (c:=qAE) (by rw [h];decide) rfl,qBZ (c:=qAR) h rfl,qR (c:=qAt) (by rw [h];decide) rfl,qR (c:=jL) (by rw [h];decide) rfl⟩
theorem qTF {Q:ByteArray} (h:Q=qAt):WeF Q false false false true false :=
 ⟨qR (c:=qA0) (by rw [h];decide) rfl,qR (c:=qAE) (by rw [h];decide) rfl,qR (c:=qAR) (by rw [h];decide) rfl,qBZ (c:=qAt) h rfl,qR (c:=jL) (by rw [h];decide) rfl⟩
theorem qTU {Q:ByteArray} (h:Q=jL):WeF Q false false false false true :=
 ⟨qR (c:=qA0) (by rw [h];decide) rfl,qR (c:=qAE) (by rw [h];decide) rfl,qR (c:=qAR) (by rw [h];decide) rfl,qR (c:=qAt) (by rw [h];decide) rfl,qBZ (c:=jL) h rfl⟩
theorem qOV {most:Nat} {W:List ByteArray} (hw:wd W 0=qA0):qX most W=if W.length=3∧qL (wd W 1)=true∧qBk (wd W 2)≠0 then some { qAx with kind:=1,site:=⟨wd W 1,qBk (wd W 2)⟩ } else none:=by
 unfold qX;rw [hw]
 by_cases hl:W.length=3
 ·rw [if_pos ⟨rfl,hl⟩]
  by_cases h:qL (wd W 1)=true∧qBk (wd W 2)≠0
  ·rw [if_pos h,if_pos ⟨hl,h⟩]
  ·rw [if_neg h,if_neg (λq=>h q.2)]
 ·rw [if_neg (λh=>hl h.2),if_neg (λh=>absurd h.1 dE),if_neg (λh=>absurd h.1 dE),if_neg (λh=>absurd h.1 dE),if_neg (λh=>absurd h.1 dE),if_neg (λq=>hl q.1)]
theorem qQS {most:Nat} {W:List ByteArray} (hw:wd W 0=jL):qX most W=if W.length=2∧qL (wd W 1)=true then some { qAx with kind:=5,cab:={ qAH with key:=wd W 1 } } else none:=by
 unfold qX;rw [hw,if_neg (λh=>absurd h.1 dE),if_neg (λh=>absurd h.1 dE),if_neg (λh=>absurd h.1 dE),if_neg (λh=>absurd h.1 dE)]
 by_cases hl:W.length=2
 ·rw [if_pos ⟨rfl,hl⟩]
  by_cases h:qL (wd W 1)=true
  ·rw [if_pos h,if_pos ⟨hl,h⟩]
  ·rw [if_neg h,if_neg (λq=>h q.2)]
 ·rw [if_neg (λh=>hl h.2),if_neg (λq=>hl q.1)]
theorem qNa {most:Nat} {W:List ByteArray} (hw:wd W 0=qAE):qX most W=if W.length=6∧qL (wd W 1)=true∧qL (wd W 2)=true∧qL (wd W 3)=true then
  ((qAW most W 4).bind λn=>(qAW most W 5).map λm=>{ qAx with kind:=2,cab:=⟨wd W 1,wd W 2,wd W 3,n,m⟩ }) else none:=by
 unfold qX;rw [hw,if_neg (λh=>absurd h.1 dE)]
 by_cases hl:W.length=6
 ·rw [if_pos ⟨rfl,hl⟩]
  by_cases h:qL (wd W 1)=true∧qL (wd W 2)=true∧qL (wd W 3)=true
  ·rw [if_pos h,if_pos ⟨hl,h⟩]
  ·rw [if_neg h,if_neg (λq=>h q.2)]
 ·rw [if_neg (λh=>hl h.2),if_neg (λh=>absurd h.1 dE),if_neg (λh=>absurd h.1 dE),if_neg (λh=>absurd h.1 dE),if_neg (λq=>hl q.1)]
theorem qSj {W:List ByteArray} (hl:W.length=6):W.drop 4=[wd W 4,wd W 5]:=by
 apply List.ext_getElem?
 intro i;rw [List.getElem?_drop];unfold wd
 match i with
 | 0=>rw [List.getElem?_eq_getElem oM];rfl
 | 1=>rw [List.getElem?_eq_getElem oM];rfl
 | n+2=>rw [List.getElem?_eq_none oM];simp
theorem qRU (loss:Bool) {most:Nat} {W:List ByteArray}:rdR loss most (W.drop 1)=if W.length=(if loss=true then 7 else 6)∧qL (wd W 1)=true∧qL (wd W 2)=true∧qL (wd W 4)=true then rdS most (W.drop 1) else none:=by
 unfold rdR;simp only [qHJ,List.length_drop];have h:(W.length - 1=if loss=true then 6 else 5)↔(W.length=if loss=true then 7 else 6):=by cases loss <;> simp <;> omega
 by_cases h2:qL (wd W 1)=true∧qL (wd W 2)=true∧qL (wd W 4)=true
 ·by_cases h3:W.length=if loss=true then 7 else 6
  ·rw [if_pos ⟨h.2 h3,h2⟩,if_pos ⟨h3,h2⟩]
  ·rw [if_neg (λq=>h3 (h.1 q.1)),if_neg (λq=>h3 q.1)]
 ·rw [if_neg (λq=>h2 q.2),if_neg (λq=>h2 q.2)]
theorem qK2 (loss:Bool) {most:Nat} {W:List ByteArray} (hw:wd W 0=if loss=true then qAR else qAt):qX most W=(rdR loss most (W.drop 1)).map λs=>{ qAx with kind:=if loss=true then 3 else 4,spc:=s }:=by
 rw [qRU]
 cases loss
 ·have hw:wd W 0=qAt:=hw
  show qX most W=Option.map (λs=>({ qAx with kind:=4,spc:=s }:qD)) (if W.length=6∧qL (wd W 1)=true∧qL (wd W 2)=true∧qL (wd W 4)=true then rdS most (W.drop 1) else none)
  by_cases hl:W.length=6
  ·rw [qLF hw hl]
   by_cases h:qL (wd W 1)=true∧qL (wd W 2)=true∧qL (wd W 4)=true
   ·rw [if_pos h,if_pos ⟨hl,h⟩]
   ·rw [if_neg h,if_neg (λq=>h q.2)];rfl
  ·rw [if_neg (λq=>hl q.1)];unfold qX;rw [hw,if_neg (λh=>absurd h.1 dE),if_neg (λh=>absurd h.1 dE),if_neg (λh=>absurd h.1 dE),if_neg (λh=>hl h.2),if_neg (λh=>absurd h.1 dE)];rfl
 ·have hw:wd W 0=qAR:=hw
  show qX most W=Option.map (λs=>({ qAx with kind:=3,spc:=s }:qD)) (if W.length=7∧qL (wd W 1)=true∧qL (wd W 2)=true∧qL (wd W 4)=true then rdS most (W.drop 1) else none)
  by_cases hl:W.length=7
  ·rw [qJt hw hl]
   by_cases h:qL (wd W 1)=true∧qL (wd W 2)=true∧qL (wd W 4)=true
   ·rw [if_pos h,if_pos ⟨hl,h⟩]
   ·rw [if_neg h,if_neg (λq=>h q.2)];rfl
  ·rw [if_neg (λq=>hl q.1)];unfold qX;rw [hw,if_neg (λh=>absurd h.1 dE),if_neg (λh=>absurd h.1 dE),if_neg (λh=>hl h.2),if_neg (λh=>absurd h.1 dE),if_neg (λh=>absurd h.1 dE)];rfl
theorem qSL (x:ByteArray):Lib.idxOfS (qHo.drop 1) x+1=qBk x:=by
 by_cases h1:x=qF6
 ·subst h1;decide
 by_cases h2:x=qEb
 ·subst h2;decide
 by_cases h3:x=qEj
 ·subst h3;decide
 by_cases h4:x=qEO
 ·subst h4;decide
 unfold qBk;rw [if_neg h1,if_neg h2,if_neg h3,if_neg h4]
 show Lib.idxFromS [qF6,qEb,qEj,qEO] x 0+1=0
 unfold Lib.idxFromS;rw [if_neg (λh=>h1 h.symm)];unfold Lib.idxFromS;rw [if_neg (λh=>h2 h.symm)];unfold Lib.idxFromS;rw [if_neg (λh=>h3 h.symm)];unfold Lib.idxFromS;rw [if_neg (λh=>h4 h.symm)]
 rfl
theorem qPf (W:List ByteArray) (v:Value) (most:Nat) (hm:most≤17) (w:World) (hA:qI strCells 1 w W v) (h0:0<W.length) (hs:∀x∈W,x.size≤1000000) (ht:Tab10 w) (hw:wd W 0=jL):Calls prog 64 #[v,.int .i64 most] w (RrP (qX most W) w):=by
 (obtain⟨b,off,cap,rfl,hcap,hmax,hb,hcell⟩:=qAF hA h0)
 have d0:w.cell? ⟨b,off,none⟩=some (.string (wd W 0)):=hcell 0 h0;obtain⟨q0,q1,q2,q3,q4⟩:=qTU hw;have hR:=qQS (most:=most) hw;obtain⟨e0,he0⟩:=eX (qAx);have hze:=qG8 w;rw [he0] at hze;have HE:=mH (aI hze (aI (qV.box (x:=e0) hze) (qB (Below.refl w.heap.size w) (.cells ↑zE 81) lR:Below w.heap.size w (w.alloc (.cells ↑zE 81)))));have h0i:(0:Int)<W.length:=by omega
 clear he0 hze
 by_cases hl:W.length=2
 rotate_left
 ·have HN:Hx (qX most W=none):=mH (hR.trans (if_neg (λh=>hl h.1)));have hl1:((W.length:Int) != 2)=true:=by simp;omega
  clear hA hs hw hcell hR ht hl;generalize wd W 0=Q at *;generalize qX most W=RE at *;go_enter func64,ntmps64
  (go_upto_region 20 with fail;go_wp2_with (first|(refine wpList_load_mid rfl 81 _ rfl (w.heap.size) (0) rF ↑e0 _ (HE.o.2.1) underlying81 rfl kR ?_)|(refine qT rfl 81 _ _ rfl (w.heap.size) _ ↑e0 rF rF (HE.o.1) kR rfl (zS e0) ?_));(refine bodyPost_ret (v:=.tuple #[.agg ↑e0,.bool false]) ?_ rfl ?_;(· exact qF rfl _ _ w.heap.size 81 ↑e0 _ (0,0) _ rfl rfl (qC.setRow HE.o.1) underlying81 rfl kR);(· exact RrP.bad HN.o (Below.setRow HE.o.2.2 lR))))
 have hl1:((W.length:Int) != 2)=false:=by simp;omega
 have h1i:(1:Int)<W.length:=by omega
 have d1:=hcell 1 oM
 cases hk:qL (wd W 1)
 ·have HN:Hx (qX most W=none):=mH (hR.trans (if_neg (λh=>by rw [hk] at h;cases h.2)));have hkc:=λW'=>qAj (wd W 1) W'
  rw [hk] at hkc;clear hA hs hw hcell hR ht hl hk;generalize qX most W=RE at *;generalize wd W 0=Q at *;generalize wd W 1=Q1 at *;go_enter func64,ntmps64;go_wp2_with fail;refine(hkc _).mono ?_;clear hkc;rintro e w1 ⟨rfl,rfl⟩
  (go_upto_region 20 with fail;go_wp2_with (first|(refine wpList_load_mid rfl 81 _ rfl (w.heap.size) (0) rF ↑e0 _ (HE.o.2.1) underlying81 rfl kR ?_)|(refine qT rfl 81 _ _ rfl (w.heap.size) _ ↑e0 rF rF (HE.o.1) kR rfl (zS e0) ?_));(refine bodyPost_ret (v:=.tuple #[.agg ↑e0,.bool false]) ?_ rfl ?_;(· exact qF rfl _ _ w.heap.size 81 ↑e0 _ (0,0) _ rfl rfl (qC.setRow HE.o.1) underlying81 rfl kR);(· exact RrP.bad HN.o (Below.setRow HE.o.2.2 lR))))
 ·have HN:Hx (qX most W=some (⟨⟨#[]⟩,0,0,5,⟨⟨#[]⟩,0⟩,⟨wd W 1,⟨#[]⟩,⟨#[]⟩,0,0⟩,⟨⟨#[]⟩,⟨⟨#[]⟩,0⟩,⟨⟨#[]⟩,0⟩,0⟩⟩:qD)):=mH (hR.trans (if_pos ⟨hl,hk⟩));have hkc:=λW'=>qAj (wd W 1) W'
  rw [hk] at hkc;clear hA hs hw hcell hR ht hl hk;generalize qX most W=RE at *;generalize wd W 0=Q at *;generalize wd W 1=Q1 at *;go_enter func64,ntmps64;go_wp2_with fail;refine(hkc _).mono ?_;clear hkc;rintro e w1 ⟨rfl,rfl⟩;go_upto_region 21 with fail;have e1:=(HE.o.2.2.cell (p:=⟨b,_,none⟩) hb).trans d1;generalize w.alloc (.cells ↑zE 81)=W0 at *;go_wp2_with (first|(refine qT rfl 81 _ _ rfl (w.heap.size) _ ↑(⟨⟨#[]⟩,0,0,5,⟨⟨#[]⟩,0⟩,⟨Q1,⟨#[]⟩,⟨#[]⟩,0,0⟩,⟨⟨#[]⟩,⟨⟨#[]⟩,0⟩,⟨⟨#[]⟩,0⟩,0⟩⟩:qD) rF rF (HE.o.1) kR rfl (zS (⟨⟨#[]⟩,0,0,5,⟨⟨#[]⟩,0⟩,⟨Q1,⟨#[]⟩,⟨#[]⟩,0,0⟩,⟨⟨#[]⟩,⟨⟨#[]⟩,0⟩,⟨⟨#[]⟩,0⟩,0⟩⟩:qD)) ?_))
  (refine bodyPost_ret (v:=.tuple #[.agg ↑(⟨⟨#[]⟩,0,0,5,⟨⟨#[]⟩,0⟩,⟨Q1,⟨#[]⟩,⟨#[]⟩,0,0⟩,⟨⟨#[]⟩,⟨⟨#[]⟩,0⟩,⟨⟨#[]⟩,0⟩,0⟩⟩:qD),.bool true]) ?_ rfl ?_;(· exact qF rfl _ _ w.heap.size 81 ↑(⟨⟨#[]⟩,0,0,5,⟨⟨#[]⟩,0⟩,⟨Q1,⟨#[]⟩,⟨#[]⟩,0,0⟩,⟨⟨#[]⟩,⟨⟨#[]⟩,0⟩,⟨⟨#[]⟩,0⟩,0⟩⟩:qD) _ (0,0) _ rfl rfl (qC.setRow HE.o.1) underlying81 rfl kR);(· exact RrP.good HN.o (Below.setRow HE.o.2.2 lR)))
theorem qPE (W:List ByteArray) (v:Value) (most:Nat) (hm:most≤17) (w:World) (hA:qI strCells 1 w W v) (h0:0<W.length) (hs:∀x∈W,x.size≤1000000) (ht:Tab10 w) (hw:wd W 0=qA0):Calls prog 64 #[v,.int .i64 most] w (RrP (qX most W) w):=by
 obtain⟨i0,hi,hz0,hz1,hz2⟩:=info_parts qDv
 (obtain⟨b,off,cap,rfl,hcap,hmax,hb,hcell⟩:=qAF hA h0)
 have d0:w.cell? ⟨b,off,none⟩=some (.string (wd W 0)):=hcell 0 h0;obtain⟨q0,q1,q2,q3,q4⟩:=qS8 hw;have hR:=qOV (most:=most) hw;obtain⟨e0,he0⟩:=eX (qAx);have hze:=qG8 w;rw [he0] at hze;have HE:=mH (aI hze (aI (qV.box (x:=e0) hze) (qB (Below.refl w.heap.size w) (.cells ↑zE 81) lR:Below w.heap.size w (w.alloc (.cells ↑zE 81)))));have h0i:(0:Int)<W.length:=by omega
 clear he0 hze
 by_cases hl:W.length=3
 rotate_left
 ·have HN:Hx (qX most W=none):=mH (hR.trans (if_neg (λh=>hl h.1)));have hl1:((W.length:Int) != 3)=true:=by simp;omega
  clear hA hs hw hcell hR ht hl;generalize wd W 0=Q at *;generalize qX most W=RE at *;go_enter func64,ntmps64
  (go_upto_region 4 with fail;go_wp2_with (first|(refine wpList_load_mid rfl 81 _ rfl (w.heap.size) (0) rF ↑e0 _ (HE.o.2.1) underlying81 rfl kR ?_)|(refine qT rfl 81 _ _ rfl (w.heap.size) _ ↑e0 rF rF (HE.o.1) kR rfl (zS e0) ?_));(refine bodyPost_ret (v:=.tuple #[.agg ↑e0,.bool false]) ?_ rfl ?_;(· exact qF rfl _ _ w.heap.size 81 ↑e0 _ (0,0) _ rfl rfl (qC.setRow HE.o.1) underlying81 rfl kR);(· exact RrP.bad HN.o (Below.setRow HE.o.2.2 lR))))
 have hl1:((W.length:Int) != 3)=false:=by simp;omega
 have h1i:(1:Int)<W.length:=by omega
 have h2i:(2:Int)<W.length:=by omega
 have d1:=hcell 1 oM;have d2:=hcell 2 oM
 cases hk:qL (wd W 1)
 ·have HN:Hx (qX most W=none):=mH (hR.trans (if_neg (λh=>by rw [hk] at h;cases h.2.1)));have hkc:=λW'=>qAj (wd W 1) W'
  rw [hk] at hkc;clear hA hs hw hcell hR ht hl hk d2;generalize qX most W=RE at *;generalize wd W 0=Q at *;generalize wd W 1=Q1 at *;go_enter func64,ntmps64;go_wp2_with fail;refine(hkc _).mono ?_;clear hkc;rintro e w1 ⟨rfl,rfl⟩
  (go_upto_region 4 with fail;go_wp2_with (first|(refine wpList_load_mid rfl 81 _ rfl (w.heap.size) (0) rF ↑e0 _ (HE.o.2.1) underlying81 rfl kR ?_)|(refine qT rfl 81 _ _ rfl (w.heap.size) _ ↑e0 rF rF (HE.o.1) kR rfl (zS e0) ?_));(refine bodyPost_ret (v:=.tuple #[.agg ↑e0,.bool false]) ?_ rfl ?_;(· exact qF rfl _ _ w.heap.size 81 ↑e0 _ (0,0) _ rfl rfl (qC.setRow HE.o.1) underlying81 rfl kR);(· exact RrP.bad HN.o (Below.setRow HE.o.2.2 lR))))
 have hRk:qX most W=if qBk (wd W 2)≠0 then some { qAx with kind:=1,site:=⟨wd W 1,qBk (wd W 2)⟩ } else none:=by
  rw [hR]
  by_cases h:qBk (wd W 2)≠0
  ·rw [if_pos h,if_pos ⟨hl,hk,h⟩]
  ·rw [if_neg h,if_neg (λq=>h q.2.2)]
 have hkr:=qNJ (wd W 2);have hix:=qSL (wd W 2);have hkc:=λW'=>qAj (wd W 1) W'
 rw [hk] at hkc;have HRK:=mH hRk;clear hA hs hw hcell hR ht hl hk hRk;generalize qX most W=RE at *;generalize wd W 0=Q at *;generalize wd W 1=Q1 at *;generalize wd W 2=Q2 at *;obtain⟨kn,hkn⟩:=eX (qBk Q2);rw [hkn] at hkr hix HRK;have HIX:=mH hix;clear hkn hix;go_enter func64,ntmps64;go_wp2_with fail;refine(hkc _).mono ?_;clear hkc;rintro e w1 ⟨rfl,rfl⟩;go_upto_region 5 with fail;have e1:=(HE.o.2.2.cell (p:=⟨b,_,none⟩) hb).trans d1;have e2:=(HE.o.2.2.cell (p:=⟨b,_,none⟩) hb).trans d2;have hb0:b<(w.alloc (.cells ↑zE 81)).drew.heap.size:=Nat.lt_of_lt_of_le hb HE.o.2.2.size;generalize w.alloc (.cells ↑zE 81)=W0 at *;have hS:W0.drew.cell? ⟨b,off+2,none⟩=some (.string Q2):=e2;have HE2:=mH (aI HE.o.1.drew (aI HE.o.2.2.drew (show W0.drew.cell? ⟨b,off+1,none⟩=some (.string Q1) from e1)));have hwl:w.heap.size<W0.drew.heap.size:=HE.o.1.lt;clear e1 e2 d1 d2;refine qA.start (λW'=>W'.cell? ⟨b,off+2,none⟩=some (.string Q2)) [] kR ?_;generalize W0.drew=W1 at *;refine qA.q 2 ?_;refine qA.q 3 ?_;refine qA.t 4 hS ?_;refine qA.nx 0 λK hK=>?_;go_simp
 refine(qO1 W1).mono ?_;rintro e w2 ⟨rfl,hw2⟩;have hB2:Below W1.heap.size W1 w2:=by rw [hw2];exact qB bR _ lR
 have hBk:qC w2 W1.heap.size (qHo.map Value.string).toArray 9:=by rw [hw2];exact qC.new _ _ _
 have hS2:w2.cell? ⟨b,off+2,none⟩=some (.string Q2):=(hB2.cell (p:=⟨b,_,none⟩) hb0).trans hS;have H2:=mH (aI hBk (aI (HE2.o.2.1.trans (hB2.mono HE2.o.2.1.size)) (aI (HE2.o.1.below hB2 hwl) ((hB2.cell (p:=⟨b,_,none⟩) hb0).trans HE2.o.2.2))));clear hw2 hB2 hBk;refine qA.on hK (λ_ _=>hS2) ?_;clear hK K;refine qA.q 1 ?_;refine qA.nx 5 λK hK=>?_;go_simp
 refine(Tryz.slices_Index_string W1.heap.size 1 4 4 (qHo.drop 1) Q2 w2 dE dE (λj hj=>?_)).mono ?_
 ·have hj4:j<4:=hj;rw [List.getD_eq_getElem?_getD,List.getElem?_drop,Nat.add_comm 1 j];have:=qCF H2.o.1 (j+1) (by show j+1<5;omega);rw [this,List.getElem?_eq_getElem (by show j+1<5;omega)];rfl
 rintro e w3 ⟨rfl,hw3⟩;have hS3:w3.cell? ⟨b,off+2,none⟩=some (.string Q2):=by rw [hw3];exact hS2
 have H3:=mH (show qC w3 w.heap.size ↑e0 81∧Below w.heap.size w w3∧w3.cell? ⟨b,off+1,none⟩=some (.string Q1) by rw [hw3];exact⟨H2.o.2.2.1,H2.o.2.1,H2.o.2.2.2⟩);obtain⟨ix,hix⟩:=eX (Lib.idxOfS ((qHo.drop 1).take 4) Q2);have hixk:ix+1=kn:=by rw [←hix];exact HIX.o
 have hixw:IntKind.i64.wrap (ix+1)=kn:=by rw [hixk];exact IntWalk.i64_in _ oM
 rw [hix];clear hix hw3 hixk;refine qA.on hK (λ_ _=>hS3) ?_;clear hK K;refine qA.q 6 ?_;refine qA.q 7 ?_;refine qA.done kR ?_;have e1:=H3.o.2.2
 by_cases hz:kn=0
 ·have HN:Hx (RE=none):=mH (HRK.o.trans (if_neg (λh=>h hz)));have hg:decide ((0:Int)<kn)=false:=by simp;omega
  clear hz;go_wp2_with (first|(refine qT rfl 81 _ _ rfl (w.heap.size) _ ↑(⟨⟨#[]⟩,0,0,1,⟨Q1,kn⟩,⟨⟨#[]⟩,⟨#[]⟩,⟨#[]⟩,0,0⟩,⟨⟨#[]⟩,⟨⟨#[]⟩,0⟩,⟨⟨#[]⟩,0⟩,0⟩⟩:qD) rF rF (H3.o.1) kR rfl (zS (⟨⟨#[]⟩,0,0,1,⟨Q1,kn⟩,⟨⟨#[]⟩,⟨#[]⟩,⟨#[]⟩,0,0⟩,⟨⟨#[]⟩,⟨⟨#[]⟩,0⟩,⟨⟨#[]⟩,0⟩,0⟩⟩:qD)) ?_))
  (refine bodyPost_ret (v:=.tuple #[.agg ↑(⟨⟨#[]⟩,0,0,1,⟨Q1,kn⟩,⟨⟨#[]⟩,⟨#[]⟩,⟨#[]⟩,0,0⟩,⟨⟨#[]⟩,⟨⟨#[]⟩,0⟩,⟨⟨#[]⟩,0⟩,0⟩⟩:qD),.bool false]) ?_ rfl ?_;(· exact qF rfl _ _ w.heap.size 81 ↑(⟨⟨#[]⟩,0,0,1,⟨Q1,kn⟩,⟨⟨#[]⟩,⟨#[]⟩,⟨#[]⟩,0,0⟩,⟨⟨#[]⟩,⟨⟨#[]⟩,0⟩,⟨⟨#[]⟩,0⟩,0⟩⟩:qD) _ (0,0) _ rfl rfl (qC.setRow H3.o.1) underlying81 rfl kR);(· exact RrP.bad HN.o (Below.setRow H3.o.2.1 lR)))
 ·have HN:Hx (RE=some (⟨⟨#[]⟩,0,0,1,⟨Q1,kn⟩,⟨⟨#[]⟩,⟨#[]⟩,⟨#[]⟩,0,0⟩,⟨⟨#[]⟩,⟨⟨#[]⟩,0⟩,⟨⟨#[]⟩,0⟩,0⟩⟩:qD)):=mH (HRK.o.trans (if_pos hz));have hg:decide ((0:Int)<kn)=true:=by simp;omega
  clear hz;go_wp2_with (first|(refine qT rfl 81 _ _ rfl (w.heap.size) _ ↑(⟨⟨#[]⟩,0,0,1,⟨Q1,kn⟩,⟨⟨#[]⟩,⟨#[]⟩,⟨#[]⟩,0,0⟩,⟨⟨#[]⟩,⟨⟨#[]⟩,0⟩,⟨⟨#[]⟩,0⟩,0⟩⟩:qD) rF rF (H3.o.1) kR rfl (zS (⟨⟨#[]⟩,0,0,1,⟨Q1,kn⟩,⟨⟨#[]⟩,⟨#[]⟩,⟨#[]⟩,0,0⟩,⟨⟨#[]⟩,⟨⟨#[]⟩,0⟩,⟨⟨#[]⟩,0⟩,0⟩⟩:qD)) ?_))
  (refine bodyPost_ret (v:=.tuple #[.agg ↑(⟨⟨#[]⟩,0,0,1,⟨Q1,kn⟩,⟨⟨#[]⟩,⟨#[]⟩,⟨#[]⟩,0,0⟩,⟨⟨#[]⟩,⟨⟨#[]⟩,0⟩,⟨⟨#[]⟩,0⟩,0⟩⟩:qD),.bool true]) ?_ rfl ?_;(· exact qF rfl _ _ w.heap.size 81 ↑(⟨⟨#[]⟩,0,0,1,⟨Q1,kn⟩,⟨⟨#[]⟩,⟨#[]⟩,⟨#[]⟩,0,0⟩,⟨⟨#[]⟩,⟨⟨#[]⟩,0⟩,⟨⟨#[]⟩,0⟩,0⟩⟩:qD) _ (0,0) _ rfl rfl (qC.setRow H3.o.1) underlying81 rfl kR);(· exact RrP.good HN.o (Below.setRow H3.o.2.1 lR)))
theorem qRx {most:Nat} {W:List ByteArray} {ns:List Int} (hl:W.length=6) (h:(W.drop 4).map (λx=>jH most x.data.toList)=ns.map some):∃n4 n5,ns=[n4,n5]∧qAW most W 4=some n4∧qAW most W 5=some n5:=by
 rw [qSj hl] at h
 match ns,h with
 | [],h=>simp at h
 | [_],h=>simp at h
 | [a,b],h =>
  simp only [List.map_cons,List.map_nil,List.cons.injEq,and_true] at h;exact⟨a,b,rfl,h.1,h.2⟩
 | _::_::_::_,h=>simp at h
theorem qNb (W:List ByteArray) (v:Value) (most:Nat) (hm:most≤17) (w:World) (hA:qI strCells 1 w W v) (h0:0<W.length) (hs:∀x∈W,x.size≤1000000) (ht:Tab10 w) (hw:wd W 0=qAE):Calls prog 64 #[v,.int .i64 most] w (RrP (qX most W) w):=by
 (obtain⟨b,off,cap,rfl,hcap,hmax,hb,hcell⟩:=qAF hA h0)
 have d0:w.cell? ⟨b,off,none⟩=some (.string (wd W 0)):=hcell 0 h0;obtain⟨q0,q1,q2,q3,q4⟩:=qQ7 hw;have hR:=qNa (most:=most) hw;obtain⟨e0,he0⟩:=eX (qAx);have hze:=qG8 w;rw [he0] at hze;have HE:=mH (aI hze (aI (qV.box (x:=e0) hze) (qB (Below.refl w.heap.size w) (.cells ↑zE 81) lR:Below w.heap.size w (w.alloc (.cells ↑zE 81)))));have h0i:(0:Int)<W.length:=by omega
 clear he0 hze
 by_cases hl:W.length=6
 rotate_left
 ·have HN:Hx (qX most W=none):=mH (hR.trans (if_neg (λh=>hl h.1)));have hl1:((W.length:Int) != 6)=true:=by simp;omega
  clear hA hs hw hcell hR ht hl;generalize wd W 0=Q at *;generalize qX most W=RE at *;go_enter func64,ntmps64
  (go_upto_region 9 with fail;go_wp2_with (first|(refine wpList_load_mid rfl 81 _ rfl (w.heap.size) (0) rF ↑e0 _ (HE.o.2.1) underlying81 rfl kR ?_)|(refine qT rfl 81 _ _ rfl (w.heap.size) _ ↑e0 rF rF (HE.o.1) kR rfl (zS e0) ?_));(refine bodyPost_ret (v:=.tuple #[.agg ↑e0,.bool false]) ?_ rfl ?_;(· exact qF rfl _ _ w.heap.size 81 ↑e0 _ (0,0) _ rfl rfl (qC.setRow HE.o.1) underlying81 rfl kR);(· exact RrP.bad HN.o (Below.setRow HE.o.2.2 lR))))
 have hl1:((W.length:Int) != 6)=false:=by simp;omega
 have h1i:(1:Int)<W.length:=by omega
 have h2i:(2:Int)<W.length:=by omega
 have h3i:(3:Int)<W.length:=by omega
 have h4i:(4:Int)≤W.length:=by omega
 have hci:(W.length:Int)≤cap:=by omega
 have hcn:¬cap=4:=by omega
 have d1:=hcell 1 oM;have d2:=hcell 2 oM;have d3:=hcell 3 oM;have hk1:=λW'=>qAj (wd W 1) W'
 have hk2:=λW'=>qAj (wd W 2) W'
 have hk3:=λW'=>qAj (wd W 3) W'
 have hD:=qCy 4 hA oM;rw [if_neg hcn] at hD;have hsd:∀x∈W.drop 4,x.size≤1000000:=λx hx=>hs x (List.mem_of_mem_drop hx)
 have h2n:=λns=>qRx (most:=most) (ns:=ns) hl
 have hbn:(∃x∈W.drop 4,jH most x.data.toList=none)→qAW most W 4=none∨qAW most W 5=none:=by
  rw [qSj hl];rintro⟨x,hx,hn⟩
  rcases List.mem_cons.1 hx with rfl|hx
  ·exact .inl hn
  ·rw [List.mem_singleton.1 hx] at hn;exact .inr hn
 have hdl:(W.drop 4).length≤1000000:=by rw [List.length_drop];omega
 have HD:=mH (aI hD (aI hsd (aI h2n (aI hbn (aI hdl ht)))));have hR2:qX most W=if qL (wd W 1)=true∧qL (wd W 2)=true∧qL (wd W 3)=true then ((qAW most W 4).bind λn=>(qAW most W 5).map λm=>{ qAx with kind:=2,cab:=⟨wd W 1,wd W 2,wd W 3,n,m⟩ }) else none:=by
  rw [hR]
  by_cases h:qL (wd W 1)=true∧qL (wd W 2)=true∧qL (wd W 3)=true
  ·rw [if_pos ⟨hl,h⟩,if_pos h]
  ·rw [if_neg (λq=>h q.2),if_neg h]
 have HR2:=mH hR2;clear hA hs hw hcell hR ht hl hD hsd h2n hbn hR2;generalize qX most W=RE at *;generalize wd W 0=Q at *;generalize wd W 1=Q1 at *;generalize wd W 2=Q2 at *;generalize wd W 3=Q3 at *
 cases k1:qL Q1
 ·have HN:Hx (RE=none):=mH (HR2.o.trans (if_neg (λh=>by rw [k1] at h;cases h.1)));rw [k1] at hk1;clear k1 hk2 hk3 d2 d3;go_enter func64,ntmps64
  (go_wp2_with fail;refine(hk1 _).mono ?_;rintro e w1 ⟨rfl,rfl⟩)
  (go_upto_region 9 with fail;go_wp2_with (first|(refine wpList_load_mid rfl 81 _ rfl (w.heap.size) (0) rF ↑e0 _ (HE.o.2.1) underlying81 rfl kR ?_)|(refine qT rfl 81 _ _ rfl (w.heap.size) _ ↑e0 rF rF (HE.o.1) kR rfl (zS e0) ?_));(refine bodyPost_ret (v:=.tuple #[.agg ↑e0,.bool false]) ?_ rfl ?_;(· exact qF rfl _ _ w.heap.size 81 ↑e0 _ (0,0) _ rfl rfl (qC.setRow HE.o.1) underlying81 rfl kR);(· exact RrP.bad HN.o (Below.setRow HE.o.2.2 lR))))
 cases k2:qL Q2
 ·have HN:Hx (RE=none):=mH (HR2.o.trans (if_neg (λh=>by rw [k2] at h;cases h.2.1)));rw [k1] at hk1;rw [k2] at hk2;clear k1 k2 hk3 d3;go_enter func64,ntmps64
  (go_wp2_with fail;refine(hk1 _).mono ?_;rintro e w1 ⟨rfl,rfl⟩)
  have e2:=(HE.o.2.2.cell (p:=⟨b,_,none⟩) hb).trans d2;generalize w.alloc (.cells ↑zE 81)=W0 at *
  (go_wp2_with fail;refine(hk2 _).mono ?_;rintro e w1 ⟨rfl,rfl⟩)
  (go_upto_region 9 with fail;go_wp2_with (first|(refine wpList_load_mid rfl 81 _ rfl (w.heap.size) (0) rF ↑e0 _ (HE.o.2.1) underlying81 rfl kR ?_)|(refine qT rfl 81 _ _ rfl (w.heap.size) _ ↑e0 rF rF (HE.o.1) kR rfl (zS e0) ?_));(refine bodyPost_ret (v:=.tuple #[.agg ↑e0,.bool false]) ?_ rfl ?_;(· exact qF rfl _ _ w.heap.size 81 ↑e0 _ (0,0) _ rfl rfl (qC.setRow HE.o.1) underlying81 rfl kR);(· exact RrP.bad HN.o (Below.setRow HE.o.2.2 lR))))
 cases k3:qL Q3
 ·have HN:Hx (RE=none):=mH (HR2.o.trans (if_neg (λh=>by rw [k3] at h;cases h.2.2)));rw [k1] at hk1;rw [k2] at hk2;rw [k3] at hk3;clear k1 k2 k3;go_enter func64,ntmps64
  (go_wp2_with fail;refine(hk1 _).mono ?_;rintro e w1 ⟨rfl,rfl⟩)
  have e2:=(HE.o.2.2.cell (p:=⟨b,_,none⟩) hb).trans d2;have e3:=(HE.o.2.2.cell (p:=⟨b,_,none⟩) hb).trans d3;generalize w.alloc (.cells ↑zE 81)=W0 at *
  (go_wp2_with fail;refine(hk2 _).mono ?_;rintro e w1 ⟨rfl,rfl⟩)
  (go_wp2_with fail;refine(hk3 _).mono ?_;rintro e w1 ⟨rfl,rfl⟩)
  (go_upto_region 9 with fail;go_wp2_with (first|(refine wpList_load_mid rfl 81 _ rfl (w.heap.size) (0) rF ↑e0 _ (HE.o.2.1) underlying81 rfl kR ?_)|(refine qT rfl 81 _ _ rfl (w.heap.size) _ ↑e0 rF rF (HE.o.1) kR rfl (zS e0) ?_));(refine bodyPost_ret (v:=.tuple #[.agg ↑e0,.bool false]) ?_ rfl ?_;(· exact qF rfl _ _ w.heap.size 81 ↑e0 _ (0,0) _ rfl rfl (qC.setRow HE.o.1) underlying81 rfl kR);(· exact RrP.bad HN.o (Below.setRow HE.o.2.2 lR))))
 have HR3:Hx (RE=(qAW most W 4).bind λn=>(qAW most W 5).map λm=>{ qAx with kind:=2,cab:=⟨Q1,Q2,Q3,n,m⟩ }):=mH (HR2.o.trans (if_pos ⟨k1,k2,k3⟩));rw [k1] at hk1;rw [k2] at hk2;rw [k3] at hk3;clear k1 k2 k3 HR2;go_enter func64,ntmps64
 (go_wp2_with fail;refine(hk1 _).mono ?_;rintro e w1 ⟨rfl,rfl⟩)
 have e1:=(HE.o.2.2.cell (p:=⟨b,_,none⟩) hb).trans d1;have e2:=(HE.o.2.2.cell (p:=⟨b,_,none⟩) hb).trans d2;have e3:=(HE.o.2.2.cell (p:=⟨b,_,none⟩) hb).trans d3;have hD0:=HD.o.1.below HE.o.2.2;have ht0:=HD.o.2.2.2.2.2.below HE.o.2.2;have hbl:b<(w.alloc (.cells ↑zE 81)).heap.size:=Nat.lt_of_lt_of_le hb HE.o.2.2.size;have hwl:=HE.o.1.lt;have HD0:=mH (aI hD0 ht0);clear hD0 ht0;generalize w.alloc (.cells ↑zE 81)=W0 at *
 (go_wp2_with fail;refine(hk2 _).mono ?_;rintro e w1 ⟨rfl,rfl⟩)
 (go_wp2_with fail;refine(hk3 _).mono ?_;rintro e w1 ⟨rfl,rfl⟩)
 go_wp2_with fail;refine(qKo _ (W.drop 4) most hm W0 HD0.o.1 HD.o.2.1 HD.o.2.2.2.2.1 HD0.o.2).mono ?_;rintro e w2 ⟨v',nb,ns,rfl,hb2,ho,hgood,hbad⟩;obtain⟨av,cv,hav⟩:=jO ho;subst hav;have H2:=mH (aI (HE.o.1.below hb2 hwl) (aI (HE.o.2.1.below hb2 hwl) (HE.o.2.2.trans (hb2.mono HE.o.2.2.size))));have f1:=(hb2.cell (p:=⟨b,_,none⟩) hbl).trans e1;have f2:=(hb2.cell (p:=⟨b,_,none⟩) hbl).trans e2;have f3:=(hb2.cell (p:=⟨b,_,none⟩) hbl).trans e3
 cases nb
 ·have HN:Hx (RE=none):=by
   refine mH ?_;rw [HR3.o]
   rcases HD.o.2.2.2.1 (hbad rfl) with h|h
   ·rw [h];rfl
   ·rw [h];cases qAW most W 4 <;> rfl
  clear hb2 ho hgood hbad e1 e2 e3
  (go_upto_region 12 with fail;go_wp2_with (first|(refine wpList_load_mid rfl 81 _ rfl (w.heap.size) (0) rF ↑e0 _ (H2.o.2.1) underlying81 rfl kR ?_)|(refine qT rfl 81 _ _ rfl (w.heap.size) _ ↑e0 rF rF (H2.o.1) kR rfl (zS e0) ?_));(refine bodyPost_ret (v:=.tuple #[.agg ↑e0,.bool false]) ?_ rfl ?_;(· exact qF rfl _ _ w.heap.size 81 ↑e0 _ (0,0) _ rfl rfl (qC.setRow H2.o.1) underlying81 rfl kR);(· exact RrP.bad HN.o (Below.setRow H2.o.2.2 lR))))
 obtain⟨n4,n5,rfl,hn4,hn5⟩:=HD.o.2.2.1 ns (hgood rfl);have HN:Hx (RE=some (⟨⟨#[]⟩,0,0,2,⟨⟨#[]⟩,0⟩,⟨Q1,Q2,Q3,n4,n5⟩,⟨⟨#[]⟩,⟨⟨#[]⟩,0⟩,⟨⟨#[]⟩,0⟩,0⟩⟩:qD)):=mH (by rw [HR3.o,hn4,hn5];rfl);have hA2:qI qA6 1 w2 [n4,n5] (.slice av 2 cv):=qI.of_ints ho;obtain⟨a',c',hv',-,-,hcc⟩:=hA2;simp only [Value.slice.injEq] at hv';obtain⟨rfl,-,-⟩:=hv';obtain⟨g,o,rfl,hgl,hc0⟩:=hcc 0 sI;obtain⟨g',o',hgg,-,hc1⟩:=hcc 1 sI;simp only [Option.some.injEq,Addr.mk.injEq,and_true] at hgg;obtain⟨rfl,rfl⟩:=hgg;have g0:=hc0 0 _ rfl;have g1:=hc1 0 _ rfl;simp only [Nat.zero_mul,Nat.add_zero,Nat.one_mul,List.getElem_cons_zero,List.getElem_cons_succ] at g0 g1;have hSx:w2.drew.cell? ⟨b,off+1,none⟩=some (.string Q1)∧w2.drew.cell? ⟨b,off+2,none⟩=some (.string Q2)∧w2.drew.cell? ⟨b,off+3,none⟩=some (.string Q3)∧w2.drew.cell? ⟨g,o,none⟩=some (.int .i64 n4)∧w2.drew.cell? ⟨g,o+1,none⟩=some (.int .i64 n5):=⟨f1,f2,f3,g0,g1⟩;clear hb2 ho hgood hbad hn4 hn5 hcc hc0 hc1 e1 e2 e3 f1 f2 f3 g0 g1 hk1 hk2 hk3;have hS:=hSx;clear hSx;go_upto_region 13 with fail;refine qA.start (λW'=>W'.cell? ⟨b,off+1,none⟩=some (.string Q1)∧W'.cell? ⟨b,off+2,none⟩=some (.string Q2)∧W'.cell? ⟨b,off+3,none⟩=some (.string Q3)∧W'.cell? ⟨g,o,none⟩=some (.int .i64 n4)∧W'.cell? ⟨g,o+1,none⟩=some (.int .i64 n5)) [17] kR ?_;have H3:=mH (aI H2.o.1.drew H2.o.2.2.drew);generalize w2.drew=W3 at *;refine qA.q 0 ?_;refine qA.q 1 ?_;refine qA.t 2 hS ?_;refine qA.q 3 ?_;refine qA.q 4 ?_;refine qA.t 5 hS ?_;refine qA.q 6 ?_;refine qA.q 7 ?_
 refine qA.t 8 hS ?_;refine qA.q 9 ?_;refine qA.q 10 ?_;refine qA.t 11 hS ?_;refine qA.q 12 ?_;refine qA.q 13 ?_;refine qA.t 14 hS ?_;refine qA.q 15 ?_;refine qA.q 16 ?_;refine qA.nx 17 λK hK=>?_
 refine qCi rfl 81 _ _ rfl (w.heap.size) _ ↑(⟨⟨#[]⟩,0,0,2,⟨⟨#[]⟩,0⟩,⟨Q1,Q2,Q3,n4,n5⟩,⟨⟨#[]⟩,⟨⟨#[]⟩,0⟩,⟨⟨#[]⟩,0⟩,0⟩⟩:qD) rF rF H3.o.1 kR rfl (zS (⟨⟨#[]⟩,0,0,2,⟨⟨#[]⟩,0⟩,⟨Q1,Q2,Q3,n4,n5⟩,⟨⟨#[]⟩,⟨⟨#[]⟩,0⟩,⟨⟨#[]⟩,0⟩,0⟩⟩:qD)) ?_;refine qA.o hK ?_;clear hK K;refine qA.q 18 ?_;refine qA.done kR ?_;go_wp2_with fail
 (refine bodyPost_ret (v:=.tuple #[.agg ↑(⟨⟨#[]⟩,0,0,2,⟨⟨#[]⟩,0⟩,⟨Q1,Q2,Q3,n4,n5⟩,⟨⟨#[]⟩,⟨⟨#[]⟩,0⟩,⟨⟨#[]⟩,0⟩,0⟩⟩:qD),.bool true]) ?_ rfl ?_;(· exact qF rfl _ _ w.heap.size 81 ↑(⟨⟨#[]⟩,0,0,2,⟨⟨#[]⟩,0⟩,⟨Q1,Q2,Q3,n4,n5⟩,⟨⟨#[]⟩,⟨⟨#[]⟩,0⟩,⟨⟨#[]⟩,0⟩,0⟩⟩:qD) _ (0,0) _ rfl rfl (qC.setRow H3.o.1) underlying81 rfl kR);(· exact RrP.good HN.o (Below.setRow H3.o.2 lR)))
theorem qOz (W:List ByteArray) (v:Value) (most:Nat) (hm:most≤17) (w:World) (hA:qI strCells 1 w W v) (h0:0<W.length) (hs:∀x∈W,x.size≤1000000) (ht:Tab10 w) (hw:wd W 0=qAR):Calls prog 64 #[v,.int .i64 most] w (RrP (qX most W) w):=by
 (obtain⟨b,off,cap,rfl,hcap,hmax,hb,hcell⟩:=qAF hA h0)
 have d0:w.cell? ⟨b,off,none⟩=some (.string (wd W 0)):=hcell 0 h0;obtain⟨q0,q1,q2,q3,q4⟩:=qRi hw;have hR:=qK2 true (most:=most) hw;obtain⟨e0,he0⟩:=eX (qAx);have hze:=qG8 w;rw [he0] at hze;have HE:=mH (aI hze (aI (qV.box (x:=e0) hze) (qB (Below.refl w.heap.size w) (.cells ↑zE 81) lR:Below w.heap.size w (w.alloc (.cells ↑zE 81)))));have h0i:(0:Int)<W.length:=by omega
 clear he0 hze;have h1i:(1:Int)≤W.length:=by omega
 have hci:(W.length:Int)≤cap:=by omega
 have hD:=qCy 1 hA oM;obtain⟨ad,had⟩:=eX ((if cap=1 then some (⟨b,off,none⟩:Addr) else some ⟨b,off+1,none⟩));rw [had] at hD;have hsd:∀x∈W.drop 1,x.size≤1000000:=λx hx=>hs x (List.mem_of_mem_drop hx)
 obtain⟨o,ho⟩:=eX (rdR true most (W.drop 1));obtain⟨s,hs0⟩:∃s:qE,o.getD qAi=s:=⟨_,rfl⟩;obtain⟨bo,hbo⟩:=eX (o.isSome);have HC:Hx (∀W2:World,Below w.heap.size w W2→Calls prog 100 #[.slice ad (W.length - 1) (cap - 1),.bool true,.int .i64 most] W2 λe w'=>e=.returned (.tuple #[.agg ↑s,.bool bo])∧Below W2.heap.size W2 w'):=by
  refine mH λW2 hB=>?_
  have:=qMu true (W.drop 1) _ most hm W2 (hD.below hB) hsd (ht.below hB);rw [ho] at this;unfold qF8 at this;rw [hs0,hbo] at this;exact this
 rw [ho] at hR;have HN:Hx ((bo=true→qX most W=some (⟨⟨#[]⟩,0,0,3,⟨⟨#[]⟩,0⟩,⟨⟨#[]⟩,⟨#[]⟩,⟨#[]⟩,0,0⟩,s⟩:qD))∧(bo=false→qX most W=none)):=by
  refine mH ⟨λh=>?_,λh=>?_⟩
  ·subst h
   cases o with
   | none=>cases hbo
   | some y=>obtain rfl:y=s:=hs0;exact hR
  ·subst h
   cases o with
   | none=>exact hR
   | some y=>cases hbo
 clear hA hs hw hcell hR ht ho hs0 hbo hsd hD;generalize qX most W=RE at *;generalize wd W 0=Q at *;go_enter func64,ntmps64;go_upto_region 16 with fail;have hd0:=(HE.o.2.2.cell (p:=⟨b,_,none⟩) hb).trans d0;have hbl:b<(w.alloc (.cells ↑zE 81)).heap.size:=Nat.lt_of_lt_of_le hb HE.o.2.2.size;generalize w.alloc (.cells ↑zE 81)=W0 at *;have hS0:∀W':World,Below W0.heap.size W0 W'→W'.cell? ⟨b,off,none⟩=some (.string Q):=λW' hB=>(hB.cell (p:=⟨b,_,none⟩) hbl).trans hd0
 have HS0:=mH hS0;have hd:Below W0.heap.size W0 W0.drew:=by exact qS
 have hwl:=HE.o.1.lt;have HD:=mH hd;clear hS0 hd0 hd d0;go_cut [9,10] from 99 to 109 (λq9 q10 wc=>∃hx,q9=.pointer (some ⟨hx,0,none⟩)∧q10=.bool bo∧qC wc hx ↑s 79∧Below W0.heap.size W0 wc)
 case first =>
  have hS:=HS0.o _ HD.o;refine qA.start (λW':World=>W'.cell? ⟨b,off,none⟩=some (.string Q)) [12] kR ?_;refine qA.q 0 ?_;refine qA.q 1 ?_;refine qA.q 2 ?_;refine qA.q 3 ?_;refine qA.t 4 hS ?_;refine qA.q 5 ?_;refine qA.q 6 ?_;refine qA.ready (rs:=[7,11]) kR sI (qA3.cons rfl (λK hK=>?_) (qA3.cons rfl (λK hK=>?_) qA3.nil))
  ·go_simp;refine(HC.o W0.drew HE.o.2.2.drew).mono ?_;rintro e w4 ⟨rfl,hb4⟩;have hB4:Below W0.heap.size W0 w4:=HD.o.trans hb4;have hS4:=HS0.o w4 hB4;have hS5:=HS0.o (w4.alloc (.cells ↑zX 79)) (qB hB4 _ hB4.size);have H4:=mH hB4;clear hb4 hB4 hS;refine qA.on hK (λ_ _=>hS4) ?_;clear hK K;refine qA.q 8 ?_;refine qA.q 9 ?_;refine qA.q 10 ?_;refine qA.nx 11 λK hK=>?_;go_simp
   refine qA.on hK (λ_ _=>hS5) ?_;clear hK K;clear hS4 hS5;refine qA.nx 12 λK hK=>?_;go_simp
   refine qA.o hK ?_;clear hK K;refine qA.q 13 ?_;refine qA.done kR ?_;go_wp2_with fail;go_meet;exact⟨_,rfl,rfl,qC.new _ _ _,qB H4.o _ H4.o.size⟩
  ·go_simp;have hbn:qC (W0.alloc (.cells ↑zX 79)).drew W0.heap.size ↑zX 79:=(qC.new W0 _ _).drew;have hB4:Below W0.heap.size W0 (W0.alloc (.cells ↑zX 79)).drew:=by exact qS
   have hS4:=HS0.o _ hB4;have hBw:Below w.heap.size w (W0.alloc (.cells ↑zX 79)).drew:=HE.o.2.2.trans (hB4.mono HE.o.2.2.size);refine qA.on hK (λ_ _=>hS4) ?_;clear hK K;refine qA.nx 7 λK hK=>?_;go_simp
   refine(HC.o (W0.alloc (.cells ↑zX 79)).drew hBw).mono ?_;rintro e w5 ⟨rfl,hb5⟩;have hB5:Below W0.heap.size W0 w5:=hB4.trans (hb5.mono hB4.size);have hS5:=HS0.o w5 hB5;have hr5:=hbn.below hb5 hbn.lt;refine qA.on hK (λ_ _=>hS5) ?_;clear hK K;have x0:=hr5.cell 0 _ rfl;have x1:=hr5.cell 1 _ rfl;have x2:=hr5.cell 2 _ rfl;have x3:=hr5.cell 3 _ rfl;have x4:=hr5.cell 4 _ rfl;have x5:=hr5.cell 5 _ rfl;have y0:=hr5.free 0;have y1:=hr5.free 1;have y2:=hr5.free 2;have y3:=hr5.free 3;have y4:=hr5.free 4;have y5:=hr5.free 5;have H5:=mH (aI hr5 hB5);clear hr5 hB5 hb5 hB4 hbn hBw hS hS4 hS5;refine qA.q 8 ?_;refine qA.q 9 ?_;refine qA.q 10 ?_;refine qA.nx 12 λK hK=>?_;go_simp
   refine qA.o hK ?_;clear hK K;refine qA.q 13 ?_;refine qA.done kR ?_;go_wp2_with fail;go_meet;exact⟨_,rfl,rfl,qC.fill6 H5.o.1,Below.fill6 H5.o.2 lR _ _ _ _ _ _⟩
 case rest =>
 obtain⟨hx,rfl,rfl,hbx,hbc⟩:=hcut;rename World=>W6
 have hS:(W6.drew.cell? ⟨b,off,none⟩=some (.string Q)∧W6.drew.cell? ⟨hx,0,none⟩=some (.string s.site)∧W6.drew.cell? ⟨hx,1,none⟩=some (.string s.x.cable)∧W6.drew.cell? ⟨hx,2,none⟩=some (.int .i64 s.x.no)∧W6.drew.cell? ⟨hx,3,none⟩=some (.string s.y.cable)∧W6.drew.cell? ⟨hx,4,none⟩=some (.int .i64 s.y.no)∧W6.drew.cell? ⟨hx,5,none⟩=some (.int .i64 s.loss))∧hx<W6.drew.heap.size :=
  ⟨⟨HS0.o W6 hbc,hbx.cell 0 _ rfl,hbx.cell 1 _ rfl,hbx.cell 2 _ rfl,hbx.cell 3 _ rfl,hbx.cell 4 _ rfl,hbx.cell 5 _ rfl⟩,hbx.lt⟩
 have H6:=mH (aI (HE.o.1.below hbc hwl).drew (HE.o.2.2.trans (hbc.mono HE.o.2.2.size)).drew);clear hbx hbc;go_wp2_with fail;refine qA.start (λW':World=>(W'.cell? ⟨b,off,none⟩=some (.string Q)∧W'.cell? ⟨hx,0,none⟩=some (.string s.site)∧W'.cell? ⟨hx,1,none⟩=some (.string s.x.cable)∧W'.cell? ⟨hx,2,none⟩=some (.int .i64 s.x.no)∧W'.cell? ⟨hx,3,none⟩=some (.string s.y.cable)∧W'.cell? ⟨hx,4,none⟩=some (.int .i64 s.y.no)∧W'.cell? ⟨hx,5,none⟩=some (.int .i64 s.loss))∧hx<W'.heap.size) [9] kR ?_;generalize W6.drew=W7 at *;refine qA.q 0 ?_;refine qA.q 1 ?_;refine qA.t 2 hS ?_;refine qA.q 3 ?_;refine qA.t 6 hS ?_;refine qA.q 8 ?_;refine qA.nx 4 λK hK=>?_;go_simp
 refine(qLH _ _).mono ?_;rintro e w8 ⟨rfl,rfl⟩;refine qA.on hK (λ_ h=>h) ?_;clear hK K;refine qA.q 5 ?_;refine qA.q 7 ?_;refine qA.nx 9 λK hK=>?_
 refine qCi rfl 81 _ _ rfl (w.heap.size) _ ↑(⟨⟨#[]⟩,0,0,3,⟨⟨#[]⟩,0⟩,⟨⟨#[]⟩,⟨#[]⟩,⟨#[]⟩,0,0⟩,s⟩:qD) rF rF H6.o.1 kR rfl (zS (⟨⟨#[]⟩,0,0,3,⟨⟨#[]⟩,0⟩,⟨⟨#[]⟩,⟨#[]⟩,⟨#[]⟩,0,0⟩,s⟩:qD)) ?_;refine qA.o hK ?_;clear hK K;refine qA.q 10 ?_;refine qA.done kR ?_;go_wp2_with fail
 cases bo
 ·(refine bodyPost_ret (v:=.tuple #[.agg ↑(⟨⟨#[]⟩,0,0,3,⟨⟨#[]⟩,0⟩,⟨⟨#[]⟩,⟨#[]⟩,⟨#[]⟩,0,0⟩,s⟩:qD),.bool false]) ?_ rfl ?_;(· exact qF rfl _ _ w.heap.size 81 ↑(⟨⟨#[]⟩,0,0,3,⟨⟨#[]⟩,0⟩,⟨⟨#[]⟩,⟨#[]⟩,⟨#[]⟩,0,0⟩,s⟩:qD) _ (0,0) _ rfl rfl (qC.setRow H6.o.1) underlying81 rfl kR);(· exact RrP.bad (HN.o.2 rfl) (Below.setRow H6.o.2 lR)))
 ·(refine bodyPost_ret (v:=.tuple #[.agg ↑(⟨⟨#[]⟩,0,0,3,⟨⟨#[]⟩,0⟩,⟨⟨#[]⟩,⟨#[]⟩,⟨#[]⟩,0,0⟩,s⟩:qD),.bool true]) ?_ rfl ?_;(· exact qF rfl _ _ w.heap.size 81 ↑(⟨⟨#[]⟩,0,0,3,⟨⟨#[]⟩,0⟩,⟨⟨#[]⟩,⟨#[]⟩,⟨#[]⟩,0,0⟩,s⟩:qD) _ (0,0) _ rfl rfl (qC.setRow H6.o.1) underlying81 rfl kR);(· exact RrP.good (HN.o.1 rfl) (Below.setRow H6.o.2 lR)))
theorem qRG (W:List ByteArray) (v:Value) (most:Nat) (hm:most≤17) (w:World) (hA:qI strCells 1 w W v) (h0:0<W.length) (hs:∀x∈W,x.size≤1000000) (ht:Tab10 w) (hw:wd W 0=qAt):Calls prog 64 #[v,.int .i64 most] w (RrP (qX most W) w):=by
 (obtain⟨b,off,cap,rfl,hcap,hmax,hb,hcell⟩:=qAF hA h0)
 have d0:w.cell? ⟨b,off,none⟩=some (.string (wd W 0)):=hcell 0 h0;obtain⟨q0,q1,q2,q3,q4⟩:=qTF hw;have hR:=qK2 false (most:=most) hw;obtain⟨e0,he0⟩:=eX (qAx);have hze:=qG8 w;rw [he0] at hze;have HE:=mH (aI hze (aI (qV.box (x:=e0) hze) (qB (Below.refl w.heap.size w) (.cells ↑zE 81) lR:Below w.heap.size w (w.alloc (.cells ↑zE 81)))));have h0i:(0:Int)<W.length:=by omega
 clear he0 hze;have h1i:(1:Int)≤W.length:=by omega
 have hci:(W.length:Int)≤cap:=by omega
 have hD:=qCy 1 hA oM;obtain⟨ad,had⟩:=eX ((if cap=1 then some (⟨b,off,none⟩:Addr) else some ⟨b,off+1,none⟩));rw [had] at hD;have hsd:∀x∈W.drop 1,x.size≤1000000:=λx hx=>hs x (List.mem_of_mem_drop hx)
 obtain⟨o,ho⟩:=eX (rdR false most (W.drop 1));obtain⟨s,hs0⟩:∃s:qE,o.getD qAi=s:=⟨_,rfl⟩;obtain⟨bo,hbo⟩:=eX (o.isSome);have HC:Hx (∀W2:World,Below w.heap.size w W2→Calls prog 100 #[.slice ad (W.length - 1) (cap - 1),.bool false,.int .i64 most] W2 λe w'=>e=.returned (.tuple #[.agg ↑s,.bool bo])∧Below W2.heap.size W2 w'):=by
  refine mH λW2 hB=>?_
  have:=qMu false (W.drop 1) _ most hm W2 (hD.below hB) hsd (ht.below hB);rw [ho] at this;unfold qF8 at this;rw [hs0,hbo] at this;exact this
 rw [ho] at hR;have HN:Hx ((bo=true→qX most W=some (⟨⟨#[]⟩,0,0,4,⟨⟨#[]⟩,0⟩,⟨⟨#[]⟩,⟨#[]⟩,⟨#[]⟩,0,0⟩,s⟩:qD))∧(bo=false→qX most W=none)):=by
  refine mH ⟨λh=>?_,λh=>?_⟩
  ·subst h
   cases o with
   | none=>cases hbo
   | some y=>obtain rfl:y=s:=hs0;exact hR
  ·subst h
   cases o with
   | none=>exact hR
   | some y=>cases hbo
 clear hA hs hw hcell hR ht ho hs0 hbo hsd hD;generalize qX most W=RE at *;generalize wd W 0=Q at *;go_enter func64,ntmps64;go_upto_region 16 with fail;have hd0:=(HE.o.2.2.cell (p:=⟨b,_,none⟩) hb).trans d0;have hbl:b<(w.alloc (.cells ↑zE 81)).heap.size:=Nat.lt_of_lt_of_le hb HE.o.2.2.size;generalize w.alloc (.cells ↑zE 81)=W0 at *;have hS0:∀W':World,Below W0.heap.size W0 W'→W'.cell? ⟨b,off,none⟩=some (.string Q):=λW' hB=>(hB.cell (p:=⟨b,_,none⟩) hbl).trans hd0
 have HS0:=mH hS0;have hd:Below W0.heap.size W0 W0.drew:=by exact qS
 have hwl:=HE.o.1.lt;have HD:=mH hd;clear hS0 hd0 hd d0;go_cut [9,10] from 99 to 109 (λq9 q10 wc=>∃hx,q9=.pointer (some ⟨hx,0,none⟩)∧q10=.bool bo∧qC wc hx ↑s 79∧Below W0.heap.size W0 wc)
 case first =>
  have hS:=HS0.o _ HD.o;refine qA.start (λW':World=>W'.cell? ⟨b,off,none⟩=some (.string Q)) [12] kR ?_;refine qA.q 0 ?_;refine qA.q 1 ?_;refine qA.q 2 ?_;refine qA.q 3 ?_;refine qA.t 4 hS ?_;refine qA.q 5 ?_;refine qA.q 6 ?_;refine qA.ready (rs:=[7,11]) kR sI (qA3.cons rfl (λK hK=>?_) (qA3.cons rfl (λK hK=>?_) qA3.nil))
  ·go_simp;refine(HC.o W0.drew HE.o.2.2.drew).mono ?_;rintro e w4 ⟨rfl,hb4⟩;have hB4:Below W0.heap.size W0 w4:=HD.o.trans hb4;have hS4:=HS0.o w4 hB4;have hS5:=HS0.o (w4.alloc (.cells ↑zX 79)) (qB hB4 _ hB4.size);have H4:=mH hB4;clear hb4 hB4 hS;refine qA.on hK (λ_ _=>hS4) ?_;clear hK K;refine qA.q 8 ?_;refine qA.q 9 ?_;refine qA.q 10 ?_;refine qA.nx 11 λK hK=>?_;go_simp
   refine qA.on hK (λ_ _=>hS5) ?_;clear hK K;clear hS4 hS5;refine qA.nx 12 λK hK=>?_;go_simp
   refine qA.o hK ?_;clear hK K;refine qA.q 13 ?_;refine qA.done kR ?_;go_wp2_with fail;go_meet;exact⟨_,rfl,rfl,qC.new _ _ _,qB H4.o _ H4.o.size⟩
  ·go_simp;have hbn:qC (W0.alloc (.cells ↑zX 79)).drew W0.heap.size ↑zX 79:=(qC.new W0 _ _).drew;have hB4:Below W0.heap.size W0 (W0.alloc (.cells ↑zX 79)).drew:=by exact qS
   have hS4:=HS0.o _ hB4;have hBw:Below w.heap.size w (W0.alloc (.cells ↑zX 79)).drew:=HE.o.2.2.trans (hB4.mono HE.o.2.2.size);refine qA.on hK (λ_ _=>hS4) ?_;clear hK K;refine qA.nx 7 λK hK=>?_;go_simp
   refine(HC.o (W0.alloc (.cells ↑zX 79)).drew hBw).mono ?_;rintro e w5 ⟨rfl,hb5⟩;have hB5:Below W0.heap.size W0 w5:=hB4.trans (hb5.mono hB4.size);have hS5:=HS0.o w5 hB5;have hr5:=hbn.below hb5 hbn.lt;refine qA.on hK (λ_ _=>hS5) ?_;clear hK K;have x0:=hr5.cell 0 _ rfl;have x1:=hr5.cell 1 _ rfl;have x2:=hr5.cell 2 _ rfl;have x3:=hr5.cell 3 _ rfl;have x4:=hr5.cell 4 _ rfl;have x5:=hr5.cell 5 _ rfl;have y0:=hr5.free 0;have y1:=hr5.free 1;have y2:=hr5.free 2;have y3:=hr5.free 3;have y4:=hr5.free 4;have y5:=hr5.free 5;have H5:=mH (aI hr5 hB5);clear hr5 hB5 hb5 hB4 hbn hBw hS hS4 hS5;refine qA.q 8 ?_;refine qA.q 9 ?_;refine qA.q 10 ?_;refine qA.nx 12 λK hK=>?_;go_simp
   refine qA.o hK ?_;clear hK K;refine qA.q 13 ?_;refine qA.done kR ?_;go_wp2_with fail;go_meet;exact⟨_,rfl,rfl,qC.fill6 H5.o.1,Below.fill6 H5.o.2 lR _ _ _ _ _ _⟩
 case rest =>
 obtain⟨hx,rfl,rfl,hbx,hbc⟩:=hcut;rename World=>W6
 have hS:(W6.drew.cell? ⟨b,off,none⟩=some (.string Q)∧W6.drew.cell? ⟨hx,0,none⟩=some (.string s.site)∧W6.drew.cell? ⟨hx,1,none⟩=some (.string s.x.cable)∧W6.drew.cell? ⟨hx,2,none⟩=some (.int .i64 s.x.no)∧W6.drew.cell? ⟨hx,3,none⟩=some (.string s.y.cable)∧W6.drew.cell? ⟨hx,4,none⟩=some (.int .i64 s.y.no)∧W6.drew.cell? ⟨hx,5,none⟩=some (.int .i64 s.loss))∧hx<W6.drew.heap.size :=
  ⟨⟨HS0.o W6 hbc,hbx.cell 0 _ rfl,hbx.cell 1 _ rfl,hbx.cell 2 _ rfl,hbx.cell 3 _ rfl,hbx.cell 4 _ rfl,hbx.cell 5 _ rfl⟩,hbx.lt⟩
 have H6:=mH (aI (HE.o.1.below hbc hwl).drew (HE.o.2.2.trans (hbc.mono HE.o.2.2.size)).drew);clear hbx hbc;go_wp2_with fail;refine qA.start (λW':World=>(W'.cell? ⟨b,off,none⟩=some (.string Q)∧W'.cell? ⟨hx,0,none⟩=some (.string s.site)∧W'.cell? ⟨hx,1,none⟩=some (.string s.x.cable)∧W'.cell? ⟨hx,2,none⟩=some (.int .i64 s.x.no)∧W'.cell? ⟨hx,3,none⟩=some (.string s.y.cable)∧W'.cell? ⟨hx,4,none⟩=some (.int .i64 s.y.no)∧W'.cell? ⟨hx,5,none⟩=some (.int .i64 s.loss))∧hx<W'.heap.size) [9] kR ?_;generalize W6.drew=W7 at *;refine qA.q 0 ?_;refine qA.q 1 ?_;refine qA.t 2 hS ?_;refine qA.q 3 ?_;refine qA.t 6 hS ?_;refine qA.q 8 ?_;refine qA.nx 4 λK hK=>?_;go_simp
 refine(qLH _ _).mono ?_;rintro e w8 ⟨rfl,rfl⟩;refine qA.on hK (λ_ h=>h) ?_;clear hK K;refine qA.q 5 ?_;refine qA.q 7 ?_;refine qA.nx 9 λK hK=>?_
 refine qCi rfl 81 _ _ rfl (w.heap.size) _ ↑(⟨⟨#[]⟩,0,0,4,⟨⟨#[]⟩,0⟩,⟨⟨#[]⟩,⟨#[]⟩,⟨#[]⟩,0,0⟩,s⟩:qD) rF rF H6.o.1 kR rfl (zS (⟨⟨#[]⟩,0,0,4,⟨⟨#[]⟩,0⟩,⟨⟨#[]⟩,⟨#[]⟩,⟨#[]⟩,0,0⟩,s⟩:qD)) ?_;refine qA.o hK ?_;clear hK K;refine qA.q 10 ?_;refine qA.done kR ?_;go_wp2_with fail
 cases bo
 ·(refine bodyPost_ret (v:=.tuple #[.agg ↑(⟨⟨#[]⟩,0,0,4,⟨⟨#[]⟩,0⟩,⟨⟨#[]⟩,⟨#[]⟩,⟨#[]⟩,0,0⟩,s⟩:qD),.bool false]) ?_ rfl ?_;(· exact qF rfl _ _ w.heap.size 81 ↑(⟨⟨#[]⟩,0,0,4,⟨⟨#[]⟩,0⟩,⟨⟨#[]⟩,⟨#[]⟩,⟨#[]⟩,0,0⟩,s⟩:qD) _ (0,0) _ rfl rfl (qC.setRow H6.o.1) underlying81 rfl kR);(· exact RrP.bad (HN.o.2 rfl) (Below.setRow H6.o.2 lR)))
 ·(refine bodyPost_ret (v:=.tuple #[.agg ↑(⟨⟨#[]⟩,0,0,4,⟨⟨#[]⟩,0⟩,⟨⟨#[]⟩,⟨#[]⟩,⟨#[]⟩,0,0⟩,s⟩:qD),.bool true]) ?_ rfl ?_;(· exact qF rfl _ _ w.heap.size 81 ↑(⟨⟨#[]⟩,0,0,4,⟨⟨#[]⟩,0⟩,⟨⟨#[]⟩,⟨#[]⟩,⟨#[]⟩,0,0⟩,s⟩:qD) _ (0,0) _ rfl rfl (qC.setRow H6.o.1) underlying81 rfl kR);(· exact RrP.good (HN.o.1 rfl) (Below.setRow H6.o.2 lR)))
theorem qNV {most:Nat} {W:List ByteArray} (h1:wd W 0≠qA0) (h2:wd W 0≠qAE) (h3:wd W 0≠qAR) (h4:wd W 0≠qAt) (h5:wd W 0≠jL):qX most W=none:=by
 unfold qX;rw [if_neg (λh=>h1 h.1),if_neg (λh=>h2 h.1),if_neg (λh=>h3 h.1),if_neg (λh=>h4 h.1),if_neg (λh=>h5 h.1)]
theorem qNi (W:List ByteArray) (v:Value) (most:Nat) (hm:most≤17) (w:World) (hA:qI strCells 1 w W v) (h0:0<W.length) (hs:∀x∈W,x.size≤1000000) (ht:Tab10 w):Calls prog 64 #[v,.int .i64 most] w (RrP (qX most W) w):=by
 by_cases h1:wd W 0=qA0
 ·exact qPE W v most hm w hA h0 hs ht h1
 by_cases h2:wd W 0=qAE
 ·exact qNb W v most hm w hA h0 hs ht h2
 by_cases h3:wd W 0=qAR
 ·exact qOz W v most hm w hA h0 hs ht h3
 by_cases h4:wd W 0=qAt
 ·exact qRG W v most hm w hA h0 hs ht h4
 by_cases h5:wd W 0=jL
 ·exact qPf W v most hm w hA h0 hs ht h5
 rw [qNV h1 h2 h3 h4 h5];refine(qP4 W v most hm w hA h0 hs h1 h2 h3 h4 h5).mono ?_;rintro e w' ⟨rfl,hb⟩;exact RrP.bad rfl hb
end Go.Proofs.YtbgnlfgkgklkdaaGreatDoor
