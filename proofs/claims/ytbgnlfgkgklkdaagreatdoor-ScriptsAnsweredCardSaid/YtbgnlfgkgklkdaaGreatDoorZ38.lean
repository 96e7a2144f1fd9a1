/- Parts of the proof of ScriptsAnswered: SpE. No condition. -/
import Derived.Test.YtbgnlfgkgklkdaaGreatDoorZ36
import Derived.Test.YtbgnlfgkgklkdaaGreatDoorZ37
import Derived.Test.YtbgnlfgkgklkdaaGreatDoorZ19
set_option linter.unusedVariables false
set_option linter.unusedSimpArgs false
set_option maxHeartbeats 8000000
set_option maxRecDepth 100000
namespace Go.Proofs.YtbgnlfgkgklkdaaGreatDoor
open Go Go.RowKit Tryz
def rdS (most:Nat) (W:List ByteArray):Option qE :=
 (qAW most W 2).bind λn=>(qAW most W 4).bind λm=>if W.length=6 then (qAW most W 5).map λo=>⟨wd W 0,⟨wd W 1,n⟩,⟨wd W 3,m⟩,o⟩ else some ⟨wd W 0,⟨wd W 1,n⟩,⟨wd W 3,m⟩,0⟩
def qB7 (W:List ByteArray):List ByteArray:=[wd W 2,wd W 4]++W.drop 5
theorem qMx {most:Nat} {W:List ByteArray} (h:∃x∈qB7 W,jH most x.data.toList=none) (h5:W.length=5∨W.length=6):rdS most W=none:=by
 obtain⟨x,hx,hn⟩:=h;unfold qB7 at hx;unfold rdS qAW
 rcases List.mem_append.1 hx with h|h
 ·rcases List.mem_cons.1 h with rfl|h
  ·rw [hn];rfl
  ·rw [List.mem_singleton.1 h] at hn;rw [hn];cases jH most (wd W 2).data.toList <;> rfl
 ·rcases h5 with h5|h5
  ·rw [List.drop_eq_nil_iff.2 oM] at h;cases h
  ·have hd:W.drop 5=[wd W 5]:=by
    rw [List.drop_eq_getElem_cons oM,List.drop_eq_nil_iff.2 oM,qCZ oM]
   rw [hd] at h;rw [List.mem_singleton.1 h] at hn;rw [hn];simp only [if_pos h5]
   cases jH most (wd W 2).data.toList <;> cases jH most (wd W 4).data.toList <;> rfl
theorem qLr {most:Nat} {W:List ByteArray} {ns:List Int} (h:(qB7 W).map (λx=>jH most x.data.toList)=ns.map some) (h5:W.length=5∨W.length=6) :
  (W.length=5∧∃n m,ns=[n,m]∧rdS most W=some ⟨wd W 0,⟨wd W 1,n⟩,⟨wd W 3,m⟩,0⟩)∨(W.length=6∧∃n m o,ns=[n,m,o]∧rdS most W=some ⟨wd W 0,⟨wd W 1,n⟩,⟨wd W 3,m⟩,o⟩):=by
 unfold qB7 at h;unfold rdS qAW
 rcases h5 with h5|h5
 ·left
  rw [List.drop_eq_nil_iff.2 oM] at h
  match ns,h with
  | [n,m],h =>
   simp only [List.append_nil,List.map_cons,List.map_nil,List.cons.injEq,and_true] at h;refine⟨h5,n,m,rfl,?_⟩;rw [h.1,h.2];simp [h5]
  | [],h=>simp at h
  | [_],h=>simp at h
  | _::_::_::_,h=>simp at h
 ·right
  have hd:W.drop 5=[wd W 5]:=by
   rw [List.drop_eq_getElem_cons oM,List.drop_eq_nil_iff.2 oM,qCZ oM]
  rw [hd] at h
  match ns,h with
  | [n,m,o],h =>
   simp only [List.cons_append,List.nil_append,List.map_cons,List.map_nil,List.cons.injEq,and_true] at h;refine⟨h5,n,m,o,rfl,?_⟩;rw [h.1,h.2.1,h.2.2];simp [h5]
  | [],h=>simp at h
  | [_],h=>simp at h
  | [_,_],h=>simp at h
  | _::_::_::_::_,h=>simp at h
theorem qK9 {W:List ByteArray} (h:5≤W.length) {x:ByteArray} (hx:x∈qB7 W):x∈W:=by
 unfold qB7 at hx
 rcases List.mem_append.1 hx with h1|h1
 ·rcases List.mem_cons.1 h1 with rfl|h1
  ·rw [qCZ oM];exact List.getElem_mem _
  ·rw [List.mem_singleton.1 h1,qCZ oM];exact List.getElem_mem _
 ·exact List.mem_of_mem_drop h1
theorem qMq (l:List ByteArray):∀u∈l.flatMap strCells,u.oneCell'=true:=by
 intro u hu;obtain⟨x,_,hx⟩:=List.mem_flatMap.1 hu;rw [List.mem_singleton.1 hx];rfl
def RsC (w:World) (b off b4 o4:Nat) (W:List ByteArray) (n m:Int):Prop:=w.cell? ⟨b,off,none⟩=some (.string (wd W 0))∧w.cell? ⟨b,off+1,none⟩=some (.string (wd W 1))∧w.cell? ⟨b,off+3,none⟩=some (.string (wd W 3)) ∧
 w.cell? ⟨b4,o4,none⟩=some (.int .i64 n)∧w.cell? ⟨b4,o4+1,none⟩=some (.int .i64 m)∧b<w.heap.size∧b4<w.heap.size
theorem RsC.below {w w':World} {b off b4 o4:Nat} {W:List ByteArray} {n m:Int} (h:RsC w b off b4 o4 W n m) (hb:Below w.heap.size w w'):RsC w' b off b4 o4 W n m:=by
 obtain⟨h1,h2,h3,h4,h5,h6,h7⟩:=h;exact⟨(hb.cell (p:=⟨b,_,none⟩) h6).trans h1,(hb.cell (p:=⟨b,_,none⟩) h6).trans h2,(hb.cell (p:=⟨b,_,none⟩) h6).trans h3,(hb.cell (p:=⟨b4,_,none⟩) h7).trans h4,(hb.cell (p:=⟨b4,_,none⟩) h7).trans h5,Nat.lt_of_lt_of_le h6 hb.size,Nat.lt_of_lt_of_le h7 hb.size⟩
def qF8 (o:Option qE) (w:World) (e:Ending) (w':World):Prop:=e=.returned (.tuple #[.agg ↑(o.getD qAi),.bool o.isSome])∧Below w.heap.size w w'
theorem qG9 (W:List ByteArray) (v:Value) (most:Nat) (hm:most≤17) (w:World) (hA:qI strCells 1 w W v) (h5:W.length=5∨W.length=6) (hs:∀x∈W,x.size≤1000000):Calls prog 85 #[v,.int .i64 most] w (qF8 (rdS most W) w):=by
 obtain⟨i0,hi,hz0,hz1,hz2⟩:=info_parts qDv;obtain⟨a,cap,rfl,hcap,hmax,hc⟩:=hA;obtain⟨b,off,rfl,hb,h0⟩:=hc 0 oM;have hA:qI strCells 1 w W (.slice (some ⟨b,off,none⟩) W.length cap):=⟨_,_,rfl,hcap,hmax,hc⟩;have hcell:∀k (hk:k<W.length),w.cell? ⟨b,off+k,none⟩=some (.string (wd W k)):=λk hk=>by
  obtain⟨b',off',he,_,hck⟩:=hc k hk;simp only [Option.some.injEq,Addr.mk.injEq,and_true] at he;obtain⟨rfl,rfl⟩:=he;have:=hck 0 _ rfl;rw [qCZ hk];simpa using this
 obtain⟨ad,had⟩:=eX ((if cap=5 then some (⟨b,off,none⟩:Addr) else some ⟨b,off+5,none⟩));have hD:qI strCells 1 w (W.drop 5) (.slice ad (W.length - 5) (cap - 5)):=by
  by_cases hq:cap=5
  ·rw [if_pos hq] at had;refine⟨_,_,by rw [List.length_drop],by rw [List.length_drop];omega,by omega,λk hk=>?_⟩;rw [List.length_drop] at hk;omega
  ·rw [if_neg hq] at had;rw [←had];simpa using hA.dropAt 5 oM
 have hcz:w.cell? ⟨b,off,none⟩=some (.string (wd W 0)):=hcell 0 oM;have k1:(5:Int)≤W.length:=by omega
 have j0:0<W.length:=by omega
 have j1:(1:Int)<W.length:=by omega
 have j2:(2:Int)<W.length:=by omega
 have j3:(3:Int)<W.length:=by omega
 have j4:(4:Int)<W.length:=by omega
 have k2:(W.length:Int)≤cap:=by omega
 unfold maxLen at hmax;have HA:=mH (aI hcell (aI hD (aI hs h5)));clear hc h0 hs hD;go_enter func85,ntmps85;go_wp2_with fail;have hbx:qC (w.alloc (.cells ↑zX 79)) w.heap.size ↑zX 79:=qC.new w _ _;have hS:(w.alloc (.cells ↑zX 79)).drew.cell? ⟨b,off+2,none⟩=some (.string (wd W 2))∧(w.alloc (.cells ↑zX 79)).drew.cell? ⟨b,off+4,none⟩=some (.string (wd W 4)) :=
  ⟨by have:=hcell 2 oM;go_simp,by have:=hcell 4 oM;go_simp⟩
 have H1:=mH (aI (show Below w.heap.size w (w.alloc (.cells ↑zX 79)).drew by exact qS) (aI hbx.drew (show w.heap.size+1≤(w.alloc (.cells ↑zX 79)).drew.heap.size by simp)));clear hbx hcell hcz;refine qA.start (λw'=>w'.cell? ⟨b,off+2,none⟩=some (.string (wd W 2))∧w'.cell? ⟨b,off+4,none⟩=some (.string (wd W 4))) [6,9,11] kR ?_;generalize (w.alloc (.cells ↑zX 79)).drew=W1 at *;refine qA.q 0 ?_;refine qA.q 1 ?_;refine qA.t 2 hS ?_;refine qA.q 3 ?_;refine qA.q 4 ?_;refine qA.t 5 hS ?_;refine qA.q 7 ?_;refine qA.q 8 ?_;refine qA.q 10 ?_;refine qA.nx 6 λK hK=>?_;go_simp
 have hbl:qC (W1.alloc (.cells #[.string (wd W 2),.string (wd W 4)] 9)) W1.heap.size #[.string (wd W 2),.string (wd W 4)] 9:=qC.new W1 _ _;have H2:=mH (aI hbl (aI (show Below w.heap.size w (W1.alloc (.cells #[.string (wd W 2),.string (wd W 4)] 9)) from H1.o.1.trans (qB bR _ (by have:=H1.o.2.2;omega))) (H1.o.2.1.alloc (.cells #[.string (wd W 2),.string (wd W 4)] 9))));clear hbl;refine qA.o hK ?_;clear hK K;refine qA.nx 9 λK hK=>?_
 refine qBG (cells:=strCells) (λ_=>rfl) (HA.o.2.1.below H2.o.2.1) rfl _ _ _ rF (w.heap.size+1) 9 _ _ 16 underlying26 hi hz0 hz1 hz2 rfl dE (.slice (some ⟨W1.heap.size,0,none⟩) 2 2) 2 [.string (wd W 2),.string (wd W 4)] rF (qBN H2.o.1 (by have:=H1.o.2.2;omega) oM (by simp [maxLen]) rfl rfl rfl) rF (qMq _) (by rw [List.length_drop];unfold maxLen;omega) (by rw [List.length_drop];omega) (by simp;have:=H1.o.2.2;omega) ?_;intro v' W3 ho3 hg3;have hrow:W3.ownsRow (w.heap.size+1) 9 1 v' (qB7 W).length ((qB7 W).flatMap strCells):=by
  have e1:(qB7 W).length=2+(W.drop 5).length:=by unfold qB7;rw [List.length_append];rfl
  rw [e1];unfold qB7;rw [List.flatMap_append];exact ho3
 have H3:=mH (aI (qI.of_own (cells:=strCells) (λ_=>rfl) hrow) (aI (show Below w.heap.size w W3 from H2.o.2.1.trans (jE (g:=W1.heap.size) hg3 (by have:=H1.o.2.2;omega) H2.o.2.1.size)) (H2.o.2.2.grown (row:=some W1.heap.size) hg3 (λe=>by have:=Option.some.inj e;have:=H1.o.2.2;omega))));clear ho3 hg3 hrow H2 H1;refine qA.o hK ?_;clear hK K;refine qA.nx 11 λK hK=>?_;go_simp
 have hns:∀x∈qB7 W,x.size≤1000000:=λx hx=>HA.o.2.2.1 x (qK9 oM hx)
 refine(qQV v' (qB7 W) most hm W3 H3.o.1 hns (by unfold qB7;rw [List.length_append,List.length_drop];simp;omega)).mono ?_;rintro e W4 ⟨v4,bb,rfl,hb4,h41,h42⟩;have H4:=mH (aI (H3.o.2.1.trans (hb4.mono H3.o.2.1.size)) (aI (H3.o.2.2.below hb4 H3.o.2.2.lt) (aI h41 (aI h42 (aI (Nat.lt_of_lt_of_le H3.o.2.2.lt hb4.size) (H3.o.2.1.trans (hb4.mono H3.o.2.1.size)).size)))));clear hns hb4 h41 h42 H3;refine qA.o hK ?_;clear hK K;refine qA.q 12 ?_;refine qA.q 13 ?_;refine qA.q 14 ?_;refine qA.q 15 ?_;refine qA.q 16 ?_;refine qA.done kR ?_
 cases bb
 ·have hr:=qMx (H4.o.2.2.2.1 rfl) h5;have HR:=mH hr;obtain⟨x0,x1,x2,x3,x4,x5,hfz⟩:=H4.o.2.1.at6;have f0:=hfz 0;have f1:=hfz 1;have f2:=hfz 2;have f3:=hfz 3;have f4:=hfz 4;have f5:=hfz 5;go_wp2;refine bodyPost_ret (v:=.tuple #[.agg ↑zX,.bool false]) ?_ rfl ⟨?_,?_⟩
  ·exact qF rfl _ _ w.heap.size 79 ↑zX _ (0,0) _ rfl rfl (qC.fill6 H4.o.2.1) underlying79 rfl kR
  ·rfl
  ·exact Below.fill6 H4.o.1 lR _ _ _ _ _ _
 obtain⟨ns,hns,hown⟩:=H4.o.2.2.1 rfl;obtain⟨a4,cap4,hv4,hcap4,hmax4,hc4⟩:=qI.of_ints hown;have hb0:b<W4.heap.size:=Nat.lt_of_lt_of_le hb H4.o.1.size;have hwc:∀k (hk:k<W.length),W4.drew.cell? ⟨b,off+k,none⟩=some (.string (wd W k)):=λk hk=>(H4.o.1.cell (p:=⟨b,off+k,none⟩) hb).trans (HA.o.1 k hk)
 have d0:W4.drew.cell? ⟨b,off,none⟩=some (.string (wd W 0)):=hwc 0 oM
 rcases qLr hns h5 with⟨h5',n,m,rfl,hr⟩|⟨h5',n,m,o,rfl,hr⟩
 ·subst hv4;obtain⟨b4,o4,rfl,hb4,hcc⟩:=hc4 0 sI;have n0:W4.drew.cell? ⟨b4,o4,none⟩=some (.int .i64 n):=by simpa using hcc 0 _ rfl
  obtain⟨b4',o4',he,_,hcc1⟩:=hc4 1 sI;simp only [Option.some.injEq,Addr.mk.injEq,and_true] at he;obtain⟨rfl,rfl⟩:=he;have n1:W4.drew.cell? ⟨b4,o4+1,none⟩=some (.int .i64 m):=by simpa using hcc1 0 _ rfl
  have HR:=mH (aI hr h5');have hS:RsC W4.drew b off b4 o4 W n m:=⟨d0,hwc 1 oM,hwc 3 oM,n0,n1,hb0,hb4⟩;have H5:=mH (aI H4.o.1.drew (aI H4.o.2.1.drew (show w.heap.size<W4.drew.heap.size from H4.o.2.2.2.2.1)));clear hr h5' h5 hcc hcc1 hc4 hwc d0 n0 n1 hns hown H4 hcap4 hmax4 hb0 hb4;go_wp2_with fail;refine qA.start (λw'=>RsC w' b off b4 o4 W n m) [19] kR ?_;generalize W4.drew=W5 at *;refine qA.q 0 ?_;refine qA.q 1 ?_;refine qA.t 2 hS ?_;refine qA.q 3 ?_;refine qA.q 4 ?_;refine qA.t 5 hS ?_;refine qA.q 6 ?_;refine qA.q 7 ?_;refine qA.t 8 hS ?_;refine qA.q 9 ?_;refine qA.q 10 ?_;refine qA.q 11 ?_;refine qA.t 12 hS ?_;refine qA.q 13 ?_;refine qA.q 14 ?_;refine qA.t 15 hS ?_;refine qA.q 16 ?_;refine qA.q 17 ?_;refine qA.nx 18 λK hK=>?_;go_simp
  have hS6:=hS.below (qB bR (.cells ↑zX 79) lR);refine hK.out _ _ (λ_ _=>hS6) ?_;clear hK K;try simp only [Act.put,zL,zN,zH,zM,zK,zI]
  refine qA.nx 19 λK hK=>?_;go_simp
  refine qA.o hK ?_;clear hK K;refine qA.done kR ?_;have hx6:=H5.o.2.1.alloc (.cells #[.string (wd W 0),.string (wd W 1),.int .i64 n,.string (wd W 3),.int .i64 m,.int .i64 0] 79);have hB6:Below w.heap.size w (W5.alloc (.cells #[.string (wd W 0),.string (wd W 1),.int .i64 n,.string (wd W 3),.int .i64 m,.int .i64 0] 79)):=H5.o.1.trans (qB bR _ (by have:=H5.o.2.2;omega));have hx8:qC (W5.alloc (.cells #[.string (wd W 0),.string (wd W 1),.int .i64 n,.string (wd W 3),.int .i64 m,.int .i64 0] 79)) W5.heap.size #[.string (wd W 0),.string (wd W 1),.int .i64 n,.string (wd W 3),.int .i64 m,.int .i64 0] 79:=qC.new _ _ _;have hlt:=H5.o.2.2;clear hS H5;obtain⟨b8,hb8⟩:=eX (W5.heap.size);rw [hb8] at hx8 hlt ⊢;generalize W5.alloc (.cells #[.string (wd W 0),.string (wd W 1),.int .i64 n,.string (wd W 3),.int .i64 m,.int .i64 0] 79)=W6 at *;clear hb8;obtain⟨x0,x1,x2,x3,x4,x5,hfz⟩:=hx6.at6;have f0:=hfz 0;have f1:=hfz 1;have f2:=hfz 2;have f3:=hfz 3;have f4:=hfz 4;have f5:=hfz 5;obtain⟨y0,y1,y2,y3,y4,y5,hfy⟩:=hx8.at6;have g5:=hfy 5;have HF:=mH (aI hx6 hB6);clear hx6 hB6 hx8 hfz hfy;go_wp2;refine bodyPost_ret (v:=.tuple #[.agg #[.string (wd W 0),.string (wd W 1),.int .i64 n,.string (wd W 3),.int .i64 m,.int .i64 0],.bool true]) ?_ rfl ⟨?_,?_⟩
  ·exact qF rfl _ _ w.heap.size 79 #[.string (wd W 0),.string (wd W 1),.int .i64 n,.string (wd W 3),.int .i64 m,.int .i64 0] _ (0,0) _ rfl rfl (qC.fill6 (HF.o.1)) underlying79 rfl kR
  ·rw [HR.o.1];rfl
  ·exact Below.fill6 (HF.o.2) lR _ _ _ _ _ _
 ·subst hv4;obtain⟨b4,o4,rfl,hb4,hcc⟩:=hc4 0 sI;have n0:W4.drew.cell? ⟨b4,o4,none⟩=some (.int .i64 n):=by simpa using hcc 0 _ rfl
  obtain⟨b4',o4',he,_,hcc1⟩:=hc4 1 sI;simp only [Option.some.injEq,Addr.mk.injEq,and_true] at he;obtain⟨rfl,rfl⟩:=he;have n1:W4.drew.cell? ⟨b4,o4+1,none⟩=some (.int .i64 m):=by simpa using hcc1 0 _ rfl
  obtain⟨b4'',o4'',he,_,hcc2⟩:=hc4 2 sI;simp only [Option.some.injEq,Addr.mk.injEq,and_true] at he;obtain⟨rfl,rfl⟩:=he;have n2:W4.drew.cell? ⟨b4,o4+2,none⟩=some (.int .i64 o):=by simpa using hcc2 0 _ rfl
  have HR:=mH (aI hr h5');have hS:RsC W4.drew b off b4 o4 W n m:=⟨d0,hwc 1 oM,hwc 3 oM,n0,n1,hb0,hb4⟩;have H5:=mH (aI H4.o.1.drew (aI H4.o.2.1.drew (aI n2 (show w.heap.size<W4.drew.heap.size from H4.o.2.2.2.2.1))));clear hr h5' h5 hcc hcc1 hcc2 n2 hc4 hwc d0 n0 n1 hns hown H4 hcap4 hmax4 hb0 hb4;go_wp2_with fail;refine qA.start (λw'=>RsC w' b off b4 o4 W n m) [19] kR ?_;generalize W4.drew=W5 at *;refine qA.q 0 ?_;refine qA.q 1 ?_;refine qA.t 2 hS ?_;refine qA.q 3 ?_;refine qA.q 4 ?_;refine qA.t 5 hS ?_;refine qA.q 6 ?_;refine qA.q 7 ?_;refine qA.t 8 hS ?_;refine qA.q 9 ?_;refine qA.q 10 ?_;refine qA.q 11 ?_;refine qA.t 12 hS ?_;refine qA.q 13 ?_;refine qA.q 14 ?_;refine qA.t 15 hS ?_;refine qA.q 16 ?_;refine qA.q 17 ?_;refine qA.nx 18 λK hK=>?_;go_simp
  have hS6:=hS.below (qB bR (.cells ↑zX 79) lR);refine hK.out _ _ (λ_ _=>hS6) ?_;clear hK K;try simp only [Act.put,zL,zN,zH,zM,zK,zI]
  refine qA.nx 19 λK hK=>?_;go_simp
  refine qA.o hK ?_;clear hK K;refine qA.done kR ?_;have hx6:=H5.o.2.1.alloc (.cells #[.string (wd W 0),.string (wd W 1),.int .i64 n,.string (wd W 3),.int .i64 m,.int .i64 0] 79);have hB6:Below w.heap.size w (W5.alloc (.cells #[.string (wd W 0),.string (wd W 1),.int .i64 n,.string (wd W 3),.int .i64 m,.int .i64 0] 79)):=H5.o.1.trans (qB bR _ (by have:=H5.o.2.2.2;omega));have hx8:qC (W5.alloc (.cells #[.string (wd W 0),.string (wd W 1),.int .i64 n,.string (wd W 3),.int .i64 m,.int .i64 0] 79)) W5.heap.size #[.string (wd W 0),.string (wd W 1),.int .i64 n,.string (wd W 3),.int .i64 m,.int .i64 0] 79:=qC.new _ _ _;have n2:(W5.alloc (.cells #[.string (wd W 0),.string (wd W 1),.int .i64 n,.string (wd W 3),.int .i64 m,.int .i64 0] 79)).cell? ⟨b4,o4+2,none⟩=some (.int .i64 o):=((qB bR _ lR).cell (p:=⟨b4,o4+2,none⟩) hS.2.2.2.2.2.2).trans H5.o.2.2.1;have hlt:=H5.o.2.2.2;clear hS H5;obtain⟨b8,hb8⟩:=eX (W5.heap.size);rw [hb8] at hx8 hlt ⊢;generalize W5.alloc (.cells #[.string (wd W 0),.string (wd W 1),.int .i64 n,.string (wd W 3),.int .i64 m,.int .i64 0] 79)=W6 at *;clear hb8;obtain⟨x0,x1,x2,x3,x4,x5,hfz⟩:=hx6.at6;have f0:=hfz 0;have f1:=hfz 1;have f2:=hfz 2;have f3:=hfz 3;have f4:=hfz 4;have f5:=hfz 5;obtain⟨y0,y1,y2,y3,y4,y5,hfy⟩:=hx8.at6;have g5:=hfy 5;have HF:=mH (aI hx6 hB6);clear hx6 hB6 hx8 hfz hfy;go_wp2;refine bodyPost_ret (v:=.tuple #[.agg #[.string (wd W 0),.string (wd W 1),.int .i64 n,.string (wd W 3),.int .i64 m,.int .i64 o],.bool true]) ?_ rfl ⟨?_,?_⟩
  ·exact qF rfl _ _ w.heap.size 79 #[.string (wd W 0),.string (wd W 1),.int .i64 n,.string (wd W 3),.int .i64 m,.int .i64 o] _ (0,0) _ rfl rfl (qC.fill6 (HF.o.1.setOther oM 5 _)) underlying79 rfl kR
  ·rw [HR.o.1];rfl
  ·exact Below.fill6 (HF.o.2.setCell (by show w.heap.size≤b8;omega) _) lR _ _ _ _ _ _
end Go.Proofs.YtbgnlfgkgklkdaaGreatDoor
