/- Parts of the proof of ScriptsAnswered: StA. No condition. -/
import Derived.Test.YtbgnlfgkgklkdaaGreatDoorZ39
set_option linter.unusedVariables false
set_option linter.unusedSimpArgs false
set_option maxHeartbeats 8000000
set_option maxRecDepth 100000
namespace Go.Proofs.YtbgnlfgkgklkdaaGreatDoor
open Go Go.RowKit Tryz
theorem qHJ (W:List ByteArray) (i:Nat):wd (W.drop 1) i=wd W (i+1):=by
 unfold wd;rw [List.getElem?_drop,Nat.add_comm]
theorem qKi {most:Nat} {W:List ByteArray} {s:qE} (h:rdS most (W.drop 1)=some s):s.site=wd W 1∧s.x.cable=wd W 2∧s.y.cable=wd W 4:=by
 unfold rdS at h;simp only [qHJ] at h;obtain⟨n,_,h⟩:=Option.bind_eq_some_iff.1 h;obtain⟨m,_,h⟩:=Option.bind_eq_some_iff.1 h
 split at h
 ·obtain⟨o,_,rfl⟩:=Option.map_eq_some_iff.1 h;exact⟨rfl,rfl,rfl⟩
 ·obtain rfl:=Option.some.inj h;exact⟨rfl,rfl,rfl⟩
theorem qJt {most:Nat} {W:List ByteArray} (hw:wd W 0=qAR) (hl:W.length=7):qX most W=if qL (wd W 1)=true∧qL (wd W 2)=true∧qL (wd W 4)=true then (rdS most (W.drop 1)).map (λs=>{ qAx with kind:=3,spc:=s }) else none:=by
 unfold qX;rw [hw,if_neg (λh=>absurd h.1 dE),if_neg (λh=>absurd h.1 dE),if_pos ⟨rfl,hl⟩];unfold rdS qAW;have h6:(W.drop 1).length=6:=by rw [List.length_drop];omega
 simp only [qHJ,h6,if_true]
 congr 1
 cases jH most (wd W 3).data.toList <;> cases jH most (wd W 5).data.toList <;> cases jH most (wd W 6).data.toList <;> rfl
theorem qLF {most:Nat} {W:List ByteArray} (hw:wd W 0=qAt) (hl:W.length=6):qX most W=if qL (wd W 1)=true∧qL (wd W 2)=true∧qL (wd W 4)=true then (rdS most (W.drop 1)).map (λs=>{ qAx with kind:=4,spc:=s }) else none:=by
 unfold qX;rw [hw,if_neg (λh=>absurd h.1 dE),if_neg (λh=>absurd h.1 dE),if_neg (λh=>absurd h.1 dE),if_pos ⟨rfl,hl⟩];unfold rdS qAW;have h6:¬(W.drop 1).length=6:=by rw [List.length_drop];omega
 simp only [qHJ,h6,if_false]
 congr 1
 cases jH most (wd W 3).data.toList <;> cases jH most (wd W 5).data.toList <;> rfl
theorem qLY {W4 w:World} {k:Int} (s:qE) (h:qC W4 w.heap.size #[.string ⟨#[]⟩,.int .i64 0,.int .i64 0,.int .i64 k,.string ⟨#[]⟩,.int .i64 0,.string ⟨#[]⟩,.string ⟨#[]⟩,.string ⟨#[]⟩,.int .i64 0,.int .i64 0,.string ⟨#[]⟩,.string ⟨#[]⟩,.int .i64 0,.string ⟨#[]⟩,.int .i64 0,.int .i64 0] 81) (hB:Below w.heap.size w W4):qC ((((((W4.setCell ⟨w.heap.size,11,none⟩ (.string (s).site)).setCell ⟨w.heap.size,12,none⟩ (.string (s).x.cable)).setCell ⟨w.heap.size,13,none⟩ (.int .i64 (s).x.no)).setCell ⟨w.heap.size,14,none⟩ (.string (s).y.cable)).setCell ⟨w.heap.size,15,none⟩ (.int .i64 (s).y.no)).setCell ⟨w.heap.size,16,none⟩ (.int .i64 (s).loss)) w.heap.size ↑(⟨⟨#[]⟩,0,0,k,⟨⟨#[]⟩,0⟩,⟨⟨#[]⟩,⟨#[]⟩,⟨#[]⟩,0,0⟩,s⟩:qD) 81∧Below w.heap.size w ((((((W4.setCell ⟨w.heap.size,11,none⟩ (.string (s).site)).setCell ⟨w.heap.size,12,none⟩ (.string (s).x.cable)).setCell ⟨w.heap.size,13,none⟩ (.int .i64 (s).x.no)).setCell ⟨w.heap.size,14,none⟩ (.string (s).y.cable)).setCell ⟨w.heap.size,15,none⟩ (.int .i64 (s).y.no)).setCell ⟨w.heap.size,16,none⟩ (.int .i64 (s).loss)) :=
 ⟨((((((h.set 11 _).set 12 _).set 13 _).set 14 _).set 15 _).set 16 _),(((((hB.setCell lR _).setCell lR _).setCell lR _).setCell lR _).setCell lR _).setCell lR _⟩
theorem qPA (W:List ByteArray) (v:Value) (most:Nat) (hm:most≤17) (w:World) (hA:qI strCells 1 w W v) (h0:0<W.length) (hs:∀x∈W,x.size≤1000000) (hw:wd W 0=qAR) (hl:W.length=7):Calls prog 57 #[v,.int .i64 most] w (qCK (qX most W) w):=by
 obtain⟨b,off,cap,rfl,hcap,hmax,hb,hcell⟩:=qAF hA h0;have hD:=qCy 1 hA oM;have hcn:¬cap=1:=by omega
 rw [if_neg hcn,hl] at hD;have d0:w.cell? ⟨b,off,none⟩=some (.string (wd W 0)):=hcell 0 h0;have q0:((wd W 0).toList==[115,105,116,101])=false:=qR (c:=qA0) (by rw [hw];decide) rfl;have q1:((wd W 0).toList==[99,97,98,108,101])=false:=qR (c:=qAE) (by rw [hw];decide) rfl;have q2:((wd W 0).toList==[106,111,105,110])=true:=qBZ (c:=qAR) hw rfl;have q3:((wd W 0).toList==[99,117,116])=false:=qR (c:=qAt) (by rw [hw];decide) rfl;have q4:((wd W 0).toList==[114,101,116,105,114,101])=false:=qR (c:=jL) (by rw [hw];decide) rfl;have hl1:((W.length:Int)==7)=true:=by simp;omega
 have h0i:0<W.length:=h0;have h1i:(1:Int)≤W.length:=by omega
 have hci:(W.length:Int)≤cap:=by omega
 have hR:=qJt (most:=most) hw hl;have hsd:∀x∈W.drop 1,x.size≤1000000:=λx hx=>hs x (List.mem_of_mem_drop hx)
 have hbx:qC (w.alloc (.cells #[.string ⟨#[]⟩,.int .i64 0,.int .i64 0,.int .i64 3,.string ⟨#[]⟩,.int .i64 0,.string ⟨#[]⟩,.string ⟨#[]⟩,.string ⟨#[]⟩,.int .i64 0,.int .i64 0,.string ⟨#[]⟩,.string ⟨#[]⟩,.int .i64 0,.string ⟨#[]⟩,.int .i64 0,.int .i64 0] 81)) w.heap.size #[.string ⟨#[]⟩,.int .i64 0,.int .i64 0,.int .i64 3,.string ⟨#[]⟩,.int .i64 0,.string ⟨#[]⟩,.string ⟨#[]⟩,.string ⟨#[]⟩,.int .i64 0,.int .i64 0,.string ⟨#[]⟩,.string ⟨#[]⟩,.int .i64 0,.string ⟨#[]⟩,.int .i64 0,.int .i64 0] 81:=qC.new w _ _;have hBa:Below w.heap.size w (w.alloc (.cells #[.string ⟨#[]⟩,.int .i64 0,.int .i64 0,.int .i64 3,.string ⟨#[]⟩,.int .i64 0,.string ⟨#[]⟩,.string ⟨#[]⟩,.string ⟨#[]⟩,.int .i64 0,.int .i64 0,.string ⟨#[]⟩,.string ⟨#[]⟩,.int .i64 0,.string ⟨#[]⟩,.int .i64 0,.int .i64 0] 81)):=qB bR _ lR;have H1:=mH (aI hbx (aI hBa (aI (hD.below hBa) (aI hR hsd))));clear hA hs hw hcell hR hbx hBa hD hsd;generalize qX most W=RE at *;generalize wd W 0=Q at *;go_enter func57,ntmps57;go_wp2_with fail;obtain⟨o,ho⟩:=eX (rdS most (W.drop 1));have hcall:=qG9 (W.drop 1) _ most hm _ H1.o.2.2.1 (by rw [List.length_drop];omega) H1.o.2.2.2.2;rw [ho] at hcall;obtain⟨s0,hs0⟩:∃s0:qE,o.getD qAi=s0:=⟨_,rfl⟩;obtain⟨bo,hbo⟩:=eX (o.isSome);unfold qF8 at hcall;rw [hs0,hbo] at hcall;refine hcall.mono ?_;rintro e' W4 ⟨rfl,hb4⟩;clear hcall;have hx4:=H1.o.1.below hb4 H1.o.1.lt;have hB4:Below w.heap.size w W4:=H1.o.2.1.trans (hb4.mono H1.o.2.1.size);have HRE:=mH H1.o.2.2.2.1;have e11:=hx4.cell 11 (.string ⟨#[]⟩) rfl
 have e12:=hx4.cell 12 (.string ⟨#[]⟩) rfl;have e13:=hx4.cell 13 (.int .i64 0) rfl;have e14:=hx4.cell 14 (.string ⟨#[]⟩) rfl;have e15:=hx4.cell 15 (.int .i64 0) rfl;have e16:=hx4.cell 16 (.int .i64 0) rfl;have f11:=hx4.free 11;have f12:=hx4.free 12;have f13:=hx4.free 13;have f14:=hx4.free 14;have f15:=hx4.free 15;have f16:=hx4.free 16;have HX4:=mH (aI hx4 hB4);clear hx4 hB4 hb4 H1
 rcases o with _|s
 ·obtain rfl:false=bo:=hbo;clear hs0;have HV:Hx (RE=none):=by
   refine mH ?_;rw [HRE.o,ho];split <;> rfl
  have hF:=qLY s0 HX4.o.1 HX4.o.2;have HB4:=mH hF;clear ho hF HRE;go_upto_region 18 with fail;go_wp2_with (first|(refine qT rfl 81 _ _ rfl (w.heap.size) _ ↑zE rF rF (HB4.o.1) kR rfl (qEW) ?_))
  (refine bodyPost_ret (v:=.tuple #[.agg ↑zE,.bool false]) ?_ rfl ⟨?_,?_⟩;(· exact qF rfl _ _ w.heap.size 81 ↑zE _ (0,0) _ rfl rfl (qC.setRow HB4.o.1) underlying81 rfl kR))
  ·rw [HV.o];rfl
  ·exact Below.setRow HB4.o.2 lR
 obtain rfl:true=bo:=hbo;obtain rfl:s=s0:=hs0;have hn:=qKi ho;have hR2:((jY (⟨⟨#[]⟩,0,0,3,⟨⟨#[]⟩,0⟩,⟨⟨#[]⟩,⟨#[]⟩,⟨#[]⟩,0,0⟩,s⟩:qD)).any (λs=>!qL s)=false→RE=some (⟨⟨#[]⟩,0,0,3,⟨⟨#[]⟩,0⟩,⟨⟨#[]⟩,⟨#[]⟩,⟨#[]⟩,0,0⟩,s⟩:qD))∧((jY (⟨⟨#[]⟩,0,0,3,⟨⟨#[]⟩,0⟩,⟨⟨#[]⟩,⟨#[]⟩,⟨#[]⟩,0,0⟩,s⟩:qD)).any (λs=>!qL s)=true→RE=none):=by
  rw [HRE.o,ho];have:jY (⟨⟨#[]⟩,0,0,3,⟨⟨#[]⟩,0⟩,⟨⟨#[]⟩,⟨#[]⟩,⟨#[]⟩,0,0⟩,s⟩:qD)=[s.site,s.x.cable,s.y.cable]:=rfl;rw [this,hn.1,hn.2.1,hn.2.2]
  by_cases hk:qL (wd W 1)=true∧qL (wd W 2)=true∧qL (wd W 4)=true
  ·rw [if_pos hk];exact⟨λ_=>rfl,λh=>by simp [hk.1,hk.2.1,hk.2.2] at h⟩
  ·rw [if_neg hk];exact⟨λh=>absurd (by simpa using h) hk,λ_=>rfl⟩
 have HR:=mH hR2;have hF:=qLY s HX4.o.1 HX4.o.2;have HB4:=mH hF;clear ho hF HRE hn hR2;obtain⟨z0,z1,z2,z3,z4,z5,z6,z7,z8,z9,z10,z11,z12,z13,z14,z15,z16⟩:=qHF (x:=(⟨⟨#[]⟩,0,0,3,⟨⟨#[]⟩,0⟩,⟨⟨#[]⟩,⟨#[]⟩,⟨#[]⟩,0,0⟩,s⟩:qD)) HB4.o.1;go_wp2_with fail;clear z0 z1 z2 z3 z4 z5 z6 z7 z8 z9 z10 z11 z12 z13 z14 z15 z16;refine(qEx (⟨⟨#[]⟩,0,0,3,⟨⟨#[]⟩,0⟩,⟨⟨#[]⟩,⟨#[]⟩,⟨#[]⟩,0,0⟩,s⟩:qD) _).mono ?_;rintro e' W5 ⟨v5,rfl,hv5,hb5⟩;have HB5:=mH (aI (HB4.o.1.below hb5 HB4.o.1.lt) (aI (HB4.o.2.trans (hb5.mono HB4.o.2.size)) hv5));clear hb5 hv5 HB4;go_wp2_with fail;refine(qCN v5 (jY (⟨⟨#[]⟩,0,0,3,⟨⟨#[]⟩,0⟩,⟨⟨#[]⟩,⟨#[]⟩,⟨#[]⟩,0,0⟩,s⟩:qD)) (λs=>!qL s) 88 #[] W5 HB5.o.2.2 (qAB func88 kR rfl) (λs w' _ _=>qER s w')).mono ?_;rintro e' W6 ⟨rfl,hb6⟩;have HB6:=mH (aI (HB5.o.1.below hb6 HB5.o.1.lt) (HB5.o.2.1.trans (hb6.mono HB5.o.2.1.size)));clear hb6 HB5
 cases hn:(jY (⟨⟨#[]⟩,0,0,3,⟨⟨#[]⟩,0⟩,⟨⟨#[]⟩,⟨#[]⟩,⟨#[]⟩,0,0⟩,s⟩:qD)).any (λs=>!qL s)
 ·have he6:=mH (qV.box (x:=(⟨⟨#[]⟩,0,0,3,⟨⟨#[]⟩,0⟩,⟨⟨#[]⟩,⟨#[]⟩,⟨#[]⟩,0,0⟩,s⟩:qD)) HB6.o.1);have HV:=mH (HR.o.1 hn);clear hn;go_wp2_with (first|(refine wpList_load_mid rfl 81 _ rfl (w.heap.size) (0) rF ↑(⟨⟨#[]⟩,0,0,3,⟨⟨#[]⟩,0⟩,⟨⟨#[]⟩,⟨#[]⟩,⟨#[]⟩,0,0⟩,s⟩:qD) _ (he6.o) underlying81 rfl kR ?_)|(refine qT rfl 81 _ _ rfl (w.heap.size) _ ↑(⟨⟨#[]⟩,0,0,3,⟨⟨#[]⟩,0⟩,⟨⟨#[]⟩,⟨#[]⟩,⟨#[]⟩,0,0⟩,s⟩:qD) rF rF (HB6.o.1) kR rfl (zS (⟨⟨#[]⟩,0,0,3,⟨⟨#[]⟩,0⟩,⟨⟨#[]⟩,⟨#[]⟩,⟨#[]⟩,0,0⟩,s⟩:qD)) ?_))
  (refine bodyPost_ret (v:=.tuple #[.agg ↑(⟨⟨#[]⟩,0,0,3,⟨⟨#[]⟩,0⟩,⟨⟨#[]⟩,⟨#[]⟩,⟨#[]⟩,0,0⟩,s⟩:qD),.bool true]) ?_ rfl ⟨?_,?_⟩;(· exact qF rfl _ _ w.heap.size 81 ↑(⟨⟨#[]⟩,0,0,3,⟨⟨#[]⟩,0⟩,⟨⟨#[]⟩,⟨#[]⟩,⟨#[]⟩,0,0⟩,s⟩:qD) _ (0,0) _ rfl rfl (qC.setRow HB6.o.1) underlying81 rfl kR))
  ·rw [HV.o];rfl
  ·exact Below.setRow HB6.o.2 lR
 ·have HV:=mH (HR.o.2 hn);clear hn;go_wp2_with (first|(refine qT rfl 81 _ _ rfl (w.heap.size) _ ↑zE rF rF (HB6.o.1) kR rfl (qEW) ?_))
  (refine bodyPost_ret (v:=.tuple #[.agg ↑zE,.bool false]) ?_ rfl ⟨?_,?_⟩;(· exact qF rfl _ _ w.heap.size 81 ↑zE _ (0,0) _ rfl rfl (qC.setRow HB6.o.1) underlying81 rfl kR))
  ·rw [HV.o];rfl
  ·exact Below.setRow HB6.o.2 lR
theorem qPb (W:List ByteArray) (v:Value) (most:Nat) (hm:most≤17) (w:World) (hA:qI strCells 1 w W v) (h0:0<W.length) (hs:∀x∈W,x.size≤1000000) (hw:wd W 0=qAt) (hl:W.length=6):Calls prog 57 #[v,.int .i64 most] w (qCK (qX most W) w):=by
 obtain⟨b,off,cap,rfl,hcap,hmax,hb,hcell⟩:=qAF hA h0;have hD:=qCy 1 hA oM;have hcn:¬cap=1:=by omega
 rw [if_neg hcn,hl] at hD;have d0:w.cell? ⟨b,off,none⟩=some (.string (wd W 0)):=hcell 0 h0;have q0:((wd W 0).toList==[115,105,116,101])=false:=qR (c:=qA0) (by rw [hw];decide) rfl;have q1:((wd W 0).toList==[99,97,98,108,101])=false:=qR (c:=qAE) (by rw [hw];decide) rfl;have q2:((wd W 0).toList==[106,111,105,110])=false:=qR (c:=qAR) (by rw [hw];decide) rfl;have q3:((wd W 0).toList==[99,117,116])=true:=qBZ (c:=qAt) hw rfl;have q4:((wd W 0).toList==[114,101,116,105,114,101])=false:=qR (c:=jL) (by rw [hw];decide) rfl;have hl1:((W.length:Int)==6)=true:=by simp;omega
 have h0i:0<W.length:=h0;have h1i:(1:Int)≤W.length:=by omega
 have hci:(W.length:Int)≤cap:=by omega
 have hR:=qLF (most:=most) hw hl;have hsd:∀x∈W.drop 1,x.size≤1000000:=λx hx=>hs x (List.mem_of_mem_drop hx)
 have hbx:qC (w.alloc (.cells #[.string ⟨#[]⟩,.int .i64 0,.int .i64 0,.int .i64 4,.string ⟨#[]⟩,.int .i64 0,.string ⟨#[]⟩,.string ⟨#[]⟩,.string ⟨#[]⟩,.int .i64 0,.int .i64 0,.string ⟨#[]⟩,.string ⟨#[]⟩,.int .i64 0,.string ⟨#[]⟩,.int .i64 0,.int .i64 0] 81)) w.heap.size #[.string ⟨#[]⟩,.int .i64 0,.int .i64 0,.int .i64 4,.string ⟨#[]⟩,.int .i64 0,.string ⟨#[]⟩,.string ⟨#[]⟩,.string ⟨#[]⟩,.int .i64 0,.int .i64 0,.string ⟨#[]⟩,.string ⟨#[]⟩,.int .i64 0,.string ⟨#[]⟩,.int .i64 0,.int .i64 0] 81:=qC.new w _ _;have hBa:Below w.heap.size w (w.alloc (.cells #[.string ⟨#[]⟩,.int .i64 0,.int .i64 0,.int .i64 4,.string ⟨#[]⟩,.int .i64 0,.string ⟨#[]⟩,.string ⟨#[]⟩,.string ⟨#[]⟩,.int .i64 0,.int .i64 0,.string ⟨#[]⟩,.string ⟨#[]⟩,.int .i64 0,.string ⟨#[]⟩,.int .i64 0,.int .i64 0] 81)):=qB bR _ lR;have H1:=mH (aI hbx (aI hBa (aI (hD.below hBa) (aI hR hsd))));clear hA hs hw hcell hR hbx hBa hD hsd;generalize qX most W=RE at *;generalize wd W 0=Q at *;go_enter func57,ntmps57;go_wp2_with fail;obtain⟨o,ho⟩:=eX (rdS most (W.drop 1));have hcall:=qG9 (W.drop 1) _ most hm _ H1.o.2.2.1 (by rw [List.length_drop];omega) H1.o.2.2.2.2;rw [ho] at hcall;obtain⟨s0,hs0⟩:∃s0:qE,o.getD qAi=s0:=⟨_,rfl⟩;obtain⟨bo,hbo⟩:=eX (o.isSome);unfold qF8 at hcall;rw [hs0,hbo] at hcall;refine hcall.mono ?_;rintro e' W4 ⟨rfl,hb4⟩;clear hcall;have hx4:=H1.o.1.below hb4 H1.o.1.lt;have hB4:Below w.heap.size w W4:=H1.o.2.1.trans (hb4.mono H1.o.2.1.size);have HRE:=mH H1.o.2.2.2.1;have e11:=hx4.cell 11 (.string ⟨#[]⟩) rfl
 have e12:=hx4.cell 12 (.string ⟨#[]⟩) rfl;have e13:=hx4.cell 13 (.int .i64 0) rfl;have e14:=hx4.cell 14 (.string ⟨#[]⟩) rfl;have e15:=hx4.cell 15 (.int .i64 0) rfl;have e16:=hx4.cell 16 (.int .i64 0) rfl;have f11:=hx4.free 11;have f12:=hx4.free 12;have f13:=hx4.free 13;have f14:=hx4.free 14;have f15:=hx4.free 15;have f16:=hx4.free 16;have HX4:=mH (aI hx4 hB4);clear hx4 hB4 hb4 H1
 rcases o with _|s
 ·obtain rfl:false=bo:=hbo;clear hs0;have HV:Hx (RE=none):=by
   refine mH ?_;rw [HRE.o,ho];split <;> rfl
  have hF:=qLY s0 HX4.o.1 HX4.o.2;have HB4:=mH hF;clear ho hF HRE;go_upto_region 18 with fail;go_wp2_with (first|(refine qT rfl 81 _ _ rfl (w.heap.size) _ ↑zE rF rF (HB4.o.1) kR rfl (qEW) ?_))
  (refine bodyPost_ret (v:=.tuple #[.agg ↑zE,.bool false]) ?_ rfl ⟨?_,?_⟩;(· exact qF rfl _ _ w.heap.size 81 ↑zE _ (0,0) _ rfl rfl (qC.setRow HB4.o.1) underlying81 rfl kR))
  ·rw [HV.o];rfl
  ·exact Below.setRow HB4.o.2 lR
 obtain rfl:true=bo:=hbo;obtain rfl:s=s0:=hs0;have hn:=qKi ho;have hR2:((jY (⟨⟨#[]⟩,0,0,4,⟨⟨#[]⟩,0⟩,⟨⟨#[]⟩,⟨#[]⟩,⟨#[]⟩,0,0⟩,s⟩:qD)).any (λs=>!qL s)=false→RE=some (⟨⟨#[]⟩,0,0,4,⟨⟨#[]⟩,0⟩,⟨⟨#[]⟩,⟨#[]⟩,⟨#[]⟩,0,0⟩,s⟩:qD))∧((jY (⟨⟨#[]⟩,0,0,4,⟨⟨#[]⟩,0⟩,⟨⟨#[]⟩,⟨#[]⟩,⟨#[]⟩,0,0⟩,s⟩:qD)).any (λs=>!qL s)=true→RE=none):=by
  rw [HRE.o,ho];have:jY (⟨⟨#[]⟩,0,0,4,⟨⟨#[]⟩,0⟩,⟨⟨#[]⟩,⟨#[]⟩,⟨#[]⟩,0,0⟩,s⟩:qD)=[s.site,s.x.cable,s.y.cable]:=rfl;rw [this,hn.1,hn.2.1,hn.2.2]
  by_cases hk:qL (wd W 1)=true∧qL (wd W 2)=true∧qL (wd W 4)=true
  ·rw [if_pos hk];exact⟨λ_=>rfl,λh=>by simp [hk.1,hk.2.1,hk.2.2] at h⟩
  ·rw [if_neg hk];exact⟨λh=>absurd (by simpa using h) hk,λ_=>rfl⟩
 have HR:=mH hR2;have hF:=qLY s HX4.o.1 HX4.o.2;have HB4:=mH hF;clear ho hF HRE hn hR2;obtain⟨z0,z1,z2,z3,z4,z5,z6,z7,z8,z9,z10,z11,z12,z13,z14,z15,z16⟩:=qHF (x:=(⟨⟨#[]⟩,0,0,4,⟨⟨#[]⟩,0⟩,⟨⟨#[]⟩,⟨#[]⟩,⟨#[]⟩,0,0⟩,s⟩:qD)) HB4.o.1;go_wp2_with fail;clear z0 z1 z2 z3 z4 z5 z6 z7 z8 z9 z10 z11 z12 z13 z14 z15 z16;refine(qEx (⟨⟨#[]⟩,0,0,4,⟨⟨#[]⟩,0⟩,⟨⟨#[]⟩,⟨#[]⟩,⟨#[]⟩,0,0⟩,s⟩:qD) _).mono ?_;rintro e' W5 ⟨v5,rfl,hv5,hb5⟩;have HB5:=mH (aI (HB4.o.1.below hb5 HB4.o.1.lt) (aI (HB4.o.2.trans (hb5.mono HB4.o.2.size)) hv5));clear hb5 hv5 HB4;go_wp2_with fail;refine(qCN v5 (jY (⟨⟨#[]⟩,0,0,4,⟨⟨#[]⟩,0⟩,⟨⟨#[]⟩,⟨#[]⟩,⟨#[]⟩,0,0⟩,s⟩:qD)) (λs=>!qL s) 88 #[] W5 HB5.o.2.2 (qAB func88 kR rfl) (λs w' _ _=>qER s w')).mono ?_;rintro e' W6 ⟨rfl,hb6⟩;have HB6:=mH (aI (HB5.o.1.below hb6 HB5.o.1.lt) (HB5.o.2.1.trans (hb6.mono HB5.o.2.1.size)));clear hb6 HB5
 cases hn:(jY (⟨⟨#[]⟩,0,0,4,⟨⟨#[]⟩,0⟩,⟨⟨#[]⟩,⟨#[]⟩,⟨#[]⟩,0,0⟩,s⟩:qD)).any (λs=>!qL s)
 ·have he6:=mH (qV.box (x:=(⟨⟨#[]⟩,0,0,4,⟨⟨#[]⟩,0⟩,⟨⟨#[]⟩,⟨#[]⟩,⟨#[]⟩,0,0⟩,s⟩:qD)) HB6.o.1);have HV:=mH (HR.o.1 hn);clear hn;go_wp2_with (first|(refine wpList_load_mid rfl 81 _ rfl (w.heap.size) (0) rF ↑(⟨⟨#[]⟩,0,0,4,⟨⟨#[]⟩,0⟩,⟨⟨#[]⟩,⟨#[]⟩,⟨#[]⟩,0,0⟩,s⟩:qD) _ (he6.o) underlying81 rfl kR ?_)|(refine qT rfl 81 _ _ rfl (w.heap.size) _ ↑(⟨⟨#[]⟩,0,0,4,⟨⟨#[]⟩,0⟩,⟨⟨#[]⟩,⟨#[]⟩,⟨#[]⟩,0,0⟩,s⟩:qD) rF rF (HB6.o.1) kR rfl (zS (⟨⟨#[]⟩,0,0,4,⟨⟨#[]⟩,0⟩,⟨⟨#[]⟩,⟨#[]⟩,⟨#[]⟩,0,0⟩,s⟩:qD)) ?_))
  (refine bodyPost_ret (v:=.tuple #[.agg ↑(⟨⟨#[]⟩,0,0,4,⟨⟨#[]⟩,0⟩,⟨⟨#[]⟩,⟨#[]⟩,⟨#[]⟩,0,0⟩,s⟩:qD),.bool true]) ?_ rfl ⟨?_,?_⟩;(· exact qF rfl _ _ w.heap.size 81 ↑(⟨⟨#[]⟩,0,0,4,⟨⟨#[]⟩,0⟩,⟨⟨#[]⟩,⟨#[]⟩,⟨#[]⟩,0,0⟩,s⟩:qD) _ (0,0) _ rfl rfl (qC.setRow HB6.o.1) underlying81 rfl kR))
  ·rw [HV.o];rfl
  ·exact Below.setRow HB6.o.2 lR
 ·have HV:=mH (HR.o.2 hn);clear hn;go_wp2_with (first|(refine qT rfl 81 _ _ rfl (w.heap.size) _ ↑zE rF rF (HB6.o.1) kR rfl (qEW) ?_))
  (refine bodyPost_ret (v:=.tuple #[.agg ↑zE,.bool false]) ?_ rfl ⟨?_,?_⟩;(· exact qF rfl _ _ w.heap.size 81 ↑zE _ (0,0) _ rfl rfl (qC.setRow HB6.o.1) underlying81 rfl kR))
  ·rw [HV.o];rfl
  ·exact Below.setRow HB6.o.2 lR
theorem qLQ (W:List ByteArray) (v:Value) (most:Nat) (hm:most≤17) (w:World) (hA:qI strCells 1 w W v) (h0:0<W.length) (hs:∀x∈W,x.size≤1000000):Calls prog 57 #[v,.int .i64 most] w (qCK (qX most W) w):=by
 have hn:qX most W=none→Calls prog 57 #[v,.int .i64 most] w (qCK none w)→Calls prog 57 #[v,.int .i64 most] w (qCK (qX most W) w):=λh=>by rw [h];exact id
 by_cases h1:wd W 0=qA0
 ·by_cases hl:W.length=3
  ·exact qPW W v most hm w hA h0 hs h1 hl
  ·exact hn (by unfold qX;simp [h1,hl,qA0,qAE,qAR,qAt,jL]) (qIo W v most hm w hA h0 hs h1 hl)
 by_cases h2:wd W 0=qAE
 ·by_cases hl:W.length=6
  ·exact qN1 W v most hm w hA h0 hs h2 hl
  ·exact hn (by unfold qX;simp [h2,hl,qA0,qAE,qAR,qAt,jL]) (qI3 W v most hm w hA h0 hs h2 hl)
 by_cases h3:wd W 0=qAR
 ·by_cases hl:W.length=7
  ·exact qPA W v most hm w hA h0 hs h3 hl
  ·exact hn (by unfold qX;simp [h3,hl,qA0,qAE,qAR,qAt,jL]) (qJA W v most hm w hA h0 hs h3 hl)
 by_cases h4:wd W 0=qAt
 ·by_cases hl:W.length=6
  ·exact qPb W v most hm w hA h0 hs h4 hl
  ·exact hn (by unfold qX;simp [h4,hl,qA0,qAE,qAR,qAt,jL]) (qJT W v most hm w hA h0 hs h4 hl)
 by_cases h5:wd W 0=jL
 ·by_cases hl:W.length=2
  ·exact qLb W v most hm w hA h0 hs h5 hl
  ·exact hn (by unfold qX;simp [h5,hl,qA0,qAE,qAR,qAt,jL]) (qHj W v most hm w hA h0 hs h5 hl)
 exact hn (by unfold qX;simp [h1,h2,h3,h4,h5]) (qOc W v most hm w hA h0 hs h1 h2 h3 h4 h5)
end Go.Proofs.YtbgnlfgkgklkdaaGreatDoor
