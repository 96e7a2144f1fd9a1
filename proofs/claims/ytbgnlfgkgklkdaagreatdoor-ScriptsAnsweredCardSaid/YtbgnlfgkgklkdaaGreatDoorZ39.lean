/- Parts of the proof of ScriptsAnswered: SpJ, SpP, SpX. No condition. -/
import Derived.Test.YtbgnlfgkgklkdaaGreatDoorZ40
set_option linter.unusedVariables false
set_option linter.unusedSimpArgs false
set_option maxHeartbeats 8000000
set_option maxRecDepth 100000
namespace Go.Proofs.YtbgnlfgkgklkdaaGreatDoor
open Go Go.RowKit Tryz
theorem qLb (W:List ByteArray) (v:Value) (most:Nat) (hm:most≤17) (w:World) (hA:qI strCells 1 w W v) (h0:0<W.length) (hs:∀x∈W,x.size≤1000000) (hw:wd W 0=jL) (hl:W.length=2):Calls prog 57 #[v,.int .i64 most] w (qCK (qX most W) w):=by
 (obtain⟨b,off,cap,rfl,hcap,hmax,hb,hcell⟩:=qAF hA h0)
 have d0:w.cell? ⟨b,off,none⟩=some (.string (wd W 0)):=hcell 0 h0;have d1:=hcell 1 oM;have q0:((wd W 0).toList==[115,105,116,101])=false:=qR (c:=qA0) (by rw [hw];decide) rfl;have q1:((wd W 0).toList==[99,97,98,108,101])=false:=qR (c:=qAE) (by rw [hw];decide) rfl;have q2:((wd W 0).toList==[106,111,105,110])=false:=qR (c:=qAR) (by rw [hw];decide) rfl;have q3:((wd W 0).toList==[99,117,116])=false:=qR (c:=qAt) (by rw [hw];decide) rfl;have q4:((wd W 0).toList==[114,101,116,105,114,101])=true:=qBZ (c:=jL) hw rfl;have hl1:((W.length:Int)==2)=true:=by simp;omega
 have h0i:0<W.length:=h0;have h1i:(1:Int)<W.length:=by omega
 have hR:qX most W=if qL (wd W 1)=true then some { qAx with kind:=5,cab:={ qAH with key:=wd W 1 } } else none:=by
  unfold qX;rw [hw,if_neg (λh=>absurd h.1 dE),if_neg (λh=>absurd h.1 dE),if_neg (λh=>absurd h.1 dE),if_neg (λh=>absurd h.1 dE),if_pos ⟨rfl,hl⟩]
 obtain⟨Q1,hQ1⟩:=eX (wd W 1);rw [hQ1] at d1 hR;have hR2:((jY (⟨⟨#[]⟩,0,0,5,⟨⟨#[]⟩,0⟩,⟨Q1,⟨#[]⟩,⟨#[]⟩,0,0⟩,⟨⟨#[]⟩,⟨⟨#[]⟩,0⟩,⟨⟨#[]⟩,0⟩,0⟩⟩:qD)).any (λs=>!qL s)=false→qX most W=some (⟨⟨#[]⟩,0,0,5,⟨⟨#[]⟩,0⟩,⟨Q1,⟨#[]⟩,⟨#[]⟩,0,0⟩,⟨⟨#[]⟩,⟨⟨#[]⟩,0⟩,⟨⟨#[]⟩,0⟩,0⟩⟩:qD))∧((jY (⟨⟨#[]⟩,0,0,5,⟨⟨#[]⟩,0⟩,⟨Q1,⟨#[]⟩,⟨#[]⟩,0,0⟩,⟨⟨#[]⟩,⟨⟨#[]⟩,0⟩,⟨⟨#[]⟩,0⟩,0⟩⟩:qD)).any (λs=>!qL s)=true→qX most W=none):=by
  rw [hR];have:jY (⟨⟨#[]⟩,0,0,5,⟨⟨#[]⟩,0⟩,⟨Q1,⟨#[]⟩,⟨#[]⟩,0,0⟩,⟨⟨#[]⟩,⟨⟨#[]⟩,0⟩,⟨⟨#[]⟩,0⟩,0⟩⟩:qD)=[Q1]:=rfl;rw [this]
  cases hk:qL Q1
  ·simp [hk]
  ·simp only [hk,List.any_cons,List.any_nil];exact⟨λ_=>rfl,λh=>by simp at h⟩
 have hbx:qC (w.alloc (.cells #[.string ⟨#[]⟩,.int .i64 0,.int .i64 0,.int .i64 5,.string ⟨#[]⟩,.int .i64 0,.string Q1,.string ⟨#[]⟩,.string ⟨#[]⟩,.int .i64 0,.int .i64 0,.string ⟨#[]⟩,.string ⟨#[]⟩,.int .i64 0,.string ⟨#[]⟩,.int .i64 0,.int .i64 0] 81)) w.heap.size ↑(⟨⟨#[]⟩,0,0,5,⟨⟨#[]⟩,0⟩,⟨Q1,⟨#[]⟩,⟨#[]⟩,0,0⟩,⟨⟨#[]⟩,⟨⟨#[]⟩,0⟩,⟨⟨#[]⟩,0⟩,0⟩⟩:qD) 81:=qC.new w _ _;have HR:=mH hR2;have HB4:=mH (aI hbx (show Below w.heap.size w (w.alloc (.cells #[.string ⟨#[]⟩,.int .i64 0,.int .i64 0,.int .i64 5,.string ⟨#[]⟩,.int .i64 0,.string Q1,.string ⟨#[]⟩,.string ⟨#[]⟩,.int .i64 0,.int .i64 0,.string ⟨#[]⟩,.string ⟨#[]⟩,.int .i64 0,.string ⟨#[]⟩,.int .i64 0,.int .i64 0] 81)) from qB bR _ lR));clear hA hs hw hcell hR hR2 hbx hQ1;generalize qX most W=RE at *;generalize wd W 0=Q at *;go_enter func57,ntmps57;go_wp2_with fail;refine(qEx (⟨⟨#[]⟩,0,0,5,⟨⟨#[]⟩,0⟩,⟨Q1,⟨#[]⟩,⟨#[]⟩,0,0⟩,⟨⟨#[]⟩,⟨⟨#[]⟩,0⟩,⟨⟨#[]⟩,0⟩,0⟩⟩:qD) _).mono ?_;rintro e' W5 ⟨v5,rfl,hv5,hb5⟩;have HB5:=mH (aI (HB4.o.1.below hb5 HB4.o.1.lt) (aI (HB4.o.2.trans (hb5.mono HB4.o.2.size)) hv5));clear hb5 hv5 HB4;go_wp2_with fail;refine(qCN v5 (jY (⟨⟨#[]⟩,0,0,5,⟨⟨#[]⟩,0⟩,⟨Q1,⟨#[]⟩,⟨#[]⟩,0,0⟩,⟨⟨#[]⟩,⟨⟨#[]⟩,0⟩,⟨⟨#[]⟩,0⟩,0⟩⟩:qD)) (λs=>!qL s) 88 #[] W5 HB5.o.2.2 (qAB func88 kR rfl) (λs w' _ _=>qER s w')).mono ?_;rintro e' W6 ⟨rfl,hb6⟩;have HB6:=mH (aI (HB5.o.1.below hb6 HB5.o.1.lt) (HB5.o.2.1.trans (hb6.mono HB5.o.2.1.size)));clear hb6 HB5
 cases hn:(jY (⟨⟨#[]⟩,0,0,5,⟨⟨#[]⟩,0⟩,⟨Q1,⟨#[]⟩,⟨#[]⟩,0,0⟩,⟨⟨#[]⟩,⟨⟨#[]⟩,0⟩,⟨⟨#[]⟩,0⟩,0⟩⟩:qD)).any (λs=>!qL s)
 ·have he6:=mH (qV.box (x:=(⟨⟨#[]⟩,0,0,5,⟨⟨#[]⟩,0⟩,⟨Q1,⟨#[]⟩,⟨#[]⟩,0,0⟩,⟨⟨#[]⟩,⟨⟨#[]⟩,0⟩,⟨⟨#[]⟩,0⟩,0⟩⟩:qD)) HB6.o.1);have HV:=mH (HR.o.1 hn);clear hn;go_wp2_with (first|(refine wpList_load_mid rfl 81 _ rfl (w.heap.size) (0) rF ↑(⟨⟨#[]⟩,0,0,5,⟨⟨#[]⟩,0⟩,⟨Q1,⟨#[]⟩,⟨#[]⟩,0,0⟩,⟨⟨#[]⟩,⟨⟨#[]⟩,0⟩,⟨⟨#[]⟩,0⟩,0⟩⟩:qD) _ (he6.o) underlying81 rfl kR ?_)|(refine qT rfl 81 _ _ rfl (w.heap.size) _ ↑(⟨⟨#[]⟩,0,0,5,⟨⟨#[]⟩,0⟩,⟨Q1,⟨#[]⟩,⟨#[]⟩,0,0⟩,⟨⟨#[]⟩,⟨⟨#[]⟩,0⟩,⟨⟨#[]⟩,0⟩,0⟩⟩:qD) rF rF (HB6.o.1) kR rfl (zS (⟨⟨#[]⟩,0,0,5,⟨⟨#[]⟩,0⟩,⟨Q1,⟨#[]⟩,⟨#[]⟩,0,0⟩,⟨⟨#[]⟩,⟨⟨#[]⟩,0⟩,⟨⟨#[]⟩,0⟩,0⟩⟩:qD)) ?_))
  (refine bodyPost_ret (v:=.tuple #[.agg ↑(⟨⟨#[]⟩,0,0,5,⟨⟨#[]⟩,0⟩,⟨Q1,⟨#[]⟩,⟨#[]⟩,0,0⟩,⟨⟨#[]⟩,⟨⟨#[]⟩,0⟩,⟨⟨#[]⟩,0⟩,0⟩⟩:qD),.bool true]) ?_ rfl ⟨?_,?_⟩;(· exact qF rfl _ _ w.heap.size 81 ↑(⟨⟨#[]⟩,0,0,5,⟨⟨#[]⟩,0⟩,⟨Q1,⟨#[]⟩,⟨#[]⟩,0,0⟩,⟨⟨#[]⟩,⟨⟨#[]⟩,0⟩,⟨⟨#[]⟩,0⟩,0⟩⟩:qD) _ (0,0) _ rfl rfl (qC.setRow HB6.o.1) underlying81 rfl kR))
  ·rw [HV.o];rfl
  ·exact Below.setRow HB6.o.2 lR
 ·have HV:=mH (HR.o.2 hn);clear hn;go_wp2_with (first|(refine qT rfl 81 _ _ rfl (w.heap.size) _ ↑zE rF rF (HB6.o.1) kR rfl (qEW) ?_))
  (refine bodyPost_ret (v:=.tuple #[.agg ↑zE,.bool false]) ?_ rfl ⟨?_,?_⟩;(· exact qF rfl _ _ w.heap.size 81 ↑zE _ (0,0) _ rfl rfl (qC.setRow HB6.o.1) underlying81 rfl kR))
  ·rw [HV.o];rfl
  ·exact Below.setRow HB6.o.2 lR
theorem qHF {W:World} {b:Nat} {x:qD} {t:TypeId} (h:qC W b ↑x t):W.cell? ⟨b,0,none⟩=some (.string x.team)∧W.cell? ⟨b,1,none⟩=some (.int .i64 x.no)∧W.cell? ⟨b,2,none⟩=some (.int .i64 x.at_)∧W.cell? ⟨b,3,none⟩=some (.int .i64 x.kind)∧W.cell? ⟨b,4,none⟩=some (.string x.site.key)∧W.cell? ⟨b,5,none⟩=some (.int .i64 x.site.kind)∧W.cell? ⟨b,6,none⟩=some (.string x.cab.key)∧W.cell? ⟨b,7,none⟩=some (.string x.cab.a)∧W.cell? ⟨b,8,none⟩=some (.string x.cab.b)∧W.cell? ⟨b,9,none⟩=some (.int .i64 x.cab.long)∧W.cell? ⟨b,10,none⟩=some (.int .i64 x.cab.fibs)∧W.cell? ⟨b,11,none⟩=some (.string x.spc.site)∧W.cell? ⟨b,12,none⟩=some (.string x.spc.x.cable)∧W.cell? ⟨b,13,none⟩=some (.int .i64 x.spc.x.no)∧W.cell? ⟨b,14,none⟩=some (.string x.spc.y.cable)∧W.cell? ⟨b,15,none⟩=some (.int .i64 x.spc.y.no)∧W.cell? ⟨b,16,none⟩=some (.int .i64 x.spc.loss) :=
 ⟨h.cell 0 _ rfl,h.cell 1 _ rfl,h.cell 2 _ rfl,h.cell 3 _ rfl,h.cell 4 _ rfl,h.cell 5 _ rfl,h.cell 6 _ rfl,h.cell 7 _ rfl,h.cell 8 _ rfl,h.cell 9 _ rfl,h.cell 10 _ rfl,h.cell 11 _ rfl,h.cell 12 _ rfl,h.cell 13 _ rfl,h.cell 14 _ rfl,h.cell 15 _ rfl,h.cell 16 _ rfl⟩
theorem qPW (W:List ByteArray) (v:Value) (most:Nat) (hm:most≤17) (w:World) (hA:qI strCells 1 w W v) (h0:0<W.length) (hs:∀x∈W,x.size≤1000000) (hw:wd W 0=qA0) (hl:W.length=3):Calls prog 57 #[v,.int .i64 most] w (qCK (qX most W) w):=by
 (obtain⟨b,off,cap,rfl,hcap,hmax,hb,hcell⟩:=qAF hA h0)
 have d0:w.cell? ⟨b,off,none⟩=some (.string (wd W 0)):=hcell 0 h0;have d1:=hcell 1 oM;have d2:=hcell 2 oM;have q0:((wd W 0).toList==[115,105,116,101])=true:=qBZ (c:=qA0) hw rfl;have q1:((wd W 0).toList==[99,97,98,108,101])=false:=qR (c:=qAE) (by rw [hw];decide) rfl;have q2:((wd W 0).toList==[106,111,105,110])=false:=qR (c:=qAR) (by rw [hw];decide) rfl;have q3:((wd W 0).toList==[99,117,116])=false:=qR (c:=qAt) (by rw [hw];decide) rfl;have q4:((wd W 0).toList==[114,101,116,105,114,101])=false:=qR (c:=jL) (by rw [hw];decide) rfl;have hl1:((W.length:Int)==3)=true:=by simp;omega
 have h0i:0<W.length:=h0;have h1i:(1:Int)<W.length:=by omega
 have h2i:(2:Int)<W.length:=by omega
 have hR:qX most W=if qL (wd W 1)=true∧qBk (wd W 2)≠0 then some { qAx with kind:=1,site:=⟨wd W 1,qBk (wd W 2)⟩ } else none:=by
  unfold qX;rw [hw,if_pos ⟨rfl,hl⟩]
 obtain⟨Q1,hQ1⟩:=eX (wd W 1);obtain⟨Q2,hQ2⟩:=eX (wd W 2);rw [hQ1] at d1 hR;rw [hQ2] at d2 hR;have HR0:=mH hR;have hbx:qC (w.alloc (.cells ↑zE 81)).drew w.heap.size ↑(⟨⟨#[]⟩,0,0,0,⟨⟨#[]⟩,0⟩,⟨⟨#[]⟩,⟨#[]⟩,⟨#[]⟩,0,0⟩,⟨⟨#[]⟩,⟨⟨#[]⟩,0⟩,⟨⟨#[]⟩,0⟩,0⟩⟩:qD) 81:=(qC.new w _ _).drew;have hS:(w.alloc (.cells ↑zE 81)).drew.cell? ⟨b,off+1,none⟩=some (.string Q1)∧(w.alloc (.cells ↑zE 81)).drew.cell? ⟨b,off+2,none⟩=some (.string Q2):=⟨by go_simp,by go_simp⟩;have H1:=mH (aI hbx (show Below w.heap.size w (w.alloc (.cells ↑zE 81)).drew by exact qS));clear hA hs hw hcell hR hbx hQ1 hQ2;generalize qX most W=RE at *;generalize wd W 0=Q at *;go_enter func57,ntmps57;go_wp2_with fail;refine qA.start (λw'=>w'.cell? ⟨b,off+1,none⟩=some (.string Q1)∧w'.cell? ⟨b,off+2,none⟩=some (.string Q2)) [9] kR ?_;generalize (w.alloc (.cells ↑zE 81)).drew=W1 at *;refine qA.q 0 ?_;refine qA.q 1 ?_;refine qA.t 2 hS ?_;refine qA.q 3 ?_;refine qA.q 4 ?_;refine qA.t 5 hS ?_;refine qA.nx 6 λK hK=>?_;go_simp
 refine(qOZ _ _).mono ?_;rintro e' w' ⟨rfl,rfl⟩;obtain⟨kd,hkd⟩:=eX (qBk Q2);rw [hkd];refine qA.on hK (λ_ h=>h) ?_;clear hK K;refine qA.q 7 ?_;refine qA.q 8 ?_;refine qA.nx 9 λK hK=>?_
 refine qCi rfl 81 _ _ rfl w.heap.size _ ↑(⟨⟨#[]⟩,0,0,1,⟨Q1,kd⟩,⟨⟨#[]⟩,⟨#[]⟩,⟨#[]⟩,0,0⟩,⟨⟨#[]⟩,⟨⟨#[]⟩,0⟩,⟨⟨#[]⟩,0⟩,0⟩⟩:qD) rF rF H1.o.1 kR rfl (zS (⟨⟨#[]⟩,0,0,1,⟨Q1,kd⟩,⟨⟨#[]⟩,⟨#[]⟩,⟨#[]⟩,0,0⟩,⟨⟨#[]⟩,⟨⟨#[]⟩,0⟩,⟨⟨#[]⟩,0⟩,0⟩⟩:qD)) ?_;refine qA.o hK ?_;clear hK K;refine qA.done kR ?_;have HB4:=mH (aI (qC.setRow (c':=↑(⟨⟨#[]⟩,0,0,1,⟨Q1,kd⟩,⟨⟨#[]⟩,⟨#[]⟩,⟨#[]⟩,0,0⟩,⟨⟨#[]⟩,⟨⟨#[]⟩,0⟩,⟨⟨#[]⟩,0⟩,0⟩⟩:qD)) H1.o.1) (Below.setRow (c':=↑(⟨⟨#[]⟩,0,0,1,⟨Q1,kd⟩,⟨⟨#[]⟩,⟨#[]⟩,⟨#[]⟩,0,0⟩,⟨⟨#[]⟩,⟨⟨#[]⟩,0⟩,⟨⟨#[]⟩,0⟩,0⟩⟩:qD)) H1.o.2 lR));have hR2:kd≠0→((jY (⟨⟨#[]⟩,0,0,1,⟨Q1,kd⟩,⟨⟨#[]⟩,⟨#[]⟩,⟨#[]⟩,0,0⟩,⟨⟨#[]⟩,⟨⟨#[]⟩,0⟩,⟨⟨#[]⟩,0⟩,0⟩⟩:qD)).any (λs=>!qL s)=false→RE=some (⟨⟨#[]⟩,0,0,1,⟨Q1,kd⟩,⟨⟨#[]⟩,⟨#[]⟩,⟨#[]⟩,0,0⟩,⟨⟨#[]⟩,⟨⟨#[]⟩,0⟩,⟨⟨#[]⟩,0⟩,0⟩⟩:qD))∧((jY (⟨⟨#[]⟩,0,0,1,⟨Q1,kd⟩,⟨⟨#[]⟩,⟨#[]⟩,⟨#[]⟩,0,0⟩,⟨⟨#[]⟩,⟨⟨#[]⟩,0⟩,⟨⟨#[]⟩,0⟩,0⟩⟩:qD)).any (λs=>!qL s)=true→RE=none):=λh0=>by
  rw [HR0.o,hkd];have:jY (⟨⟨#[]⟩,0,0,1,⟨Q1,kd⟩,⟨⟨#[]⟩,⟨#[]⟩,⟨#[]⟩,0,0⟩,⟨⟨#[]⟩,⟨⟨#[]⟩,0⟩,⟨⟨#[]⟩,0⟩,0⟩⟩:qD)=[Q1]:=rfl;rw [this]
  cases hk:qL Q1
  ·rw [if_neg (λh=>by cases h.1)];simp [hk]
  ·rw [if_pos ⟨rfl,h0⟩];exact⟨λ_=>rfl,λh=>by simp [hk] at h⟩
 have hR3:kd=0→RE=none:=λh0=>by rw [HR0.o,hkd,if_neg (λh=>h.2 h0)]
 generalize W1.setRow w.heap.size ↑(⟨⟨#[]⟩,0,0,1,⟨Q1,kd⟩,⟨⟨#[]⟩,⟨#[]⟩,⟨#[]⟩,0,0⟩,⟨⟨#[]⟩,⟨⟨#[]⟩,0⟩,⟨⟨#[]⟩,0⟩,0⟩⟩:qD)=W4 at *;have x5:=HB4.o.1.cell 5 (.int .i64 kd) rfl;have hlt4:=HB4.o.1.lt;clear hS hkd d0 d1 d2 q0 q1 q2 q3 q4
 by_cases hz:kd=0
 ·have HV:=mH (hR3 hz);subst hz;clear hR2 hR3;go_wp2_with (first|(refine qT rfl 81 _ _ rfl (w.heap.size) _ ↑zE rF rF (HB4.o.1) kR rfl (qEW) ?_))
  (refine bodyPost_ret (v:=.tuple #[.agg ↑zE,.bool false]) ?_ rfl ⟨?_,?_⟩;(· exact qF rfl _ _ w.heap.size 81 ↑zE _ (0,0) _ rfl rfl (qC.setRow HB4.o.1) underlying81 rfl kR))
  ·rw [HV.o];rfl
  ·exact Below.setRow HB4.o.2 lR
 have hzb:(kd != 0)=true:=by simpa using hz
 have HR:=mH (hR2 hz);clear hR2 hR3 hz;obtain⟨z0,z1,z2,z3,z4,z5,z6,z7,z8,z9,z10,z11,z12,z13,z14,z15,z16⟩:=qHF (x:=(⟨⟨#[]⟩,0,0,1,⟨Q1,kd⟩,⟨⟨#[]⟩,⟨#[]⟩,⟨#[]⟩,0,0⟩,⟨⟨#[]⟩,⟨⟨#[]⟩,0⟩,⟨⟨#[]⟩,0⟩,0⟩⟩:qD)) HB4.o.1;go_wp2_with fail;clear z0 z1 z2 z3 z4 z5 z6 z7 z8 z9 z10 z11 z12 z13 z14 z15 z16;refine(qEx (⟨⟨#[]⟩,0,0,1,⟨Q1,kd⟩,⟨⟨#[]⟩,⟨#[]⟩,⟨#[]⟩,0,0⟩,⟨⟨#[]⟩,⟨⟨#[]⟩,0⟩,⟨⟨#[]⟩,0⟩,0⟩⟩:qD) _).mono ?_;rintro e' W5 ⟨v5,rfl,hv5,hb5⟩;have HB5:=mH (aI (HB4.o.1.below hb5 HB4.o.1.lt) (aI (HB4.o.2.trans (hb5.mono HB4.o.2.size)) hv5));clear hb5 hv5 HB4;go_wp2_with fail;refine(qCN v5 (jY (⟨⟨#[]⟩,0,0,1,⟨Q1,kd⟩,⟨⟨#[]⟩,⟨#[]⟩,⟨#[]⟩,0,0⟩,⟨⟨#[]⟩,⟨⟨#[]⟩,0⟩,⟨⟨#[]⟩,0⟩,0⟩⟩:qD)) (λs=>!qL s) 88 #[] W5 HB5.o.2.2 (qAB func88 kR rfl) (λs w' _ _=>qER s w')).mono ?_;rintro e' W6 ⟨rfl,hb6⟩;have HB6:=mH (aI (HB5.o.1.below hb6 HB5.o.1.lt) (HB5.o.2.1.trans (hb6.mono HB5.o.2.1.size)));clear hb6 HB5
 cases hn:(jY (⟨⟨#[]⟩,0,0,1,⟨Q1,kd⟩,⟨⟨#[]⟩,⟨#[]⟩,⟨#[]⟩,0,0⟩,⟨⟨#[]⟩,⟨⟨#[]⟩,0⟩,⟨⟨#[]⟩,0⟩,0⟩⟩:qD)).any (λs=>!qL s)
 ·have he6:=mH (qV.box (x:=(⟨⟨#[]⟩,0,0,1,⟨Q1,kd⟩,⟨⟨#[]⟩,⟨#[]⟩,⟨#[]⟩,0,0⟩,⟨⟨#[]⟩,⟨⟨#[]⟩,0⟩,⟨⟨#[]⟩,0⟩,0⟩⟩:qD)) HB6.o.1);have HV:=mH (HR.o.1 hn);clear hn;go_wp2_with (first|(refine wpList_load_mid rfl 81 _ rfl (w.heap.size) (0) rF ↑(⟨⟨#[]⟩,0,0,1,⟨Q1,kd⟩,⟨⟨#[]⟩,⟨#[]⟩,⟨#[]⟩,0,0⟩,⟨⟨#[]⟩,⟨⟨#[]⟩,0⟩,⟨⟨#[]⟩,0⟩,0⟩⟩:qD) _ (he6.o) underlying81 rfl kR ?_)|(refine qT rfl 81 _ _ rfl (w.heap.size) _ ↑(⟨⟨#[]⟩,0,0,1,⟨Q1,kd⟩,⟨⟨#[]⟩,⟨#[]⟩,⟨#[]⟩,0,0⟩,⟨⟨#[]⟩,⟨⟨#[]⟩,0⟩,⟨⟨#[]⟩,0⟩,0⟩⟩:qD) rF rF (HB6.o.1) kR rfl (zS (⟨⟨#[]⟩,0,0,1,⟨Q1,kd⟩,⟨⟨#[]⟩,⟨#[]⟩,⟨#[]⟩,0,0⟩,⟨⟨#[]⟩,⟨⟨#[]⟩,0⟩,⟨⟨#[]⟩,0⟩,0⟩⟩:qD)) ?_))
  (refine bodyPost_ret (v:=.tuple #[.agg ↑(⟨⟨#[]⟩,0,0,1,⟨Q1,kd⟩,⟨⟨#[]⟩,⟨#[]⟩,⟨#[]⟩,0,0⟩,⟨⟨#[]⟩,⟨⟨#[]⟩,0⟩,⟨⟨#[]⟩,0⟩,0⟩⟩:qD),.bool true]) ?_ rfl ⟨?_,?_⟩;(· exact qF rfl _ _ w.heap.size 81 ↑(⟨⟨#[]⟩,0,0,1,⟨Q1,kd⟩,⟨⟨#[]⟩,⟨#[]⟩,⟨#[]⟩,0,0⟩,⟨⟨#[]⟩,⟨⟨#[]⟩,0⟩,⟨⟨#[]⟩,0⟩,0⟩⟩:qD) _ (0,0) _ rfl rfl (qC.setRow HB6.o.1) underlying81 rfl kR))
  ·rw [HV.o];rfl
  ·exact Below.setRow HB6.o.2 lR
 ·have HV:=mH (HR.o.2 hn);clear hn;go_wp2_with (first|(refine qT rfl 81 _ _ rfl (w.heap.size) _ ↑zE rF rF (HB6.o.1) kR rfl (qEW) ?_))
  (refine bodyPost_ret (v:=.tuple #[.agg ↑zE,.bool false]) ?_ rfl ⟨?_,?_⟩;(· exact qF rfl _ _ w.heap.size 81 ↑zE _ (0,0) _ rfl rfl (qC.setRow HB6.o.1) underlying81 rfl kR))
  ·rw [HV.o];rfl
  ·exact Below.setRow HB6.o.2 lR
theorem qSN {W:List ByteArray} {k:Nat} (hl:W.length=k+2):W.drop k=[wd W k,wd W (k+1)]:=by
 rw [List.drop_eq_getElem_cons oM,List.drop_eq_getElem_cons oM,List.drop_eq_nil_iff.2 oM,qCZ oM,qCZ oM]
theorem qCy {W:List ByteArray} {b off cap:Nat} {w:World} (k:Nat) (hA:qI strCells 1 w W (.slice (some ⟨b,off,none⟩) W.length cap)) (hk:k≤W.length):qI strCells 1 w (W.drop k) (.slice (if cap=k then some ⟨b,off,none⟩ else some ⟨b,off+k,none⟩) (W.length - k) (cap - k)):=by
 obtain⟨a,c,he,hcap,hmax,_⟩:=id hA;simp only [Value.slice.injEq] at he;obtain⟨rfl,-,rfl⟩:=he
 by_cases hq:cap=k
 ·rw [if_pos hq];refine⟨_,_,by rw [List.length_drop],by rw [List.length_drop];omega,by omega,λj hj=>?_⟩;rw [List.length_drop] at hj;omega
 ·rw [if_neg hq]
  simpa using hA.dropAt k hk
theorem qN1 (W:List ByteArray) (v:Value) (most:Nat) (hm:most≤17) (w:World) (hA:qI strCells 1 w W v) (h0:0<W.length) (hs:∀x∈W,x.size≤1000000) (hw:wd W 0=qAE) (hl:W.length=6):Calls prog 57 #[v,.int .i64 most] w (qCK (qX most W) w):=by
 obtain⟨b,off,cap,rfl,hcap,hmax,hb,hcell⟩:=qAF hA h0;have hD:=qCy 4 hA oM;have hcn:¬cap=4:=by omega
 rw [if_neg hcn,hl] at hD;have d0:w.cell? ⟨b,off,none⟩=some (.string (wd W 0)):=hcell 0 h0;have d1:=hcell 1 oM;have d2:=hcell 2 oM;have d3:=hcell 3 oM;have q0:((wd W 0).toList==[115,105,116,101])=false:=qR (c:=qA0) (by rw [hw];decide) rfl;have q1:((wd W 0).toList==[99,97,98,108,101])=true:=qBZ (c:=qAE) hw rfl;have q2:((wd W 0).toList==[106,111,105,110])=false:=qR (c:=qAR) (by rw [hw];decide) rfl;have q3:((wd W 0).toList==[99,117,116])=false:=qR (c:=qAt) (by rw [hw];decide) rfl;have q4:((wd W 0).toList==[114,101,116,105,114,101])=false:=qR (c:=jL) (by rw [hw];decide) rfl;have hl1:((W.length:Int)==6)=true:=by simp;omega
 have h0i:0<W.length:=h0;have h1i:(1:Int)<W.length:=by omega
 have h2i:(2:Int)<W.length:=by omega
 have h3i:(3:Int)<W.length:=by omega
 have h4i:(4:Int)≤W.length:=by omega
 have hci:(W.length:Int)≤cap:=by omega
 have hR:qX most W=if qL (wd W 1)=true∧qL (wd W 2)=true∧qL (wd W 3)=true then (qAW most W 4).bind λn=>(qAW most W 5).map λm=>{ qAx with kind:=2,cab:=⟨wd W 1,wd W 2,wd W 3,n,m⟩ } else none:=by
  unfold qX;rw [hw,if_neg (λh=>absurd h.1 dE),if_pos ⟨rfl,hl⟩]
 have hdr:=qSN (k:=4) hl;have hsd:∀x∈W.drop 4,x.size≤1000000:=λx hx=>hs x (List.mem_of_mem_drop hx)
 obtain⟨Q1,hQ1⟩:=eX (wd W 1);obtain⟨Q2,hQ2⟩:=eX (wd W 2);obtain⟨Q3,hQ3⟩:=eX (wd W 3);rw [hQ1] at d1 hR;rw [hQ2] at d2 hR;rw [hQ3] at d3 hR;have hbx:qC (w.alloc (.cells ↑zE 81)) w.heap.size ↑(⟨⟨#[]⟩,0,0,0,⟨⟨#[]⟩,0⟩,⟨⟨#[]⟩,⟨#[]⟩,⟨#[]⟩,0,0⟩,⟨⟨#[]⟩,⟨⟨#[]⟩,0⟩,⟨⟨#[]⟩,0⟩,0⟩⟩:qD) 81:=qC.new w _ _;have hBa:Below w.heap.size w (w.alloc (.cells ↑zE 81)):=qB bR _ lR;have H1:=mH (aI hbx (aI hBa (aI (hD.below hBa) (aI hR (aI hdr (aI hsd (aI d1 (aI d2 d3))))))));clear hA hs hw hcell hR hbx hQ1 hQ2 hQ3 hBa hD hdr hsd d1 d2 d3;generalize qX most W=RE at *;generalize wd W 0=Q at *;go_enter func57,ntmps57;go_wp2_with fail;refine(qQV _ (W.drop 4) most hm _ H1.o.2.2.1 H1.o.2.2.2.2.2.1 (by rw [List.length_drop];omega)).mono ?_;rintro e' W4 ⟨v4,bb,rfl,hb4,h41,h42⟩;have hx4:=H1.o.1.below hb4 H1.o.1.lt;have hB4:Below w.heap.size w W4:=H1.o.2.1.trans (hb4.mono H1.o.2.1.size)
 cases bb
 ·have HV:Hx (RE=none):=by
   rw [H1.o.2.2.2.1];obtain⟨x,hx,hn⟩:=h42 rfl;rw [H1.o.2.2.2.2.1] at hx;unfold qAW;refine mH ?_
   split
   ·rcases List.mem_cons.1 hx with rfl|hx
    ·rw [hn];rfl
    ·rw [List.mem_singleton.1 hx] at hn;rw [hn];cases jH most (wd W 4).data.toList <;> rfl
   ·rfl
  have HB4:=mH (aI hx4 hB4);clear hx4 hB4 hb4 h41 h42;go_wp2_with (first|(refine qT rfl 81 _ _ rfl (w.heap.size) _ ↑zE rF rF (HB4.o.1) kR rfl (qEW) ?_))
  (refine bodyPost_ret (v:=.tuple #[.agg ↑zE,.bool false]) ?_ rfl ⟨?_,?_⟩;(· exact qF rfl _ _ w.heap.size 81 ↑zE _ (0,0) _ rfl rfl (qC.setRow HB4.o.1) underlying81 rfl kR))
  ·rw [HV.o];rfl
  ·exact Below.setRow HB4.o.2 lR
 obtain⟨ns,hns,hown⟩:=h41 rfl;rw [H1.o.2.2.2.2.1] at hns;obtain⟨n,m,rfl⟩:∃n m,ns=[n,m]:=by
  match ns,hns with
  | [n,m],_=>exact⟨n,m,rfl⟩
  | [],h=>simp at h
  | [_],h=>simp at h
  | _::_::_::_,h=>simp at h
 simp only [List.map_cons,List.map_nil,List.cons.injEq,and_true] at hns;have hR2:((jY (⟨⟨#[]⟩,0,0,2,⟨⟨#[]⟩,0⟩,⟨Q1,Q2,Q3,n,m⟩,⟨⟨#[]⟩,⟨⟨#[]⟩,0⟩,⟨⟨#[]⟩,0⟩,0⟩⟩:qD)).any (λs=>!qL s)=false→RE=some (⟨⟨#[]⟩,0,0,2,⟨⟨#[]⟩,0⟩,⟨Q1,Q2,Q3,n,m⟩,⟨⟨#[]⟩,⟨⟨#[]⟩,0⟩,⟨⟨#[]⟩,0⟩,0⟩⟩:qD))∧((jY (⟨⟨#[]⟩,0,0,2,⟨⟨#[]⟩,0⟩,⟨Q1,Q2,Q3,n,m⟩,⟨⟨#[]⟩,⟨⟨#[]⟩,0⟩,⟨⟨#[]⟩,0⟩,0⟩⟩:qD)).any (λs=>!qL s)=true→RE=none):=by
  rw [H1.o.2.2.2.1];have:jY (⟨⟨#[]⟩,0,0,2,⟨⟨#[]⟩,0⟩,⟨Q1,Q2,Q3,n,m⟩,⟨⟨#[]⟩,⟨⟨#[]⟩,0⟩,⟨⟨#[]⟩,0⟩,0⟩⟩:qD)=[Q1,Q2,Q3]:=rfl;rw [this];unfold qAW;rw [hns.1,hns.2]
  by_cases hk:qL Q1=true∧qL Q2=true∧qL Q3=true
  ·rw [if_pos hk];exact⟨λ_=>rfl,λh=>by simp [hk.1,hk.2.1,hk.2.2] at h⟩
  ·rw [if_neg hk];exact⟨λh=>absurd (by simpa using h) hk,λ_=>rfl⟩
 have HR:=mH hR2;obtain⟨a4,cap4,hv4,hcap4,hmax4,hc4⟩:=qI.of_ints hown;subst hv4;obtain⟨b4,o4,rfl,hlb4,hcc⟩:=hc4 0 sI;have n0:W4.drew.cell? ⟨b4,o4,none⟩=some (.int .i64 n):=by simpa using hcc 0 _ rfl
 obtain⟨b4',o4',he,_,hcc1⟩:=hc4 1 sI;simp only [Option.some.injEq,Addr.mk.injEq,and_true] at he;obtain⟨rfl,rfl⟩:=he;have n1:W4.drew.cell? ⟨b4,o4+1,none⟩=some (.int .i64 m):=by simpa using hcc1 0 _ rfl
 have hS:(λw':World=>w'.cell? ⟨b,off+1,none⟩=some (.string Q1)∧w'.cell? ⟨b,off+2,none⟩=some (.string Q2)∧w'.cell? ⟨b,off+3,none⟩=some (.string Q3)∧w'.cell? ⟨b4,o4,none⟩=some (.int .i64 n)∧w'.cell? ⟨b4,o4+1,none⟩=some (.int .i64 m)) W4.drew:=⟨(hB4.cell (p:=⟨b,_,none⟩) hb).trans H1.o.2.2.2.2.2.2.1,(hB4.cell (p:=⟨b,_,none⟩) hb).trans H1.o.2.2.2.2.2.2.2.1,(hB4.cell (p:=⟨b,_,none⟩) hb).trans H1.o.2.2.2.2.2.2.2.2,n0,n1⟩;have H4:=mH (aI hx4.drew hB4.drew);clear hx4 hB4 hb4 h41 h42 hns hR2 hown hc4 hcc hcc1 n0 n1 H1 hlb4 hcap4 hmax4;go_wp2_with fail;refine qA.start (λw':World=>w'.cell? ⟨b,off+1,none⟩=some (.string Q1)∧w'.cell? ⟨b,off+2,none⟩=some (.string Q2)∧w'.cell? ⟨b,off+3,none⟩=some (.string Q3)∧w'.cell? ⟨b4,o4,none⟩=some (.int .i64 n)∧w'.cell? ⟨b4,o4+1,none⟩=some (.int .i64 m)) [17] kR ?_;generalize W4.drew=W1 at *;refine qA.q 0 ?_;refine qA.q 1 ?_;refine qA.t 2 hS ?_;refine qA.q 3 ?_;refine qA.q 4 ?_;refine qA.t 5 hS ?_;refine qA.q 6 ?_;refine qA.q 7 ?_;refine qA.t 8 hS ?_;refine qA.q 9 ?_;refine qA.q 10 ?_;refine qA.t 11 hS ?_;refine qA.q 12 ?_;refine qA.q 13 ?_;refine qA.t 14 hS ?_;refine qA.q 15 ?_;refine qA.q 16 ?_;refine qA.nx 17 λK hK=>?_
 refine qCi rfl 81 _ _ rfl w.heap.size _ ↑(⟨⟨#[]⟩,0,0,2,⟨⟨#[]⟩,0⟩,⟨Q1,Q2,Q3,n,m⟩,⟨⟨#[]⟩,⟨⟨#[]⟩,0⟩,⟨⟨#[]⟩,0⟩,0⟩⟩:qD) rF rF H4.o.1 kR rfl (zS (⟨⟨#[]⟩,0,0,2,⟨⟨#[]⟩,0⟩,⟨Q1,Q2,Q3,n,m⟩,⟨⟨#[]⟩,⟨⟨#[]⟩,0⟩,⟨⟨#[]⟩,0⟩,0⟩⟩:qD)) ?_;refine qA.o hK ?_;clear hK K;refine qA.done kR ?_;have HB4:=mH (aI (qC.setRow (c':=↑(⟨⟨#[]⟩,0,0,2,⟨⟨#[]⟩,0⟩,⟨Q1,Q2,Q3,n,m⟩,⟨⟨#[]⟩,⟨⟨#[]⟩,0⟩,⟨⟨#[]⟩,0⟩,0⟩⟩:qD)) H4.o.1) (Below.setRow (c':=↑(⟨⟨#[]⟩,0,0,2,⟨⟨#[]⟩,0⟩,⟨Q1,Q2,Q3,n,m⟩,⟨⟨#[]⟩,⟨⟨#[]⟩,0⟩,⟨⟨#[]⟩,0⟩,0⟩⟩:qD)) H4.o.2 lR));generalize W1.setRow w.heap.size ↑(⟨⟨#[]⟩,0,0,2,⟨⟨#[]⟩,0⟩,⟨Q1,Q2,Q3,n,m⟩,⟨⟨#[]⟩,⟨⟨#[]⟩,0⟩,⟨⟨#[]⟩,0⟩,0⟩⟩:qD)=W4 at *;have hlt4:=HB4.o.1.lt;clear hS H4;obtain⟨z0,z1,z2,z3,z4,z5,z6,z7,z8,z9,z10,z11,z12,z13,z14,z15,z16⟩:=qHF (x:=(⟨⟨#[]⟩,0,0,2,⟨⟨#[]⟩,0⟩,⟨Q1,Q2,Q3,n,m⟩,⟨⟨#[]⟩,⟨⟨#[]⟩,0⟩,⟨⟨#[]⟩,0⟩,0⟩⟩:qD)) HB4.o.1;go_wp2_with fail;clear z0 z1 z2 z3 z4 z5 z6 z7 z8 z9 z10 z11 z12 z13 z14 z15 z16;refine(qEx (⟨⟨#[]⟩,0,0,2,⟨⟨#[]⟩,0⟩,⟨Q1,Q2,Q3,n,m⟩,⟨⟨#[]⟩,⟨⟨#[]⟩,0⟩,⟨⟨#[]⟩,0⟩,0⟩⟩:qD) _).mono ?_;rintro e' W5 ⟨v5,rfl,hv5,hb5⟩;have HB5:=mH (aI (HB4.o.1.below hb5 HB4.o.1.lt) (aI (HB4.o.2.trans (hb5.mono HB4.o.2.size)) hv5));clear hb5 hv5 HB4;go_wp2_with fail;refine(qCN v5 (jY (⟨⟨#[]⟩,0,0,2,⟨⟨#[]⟩,0⟩,⟨Q1,Q2,Q3,n,m⟩,⟨⟨#[]⟩,⟨⟨#[]⟩,0⟩,⟨⟨#[]⟩,0⟩,0⟩⟩:qD)) (λs=>!qL s) 88 #[] W5 HB5.o.2.2 (qAB func88 kR rfl) (λs w' _ _=>qER s w')).mono ?_;rintro e' W6 ⟨rfl,hb6⟩;have HB6:=mH (aI (HB5.o.1.below hb6 HB5.o.1.lt) (HB5.o.2.1.trans (hb6.mono HB5.o.2.1.size)))
 clear hb6 HB5
 cases hn:(jY (⟨⟨#[]⟩,0,0,2,⟨⟨#[]⟩,0⟩,⟨Q1,Q2,Q3,n,m⟩,⟨⟨#[]⟩,⟨⟨#[]⟩,0⟩,⟨⟨#[]⟩,0⟩,0⟩⟩:qD)).any (λs=>!qL s)
 ·have he6:=mH (qV.box (x:=(⟨⟨#[]⟩,0,0,2,⟨⟨#[]⟩,0⟩,⟨Q1,Q2,Q3,n,m⟩,⟨⟨#[]⟩,⟨⟨#[]⟩,0⟩,⟨⟨#[]⟩,0⟩,0⟩⟩:qD)) HB6.o.1);have HV:=mH (HR.o.1 hn);clear hn;go_wp2_with (first|(refine wpList_load_mid rfl 81 _ rfl (w.heap.size) (0) rF ↑(⟨⟨#[]⟩,0,0,2,⟨⟨#[]⟩,0⟩,⟨Q1,Q2,Q3,n,m⟩,⟨⟨#[]⟩,⟨⟨#[]⟩,0⟩,⟨⟨#[]⟩,0⟩,0⟩⟩:qD) _ (he6.o) underlying81 rfl kR ?_)|(refine qT rfl 81 _ _ rfl (w.heap.size) _ ↑(⟨⟨#[]⟩,0,0,2,⟨⟨#[]⟩,0⟩,⟨Q1,Q2,Q3,n,m⟩,⟨⟨#[]⟩,⟨⟨#[]⟩,0⟩,⟨⟨#[]⟩,0⟩,0⟩⟩:qD) rF rF (HB6.o.1) kR rfl (zS (⟨⟨#[]⟩,0,0,2,⟨⟨#[]⟩,0⟩,⟨Q1,Q2,Q3,n,m⟩,⟨⟨#[]⟩,⟨⟨#[]⟩,0⟩,⟨⟨#[]⟩,0⟩,0⟩⟩:qD)) ?_))
  (refine bodyPost_ret (v:=.tuple #[.agg ↑(⟨⟨#[]⟩,0,0,2,⟨⟨#[]⟩,0⟩,⟨Q1,Q2,Q3,n,m⟩,⟨⟨#[]⟩,⟨⟨#[]⟩,0⟩,⟨⟨#[]⟩,0⟩,0⟩⟩:qD),.bool true]) ?_ rfl ⟨?_,?_⟩;(· exact qF rfl _ _ w.heap.size 81 ↑(⟨⟨#[]⟩,0,0,2,⟨⟨#[]⟩,0⟩,⟨Q1,Q2,Q3,n,m⟩,⟨⟨#[]⟩,⟨⟨#[]⟩,0⟩,⟨⟨#[]⟩,0⟩,0⟩⟩:qD) _ (0,0) _ rfl rfl (qC.setRow HB6.o.1) underlying81 rfl kR))
  ·rw [HV.o];rfl
  ·exact Below.setRow HB6.o.2 lR
 ·have HV:=mH (HR.o.2 hn);clear hn;go_wp2_with (first|(refine qT rfl 81 _ _ rfl (w.heap.size) _ ↑zE rF rF (HB6.o.1) kR rfl (qEW) ?_))
  (refine bodyPost_ret (v:=.tuple #[.agg ↑zE,.bool false]) ?_ rfl ⟨?_,?_⟩;(· exact qF rfl _ _ w.heap.size 81 ↑zE _ (0,0) _ rfl rfl (qC.setRow HB6.o.1) underlying81 rfl kR))
  ·rw [HV.o];rfl
  ·exact Below.setRow HB6.o.2 lR
end Go.Proofs.YtbgnlfgkgklkdaaGreatDoor
