/- Parts of the proof of ScriptsAnswered: LawHeadS, SuG, SuA, SuH, SuK, SrF, LawScr. No condition. -/
import Derived.Test.YtbgnlfgkgklkdaaGreatDoorZ55
import Derived.Test.YtbgnlfgkgklkdaaGreatDoorZ57
set_option linter.unusedVariables false
set_option linter.unusedSimpArgs false
set_option maxHeartbeats 8000000
set_option maxRecDepth 100000
namespace Go.Proofs.YtbgnlfgkgklkdaaGreatDoor
open Go Go.RowKit Tryz
def IsRow (k:IntKind) (w:World) (a:Option Addr) (len cap:Nat) (zs:List Int):Prop :=
 (a=none∧len=0∧cap=0∧zs=[]) ∨
 ∃x,a=some x∧len≤cap∧cap≤maxLen∧zs.length=cap∧(∀i,i<zs.length→w.cell? (x.add i)=some (.int k (zs.getD i 0)))∧∀n∈zs,(Lit.int k n).wf=true
theorem qS0 (b off i:Nat):((⟨b,off,none⟩:Addr).add i)=⟨b,off+i,none⟩:=by
 unfold Addr.add
 split
 ·rename_i h;simp [h]
 ·rfl
theorem qOt {w:World} {a:Option Addr} {len cap:Nat} {zs:List Int} (h:IsRow .i64 w a len cap zs):jT (w.alloc (.cells #[.slice a len cap,.int .i64 0] 25)) w.heap.size 0:=by
 refine⟨a,len,cap,0,qC.new w _ _,Nat.le_refl _,?_,λi hi=>?_⟩
 ·rcases h with⟨_,rfl,_⟩|⟨_,_,h1,h2,_⟩
  ·simp
  ·omega
 ·rcases h with⟨_,rfl,_⟩|⟨x,rfl,h1,h2,h3,h4,h5⟩
  ·omega
  ·have hc:=h4 i oM;have hc0:=h4 0 oM;obtain⟨b,off,spot⟩:=x;have hspot:spot=none:=by simpa [Addr.add] using World.cell?_spot hc0
   subst hspot;have hbl:=World.block_lt_of_cell? _ _ hc;rw [qS0] at hc hbl;have hw:=bounds_i64 (h5 (zs.getD i 0) (by rw [List.getD_eq_getElem?_getD,List.getElem?_eq_getElem oM];exact List.getElem_mem _));refine⟨b,off,zs.getD i 0,rfl,hbl,?_,hw.1,hw.2⟩;exact(World.cell?_alloc_lt _ _ _ hbl).trans hc
theorem qFZ {w w':World} (h:w.grownBy w' (some w.heap.size)):Below w.heap.size w w' :=
 ⟨h.os,h.tape,h.output,h.size,λk hk=>h.block k hk (by simp;omega)⟩
theorem qPK (W:World) (a b c:Value):(Instr.field 69 (.agg #[a,b,c]) 2).run prog W=.ok c W:=by kernel_rfl
theorem qTa (E:List qD) (at_:Int) (cb:Nat) (vE:Value) (line:ByteArray) (W:List ByteArray) (w:World) (hb:qC w cb #[vE,.int .i64 at_] 98) (hA:qI qD.cells 17 w E vE) (hD:qBR E at_) (hlen:E.length<18) (hSp:∀y∈E,jF y.spc) (hW:qAb 32 line=W) (hh:qDu W=false) (hx:line.size≤200000) (ht:Tab10 w) (hM:MaxL w) (hw:wd W 0=wAt) (hl:W.length=2):Calls prog 44 #[.pointer (some ⟨cb,0,none⟩),.string line] w (qBx cb (qBu (zR E at_ W).1,(zR E at_ W).2) w):=by
 obtain⟨a,cap,rfl,-⟩:=id hA;have hs:∀x∈W,x.size≤1000000:=λx h=>by rw [←hW] at h;have:=qBp h;omega
 have h0:0<W.length:=by have:=qBS 32 line;rw [hW] at this;omega
 have hW1:W.length≤200001:=by have:=qBS 32 line;rw [hW] at this;omega
 have hcall:=qCv line w oM hM;obtain⟨b,hbe⟩:=eX (w.heap.size);rw [hW,hh,hbe] at hcall;simp only [Bool.not_false] at hcall;have HC0:=mH hcall;have hcb:cb<b:=by have:=hb.lt;omega
 have HBE:=mH hbe;clear hcall hbe;have hV:zR E at_ W=(match qAW 12 W 1 with|none=>((9,[]),E,at_)|some n=>if qCl n=false then ((1,[]),E,at_) else if n<at_ then ((7,[]),E,at_) else ((0,okT),E,n)):=by unfold zR;rw [if_pos ⟨hw,hl⟩];rfl
 obtain⟨q0,q1,q2,q3,q4⟩:=qPc hw;have hl1:((W.length:Int)==2)=true:=by simp;omega
 have h0i:(0:Int)<W.length:=by omega
 have h1i:(1:Int)<W.length:=by omega
 have HA:=mH (aI hb (aI hA (aI hV (aI (qCk hs 1) ht))));clear hb hA hD ht hM hSp hs hW hh hV hw;unfold qAW at HA;generalize zR E at_ W=R at *;go_enter func44,ntmps44;go_wp2_with fail;refine HC0.o.mono ?_;rintro e w1 ⟨rfl,hw1⟩;have hB1:Below w.heap.size w w1:=by rw [hw1];exact qB bR _ lR
 have hAr:qI strCells 1 w1 W (.slice (some ⟨b,0,none⟩) W.length W.length):=by
  rw [hw1,←HBE.o];exact qEA (qC.new w _ 9) (by unfold maxLen;omega)
 have hbW:b<w1.heap.size:=by rw [hw1,←HBE.o];simp
 have hcell:∀k,k<W.length→w1.cell? ⟨b,k,none⟩=some (.string (wd W k)):=λk hk=>by
  rw [hw1,←HBE.o,qCZ hk];exact qCF (qC.new w _ 9) k hk
 have H1:=mH (aI (hB1:Below w.heap.size w w1) (aI hAr (aI (HA.o.1.below hB1 HA.o.1.lt) (aI (HA.o.2.1.below hB1) (HA.o.2.2.2.2.below hB1)))));clear hw1 hB1 hAr HC0;have d0:=hcell 0 oM;have d1:=hcell 1 oM;clear hcell;generalize wd W 0=Q at *;generalize wd W 1=Q1 at *;go_wp2_with fail;refine(qG0 Q1 12 oM w1 HA.o.2.2.2.1 H1.o.2.2.2.2).mono ?_;rintro e w2 ⟨n,bb,rfl,hn,hb2⟩;have hV:=HA.o.2.2.1;rw [hn] at hV;have hB2:Below w.heap.size w w2:=H1.o.1.trans (hb2.mono H1.o.1.size);have H2:=mH (aI hB2 (aI (HA.o.1.below hB2 HA.o.1.lt) (HA.o.2.1.below hB2)));have HV:=mH hV;clear hV hn hB2 hb2 d0 d1
 cases bb
 ·have hR:Hx (R=((9,[]),E,at_)):=mH HV.o
  (go_wp2_with fail;refine(jW 9 dE dE w2 (HA.o.2.2.2.2.below H2.o.1)).mono ?_;rintro e w9 ⟨rfl,hb9⟩;go_wp2;go_ret)
  rw [hR.o];exact qBx.stay HA.o.1 HA.o.2.1 (H2.o.1.trans (hb9.mono H2.o.1.size)) rfl
 have hR:R=if qCl n=false then ((1,[]),E,at_) else if n<at_ then ((7,[]),E,at_) else ((0,okT),E,n):=HV.o;obtain⟨mb,hmb⟩:=eX (qCl n);rw [hmb] at hR;have HR:=mH hR;have HMB:=mH hmb;clear hR hmb HV;have hmv:=qI8 n w2;rw [HMB.o] at hmv;go_wp2_with fail;refine hmv.mono ?_;clear hmv;rintro e w3 ⟨rfl,rfl⟩
 cases mb
 ·have hR:Hx (R=((1,[]),E,at_)):=mH (HR.o.trans (if_pos rfl));go_wp2_with fail;refine(jW 1 dE dE w2 (HA.o.2.2.2.2.below H2.o.1)).mono ?_;rintro e w9 ⟨rfl,hb9⟩;go_wp2;go_ret;rw [hR.o];exact qBx.stay HA.o.1 HA.o.2.1 (H2.o.1.trans (hb9.mono H2.o.1.size)) rfl
 have HR2:Hx (R=if n<at_ then ((7,[]),E,at_) else ((0,okT),E,n)):=mH (HR.o.trans (if_neg sI));have x1:=H2.o.2.1.cell 1 _ rfl
 by_cases hlt:n<at_
 ·have hR:Hx (R=((7,[]),E,at_)):=mH (HR2.o.trans (if_pos hlt));have hd:decide (n<at_)=true:=by simpa using hlt
  clear hlt HR;go_wp2_with fail;refine(jW 7 dE dE w2 (HA.o.2.2.2.2.below H2.o.1)).mono ?_;rintro e w9 ⟨rfl,hb9⟩;go_wp2;go_ret;rw [hR.o];exact qBx.stay HA.o.1 HA.o.2.1 (H2.o.1.trans (hb9.mono H2.o.1.size)) rfl
 ·have hR:Hx (R=((0,okT),E,n)):=mH (HR2.o.trans (if_neg hlt));have hd:decide (n<at_)=false:=by simpa using hlt
  have f1:=H2.o.2.1.free 1;clear hlt HR;go_wp2;go_ret;rw [hR.o];have hg:w2.grownBy (w2.setCell ⟨cb,1,none⟩ (.int .i64 n)) (some cb):=qDD w2 cb 1 (.int .i64 n);exact⟨_,rfl,H2.o.2.1.set 1 (.int .i64 n),qPk H2.o.2.2 H2.o.2.1 hg,qK (qH _ H2.o.1) hg,.inl (HA.o.1.cell 0 _ rfl)⟩
theorem qUH (E:List qD) (at_:Int) (cb:Nat) (vE:Value) (line:ByteArray) (W:List ByteArray) (w:World) (hb:qC w cb #[vE,.int .i64 at_] 98) (hA:qI qD.cells 17 w E vE) (hD:qBR E at_) (hlen:E.length<18) (hSp:∀y∈E,jF y.spc) (hW:qAb 32 line=W) (hh:qDu W=false) (hx:line.size≤200000) (ht:Tab10 w) (hM:MaxL w) (hw:wd W 0=wDo) (hl:2<W.length):Calls prog 44 #[.pointer (some ⟨cb,0,none⟩),.string line] w (qBx cb (qBu (zR E at_ W).1,(zR E at_ W).2) w):=by
 obtain⟨a,cap,rfl,-⟩:=id hA;have hs:∀x∈W,x.size≤1000000:=λx h=>by rw [←hW] at h;have:=qBp h;omega
 have h0:0<W.length:=by have:=qBS 32 line;rw [hW] at this;omega
 have hW1:W.length≤200001:=by have:=qBS 32 line;rw [hW] at this;omega
 have hcall:=qCv line w oM hM;obtain⟨b,hbe⟩:=eX (w.heap.size);rw [hW,hh,hbe] at hcall;simp only [Bool.not_false] at hcall;have HC0:=mH hcall;have hcb:cb<b:=by have:=hb.lt;omega
 have HBE:=mH hbe;clear hcall hbe;have hV:zR E at_ W=(match qX 12 (W.drop 2) with|none=>((9,[]),E,at_)|some e=>(((qAC E at_ (wd W 1) e).1,okT),(qAC E at_ (wd W 1) e).2,at_)):=by
  unfold zR;rw [if_neg (λh=>absurd (h.1.symm.trans hw) dE),if_pos ⟨hw,hl⟩];rfl
 obtain⟨q0,q1,q2,q3,q4⟩:=qRT hw;have hl1:decide ((2:Int)<W.length)=true:=by simp;omega
 have h0i:(0:Int)<W.length:=by omega
 have h1i:(1:Int)<W.length:=by omega
 have h2i:(2:Int)≤W.length:=by omega
 have hcn:¬W.length=2:=by omega
 have hsd:∀x∈W.drop 2,x.size≤1000000:=λx hx=>hs x (List.mem_of_mem_drop hx)
 have HA:=mH (aI hb (aI hA (aI hV (aI (aI hsd (aI hD hSp)) ht))));clear hb hA hD ht hM hSp hs hW hh hV hw hsd;generalize zR E at_ W=R at *;go_enter func44,ntmps44;go_wp2_with fail;refine HC0.o.mono ?_;rintro e w1 ⟨rfl,hw1⟩;have hB1:Below w.heap.size w w1:=by rw [hw1];exact qB bR _ lR
 have hAr:qI strCells 1 w1 W (.slice (some ⟨b,0,none⟩) W.length W.length):=by
  rw [hw1,←HBE.o];exact qEA (qC.new w _ 9) (by unfold maxLen;omega)
 have hbW:b<w1.heap.size:=by rw [hw1,←HBE.o];simp
 have hcell:∀k,k<W.length→w1.cell? ⟨b,k,none⟩=some (.string (wd W k)):=λk hk=>by
  rw [hw1,←HBE.o,qCZ hk];exact qCF (qC.new w _ 9) k hk
 have H1:=mH (aI (hB1:Below w.heap.size w w1) (aI hAr (aI (HA.o.1.below hB1 HA.o.1.lt) (aI (HA.o.2.1.below hB1) (HA.o.2.2.2.2.below hB1)))));clear hw1 hB1 hAr HC0;have d0:=hcell 0 oM;have d1:=hcell 1 oM;have hD2:=qCy 2 H1.o.2.1 oM;rw [if_neg hcn] at hD2;have HD2:=mH hD2;clear hcell hD2;generalize wd W 0=Q at *;generalize wd W 1=Q1 at *;go_wp2_with fail;refine(qNi (W.drop 2) _ 12 oM w1 HD2.o (by rw [List.length_drop];omega) HA.o.2.2.2.1.1 H1.o.2.2.2.2).mono ?_;rintro e w2 ⟨x,rfl,hxo,hb2⟩;obtain⟨o,ho⟩:=eX (qX 12 (W.drop 2));have hV:=HA.o.2.2.1;rw [ho] at hV hxo;rw [ho];have hB2:Below w.heap.size w w2:=H1.o.1.trans (hb2.mono H1.o.1.size);have d1':=(hb2.cell (p:=⟨b,_,none⟩) hbW).trans d1;have hb2l:b<w2.heap.size:=Nat.lt_of_lt_of_le hbW hb2.size;have H2:=mH (aI hB2 (aI (HA.o.1.below hB2 HA.o.1.lt) (HA.o.2.1.below hB2)));have HV:=mH (aI hV (aI hxo ho));clear hV ho hB2 hb2 d0 d1 hxo
 cases o with
 | none =>
  have hR:Hx (R=((9,[]),E,at_)):=mH HV.o.1;have hBa:Below w.heap.size w (w2.alloc (.cells ↑x 81)):=qB H2.o.1 _ H2.o.1.size;have HBa:=mH hBa;clear hBa;simp only [Option.isSome_none];go_wp2_with (first|(refine jR (w0:=w2) rfl 81 _ _ rfl _ ↑x rF rF kR rfl (zS x) ?_));refine(jW 9 dE dE _ (HA.o.2.2.2.2.below HBa.o)).mono ?_;rintro e w9 ⟨rfl,hb9⟩;go_wp2;go_ret;rw [hR.o];exact qBx.stay HA.o.1 HA.o.2.1 (HBa.o.trans (hb9.mono HBa.o.size)) rfl
 | some y =>
  obtain rfl:x=y:=HV.o.2.1 y rfl;have hR:Hx (R=(((qAC E at_ Q1 x).1,okT),(qAC E at_ Q1 x).2,at_)):=mH HV.o.1;have hf:=qJO HV.o.2.2;have hSe:=qMG HV.o.2.2;have HF:=mH (aI hf hSe);clear hf hSe;simp only [Option.isSome_some];go_wp2_with (first|(refine jR (w0:=w2) rfl 81 _ _ rfl _ ↑x rF rF kR rfl (zS x) ?_));have hbx:qC (w2.alloc (.cells ↑x 81)).drew w2.heap.size ↑x 81:=(qC.new w2 _ _).drew;have hBa:Below w2.heap.size w2 (w2.alloc (.cells ↑x 81)).drew:=by exact qS
  have hS:(w2.alloc (.cells ↑x 81)).drew.cell? ⟨b,1,none⟩=some (.string Q1)∧qV (w2.alloc (.cells ↑x 81)).drew w2.heap.size 0 x:=⟨(hBa.cell (p:=⟨b,_,none⟩) hb2l).trans d1',qV.box hbx⟩;have H3:=mH (aI (H2.o.2.1.below hBa H2.o.2.1.lt) (aI (H2.o.2.2.below hBa) (H2.o.1.trans (hBa.mono H2.o.1.size))));have hbx2:w2.heap.size≠cb:=by have:=H2.o.2.1.lt;omega
  clear hbx hBa d1';refine qA.start (λW'=>W'.cell? ⟨b,1,none⟩=some (.string Q1)∧qV W' w2.heap.size 0 x) [] kR ?_;generalize (w2.alloc (.cells ↑x 81)).drew=W3 at *;refine qA.q 0 ?_;refine qA.q 1 ?_;refine qA.q 2 ?_;refine qA.t 3 hS ?_;refine qA.take (i:=4) (v:=.agg ↑x) rfl kR kR kR kR (λ_ _ _ h=>h) hS (yieldsIf_load_mid (by first|rfl|(go_simp;done)) 81 _ rfl (w2.heap.size) (0) rF ↑x _ (λ_ h=>h.2) underlying81 rfl kR) ?_;try simp only [Act.put,zL,zN,zH,zM,zK,zI]
  refine qA.nx 5 λK hK=>?_;go_simp
  refine(qPB E at_ Q1 x cb _ W3 H3.o.1 H3.o.2.1 HA.o.2.2.2.1.2.1 (qAU.2 ⟨HF.o.1.1,HF.o.1.2.1⟩) HF.o.1.2.2.1 HF.o.1.2.2.2.2.1 hlen HA.o.2.2.2.1.2.2 HF.o.2 (HA.o.2.2.2.2.below H3.o.2.2)).mono ?_;rintro e' W5 ⟨v',rfl,hb5,hA5,hg5,hfr⟩;have hfr':w.cell? ⟨cb,0,none⟩=some v'∨∀b off n c,v'=.slice (some ⟨b,off,none⟩) n c→w.heap.size≤b:=by
   rcases hfr with h|h
   ·exact .inl (h ▸ HA.o.1.cell 0 _ rfl)
   ·exact .inr λb off n c e=>Nat.le_trans H3.o.2.2.size (h b off n c e)
  have H5:=mH (aI hb5 (aI hA5 (aI (qK (qH (some cb) H3.o.2.2) hg5) hfr')));have hbcb:b≠cb:=by omega
  have hS5:W5.cell? ⟨b,1,none⟩=some (.string Q1)∧qV W5 w2.heap.size 0 x:=⟨hg5.cell hS.1 (by simpa using hbcb),λj u hu=>hg5.cell (hS.2 j u hu) (by simpa using hbx2)⟩;clear hfr hfr';refine qA.on hK (λ_ _=>hS5) ?_;clear hK K hb5 hA5 hg5;refine qA.q 6 ?_;refine qA.done kR ?_;go_wp2;go_ret;rw [hR.o];exact⟨_,rfl,H5.o.1,H5.o.2.1,H5.o.2.2.1,H5.o.2.2.2⟩
theorem qR4 (E:List qD) (at_:Int) (cb:Nat) (vE:Value) (line:ByteArray) (W:List ByteArray) (w:World) (hb:qC w cb #[vE,.int .i64 at_] 98) (hA:qI qD.cells 17 w E vE) (hD:qBR E at_) (hlen:E.length<18) (hSp:∀y∈E,jF y.spc) (hW:qAb 32 line=W) (hh:qDu W=false) (hx:line.size≤200000) (ht:Tab10 w) (hM:MaxL w) (hw:wd W 0=qAp) (hl:W.length=4):Calls prog 44 #[.pointer (some ⟨cb,0,none⟩),.string line] w (qBx cb (qBu (zR E at_ W).1,(zR E at_ W).2) w):=by
 obtain⟨a,cap,rfl,-⟩:=id hA;have hs:∀x∈W,x.size≤1000000:=λx h=>by rw [←hW] at h;have:=qBp h;omega
 have h0:0<W.length:=by have:=qBS 32 line;rw [hW] at this;omega
 have hW1:W.length≤200001:=by have:=qBS 32 line;rw [hW] at this;omega
 have hcall:=qCv line w oM hM;obtain⟨b,hbe⟩:=eX (w.heap.size);rw [hW,hh,hbe] at hcall;simp only [Bool.not_false] at hcall;have HC0:=mH hcall;have hcb:cb<b:=by have:=hb.lt;omega
 have HBE:=mH hbe;clear hcall hbe;have hV:zR E at_ W=(match qAW 12 W 2 with|none=>((9,[]),E,at_)|some n=>(qBa (zB E at_) ⟨wd W 1,n⟩ (wd W 3),E,at_)):=by
  unfold zR;rw [if_neg (λh=>absurd (h.1.symm.trans hw) dE),if_neg (λh=>absurd (h.1.symm.trans hw) dE),if_pos ⟨hw,hl⟩];rfl
 obtain⟨q0,q1,q2,q3,q4⟩:=qMo hw;have hl1:((W.length:Int)==4)=true:=by simp;omega
 have h0i:(0:Int)<W.length:=by omega
 have h1i:(1:Int)<W.length:=by omega
 have h2i:(2:Int)<W.length:=by omega
 have h3i:(3:Int)<W.length:=by omega
 have hwf:∀n,qAW 12 W 2=some n→(Lit.int .i64 n).wf=true:=λn h=>qEn oM h
 have HA:=mH (aI hb (aI hA (aI hV (aI (aI (qCk hs 2) (aI (qCk hs 1) (aI (qCk hs 3) (aI hwf (aI hD hSp))))) ht))));clear hb hA hD ht hM hSp hs hW hh hV hw hwf;unfold qAW at HA;generalize zR E at_ W=R at *;go_enter func44,ntmps44;go_wp2_with fail;refine HC0.o.mono ?_;rintro e w1 ⟨rfl,hw1⟩;have hB1:Below w.heap.size w w1:=by rw [hw1];exact qB bR _ lR
 have hAr:qI strCells 1 w1 W (.slice (some ⟨b,0,none⟩) W.length W.length):=by
  rw [hw1,←HBE.o];exact qEA (qC.new w _ 9) (by unfold maxLen;omega)
 have hbW:b<w1.heap.size:=by rw [hw1,←HBE.o];simp
 have hcell:∀k,k<W.length→w1.cell? ⟨b,k,none⟩=some (.string (wd W k)):=λk hk=>by
  rw [hw1,←HBE.o,qCZ hk];exact qCF (qC.new w _ 9) k hk
 have H1:=mH (aI (hB1:Below w.heap.size w w1) (aI hAr (aI (HA.o.1.below hB1 HA.o.1.lt) (aI (HA.o.2.1.below hB1) (HA.o.2.2.2.2.below hB1)))));clear hw1 hB1 hAr HC0;have d0:=hcell 0 oM;have d1:=hcell 1 oM;have d2:=hcell 2 oM;have d3:=hcell 3 oM;clear hcell;generalize wd W 0=Q at *;generalize wd W 1=Q1 at *;generalize wd W 2=Q2 at *;generalize wd W 3=Q3 at *;go_wp2_with fail;refine(qG0 Q2 12 oM w1 HA.o.2.2.2.1.1 H1.o.2.2.2.2).mono ?_;rintro e w2 ⟨n,bb,rfl,hn,hb2⟩;have hV:=HA.o.2.2.1;rw [hn] at hV;have hB2:Below w.heap.size w w2:=H1.o.1.trans (hb2.mono H1.o.1.size);have hdr:Below w.heap.size w w2.drew:=by exact qS
 have hS:w2.drew.cell? ⟨b,1,none⟩=some (.string Q1)∧w2.drew.cell? ⟨b,3,none⟩=some (.string Q3):=⟨(hb2.cell (p:=⟨b,_,none⟩) hbW).trans d1,(hb2.cell (p:=⟨b,_,none⟩) hbW).trans d3⟩;have hlb:b<w2.drew.heap.size:=Nat.lt_of_lt_of_le hbW hb2.size;have H2:=mH (aI hB2 (aI (HA.o.1.below hdr HA.o.1.lt) (aI (HA.o.2.1.below hdr) hdr)));have HV:=mH (aI hV hn);clear hV hn hB2 hb2 d0 d1 d2 d3 hdr
 cases bb
 ·have hR:Hx (R=((9,[]),E,at_)):=mH HV.o.1
  (go_wp2_with fail;refine(jW 9 dE dE w2 (HA.o.2.2.2.2.below H2.o.1)).mono ?_;rintro e w9 ⟨rfl,hb9⟩;go_wp2;go_ret)
  rw [hR.o];exact qBx.stay HA.o.1 HA.o.2.1 (H2.o.1.trans (hb9.mono H2.o.1.size)) rfl
 have hR:Hx (R=(qBa (zB E at_) ⟨Q1,n⟩ Q3,E,at_)):=mH HV.o.1;have hwf:=HA.o.2.2.2.1.2.2.2.1 n HV.o.2;have HWF:=mH hwf;clear hwf;go_wp2_with fail;refine qA.start (λW'=>W'.cell? ⟨b,1,none⟩=some (.string Q1)∧W'.cell? ⟨b,3,none⟩=some (.string Q3)) [] kR ?_;refine qA.q 0 ?_;refine qA.q 1 ?_;refine qA.q 2 ?_;refine qA.t 3 hS ?_;refine qA.q 4 ?_;refine qA.q 5 ?_;refine qA.q 6 ?_;refine qA.q 7 ?_;refine qA.t 8 hS ?_;refine qA.nx 9 λK hK=>?_;go_simp
 refine(qQI E at_ cb _ ⟨Q1,n⟩ Q3 w2.drew H2.o.2.1 H2.o.2.2.1 HA.o.2.2.2.1.2.2.2.2.1.ent oM HA.o.2.2.2.1.2.2.2.2.2 (HA.o.2.2.2.2.below H2.o.2.2.2) HA.o.2.2.2.1.2.1 HWF.o HA.o.2.2.2.1.2.2.1).mono ?_;rintro e' w3 ⟨rfl,hb3⟩;have hS3:w3.cell? ⟨b,1,none⟩=some (.string Q1)∧w3.cell? ⟨b,3,none⟩=some (.string Q3):=⟨(hb3.cell (p:=⟨b,_,none⟩) hlb).trans hS.1,(hb3.cell (p:=⟨b,_,none⟩) hlb).trans hS.2⟩;have H3:=mH (H2.o.2.2.2.trans (hb3.mono H2.o.2.2.2.size));refine qA.on hK (λ_ _=>hS3) ?_;clear hK K hb3;refine qA.q 10 ?_;refine qA.done kR ?_;go_wp2;go_ret;rw [hR.o];exact qBx.stay HA.o.1 HA.o.2.1 H3.o rfl
theorem qSD (E:List qD) (at_:Int) (cb:Nat) (vE:Value) (line:ByteArray) (W:List ByteArray) (w:World) (hb:qC w cb #[vE,.int .i64 at_] 98) (hA:qI qD.cells 17 w E vE) (hD:qBR E at_) (hlen:E.length<18) (hSp:∀y∈E,jF y.spc) (hW:qAb 32 line=W) (hh:qDu W=false) (hx:line.size≤200000) (ht:Tab10 w) (hM:MaxL w) (hw:wd W 0=qAn) (hl:W.length=2):Calls prog 44 #[.pointer (some ⟨cb,0,none⟩),.string line] w (qBx cb (qBu (zR E at_ W).1,(zR E at_ W).2) w):=by
 obtain⟨a,cap,rfl,-⟩:=id hA;have hs:∀x∈W,x.size≤1000000:=λx h=>by rw [←hW] at h;have:=qBp h;omega
 have h0:0<W.length:=by have:=qBS 32 line;rw [hW] at this;omega
 have hW1:W.length≤200001:=by have:=qBS 32 line;rw [hW] at this;omega
 have hcall:=qCv line w oM hM;obtain⟨b,hbe⟩:=eX (w.heap.size);rw [hW,hh,hbe] at hcall;simp only [Bool.not_false] at hcall;have HC0:=mH hcall;have hcb:cb<b:=by have:=hb.lt;omega
 have HBE:=mH hbe;clear hcall hbe;have hV:zR E at_ W=(qCA (zB E at_) (wd W 1),E,at_):=by
  unfold zR;rw [if_neg (λh=>absurd (h.1.symm.trans hw) dE),if_neg (λh=>absurd (h.1.symm.trans hw) dE),if_neg (λh=>absurd (h.1.symm.trans hw) dE),if_pos ⟨hw,hl⟩]
 obtain⟨q0,q1,q2,q3,q4⟩:=qM9 hw;have hl1:((W.length:Int)==2)=true:=by simp;omega
 have h0i:(0:Int)<W.length:=by omega
 have h1i:(1:Int)<W.length:=by omega
 have HA:=mH (aI hb (aI hA (aI hV (aI (aI hD hSp) ht))));clear hb hA hD ht hM hSp hs hW hh hV hw;generalize zR E at_ W=R at *;go_enter func44,ntmps44;go_wp2_with fail;refine HC0.o.mono ?_;rintro e w1 ⟨rfl,hw1⟩;have hB1:Below w.heap.size w w1:=by rw [hw1];exact qB bR _ lR
 have hAr:qI strCells 1 w1 W (.slice (some ⟨b,0,none⟩) W.length W.length):=by
  rw [hw1,←HBE.o];exact qEA (qC.new w _ 9) (by unfold maxLen;omega)
 have hbW:b<w1.heap.size:=by rw [hw1,←HBE.o];simp
 have hcell:∀k,k<W.length→w1.cell? ⟨b,k,none⟩=some (.string (wd W k)):=λk hk=>by
  rw [hw1,←HBE.o,qCZ hk];exact qCF (qC.new w _ 9) k hk
 have H1:=mH (aI (hB1:Below w.heap.size w w1) (aI hAr (aI (HA.o.1.below hB1 HA.o.1.lt) (aI (HA.o.2.1.below hB1) (HA.o.2.2.2.2.below hB1)))));clear hw1 hB1 hAr HC0;have d0:=hcell 0 oM;have d1:=hcell 1 oM;clear hcell;generalize wd W 0=Q at *;generalize wd W 1=Q1 at *;go_wp2_with fail;refine(qQ9 E at_ cb _ Q1 w1 H1.o.2.2.1 H1.o.2.2.2.1 HA.o.2.2.2.1.1.ent oM HA.o.2.2.2.1.2 H1.o.2.2.2.2).mono ?_;rintro e' w3 ⟨rfl,hb3⟩;have H3:=mH (H1.o.1.trans (hb3.mono H1.o.1.size));go_wp2;go_ret;rw [HA.o.2.2.1];exact qBx.stay HA.o.1 HA.o.2.1 H3.o rfl
theorem qRV (E:List qD) (at_:Int) (cb:Nat) (vE:Value) (line:ByteArray) (W:List ByteArray) (w:World) (hb:qC w cb #[vE,.int .i64 at_] 98) (hA:qI qD.cells 17 w E vE) (hD:qBR E at_) (hlen:E.length<18) (hSp:∀y∈E,jF y.spc) (hW:qAb 32 line=W) (hh:qDu W=false) (hx:line.size≤200000) (ht:Tab10 w) (hM:MaxL w) (hw:wd W 0=qAo) (hl:W.length=1):Calls prog 44 #[.pointer (some ⟨cb,0,none⟩),.string line] w (qBx cb (qBu (zR E at_ W).1,(zR E at_ W).2) w):=by
 obtain⟨a,cap,rfl,-⟩:=id hA;have hs:∀x∈W,x.size≤1000000:=λx h=>by rw [←hW] at h;have:=qBp h;omega
 have h0:0<W.length:=by have:=qBS 32 line;rw [hW] at this;omega
 have hW1:W.length≤200001:=by have:=qBS 32 line;rw [hW] at this;omega
 have hcall:=qCv line w oM hM;obtain⟨b,hbe⟩:=eX (w.heap.size);rw [hW,hh,hbe] at hcall;simp only [Bool.not_false] at hcall;have HC0:=mH hcall;have hcb:cb<b:=by have:=hb.lt;omega
 have HBE:=mH hbe;clear hcall hbe;have hV:zR E at_ W=((0,Lib.itoa (zB E at_).X.length++[10]),E,at_):=by
  unfold zR;rw [if_neg (λh=>absurd (h.1.symm.trans hw) dE),if_neg (λh=>absurd (h.1.symm.trans hw) dE),if_neg (λh=>absurd (h.1.symm.trans hw) dE),if_neg (λh=>absurd (h.1.symm.trans hw) dE),if_pos ⟨hw,hl⟩]
 obtain⟨q0,q1,q2,q3,q4⟩:=qMf hw;have hl1:((W.length:Int)==1)=true:=by simp;omega
 have h0i:(0:Int)<W.length:=by omega
 have hP:=qC4 (at_:=at_) hD.ent (by omega:E.length≤100);have hkd:∀e∈E,zC e.kind 1 5=false:=λe he=>(qDI (hD.ent.ok e he)).1.kind
 have HA:=mH (aI hb (aI hA (aI hV (aI (aI hD (aI hSp (aI hP hkd))) ht))));clear hb hA hD ht hM hSp hs hW hh hV hw hP hkd;generalize zR E at_ W=R at *;go_enter func44,ntmps44;go_wp2_with fail;refine HC0.o.mono ?_;rintro e w1 ⟨rfl,hw1⟩;have hB1:Below w.heap.size w w1:=by rw [hw1];exact qB bR _ lR
 have hAr:qI strCells 1 w1 W (.slice (some ⟨b,0,none⟩) W.length W.length):=by
  rw [hw1,←HBE.o];exact qEA (qC.new w _ 9) (by unfold maxLen;omega)
 have hbW:b<w1.heap.size:=by rw [hw1,←HBE.o];simp
 have hcell:∀k,k<W.length→w1.cell? ⟨b,k,none⟩=some (.string (wd W k)):=λk hk=>by
  rw [hw1,←HBE.o,qCZ hk];exact qCF (qC.new w _ 9) k hk
 have H1:=mH (aI (hB1:Below w.heap.size w w1) (aI hAr (aI (HA.o.1.below hB1 HA.o.1.lt) (aI (HA.o.2.1.below hB1) (HA.o.2.2.2.2.below hB1)))));clear hw1 hB1 hAr HC0;have d0:=hcell 0 oM;clear hcell;generalize wd W 0=Q at *;have hdr:Below w.heap.size w w1.drew:=by have:=H1.o.1;exact qS
 have hb1:=HA.o.1.below hdr HA.o.1.lt;have hS:w1.drew.cell? ⟨cb,0,none⟩=some (.slice a E.length cap)∧w1.drew.cell? ⟨cb,1,none⟩=some (.int .i64 at_):=⟨hb1.cell 0 _ rfl,hb1.cell 1 _ rfl⟩;have hlt:=hb1.lt;have HB1:=mH (aI hdr (HA.o.2.1.below hdr));clear hdr hb1;go_wp2_with fail;refine qA.start (λW'=>W'.cell? ⟨cb,0,none⟩=some (.slice a E.length cap)∧W'.cell? ⟨cb,1,none⟩=some (.int .i64 at_)) [] kR ?_;have hfld:=qPK;refine qA.q 0 ?_;refine qA.q 1 ?_;refine qA.q 2 ?_;refine qA.t 3 hS ?_;refine qA.q 4 ?_;refine qA.q 5 ?_;refine qA.q 6 ?_;refine qA.t 7 hS ?_;refine qA.nx 8 λK hK=>?_;go_simp
 refine(qG5 E _ at_ w1.drew HB1.o.2 oM HA.o.2.2.2.1.1.ent.asc HA.o.2.2.2.1.2.1 HA.o.2.2.2.1.2.2.2).mono ?_;rintro e w2 ⟨v0,v1,v2,rfl,hpl,hb2⟩;obtain⟨aX,nX,cX,rfl⟩:=jD hpl.x;have hnx:nX=(zB E at_).X.length:=by
  obtain⟨_,_,h,_⟩:=hpl.x;simp only [Value.slice.injEq] at h;exact h.2.1
 have H2:=mH (HB1.o.1.trans (hb2.mono HB1.o.1.size));have hS2:w2.cell? ⟨cb,0,none⟩=some (.slice a E.length cap)∧w2.cell? ⟨cb,1,none⟩=some (.int .i64 at_):=⟨(hb2.cell (p:=⟨cb,0,none⟩) hlt).trans hS.1,(hb2.cell (p:=⟨cb,1,none⟩) hlt).trans hS.2⟩;have hxl:nX≤100:=by rw [hnx];exact HA.o.2.2.2.1.2.2.1.2.2.2
 have HN:=mH hnx;clear hpl hb2 hnx;refine qA.on hK (λ_ _=>hS2) ?_;clear hK K;refine qA.q 9 ?_;refine qA.q 10 ?_;refine qA.nx 11 λK hK=>?_;go_simp
 refine(qCH (nX:Int) oM oM w2 (HA.o.2.2.2.2.below H2.o)).mono ?_;rintro e w3 ⟨rfl,hb3⟩;have hS3:w3.cell? ⟨cb,0,none⟩=some (.slice a E.length cap)∧w3.cell? ⟨cb,1,none⟩=some (.int .i64 at_):=⟨(hb3.cell (p:=⟨cb,0,none⟩) (by show cb<w2.heap.size;have:=H2.o.size;have:=HA.o.1.lt;omega)).trans hS2.1,(hb3.cell (p:=⟨cb,1,none⟩) (by show cb<w2.heap.size;have:=H2.o.size;have:=HA.o.1.lt;omega)).trans hS2.2⟩;have H3:=mH (H2.o.trans (hb3.mono H2.o.size));obtain⟨T,hT⟩:=eX (qBq (nX:Int));have zT:T.size≤20:=by rw [←hT];show(bA (Lib.itoa nX)).size≤20;rw [qCJ];exact qCu (WalkArith.wf_i64 oM)
 have HT:=mH hT;rw [hT];clear hT hb3;refine qA.on hK (λ_ _=>hS3) ?_;clear hK K;refine qA.qc 12 ?_;refine qA.q 13 ?_;refine qA.done kR ?_;go_wp2;go_ret;rw [HA.o.2.2.1,←HN.o];exact qBx.stay HA.o.1 HA.o.2.1 H3.o (by rw [←HT.o];exact qIO _)
theorem qT0 (E:List qD) (at_:Int) (cb:Nat) (vE:Value) (line:ByteArray) (w:World) (hb:qC w cb #[vE,.int .i64 at_] 98) (hA:qI qD.cells 17 w E vE) (hD:qBR E at_) (hlen:E.length<18) (hSp:∀y∈E,jF y.spc) (hx:line.size≤200000) (ht:Tab10 w) (hM:MaxL w) :
  Calls prog 44 #[.pointer (some ⟨cb,0,none⟩),.string line] w (qBx cb (doV (E,at_) line) w):=by
 obtain⟨W,hW⟩:=eX (qAb 32 line)
 cases hh:qDu W
 rotate_left
 ·have hV:doV (E,at_) line=(qD6 9,(E,at_)):=by
   unfold doV;rw [hW,if_pos];obtain⟨x,h1,h2⟩:=qMM.1 hh;exact List.any_eq_true.2 ⟨x,h1,by simpa using h2⟩
  rw [hV];exact qRX E at_ cb vE line W w hb hA hW hh hx ht hM
 have hV:doV (E,at_) line=(qBu (zR E at_ W).1,(zR E at_ W).2):=by
  unfold doV;rw [hW,if_neg];intro h;obtain⟨x,h1,h2⟩:=List.any_eq_true.1 h;have:=qMM.2 ⟨x,h1,by simpa using h2⟩;rw [hh] at this;cases this
 rw [hV]
 by_cases h1:wd W 0=wAt∧W.length=2
 ·exact qTa E at_ cb vE line W w hb hA hD hlen hSp hW hh hx ht hM h1.1 h1.2
 by_cases h2:wd W 0=wDo∧2<W.length
 ·exact qUH E at_ cb vE line W w hb hA hD hlen hSp hW hh hx ht hM h2.1 h2.2
 by_cases h3:wd W 0=qAp∧W.length=4
 ·exact qR4 E at_ cb vE line W w hb hA hD hlen hSp hW hh hx ht hM h3.1 h3.2
 by_cases h4:wd W 0=qAn∧W.length=2
 ·exact qSD E at_ cb vE line W w hb hA hD hlen hSp hW hh hx ht hM h4.1 h4.2
 by_cases h5:wd W 0=qAo∧W.length=1
 ·exact qRV E at_ cb vE line W w hb hA hD hlen hSp hW hh hx ht hM h5.1 h5.2
 exact qRy E at_ cb vE line W w hb hA hD hlen hSp hW hh hx ht hM ⟨h1,h2,h3,h4,h5⟩
theorem qPd (c:UInt8) (m:Nat):∀xs:List (List UInt8),(∀x∈xs,x.length≤m)→(Lib.join xs [c]).length≤xs.length*(m+1)
 | [],_=>by simp [Lib.join]
 | x::r,h=>by
  have h0:=h x sI;have key:∀t:List (List UInt8),(∀x∈t,x.length≤m)→(Lib.joinTail [c] t).length≤t.length*(m+1):=by
   intro t
   induction t with
   | nil=>intro _;simp [Lib.joinTail]
   | cons y t ih =>
    intro ht;have hy:=ht y sI;have:=ih (λx hx=>ht x (by simp [hx]));unfold Lib.joinTail at this ⊢;simp only [List.map_cons,List.flatten_cons,List.length_append,List.length_cons,List.length_nil,Nat.succ_mul] at this ⊢;omega
  have:=key r (λx hx=>h x (by simp [hx]));rw [Lib.join_cons,List.length_append,List.length_cons,Nat.succ_mul];omega
theorem qK4:∀xs:List (List UInt8),Lib.join xs []=xs.flatten
 | []=>rfl
 | x::r=>by
  rw [Lib.join_cons,List.flatten_cons]
  congr 1
  unfold Lib.joinTail
  induction r with
  | nil=>rfl
  | cons y t ih=>rw [List.map_cons,List.flatten_cons,List.flatten_cons,ih];rfl
theorem qOm {xs:List ByteArray} {t:ByteArray} (h:∀x∈xs,qA9 x) (hl:xs.length≤13) (ht:t.data.toList.count 10≤3) :
  (qBI ((⟨(Lib.join (xs.map (·.data.toList)) [10]).toArray⟩:ByteArray)++t)).length≤17:=by
 refine Nat.le_trans (qL3 _) ?_;rw [ByteArray.data_append,Array.toList_append,List.count_append];have h1:=qPG (xs.map (·.data.toList)) (λy hy=>by
  obtain⟨x,hx,rfl⟩:=List.mem_map.1 hy;exact h x hx)
 rw [List.length_map] at h1;simp only [List.toList_toArray] at h1 ⊢;omega
theorem qOR {s:ByteArray} (h:qA9 s):(qBI s).length≤17:=by
 refine Nat.le_trans (qL3 _) ?_;rw [List.count_eq_zero.2 h];omega
def qDP:List ByteArray→List qD × Int→List (List UInt8)
 | [],_=>[]
 | x::l,D=>(doV D x).1::qDP l (doV D x).2
theorem qIU:∀(l:List ByteArray) (D:List qD × Int),(qDP l D).length=l.length
 | [],_=>rfl
 | x::l,D=>by rw [qDP,List.length_cons,qIU l,List.length_cons]
theorem qKD:∀(l:List ByteArray) (D:List qD × Int),(qDP l D).flatten=(qBB l D).1
 | [],_=>rfl
 | x::l,D=>by rw [qDP,List.flatten_cons,qKD l,qBB]
theorem qOH:∀(l:List ByteArray) (x:ByteArray) (D:List qD × Int),qDP (l++[x]) D=qDP l D++[(doV (qBB l D).2 x).1]
 | [],x,D=>rfl
 | y::l,x,D=>by rw [List.cons_append,qDP,qOH l x,qDP,List.cons_append];rfl
theorem qR7 {l:List ByteArray} {k:Nat} (h:k<l.length) (D:List qD × Int):qDP (l.take (k+1)) D=qDP (l.take k) D++[(doV (qBB (l.take k) D).2 l[k]).1]:=by
 rw [List.take_succ_eq_append_getElem h,qOH]
structure SaS (w W:World) (db:Nat) (vE vo:Value) (T:List (List UInt8)) (E:List qD) (at_:Int):Prop where
 con:qC W db #[vE,.int .i64 at_] 98
 ent:qI qD.cells 17 W E vE
 out:W.ownsRow (db+1) 9 1 vo T.length (T.map λt=>Value.string (bA t))
 sep:0<E.length→∀b off n c,vE=.slice (some ⟨b,off,none⟩) n c→vo.ownBlock≠some b
 bel:Below db w W
theorem SaS.next {w W W4 W5:World} {db g cap n:Nat} {vE vo v':Value} {T:List (List UInt8)} {t:List UInt8} {E E2:List qD} {at_ at2:Int} {o:Obj} (h:SaS w W db vE vo T E at_)
  (hb:qC W4 db #[v',.int .i64 at2] 98) (hA:qI qD.cells 17 W4 E2 v') (hg:W.grownBy W4 (some db)) (hfr:W.cell? ⟨db,0,none⟩=some v'∨∀b off n c,v'=.slice (some ⟨b,off,none⟩) n c→W.heap.size≤b)
  (ho5:W5.ownsRow (db+1) 9 1 (.slice (some ⟨g,0,none⟩) n cap) (T++[t]).length ((T++[t]).map λt=>Value.string (bA t))) (hg5:(W4.alloc o).grownBy W5 vo.ownBlock) (hat:vo.ownBlock=some g∨g=W4.heap.size+1):SaS w W5 db v' (.slice (some ⟨g,0,none⟩) n cap) (T++[t]) E2 at2:=by
 have hdb:=h.con.lt;have hlo:=λk e=>(h.out.lt k e)
 have hz:=hg.size;have hsep:0<E2.length→∀b off n c,v'=.slice (some ⟨b,off,none⟩) n c→b<W4.heap.size∧vo.ownBlock≠some b:=by
  intro hp b off n c e;have hlt:=qMU hA hp e;refine⟨hlt,?_⟩
  rcases hfr with q|q
  ·have hv:v'=vE:=by have:=h.con.cell 0 _ rfl;rw [q] at this;exact Option.some.inj this
   have hp2:0<E.length:=by
    obtain⟨x1,x2,x3,_⟩:=h.ent;obtain⟨y1,y2,y3,_⟩:=hA;rw [hv,x3] at y3;simp only [Value.slice.injEq] at y3;have:=y3.2.1;omega
   exact h.sep hp2 b off n c (hv.symm.trans e)
  ·intro e2;have h1:=q b off n c e;have h2:=(hlo b e2).2;omega
 have hnd:∀k,vo.ownBlock=some k→k≠db:=λk e=>by have:=(hlo k e).1;omega
 refine⟨(hb.alloc o).grown hg5 (λe=>hnd db e.symm rfl),?_,ho5,λhp b off n c e=>?_,?_⟩
 ·refine qOD hA (by have:=hg5.size;simp at this;omega) λhp b off n c e=>?_
  obtain⟨h1,h2⟩:=hsep hp b off n c e;rw [hg5.block b (by simp;omega) (λe=>h2 e.symm)];exact Below.heap_alloc W4 o b h1
 ·obtain⟨h1,h2⟩:=hsep hp b off n c e;intro e2;simp only [Value.ownBlock,Option.some.injEq] at e2
  rcases hat with q|q
  ·exact h2 (by rw [q,e2])
  ·omega
 ·refine h.bel.trans ((jE hg lR oM).trans ((qB bR _ oM).trans ⟨hg5.os,hg5.tape,hg5.output,hg5.size,λk hk=>hg5.block k (by simp;omega) (λe=>?_)⟩));have:=(hlo k e.symm).1;omega
theorem qSA (L:List ByteArray) (v:Value) (w:World) (hA:qI strCells 1 w L v) (hn:L.length≤17) (hs:∀x∈L,x.size≤200000) (ht:Tab10 w) (hM:MaxL w):Calls prog 32 #[.slice none 0 0,v] w
  λe w'=>∃v1 v2,e=.returned (.tuple #[v1,v2])∧w'.ownsRow (w.heap.size+1) 9 1 v1 L.length ((qDP L ([],0)).map λt=>Value.string (bA t))∧Below w.heap.size w w':=by
 obtain⟨i0,hi,hz0,hz1,hz2⟩:=info_parts qDv;obtain⟨a,cap,rfl,hcap,hmax,hc⟩:=id hA;unfold maxLen at hmax;have HH:=Lib.hid (aI hc (aI hs (aI ht (aI hM hn))));clear hA hc hs ht hM;go_enter func32,ntmps32;go_wp2;have hbx:qC (w.alloc (.cells #[.slice none 0 0,.int .i64 0] 98)) w.heap.size #[.slice none 0 0,.int .i64 0] 98:=qC.new _ _ _;have hst:SaS w (w.alloc (.cells #[.slice none 0 0,.int .i64 0] 98)) w.heap.size (.slice none 0 0) (.slice none 0 0) [] [] 0 :=
  ⟨hbx,qI.nil _ _ _,World.ownsRow_nil _ _ _ _,(λh=>by simp at h),qB bR _ lR⟩
 have HST:=Lib.hid hst;clear hst hbx;generalize w.alloc (.cells #[.slice none 0 0,.int .i64 0] 98)=W0 at *;go_loopw [7,15] (λov iv wr=>∃(k:Nat) (vE:Value),k≤L.length∧iv=.int .i64 k∧SaS w wr w.heap.size vE ov (qDP (L.take k) ([],0)) (qBB (L.take k) ([],0)).2.1 (qBB (L.take k) ([],0)).2.2) (λ_ iv _=>L.length - (intOf iv).toNat)
 case atStart=>exact⟨0,_,by omega,rfl,HST.out⟩
 case round =>
  clear HST;obtain⟨k,vE,hk,rfl,hT⟩:=hrel;have HT:=Lib.hid hT;have hdb:=hT.con.lt
  by_cases hlt:k<L.length
  rotate_left
  ·obtain rfl:k=L.length:=by omega
   have hS:wr.drew.cell? ⟨w.heap.size,0,none⟩=some vE:=hT.con.cell 0 _ rfl;clear hT;go_wp2_with fail;refine qA.start (λW:World=>W.cell? ⟨w.heap.size,0,none⟩=some vE) [] kR ?_;refine qA.q 0 ?_;refine qA.q 1 ?_;refine qA.q 2 ?_;refine qA.q 3 ?_;refine qA.t 4 hS ?_;refine qA.q 5 ?_;refine qA.q 6 ?_;refine qA.done kR ?_;go_wp2;go_ret2;have ho:=HT.out.out;rw [List.take_length] at ho;exact⟨_,_,rfl,by rw [qIU] at ho;exact ho,HT.out.bel.drew⟩
  obtain⟨b,off,rfl,hbl,hcc⟩:=HH.out.1 k hlt;have c0:=(hT.bel.cell (p:=⟨b,_,none⟩) hbl).trans (hcc 0 _ rfl);simp only [Nat.mul_one,Nat.add_zero] at c0;have hk':(k:Int)<L.length:=by omega
  have hx:=HH.out.2.1 L[k] (List.getElem_mem hlt);have hsy:=qR7 hlt (([],0):List qD × Int);have hrt:=qQG hlt (([],0):List qD × Int);have hd:=qIp (L.take k) ([],0) qGu;have hok:=qPm (L.take k) ([],0) (λy hy=>by cases hy);have hll:(L.take k).length≤17:=by rw [List.length_take];omega
  have hTl:(qDP (L.take k) ([],0)).length≤17:=by rw [qIU];exact hll
  have hbl2:b<wr.heap.size:=Nat.lt_of_lt_of_le hbl hT.bel.size;generalize L[k]=x at *;generalize qDP (L.take k) ([],0)=T at *;obtain⟨tt,E,at_,hD⟩:∃tt E at_,qBB (L.take k) ([],0)=(tt,E,at_):=⟨_,_,_,rfl⟩;rw [hD] at HT hsy hrt hd hok;obtain⟨u,E2,at2,hU⟩:∃u E2 at2,doV (E,at_) x=(u,E2,at2):=⟨_,_,_,rfl⟩;dsimp only at hsy hrt hd hok;rw [hU] at hsy hrt;have hlE:E.length<18:=by have:=hd.2;simp only [List.length_nil] at this;omega
  have hcall:=qT0 E at_ w.heap.size vE x wr HT.out.con HT.out.ent hd.1 hlE hok hx (HH.out.2.2.1.below HT.out.bel) (HH.out.2.2.2.1.below HT.out.bel);rw [hU] at hcall;have HS:=Lib.hid (aI hsy hrt);clear hT hcc hsy hrt hd hok hD hU;go_wp2_with fail;refine hcall.mono ?_;clear hcall;rintro e w4 ⟨v',rfl,hb4,hA4,hg4,hfr4⟩;have ho4:=jK HT.out.out hg4 (λk e e2=>by have:=(HT.out.out.lt k e2).1;have:=Option.some.inj e;omega);have H4:=Lib.hid (aI hb4 (aI hA4 (aI hg4 (aI hfr4 ho4))));have hz4:wr.heap.size≤w4.heap.size:=hg4.size;clear hb4 hA4 hg4 hfr4 ho4 c0;go_wp2_with ((at_builtin;go_must (refine wpList_append_lies _ rfl _ _ 26 rfl _ 9 _ (.string ⟨#[]⟩) 1 16 underlying26 hi hz0 hz1 hz2 rfl dE _ _ _ rfl (H4.out.2.2.2.2.alloc _) ⟨w4.heap.size,0,none⟩ 1 1 [.string (bA u)] rfl rfl (by exact qBC (by first|rfl|simp) rF) (by simp [Value.oneCell']) oM (by unfold maxLen;omega) oM szq _ rfl ?_));intro g cg w5 hown5 hg5 hat hlt5);refine⟨⟨k+1,v',by omega,by go_num,?_⟩,by simp [intOf];omega⟩;rw [HS.out.1,HS.out.2];exact HT.out.next H4.out.1 H4.out.2.1 H4.out.2.2.1 H4.out.2.2.2.1 (by rw [List.map_append];simpa using hown5) hg5 (hat.imp (λh=>h) (λh=>by simpa using h))
theorem qLf {s:ByteArray} (h:200000<s.size):qKA 2=bA (qCX s):=by unfold qCX;rw [if_pos h];rfl
theorem qN0 (s:ByteArray) (w:World) (hs:200000<s.size) (ht:Tab10 w):Calls prog 11 #[.string s] w λe w'=>e=.returned (.string (bA (qCX s)))∧Below w.heap.size w w':=by
 have hs2:decide ((200000:Int)<s.size)=true:=by simp;omega
 rw [←qLf hs];clear hs;go_enter func11,ntmps11;go_wp2_with fail;refine(qHP 2 dE dE w ht).mono ?_;rintro e w1 ⟨rfl,hb1⟩;go_wp2;go_ret;exact⟨rfl,hb1⟩
theorem qL5 (s:ByteArray) (w:World) (hs:200000<s.size) (ht:Tab10 w):Calls prog 12 #[.string s] w λe w'=>e=.returned (.string (bA (qCX s)))∧Below w.heap.size w w':=by
 have hs2:decide ((200000:Int)<s.size)=true:=by simp;omega
 rw [←qLf hs];clear hs;go_enter func12,ntmps12;go_wp2_with fail;refine(jW 2 dE dE w ht).mono ?_;rintro e w1 ⟨rfl,hb1⟩;go_wp2;go_ret;exact⟨rfl,hb1⟩
theorem qME (T:List (List UInt8)):(T.map bA).map (λx:ByteArray=>x.data.toList)=T:=by
 rw [List.map_map]
 conv=>rhs;rw [←List.map_id T]
 exact List.map_congr_left λx _=>qKO x
theorem qMk (s:ByteArray) (w:World) (hs:s.size≤200000) (hn:(qBI s).length≤17) (ht:Tab10 w) (hM:MaxL w):Calls prog 12 #[.string s] w λe w'=>e=.returned (.string (bA (qCX s)))∧Below w.heap.size w w':=by
 have hV:qCX s=(qDP (qBI s) ([],0)).flatten:=by unfold qCX;rw [if_neg oM,qKD]
 have hs2:decide ((200000:Int)<s.size)=false:=by simp;omega
 have hL1:=(qBS 10 s).2;have hLs:∀x∈qBI s,x.size≤200000:=λx hx=>Nat.le_trans (qNH hx) hs
 have hfl:((qAb 10 s).filter λx=>!decide (x.size=0))=qBI s:=rfl;have hcs:=qGO s 10 w oM hM;have hrl:=qJv (qBI s) ([],0) qGu (by simp only [List.length_nil];omega) (λx hx=>Nat.le_trans (hLs x hx) oM);rw [←qKD] at hrl;have htl:(qDP (qBI s) ([],0)).length=(qBI s).length:=qIU _ _;obtain⟨L,hL⟩:=eX (qAb 10 s);obtain⟨N,hN⟩:=eX (qBI s);rw [hL,hN] at hfl;rw [hL] at hL1 hcs;rw [hN] at hn hLs hrl hV htl;obtain⟨T,hT⟩:=eX (qDP N ([],0));rw [hT] at hrl hV htl;have hsd:=λ(v:Value) (w':World) (hA:qI strCells 1 w' N v) (ht:Tab10 w') (hM:MaxL w')=>qSA N v w' hA hn hLs ht hM
 rw [hT] at hsd;have HH:=mH (aI hV (aI hfl (aI ht (aI hM (aI hsd (aI hrl htl))))));have hNl:N.length≤17:=hn;have hL2:L.length≤200001:=by omega
 clear hV hfl ht hM hsd hrl htl hLs hL hN hT hn hs;generalize qCX s=RR at *;go_enter func12,ntmps12;go_wp2_with fail;refine hcs.mono ?_;clear hcs;rintro e w1 ⟨rfl,hw1⟩;have hb1:Below w.heap.size w w1:=by rw [hw1];exact qB bR _ lR
 have ho1:w1.ownsRow w.heap.size 9 1 (.slice (some ⟨w.heap.size,0,none⟩) L.length L.length) L.length (L.flatMap strCells):=by
  have hb:qC w1 w.heap.size (L.map Value.string).toArray 9:=by rw [hw1];exact qC.new w _ _
  have hfm:L.flatMap strCells=L.map Value.string:=qEB Value.string L;refine qBN hb lR lR (by unfold maxLen;omega) sI ?_ ?_
  ·rw [hfm,Nat.mul_one,List.toList_toArray];exact List.take_of_length_le sI
  ·rw [hfm];simp
 have H1:=mH (aI hb1 ho1);clear hw1 hb1 ho1;go_wp2_with fail;refine(qK0 _ L (λx=>decide (x.size=0)) 31 #[] w.heap.size w1 H1.o.2 oM (qAB func31 kR rfl) (λx w' _ _=>(qLR x w').mono λe w'' h=>⟨h.1,by rw [←h.2];exact Below.refl _ _⟩)).mono ?_;rintro e w2 ⟨v2,rfl,ho2,hg2⟩;rw [HH.o.2.1] at ho2;have hA2:qI strCells 1 w2 N v2:=qI.of_own (cells:=strCells) (λ_=>rfl) ho2;have hB2:Below w.heap.size w w2:=H1.o.1.trans (jE (g:=w.heap.size) hg2 lR H1.o.1.size);have H2:=mH (aI hA2 hB2);clear ho2 hg2 hA2 hB2;go_wp2_with fail;refine(HH.o.2.2.2.2.1 v2 w2 H2.o.1 (HH.o.2.2.1.below H2.o.2) (HH.o.2.2.2.1.below H2.o.2)).mono ?_;rintro e w3 ⟨v3,v4,rfl,ho3,hb3⟩;have hB3:Below w.heap.size w w3:=H2.o.2.trans (hb3.mono H2.o.2.size);have hTm:(T.map bA).map Value.string=T.map λt=>Value.string (bA t):=by rw [List.map_map];rfl
 have hA3:qI strCells 1 w3 (T.map bA) v3:=by
  refine qI.of_own (cells:=strCells) (λ_=>rfl) (base:=w2.heap.size+1) (e:=9) ?_;rw [show(T.map bA).flatMap strCells=(T.map bA).map Value.string from qEB Value.string _,hTm,List.length_map,HH.o.2.2.2.2.2.2];exact ho3
 have H3:=mH (aI hA3 hB3);have hfin:(⟨(Lib.join ((T.map bA).map (·.data.toList)) (⟨#[]⟩:ByteArray).data.toList).toArray⟩:ByteArray)=bA RR:=by
  rw [qME,show(⟨#[]⟩:ByteArray).data.toList=[] from rfl,qK4,HH.o.1];rfl
 have HF:=mH hfin;clear ho3 hb3 hB3 hTm hA3 hfin
 by_cases h0:T.length=0
 ·obtain rfl:=List.length_eq_zero_iff.1 h0;obtain⟨a3,c3,rfl,-,-,-⟩:=id H3.o.1;have HE:Hx (RR=[]):=mH HH.o.1;clear h0;go_wp2_with fail;refine(Tryz.strings_Join_none a3 c3 ⟨#[]⟩ w3).mono ?_;rintro e w4 ⟨rfl,hw4⟩;have hB4:Below w.heap.size w w4:=by rw [hw4];exact H3.o.2
  clear hw4;go_wp2;go_ret;rw [HE.o];exact⟨rfl,hB4⟩
 ·obtain⟨b,o,c,hv,hcap,hbl,hcells⟩:=qIX H3.o.1 (by rw [List.length_map];omega);rw [List.length_map] at hv hcap;subst hv;have hTl:T.length≤17:=by rw [HH.o.2.2.2.2.2.2];exact hNl
  have HJ:=mH hcells;have hcall:=Tryz.strings_Join b o c (T.map bA) ⟨#[]⟩ w3 HJ.o hbl (by rw [List.length_map];omega) (by rw [List.length_map];exact hcap) (by
   rw [qME,show(⟨#[]⟩:ByteArray).data.toList=[] from rfl,qK4];have:=HH.o.2.2.2.2.2.1;have:N.length*400000000≤17*400000000:=Nat.mul_le_mul_right _ hNl;omega)
  rw [List.length_map,HF.o] at hcall;clear hcells h0;go_wp2_with fail;refine hcall.mono ?_;clear hcall;rintro e w4 ⟨rfl,hb4⟩;have H4:=mH (H3.o.2.trans (hb4.mono H3.o.2.size));clear hb4;go_wp2;go_ret;exact⟨rfl,H4.o⟩
def e0:qD:=⟨⟨#[97]⟩,1,0,1,⟨⟨#[111]⟩,1⟩,⟨⟨#[]⟩,⟨#[]⟩,⟨#[]⟩,0,0⟩,⟨⟨#[]⟩,⟨⟨#[]⟩,0⟩,⟨⟨#[]⟩,0⟩,0⟩⟩
theorem qUS:qBm e0=0:=by decide
theorem qR6:qBg [e0]:=⟨List.pairwise_singleton _ _,(λe he=>by rw [List.mem_singleton.1 he];exact qUS),λa ha b hb _ hn=>by rw [List.mem_singleton.1 ha,List.mem_singleton.1 hb] at hn;omega⟩
theorem qTO:(zB [e0] 0).S.length=1:=by decide
theorem qSf:qB2 e0:=⟨Nat.zero_le _,Nat.zero_le _,Nat.zero_le _,Nat.zero_le _,⟨Nat.zero_le _,WalkArith.wf_i64 dE⟩,⟨Nat.zero_le _,WalkArith.wf_i64 dE⟩⟩
theorem qJ9 (w:World):Calls prog 13 #[] w λe w'=>e=.returned (.bool true)∧Below w.heap.size w w':=by
 have hA:qI qD.cells 17 (w.alloc (.cells #[.string ⟨#[97]⟩,.int .i64 1,.int .i64 0,.int .i64 1,.string ⟨#[111]⟩,.int .i64 1,.string ⟨#[]⟩,.string ⟨#[]⟩,.string ⟨#[]⟩,.int .i64 0,.int .i64 0,.string ⟨#[]⟩,.string ⟨#[]⟩,.int .i64 0,.string ⟨#[]⟩,.int .i64 0,.int .i64 0] 81)) [e0] (.slice (some ⟨w.heap.size,0,none⟩) 1 1):=qI.litAt qD.cells_len rfl (by simp [qD.cells,e0]) rfl (by simp [maxLen]);have hBa:Below w.heap.size w (w.alloc (.cells #[.string ⟨#[97]⟩,.int .i64 1,.int .i64 0,.int .i64 1,.string ⟨#[111]⟩,.int .i64 1,.string ⟨#[]⟩,.string ⟨#[]⟩,.string ⟨#[]⟩,.int .i64 0,.int .i64 0,.string ⟨#[]⟩,.string ⟨#[]⟩,.int .i64 0,.string ⟨#[]⟩,.int .i64 0,.int .i64 0] 81)):=by exact qS
 have H1:=mH (aI hA hBa);clear hA hBa;go_enter func13,ntmps13;go_wp2_with fail;generalize w.alloc (.cells #[.string ⟨#[97]⟩,.int .i64 1,.int .i64 0,.int .i64 1,.string ⟨#[111]⟩,.int .i64 1,.string ⟨#[]⟩,.string ⟨#[]⟩,.string ⟨#[]⟩,.int .i64 0,.int .i64 0,.string ⟨#[]⟩,.string ⟨#[]⟩,.int .i64 0,.string ⟨#[]⟩,.int .i64 0,.int .i64 0] 81)=W1 at *;refine(qNS [e0] _ 0 W1 H1.o.1 qR6 sI (λy hy=>by rw [List.mem_singleton.1 hy];exact qSf) dE).mono ?_;rintro e w2 ⟨vS,vC,vX,rfl,hpl,hb2⟩;obtain⟨aS,cS,rfl,-⟩:=hpl.s;obtain⟨aC,cC,rfl,-⟩:=hpl.c;obtain⟨aX,cX,rfl,-⟩:=hpl.x;have H2:=mH (H1.o.2.trans (hb2.mono H1.o.2.size));rw [qTO];clear hb2 hpl H1;generalize (zB [e0] 0).C.length=nC at *;generalize (zB [e0] 0).X.length=nX at *;go_wp2;go_ret;exact⟨rfl,qB H2.o _ H2.o.size⟩
theorem qLv (s:ByteArray) (w:World) (hn:(qBI s).length≤17) (ht:Tab10 w) (hM:MaxL w):Calls prog 11 #[.string s] w λe w'=>e=.returned (.string (bA (qCX s)))∧Below w.heap.size w w':=by
 by_cases h:s.size≤200000
 ·exact qN2 s w h hn ht hM
 ·exact qN0 s w oM ht
theorem qK8 (s:ByteArray) (w:World) (hn:(qBI s).length≤17) (ht:Tab10 w) (hM:MaxL w):Calls prog 12 #[.string s] w λe w'=>e=.returned (.string (bA (qCX s)))∧Below w.heap.size w w':=by
 by_cases h:s.size≤200000
 ·exact qMk s w h hn ht hM
 ·exact qL5 s w oM ht
def qGT:List ByteArray:=[⟨#[100,111,32,97,109,121,32,115,105,116,101,32,111,32,111,102,102,105,99,101]⟩,⟨#[100,111,32,97,109,121,32,115,105,116,101,32,120,32,99,108,111,115,117,114,101]⟩,⟨#[100,111,32,97,109,121,32,99,97,98,108,101,32,99,49,32,111,32,120,32,53,48,32,51]⟩]
theorem qQJ:∀x∈qGT,qBP 300 x:=by
 intro x hx;unfold qGT at hx;simp only [List.mem_cons,List.not_mem_nil,or_false] at hx
 rcases hx with rfl|rfl|rfl
 ·exact qIN dE
 ·exact qIN dE
 ·exact qIN dE
def qLX (xs:List ByteArray):ByteArray:=⟨(Lib.join (xs.map (·.data.toList)) [10]).toArray⟩
theorem qJ0 {xs:List ByteArray} (h:∀x∈xs,qBP 300 x):(qLX xs).size≤xs.length*301:=by
 have:=qPd 10 300 (xs.map (·.data.toList)) (λy hy=>by
  obtain⟨x,hx,rfl⟩:=List.mem_map.1 hy;have:=(h x hx).1;rw [Lib.size_eq] at this;exact this)
 rw [List.length_map] at this;rw [Lib.size_eq];exact this
theorem qRh (xs:List ByteArray) (v:Value) (w:World) (h:qI strCells 1 w xs v) (hl:xs.length≤13) (hg:∀x∈xs,qBP 300 x):Calls prog 6 #[v,.string ⟨#[10]⟩] w λe w'=>e=.returned (.string (qLX xs))∧Below w.heap.size w w':=by
 by_cases h0:xs.length=0
 ·obtain rfl:=List.length_eq_zero_iff.1 h0;obtain⟨a,c,rfl,-⟩:=h;refine(Tryz.strings_Join_none a c ⟨#[10]⟩ w).mono ?_;rintro e w' ⟨rfl,rfl⟩;exact⟨rfl,Below.refl _ _⟩
 ·obtain⟨b,o,c,rfl,hcap,hbl,hcells⟩:=qIX h oM;have hz:=qJ0 hg;rw [Lib.size_eq] at hz;refine(Tryz.strings_Join b o c xs ⟨#[10]⟩ w hcells hbl oM hcap (Nat.le_trans hz oM)).mono ?_;rintro e w' ⟨rfl,hb⟩;exact⟨rfl,hb⟩
theorem qOF:∀c:Nat,(10:UInt8) ∉ Lib.repeatL [120] c
 | 0=>by simp [Lib.repeatL]
 | c+1=>by
  have:=qOF c;simp only [Lib.repeatL,List.cons_append,List.nil_append,List.mem_cons,not_or];exact⟨by decide,this⟩
theorem qTu (c:Nat):qA9 ⟨(Lib.repeatL (⟨#[120]⟩:ByteArray).data.toList c).toArray⟩:=qOF c
theorem law_scr (a0:Option Addr) (len0 cap0:Nat) (z0:List Int) (w:World) (w0:IsRow .i64 w a0 len0 cap0 z0) (ht:Tab10 w) (hM:MaxL w) :
  Calls prog 3 #[.slice a0 len0 cap0] w λe w'=>e=.returned (.bool true)∧Below w.heap.size w w':=by
 obtain⟨i0,hi,hz0,hz1,hz2⟩:=info_parts qDv;have hS:=qOt w0;have HL:Hx (∀w',w.grownBy w' (some w.heap.size)→Tab10 w'∧MaxL w'):=mH λw' h=>⟨ht.below (qFZ h),hM.below (qFZ h)⟩
 clear w0 ht hM;go_enter func3,ntmps3;go_wp2_with fail;have hg0:w.grownBy (w.alloc (.cells #[.slice a0 len0 cap0,.int .i64 0] 25)) (some w.heap.size):=World.grownBy_alloc w _ _;have hz0':(w.alloc (.cells #[.slice a0 len0 cap0,.int .i64 0] 25)).heap.size=w.heap.size+1:=by simp
 generalize w.alloc (.cells #[.slice a0 len0 cap0,.int .i64 0] 25)=W0 at *;have hs1:jT (W0.alloc (.cells #[.string ⟨#[100,111,32,97,109,121,32,115,105,116,101,32,111,32,111,102,102,105,99,101]⟩,.string ⟨#[100,111,32,97,109,121,32,115,105,116,101,32,120,32,99,108,111,115,117,114,101]⟩,.string ⟨#[100,111,32,97,109,121,32,99,97,98,108,101,32,99,49,32,111,32,120,32,53,48,32,51]⟩] 9)) w.heap.size 0:=hS.alloc _;have hb1:qC (W0.alloc (.cells #[.string ⟨#[100,111,32,97,109,121,32,115,105,116,101,32,111,32,111,102,102,105,99,101]⟩,.string ⟨#[100,111,32,97,109,121,32,115,105,116,101,32,120,32,99,108,111,115,117,114,101]⟩,.string ⟨#[100,111,32,97,109,121,32,99,97,98,108,101,32,99,49,32,111,32,120,32,53,48,32,51]⟩] 9)) W0.heap.size #[.string ⟨#[100,111,32,97,109,121,32,115,105,116,101,32,111,32,111,102,102,105,99,101]⟩,.string ⟨#[100,111,32,97,109,121,32,115,105,116,101,32,120,32,99,108,111,115,117,114,101]⟩,.string ⟨#[100,111,32,97,109,121,32,99,97,98,108,101,32,99,49,32,111,32,120,32,53,48,32,51]⟩] 9:=qC.new W0 _ _;have hg1:w.grownBy (W0.alloc (.cells #[.string ⟨#[100,111,32,97,109,121,32,115,105,116,101,32,111,32,111,102,102,105,99,101]⟩,.string ⟨#[100,111,32,97,109,121,32,115,105,116,101,32,120,32,99,108,111,115,117,114,101]⟩,.string ⟨#[100,111,32,97,109,121,32,99,97,98,108,101,32,99,49,32,111,32,120,32,53,48,32,51]⟩] 9)) (some w.heap.size):=qK hg0 (World.grownBy_alloc W0 _ _);refine(qK1 w.heap.size 0 0 3 _ hs1 oM oM oM oM).mono ?_;rintro e w2 ⟨v,rfl,⟨r,rfl,r0,r1⟩,hs2,hg2⟩
 obtain⟨i,rfl⟩:=Int.eq_ofNat_of_zero_le r0;have hi3:i≤3:=by omega
 have ho2:w2.ownsRow (w.heap.size+1) 9 1 (.slice (some ⟨W0.heap.size,0,none⟩) i 3) (qGT.take i).length ((qGT.take i).map Value.string):=by
  have hli:(qGT.take i).length=i:=by rw [List.length_take];show min i 3=i;omega
  have hb2:qC w2 W0.heap.size #[.string ⟨#[100,111,32,97,109,121,32,115,105,116,101,32,111,32,111,102,102,105,99,101]⟩,.string ⟨#[100,111,32,97,109,121,32,115,105,116,101,32,120,32,99,108,111,115,117,114,101]⟩,.string ⟨#[100,111,32,97,109,121,32,99,97,98,108,101,32,99,49,32,111,32,120,32,53,48,32,51]⟩] 9:=hb1.grown hg2 (λe=>by have:=Option.some.inj e;omega);rw [hli];refine qBN hb2 oM hi3 (by simp [maxLen]) rfl ?_ (by rw [List.length_map,hli,Nat.mul_one]);rw [Nat.mul_one,List.map_take];rfl
 rw [hz0'] at ho2;have H2:=mH (aI hs2 (aI (qK hg1 hg2) (aI ho2 (λx hx=>qQJ x (List.mem_of_mem_take hx):∀x∈qGT.take i,qBP 300 x))));have hxl:(qGT.take i).length≤3:=by rw [List.length_take];omega
 clear hs1 hb1 hg1 hs2 hg2 ho2 hS hg0;obtain⟨X0,hX0⟩:=eX (qGT.take i);rw [hX0] at H2 hxl;clear hX0;go_wp2_with fail;refine(qK1 w.heap.size (0+1) 0 10 _ H2.o.1 oM oM oM oM).mono ?_;rintro e w3 ⟨v,rfl,⟨n,rfl,n0,n1⟩,hs3,hg3⟩;obtain⟨n,rfl⟩:=Int.eq_ofNat_of_zero_le n0;have hn10:n≤10:=by omega
 have H3:=mH (aI hs3 (aI (qK H2.o.2.1 hg3) (aI (qDa H2.o.2.2.1 hg3 oM) H2.o.2.2.2)));clear hs3 hg3 H2;go_wp2;go_loopw [4,15] (λlv iv wr=>∃(k M:Nat) (xs:List ByteArray),k≤n∧iv=.int .i64 k∧wr.ownsRow (w.heap.size+1) 9 1 lv xs.length (xs.map Value.string)∧xs.length≤3+k∧(∀x∈xs,qBP 300 x)∧jT wr w.heap.size M∧M≤2+10000*k∧w.grownBy wr (some w.heap.size)) (λ_ iv _=>n - (intOf iv).toNat)
 case atStart=>exact⟨0,2,X0,by omega,rfl,H3.o.2.2.1,by omega,H3.o.2.2.2,H3.o.1,by omega,H3.o.2.1⟩
 case round =>
  clear H3;obtain⟨k,M,xs,hk,rfl,ho,hxl,hgx,hs,hM,hg⟩:=hrel;have HR:=mH (aI ho (aI hgx (aI hs hg)));clear ho hgx hs hg
  by_cases hlt:k<n
  ·have hk':(k:Int)<n:=by omega
   go_wp2_with fail;refine(qNI w.heap.size M wr HR.o.2.2.1 oM (λw' hg'=>(HL.o w' (qK HR.o.2.2.2 hg')).1)).mono ?_;rintro e w4 ⟨v,rfl,⟨t,rfl,ht1,ht2⟩,hs4,hg4⟩;have ho4:=qDa HR.o.1 hg4 oM;have hz4:w.heap.size<w4.heap.size:=hs4.lt;have H4:=mH (aI ho4 (aI hs4 (aI (qK HR.o.2.2.2 hg4) (show qBP 300 t from⟨ht1,ht2⟩))));clear ho4 hs4 hg4 ht1 ht2;go_wp2_with ((at_builtin;go_must (refine wpList_append_own _ rfl _ _ 26 rfl _ 9 _ (.string ⟨#[]⟩) 1 16 underlying26 hi hz0 hz1 hz2 rfl dE _ _ _ rfl (H4.o.1.alloc _) ⟨w4.heap.size,0,none⟩ 1 1 [.string t] rfl rfl (by exact qBC (by first|rfl|simp) rF) (by simp [Value.oneCell']) (by unfold maxLen;omega) oM szq ?_));intro v' w5 hown5 hg5 _);refine⟨⟨k+1,M+10000,xs++[t],by omega,by go_num,?_,by rw [List.length_append];simp;omega,?_,qRr (H4.o.2.1.alloc _) (H4.o.1.alloc _) hg5 oM,by omega,qRQ (qK H4.o.2.2.1 (World.grownBy_alloc w4 _ _)) (H4.o.1.alloc _) hg5 oM⟩,by simp [intOf];omega⟩
   ·rw [List.length_append,List.map_append];exact hown5
   ·intro x hx
    rcases List.mem_append.1 hx with h|h
    ·exact HR.o.2.1 x h
    ·rw [List.mem_singleton.1 h];exact H4.o.2.2.2
  obtain rfl:k=n:=by omega
  have hAx:qI strCells 1 wr xs _:=qI.of_own (cells:=strCells) (λ_=>rfl) (by rw [show xs.flatMap strCells=xs.map Value.string from qEB Value.string xs];exact HR.o.1);have hjn:=qRh xs _ wr hAx oM HR.o.2.1;have hjs:=qJ0 HR.o.2.1;have hjl:∀t:ByteArray,t.data.toList.count 10≤3→(qBI (qLX xs++t)).length≤17:=λt ht=>qOm (λx hx=>(HR.o.2.1 x hx).2) oM ht
  obtain⟨J,hJ⟩:=eX (qLX xs);rw [hJ] at hjn hjs hjl;have HJ:=mH hjl;have hJs:J.size≤4000:=by omega
  clear hjl hAx hJ hjs;go_wp2_with fail;refine hjn.mono ?_;clear hjn;rintro e w4 ⟨rfl,hb4⟩;have H4:=mH (aI (HR.o.2.2.1.below hb4 lR) (qK HR.o.2.2.2 (qH (some w.heap.size) hb4)));have hl4:=H4.o.1.lt;clear hb4;go_wp2_with fail;refine(qM0 w.heap.size M _ [⟨#[]⟩,⟨#[10]⟩,⟨#[10,10,115,112,108,105,99,101,115,10]⟩] _ (H4.o.1.alloc _) oM (qI.litAt (cells:=strCells) (sz:=1) (λ_=>rfl) rfl rfl rfl (by simp [maxLen])) dE dE (λn cap off e=>by simp only [Value.slice.injEq,Option.some.injEq,Addr.mk.injEq] at e;omega)).mono ?_;rintro e w5 ⟨v,rfl,⟨T,rfl,hT⟩,hs5,hg5⟩;have hTs:T.size≤10∧T.data.toList.count 10≤3:=by
   simp only [List.mem_cons,List.not_mem_nil,or_false] at hT
   rcases hT with rfl|rfl|rfl
   ·exact⟨by decide,by decide⟩
   ·exact⟨by decide,by decide⟩
   ·exact⟨by decide,by decide⟩
  have hTz:=hTs.1;have HS:=mH (HJ.o T hTs.2);have H5:=mH (aI hs5 (qK (qK H4.o.2 (World.grownBy_alloc w4 _ _)) hg5));have aa:¬9223372036854775807<J.size+T.size:=by omega
  obtain⟨S,hSS⟩:=eX (J++T);rw [hSS] at HS;clear hT hTs hs5 hg5;go_wp2_with fail;refine(qMz w.heap.size (M+1) 40 _ H5.o.1 oM oM oM).mono ?_;rintro e w6 ⟨v,rfl,⟨fb,rfl⟩,hs6,hg6⟩;have H6:=mH (aI hs6 (qK H5.o.2 hg6));clear hs6 hg6
  cases fb
  ·clear hSS;go_wp2_with fail;refine(qLv S w6 HS.o (HL.o _ H6.o.2).1 (HL.o _ H6.o.2).2).mono ?_;rintro e w8 ⟨rfl,hb8⟩;have H8:=mH (qK H6.o.2 (qH (some w.heap.size) hb8));have hcall:=qK8 S w8 HS.o (HL.o _ H8.o).1 (HL.o _ H8.o).2;obtain⟨R,hR⟩:=eX (bA (qCX S));rw [hR] at hcall ⊢;have hRR:(R.toList==R.toList)=true:=by simp
   clear hb8 hR;go_wp2_with fail;refine hcall.mono ?_;clear hcall;rintro e w9 ⟨rfl,hb9⟩;have H9:=mH (qK H8.o (qH (some w.heap.size) hb9));clear hb9;go_wp2_with fail;refine(qJ9 _).mono ?_;rintro e wa ⟨rfl,hba⟩;have Ha:=mH (qK H9.o (qH (some w.heap.size) hba));clear hba;go_wp2;go_ret;exact⟨rfl,qFZ Ha.o⟩
  ·clear hSS;go_wp2_with fail;refine(qD5 w.heap.size (M+1+1) 2 _ H6.o.1 oM oM oM).mono ?_;rintro e w7 ⟨v,rfl,⟨z,rfl,z0,z1⟩,hs7,hg7⟩;obtain⟨z,rfl⟩:=Int.eq_ofNat_of_zero_le z0;have hz2:z<2:=by omega
   have hcw:IntKind.i64.wrap (200000+(z:Int))=((200000+z:Nat):Int):=by rw [IntWalk.i64_in _ oM];omega
   have H7:=mH (qK H6.o.2 hg7);have hrp:=Tryz.strings_Repeat ⟨#[120]⟩ (200000+z) w7 oM (by show 1*(200000+z)≤_;omega);have hnl:=qOR (qTu (200000+z));obtain⟨S1,hS1⟩:∃S1:ByteArray,(⟨(Lib.repeatL (⟨#[120]⟩:ByteArray).data.toList (200000+z)).toArray⟩:ByteArray)=S1:=⟨_,rfl⟩;rw [hS1] at hrp hnl;have HN:=mH hnl;clear hs7 hg7 hS1 hnl;go_wp2_with fail;refine hrp.mono ?_;clear hrp;rintro e w7' ⟨rfl,hb7⟩;have H7':=mH (qK H7.o (qH (some w.heap.size) hb7));clear hb7;go_wp2_with fail;refine(qLv S1 w7' HN.o (HL.o _ H7'.o).1 (HL.o _ H7'.o).2).mono ?_;rintro e w8 ⟨rfl,hb8⟩;have H8:=mH (qK H7'.o (qH (some w.heap.size) hb8));have hcall:=qK8 S1 w8 HN.o (HL.o _ H8.o).1 (HL.o _ H8.o).2;obtain⟨R,hR⟩:=eX (bA (qCX S1));rw [hR] at hcall ⊢;have hRR:(R.toList==R.toList)=true:=by simp
   clear hb8 hR;go_wp2_with fail;refine hcall.mono ?_;clear hcall;rintro e w9 ⟨rfl,hb9⟩;have H9:=mH (qK H8.o (qH (some w.heap.size) hb9));clear hb9;go_wp2_with fail;refine(qJ9 _).mono ?_;rintro e wa ⟨rfl,hba⟩;have Ha:=mH (qK H9.o (qH (some w.heap.size) hba));clear hba;go_wp2;go_ret;exact⟨rfl,qFZ Ha.o⟩
end Go.Proofs.YtbgnlfgkgklkdaaGreatDoor
