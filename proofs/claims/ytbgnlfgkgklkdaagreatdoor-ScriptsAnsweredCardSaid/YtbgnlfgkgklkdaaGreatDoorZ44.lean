/- Parts of the proof of ScriptsAnswered: SsD, StN, StO. No condition. -/
import Derived.Test.YtbgnlfgkgklkdaaGreatDoorZ43
set_option linter.unusedVariables false
set_option linter.unusedSimpArgs false
set_option maxHeartbeats 8000000
set_option maxRecDepth 100000
namespace Go.Proofs.YtbgnlfgkgklkdaaGreatDoor
open Go Go.RowKit Tryz
def WkS (W:World) (b:Nat) (v0 v1 v2:Value) (f:qQ):Prop:=W.cell? ⟨b,0,none⟩=some v0∧W.cell? ⟨b,1,none⟩=some v1∧W.cell? ⟨b,2,none⟩=some v2∧W.cell? ⟨b+1,0,none⟩=some (.string f.cable)∧W.cell? ⟨b+1,1,none⟩=some (.int .i64 f.no)∧b+1<W.heap.size
theorem WkS.below {W W':World} {b:Nat} {v0 v1 v2:Value} {f:qQ} (h:WkS W b v0 v1 v2 f) (hb:Below W.heap.size W W'):WkS W' b v0 v1 v2 f:=by
 obtain⟨h0,h1,h2,h3,h4,h5⟩:=h;have h6:b<W.heap.size:=by omega
 exact⟨(hb.cell (p:=⟨b,_,none⟩) h6).trans h0,(hb.cell (p:=⟨b,_,none⟩) h6).trans h1,(hb.cell (p:=⟨b,_,none⟩) h6).trans h2,(hb.cell (p:=⟨b+1,_,none⟩) h5).trans h3,(hb.cell (p:=⟨b+1,_,none⟩) h5).trans h4,Nat.lt_of_lt_of_le h5 hb.size⟩
theorem qUI {W:World} {B n:Nat} {e:TypeId} {v:Value} {H:List Hop} {h:Hop} (ho:W.ownsRow B e 4 v n (H.flatMap Hop.cells)) (h0:0<n) (hH:H[0]? = some h):∃g cap,v=.slice (some ⟨g,0,none⟩) n cap∧g<W.heap.size ∧
  W.cell? ⟨g,0,none⟩=some (.string h.fib.cable)∧W.cell? ⟨g,1,none⟩=some (.int .i64 h.fib.no)∧W.cell? ⟨g,2,none⟩=some (.string h.fr)∧W.cell? ⟨g,3,none⟩=some (.string h.tw):=by
 obtain⟨g,cap,cur,rfl,-,hb,-,-,-,ht⟩:=qEi ho h0
 cases H with
 | nil=>cases hH
 | cons x t =>
  simp only [List.getElem?_cons_zero,Option.some.injEq] at hH;subst hH;have hc:∀(j:Nat) (u:Value),x.cells[j]? = some u→cur[j]? = some u:=λj u hj=>by
   have h1:(cur.toList.take (n*4))[j]? = some u:=by
    rw [ht,List.flatMap_cons,List.getElem?_append_left (by have:=List.getElem?_eq_some_iff.1 hj;obtain⟨q,-⟩:=this;exact q)];exact hj
   have hj4:j<n*4:=by
    obtain⟨q,-⟩:=List.getElem?_eq_some_iff.1 hj;have q':j<4:=by simpa [Hop.cells] using q
    omega
   rw [List.getElem?_take_of_lt hj4] at h1
   simpa using h1
  exact⟨g,cap,rfl,hb.lt,hb.cell 0 _ (hc 0 _ rfl),hb.cell 1 _ (hc 1 _ rfl),hb.cell 2 _ (hc 2 _ rfl),hb.cell 3 _ (hc 3 _ rfl)⟩
theorem qUM {a e:qQ × ByteArray} (h:a≠e):(a.1.cable.toList==e.1.cable.toList)=false∨((a.1.cable.toList==e.1.cable.toList)=true∧(a.1.no==e.1.no)=false)∨((a.1.cable.toList==e.1.cable.toList)=true∧(a.1.no==e.1.no)=true∧(a.2.toList==e.2.toList)=false):=by
 by_cases h1:a.1=e.1
 ·exact .inr (.inr ⟨by rw [h1];simp,by rw [h1];simp,qAZ λh2=>h (Prod.ext h1 h2)⟩)
 ·rcases qCf h1 with h2|⟨h2,h3⟩
  ·exact .inl h2
  ·exact .inr (.inl ⟨h2,by simpa using h3⟩)
theorem qQy (p:Pl) (hp:jS p) (f:qQ) (site:ByteArray) (vS vC vX:Value) (w:World) (hA:qAN w vS vC vX p.S p.C p.X) (hX:p.X.length≤100)
  (ht:qAA p.C f site=true) (h0:zD p.X f site=none) (hk:qBb f):Calls prog 164 #[.agg #[vS,vC,vX],.agg ↑f,.string site] w
  λe w'=>∃v,e=.returned (.tuple #[v,.bool false])∧w'.ownsRow w.heap.size 157 4 v (qB9 p.C p.X (f,site)).length ((qB9 p.C p.X (f,site)).flatMap Hop.cells)∧Below w.heap.size w w':=by
 obtain⟨i0,hi,hz0,hz1,hz2⟩:=info_parts qLn;obtain⟨aS,capS,rfl,hcS,hmS,hAS⟩:=id hA.s;obtain⟨aC,capC,rfl,hcC,hmC,hAC⟩:=id hA.c;obtain⟨aX,capX,rfl,hcX,hmX,hAX⟩:=id hA.x;unfold maxLen at hmS hmC hmX;have HP:=mH (aI hp (aI ht (aI h0 (qEc.start (p:=p) (e:=(f,site)) hk))));have hbx:qC ((w.alloc (.cells #[.slice aS p.S.length capS,.slice aC p.C.length capC,.slice aX p.X.length capX] 69)).alloc (.cells ↑f 77)) w.heap.size #[.slice aS p.S.length capS,.slice aC p.C.length capC,.slice aX p.X.length capX] 69:=(qC.new w _ _).alloc _;have hbf:qC ((w.alloc (.cells #[.slice aS p.S.length capS,.slice aC p.C.length capC,.slice aX p.X.length capX] 69)).alloc (.cells ↑f 77)) (w.heap.size+1) ↑f 77:=qC.newAt sI;have hBa:Below w.heap.size w ((w.alloc (.cells #[.slice aS p.S.length capS,.slice aC p.C.length capC,.slice aX p.X.length capX] 69)).alloc (.cells ↑f 77)):=by exact qS
 have hzz:w.heap.size+2≤((w.alloc (.cells #[.slice aS p.S.length capS,.slice aC p.C.length capC,.slice aX p.X.length capX] 69)).alloc (.cells ↑f 77)).heap.size:=by simp
 have HA:=mH hA;have H1:=mH (aI hBa (aI hbx (aI hbf hzz)));clear hA hAS hAC hAX hbx hbf hBa hzz hp ht h0 hk;go_enter func164,ntmps164;go_wp2_with fail;generalize ((w.alloc (.cells #[.slice aS p.S.length capS,.slice aC p.C.length capC,.slice aX p.X.length capX] 69)).alloc (.cells ↑f 77))=W1 at *;go_loopw [2,8] (λsv hv wr=>∃(k:Nat) (a:qQ × ByteArray) (H:List Hop),qEc p (f,site) a k H∧sv=.string a.2∧wr.ownsRow (w.heap.size+2) 157 4 hv k (H.flatMap Hop.cells)∧qC wr w.heap.size #[.slice aS p.S.length capS,.slice aC p.C.length capC,.slice aX p.X.length capX] 69∧qC wr (w.heap.size+1) ↑a.1 77∧Below w.heap.size w wr∧w.heap.size+2≤wr.heap.size∧(0<k→a≠(f,site)∧H[0]? = some (qB8 p.C (f,site)))) (λsv hv _=>p.X.length+2 - qH4 hv)
 case atStart=>exact⟨0,(f,site),[],HP.o.2.2.2,rfl,World.ownsRow_nil _ _ _ _,H1.o.2.1,H1.o.2.2.1,H1.o.1,H1.o.2.2.2,λh=>absurd h oM⟩
 case round =>
  clear H1;obtain⟨k,a,H,hR,rfl,ho,hx,ha,hB,hz,hfst⟩:=hrel;obtain⟨ah,ch,hvh⟩:=jO ho;subst hvh;have t0:=hx.cell 0 (.slice aS p.S.length capS) rfl;have t1:=hx.cell 1 (.slice aC p.C.length capC) rfl;have t2:=hx.cell 2 (.slice aX p.X.length capX) rfl;have s0:=ha.cell 0 (.string a.1.cable) rfl;have s1:=ha.cell 1 (.int .i64 a.1.no) rfl;have hl1:w.heap.size<wr.heap.size:=by omega
  have hl2:w.heap.size+1<wr.heap.size:=by omega
  have HR:=mH (aI hR (aI ho (aI hx (aI ha hB))));clear hR ho hx ha hB;go_wp2_with fail;go_cut [9] from 12 to 18 (λq wc=>∃hb,q=.pointer (some ⟨hb,0,none⟩)∧wr.heap.size≤hb∧qC wc hb ↑(qB8 p.C a) 157∧Below wr.heap.size wr wc)
  case first =>
   have hS:WkS wr.drew w.heap.size (.slice aS p.S.length capS) (.slice aC p.C.length capC) (.slice aX p.X.length capX) a.1:=⟨t0,t1,t2,s0,s1,hl2⟩;clear t0 t1 t2 s0 s1;refine qA.start (λW=>WkS W w.heap.size (.slice aS p.S.length capS) (.slice aC p.C.length capC) (.slice aX p.X.length capX) a.1) [8] kR ?_;refine qA.t 0 hS ?_;refine qA.q 1 ?_;refine qA.t 2 hS ?_;refine qA.t 3 hS ?_;refine qA.q 4 ?_;refine qA.ready (rs:=[5,7]) kR sI (qA3.cons rfl (λK hK=>?_) (qA3.cons rfl (λK hK=>?_) qA3.nil))
   ·go_simp;refine(qJg p a.1 a.2 _ _ _ wr.drew ?_).mono ?_
    ·exact HA.o.below (by have:=HR.o.2.2.2.2;exact qS)
    rintro e w4 ⟨rfl,hb4⟩;have hS4:=hS.below hb4;have hb4':Below wr.heap.size wr w4:=by have:=hb4;exact qS
    have hz4:=hb4'.size;refine hK.out _ _ (λ_ _=>hS4) ?_;clear hK K;try simp only [Act.put,zL,zN,zH,zM,zK,zI]
    refine qA.q 6 ?_;refine qA.nx 7 λK hK=>?_;go_simp
    have hS5:=hS4.below (qB bR (.cells #[.string ⟨#[]⟩,.int .i64 0,.string ⟨#[]⟩,.string ⟨#[]⟩] 157) lR);refine hK.out _ _ (λ_ _=>hS5) ?_;clear hK K;try simp only [Act.put,zL,zN,zH,zM,zK,zI]
    refine qA.nx 8 λK hK=>?_;go_simp
    refine qA.o hK ?_;clear hK K;refine qA.done kR ?_;go_wp2_with fail;go_meet;exact⟨_,rfl,hz4,qC.new _ _ _,qB hb4' _ hz4⟩
   ·go_simp;have hb4:Below wr.heap.size wr (wr.alloc (.cells #[.string ⟨#[]⟩,.int .i64 0,.string ⟨#[]⟩,.string ⟨#[]⟩] 157)).drew:=by exact qS
    have hbn:qC (wr.alloc (.cells #[.string ⟨#[]⟩,.int .i64 0,.string ⟨#[]⟩,.string ⟨#[]⟩] 157)).drew wr.heap.size #[.string ⟨#[]⟩,.int .i64 0,.string ⟨#[]⟩,.string ⟨#[]⟩] 157:=(qC.new wr _ _).drew;have hS4:=WkS.below (show WkS wr w.heap.size (.slice aS p.S.length capS) (.slice aC p.C.length capC) (.slice aX p.X.length capX) a.1 from hS) hb4;refine hK.out _ _ (λ_ _=>hS4) ?_;clear hK K;try simp only [Act.put,zL,zN,zH,zM,zK,zI]
    refine qA.nx 5 λK hK=>?_;go_simp
    refine(qJg p a.1 a.2 _ _ _ _ ?_).mono ?_
    ·exact HA.o.below (by have:=HR.o.2.2.2.2;exact qS)
    rintro e w5 ⟨rfl,hb5⟩;have hS5:=hS4.below hb5;have hr5:=hbn.below hb5 hbn.lt;have hb5':=hb4.trans (hb5.mono hb4.size);refine hK.out _ _ (λ_ _=>hS5) ?_;clear hK K;try simp only [Act.put,zL,zN,zH,zM,zK,zI]
    refine qA.q 6 ?_;have x0:=hr5.cell 0 (.string ⟨#[]⟩) rfl;have x1:=hr5.cell 1 (.int .i64 0) rfl;have x2:=hr5.cell 2 (.string ⟨#[]⟩) rfl;have x3:=hr5.cell 3 (.string ⟨#[]⟩) rfl;have f0:=hr5.free 0;have f1:=hr5.free 1;have f2:=hr5.free 2;have f3:=hr5.free 3;have HF:=mH (aI hr5 hb5');clear hr5 hb5' hb5 hb4 hbn hS hS4 hS5;refine qA.nx 8 λK hK=>?_;go_simp
    refine qA.o hK ?_;clear hK K;refine qA.done kR ?_;go_wp2_with fail;go_meet;exact⟨_,rfl,Nat.le_refl _,qC.fill4 HF.o.1,Below.fill4 HF.o.2 lR _ _ _ _⟩
  case rest =>
  obtain⟨hb,rfl,hlo,hbh,hbc⟩:=hcut;rename World=>W6
  have y0:=hbh.cell 0 (.string a.1.cable) rfl;have y1:=hbh.cell 1 (.int .i64 a.1.no) rfl;have y2:=hbh.cell 2 (.string a.2) rfl;have y3:=hbh.cell 3 (.string (zW p.C a.1 a.2)) rfl;have hlb:hb<W6.heap.size:=hbh.lt;have HF:=mH hfst;have H6:=mH (aI hbh hbc);have hk100:k≤100:=Nat.le_trans HR.o.1.le hX;clear t0 t1 t2 s0 s1 hbh hbc hfst;go_upto_region 3 with fail;go_cut [28] from 19 to 29 (λq wc=>q=.bool false∧W6.drew=wc)
  case first =>
   by_cases hk0:0<k
   ·obtain⟨hne,hH0⟩:=HF.o hk0;obtain⟨g,cap,hg,hgl,z0,z1,z2,z3⟩:=qUI HR.o.2.1 hk0 hH0
    cases hg
    replace z0:=(H6.o.2.cell (p:=⟨g,_,none⟩) hgl).trans z0;replace z1:=(H6.o.2.cell (p:=⟨g,_,none⟩) hgl).trans z1;replace z2:=(H6.o.2.cell (p:=⟨g,_,none⟩) hgl).trans z2;replace z3:=(H6.o.2.cell (p:=⟨g,_,none⟩) hgl).trans z3;have hd:decide ((0:Int)<k)=true:=by simp;omega
    have hn:=qUM hne;clear hne hH0;dsimp only [qB8] at z0 z1 z2 z3 hn;have hS:(λW:World=>(W.cell? ⟨hb,0,none⟩=some (.string a.1.cable)∧W.cell? ⟨hb,1,none⟩=some (.int .i64 a.1.no)∧W.cell? ⟨hb,2,none⟩=some (.string a.2)∧W.cell? ⟨hb,3,none⟩=some (.string (zW p.C a.1 a.2))∧W.cell? ⟨g,0,none⟩=some (.string f.cable)∧W.cell? ⟨g,1,none⟩=some (.int .i64 f.no)∧W.cell? ⟨g,2,none⟩=some (.string site)∧W.cell? ⟨g,3,none⟩=some (.string (zW p.C f site)))) W6.drew:=⟨y0,y1,y2,y3,z0,z1,z2,z3⟩;clear y0 y1 y2 y3 z0 z1 z2 z3;refine qA.start (λW:World=>(W.cell? ⟨hb,0,none⟩=some (.string a.1.cable)∧W.cell? ⟨hb,1,none⟩=some (.int .i64 a.1.no)∧W.cell? ⟨hb,2,none⟩=some (.string a.2)∧W.cell? ⟨hb,3,none⟩=some (.string (zW p.C a.1 a.2))∧W.cell? ⟨g,0,none⟩=some (.string f.cable)∧W.cell? ⟨g,1,none⟩=some (.int .i64 f.no)∧W.cell? ⟨g,2,none⟩=some (.string site)∧W.cell? ⟨g,3,none⟩=some (.string (zW p.C f site)))) [] kR ?_
    rcases hn with q1|⟨q1,q2⟩|⟨q1,q2,q3⟩
    ·skip
     refine qA.q 0 ?_;refine qA.q 1 ?_;refine qA.q 2 ?_;refine qA.q 3 ?_;refine qA.tg 4 hS ?_;refine qA.qg 5 ?_;refine qA.qg 6 ?_;refine qA.tg 7 hS ?_;refine qA.qg 8 ?_;refine qA.q 9 ?_;refine qA.done kR ?_;go_wp2;go_meet;exact⟨rfl,rfl⟩
    ·skip
     refine qA.q 0 ?_;refine qA.q 1 ?_;refine qA.q 2 ?_;refine qA.q 3 ?_;refine qA.tg 4 hS ?_;refine qA.qg 5 ?_;refine qA.qg 6 ?_;refine qA.tg 7 hS ?_;refine qA.qg 8 ?_;refine qA.q 9 ?_;refine qA.done kR ?_;go_wp2;go_meet;exact⟨rfl,rfl⟩
    ·skip
     refine qA.q 0 ?_;refine qA.q 1 ?_;refine qA.q 2 ?_;refine qA.q 3 ?_;refine qA.tg 4 hS ?_;refine qA.qg 5 ?_;refine qA.qg 6 ?_;refine qA.tg 7 hS ?_;refine qA.qg 8 ?_;refine qA.q 9 ?_;refine qA.done kR ?_;go_wp2;go_meet;exact⟨rfl,rfl⟩
   ·obtain rfl:k=0:=by omega
    go_wp2;go_region;go_wp2;go_meet;exact⟨rfl,rfl⟩
  case rest =>
  obtain⟨rfl,rfl⟩:=hcut;obtain⟨h,hh⟩:=eX (qB8 p.C a);have hh1:h.fib=a.1∧h.fr=a.2∧h.tw=zW p.C a.1 a.2:=by rw [←hh];exact⟨rfl,rfl,rfl⟩
  have hz6:w.heap.size+2≤W6.drew.heap.size:=by have:=H6.o.2.size;simp;omega
  have hb6:Below wr.heap.size wr W6.drew:=H6.o.2.drew;have H2:=mH (aI (qAv HR.o.2.1 hb6) (aI (HR.o.2.2.1.below hb6 HR.o.2.2.1.lt) (aI (HR.o.2.2.2.1.below hb6 HR.o.2.2.2.1.lt) (aI (HR.o.2.2.2.2.trans (hb6.mono HR.o.2.2.2.2.size)) (aI hh hh1)))));have hRk:=mH HR.o.1;have hbW:qC W6.drew hb ↑(qB8 p.C a) 157:=H6.o.1.drew;have howl:=HR.o.2.1.lt;have HB2:=mH (aI hbW (λe=>(Nat.lt_irrefl _ (Nat.lt_of_lt_of_le (howl hb e).2 hlo)).elim:(Value.slice ah k ch).ownBlock=some hb→False));clear hbW howl;have hlb':hb<W6.drew.heap.size:=hlb;replace y0:W6.drew.cell? ⟨hb,0,none⟩=some (.string a.1.cable):=y0;replace y1:W6.drew.cell? ⟨hb,1,none⟩=some (.int .i64 a.1.no):=y1;replace y2:W6.drew.cell? ⟨hb,2,none⟩=some (.string a.2):=y2;replace y3:W6.drew.cell? ⟨hb,3,none⟩=some (.string (zW p.C a.1 a.2)):=y3;clear hb6 HR hh hh1 hlb H6;generalize W6.drew=W2 at *;go_wp2_with ((at_builtin;go_must (refine wpList_append_own _ rfl _ _ 153 rfl _ 157 _ (.agg #[.string ⟨#[]⟩,.int .i64 0,.string ⟨#[]⟩,.string ⟨#[]⟩]) 4 56 underlying153 hi hz0 hz1 hz2 rfl dE _ _ _ rfl (H2.o.1.alloc _) ⟨W2.heap.size,0,none⟩ 1 1 [.string a.1.cable,.int .i64 a.1.no,.string a.2,.string (zW p.C a.1 a.2)] rfl rfl (by exact qBC (by first|rfl|simp) rF) (by simp [Value.oneCell']) (by unfold maxLen;omega) oM szq ?_));intro v' w4 hown4 hg4 _;have hx4:=(H2.o.2.1.alloc (.cells #[.string a.1.cable,.int .i64 a.1.no,.string a.2,.string (zW p.C a.1 a.2)] 157)).grown hg4 (λe=>by have:=(H2.o.1.lt _ e.symm).1;omega);have ha4:=(H2.o.2.2.1.alloc (.cells #[.string a.1.cable,.int .i64 a.1.no,.string a.2,.string (zW p.C a.1 a.2)] 157)).grown hg4 (λe=>by have:=(H2.o.1.lt _ e.symm).1;omega);have hh4:=(HB2.o.1.alloc (.cells #[.string a.1.cable,.int .i64 a.1.no,.string a.2,.string (zW p.C a.1 a.2)] 157)).grown hg4 (λe=>HB2.o.2 e.symm);have t0:=hx4.cell 0 _ rfl;have t1:=hx4.cell 1 _ rfl;have t2:=hx4.cell 2 _ rfl;have s0:=ha4.cell 0 _ rfl;have s1:=ha4.cell 1 _ rfl;have x3:=hh4.cell 3 (.string (zW p.C a.1 a.2)) rfl)
  have hB4:Below w.heap.size w w4:=jG (H2.o.2.2.2.1.trans (qB bR _ oM)) (H2.o.1.alloc _) hg4 oM (by simp;omega);have hz4:w.heap.size+2≤w4.heap.size:=by have:=hg4.size;simp at this;omega
  have H4:=mH (aI hown4 (aI hx4 (aI ha4 (aI hB4 (aI hz4 hh4)))));clear hown4 hg4 hx4 ha4 hB4 hz4 hh4;refine(qJ7 p a.1 (zW p.C a.1 a.2) _ _ _ w4 (HA.o.below H4.o.2.2.2.1)).mono ?_;rintro e' W5 ⟨rfl,hb5⟩;have hgo:qD7 p.C p.X a=(zD p.X a.1 (zW p.C a.1 a.2)).map λs=>(if s.x=a.1 then s.y else s.x,zW p.C a.1 a.2):=rfl
  have hown5:W5.ownsRow (w.heap.size+2) 157 4 v' (k+1) ((H++[qB8 p.C a]).flatMap Hop.cells):=by
   rw [List.flatMap_append];exact qAv (by simpa [Hop.cells,qB8] using H4.o.1) hb5
  have H5:=mH (aI hown5 (aI (H4.o.2.1.below hb5 H4.o.2.1.lt) (aI (H4.o.2.2.1.below hb5 H4.o.2.2.1.lt) (aI (H4.o.2.2.2.1.trans (hb5.mono H4.o.2.2.2.1.size)) (aI (Nat.le_trans H4.o.2.2.2.2.1 hb5.size) (H4.o.2.2.2.2.2.below hb5 H4.o.2.2.2.2.2.lt))))));clear hb5 H4 hown5;obtain⟨av,cav,hav⟩:=jO H5.o.1;subst hav
  cases hsp:zD p.X a.1 (zW p.C a.1 a.2) with
  | none =>
   rw [hsp] at hgo;have HL:=mH (hRk.o.last hgo);clear hgo hsp;simp only [Option.isSome_none];go_wp2;refine bodyPost_ret (results_tmp2 rfl _ _ _) rfl ⟨_,rfl,?_,?_⟩
   ·rw [HL.o,show(H++[qB8 p.C a]).length=k+1 by rw [List.length_append,hRk.o.len];rfl];exact qAm (H5.o.1.alloc _) oM
   ·exact qB H5.o.2.2.2.1 _ H5.o.2.2.2.1.size
  | some s =>
   have hgs:qD7 p.C p.X a=some (if s.x=a.1 then s.y else s.x,zW p.C a.1 a.2):=by rw [hgo,hsp];rfl
   have hH0:(H++[qB8 p.C a])[0]? = some (qB8 p.C (f,site)):=by
    by_cases hk0:0<k
    ·rw [List.getElem?_append_left (by rw [hRk.o.len];exact hk0)];exact(HF.o hk0).2
    ·have hH:H=[]:=List.length_eq_zero_iff.1 (by rw [hRk.o.len];omega);have hk00:k=0:=by omega
     have ha:=hRk.o.at_;rw [hk00] at ha;have hae:(f,site)=a:=Option.some.inj ha;rw [hH,←hae];rfl
   obtain⟨q,hq⟩:=eX ((if s.x=a.1 then s.y else s.x));have hgq:qD7 p.C p.X a=some (q,zW p.C a.1 a.2):=by rw [hgs,hq]
   obtain⟨hR2,hne2⟩:=hRk.o.next HP.o.1 HP.o.2.1 HP.o.2.2.1 hgq
   have hle:=hR2.le;have s0:=H5.o.2.2.1.cell 0 (.string a.1.cable) rfl;have s1:=H5.o.2.2.1.cell 1 (.int .i64 a.1.no) rfl;have g0:=H5.o.2.2.1.free 0;have g1:=H5.o.2.2.1.free 1;have y3:=H5.o.2.2.2.2.2.cell 3 (.string (zW p.C a.1 a.2)) rfl;have hl5:w.heap.size+1<W5.heap.size:=by have:=H5.o.2.2.2.2.1;omega
   have hlb5:=H5.o.2.2.2.2.2.lt;have hfin:∀W9:World,W5.grownBy W9 (some (w.heap.size+1))→qC W9 (w.heap.size+1) ↑q 77→qEc p (f,site) (q,zW p.C a.1 a.2) (k+1) (H++[qB8 p.C a])∧(W9.alloc (.cells ↑s 79)).ownsRow (w.heap.size+2) 157 4 (.slice av (k+1) cav) (k+1) ((H++[qB8 p.C a]).flatMap Hop.cells)∧qC (W9.alloc (.cells ↑s 79)) w.heap.size #[.slice aS p.S.length capS,.slice aC p.C.length capC,.slice aX p.X.length capX] 69∧qC (W9.alloc (.cells ↑s 79)) (w.heap.size+1) ↑q 77∧Below w.heap.size w (W9.alloc (.cells ↑s 79))∧w.heap.size+2≤(W9.alloc (.cells ↑s 79)).heap.size∧(0<k+1→(q,zW p.C a.1 a.2)≠(f,site)∧(H++[qB8 p.C a])[0]? = some (qB8 p.C (f,site))):=λW9 hg hb9 =>
    ⟨hR2,(qDa H5.o.1 hg oM).alloc _,(H5.o.2.1.grown hg (λe=>by have:=Option.some.inj e;omega)).alloc _,hb9.alloc _,qB (H5.o.2.2.2.1.trans (jE hg oM H5.o.2.2.2.1.size)) _ (by have:=hg.size;omega),by have:=hg.size;simp;omega,λ_=>⟨hne2,hH0⟩⟩
   have ha6:=H5.o.2.2.1;have HN:=mH (aI hfin ha6);clear hgo hsp hgs hH0 hgq hR2 hne2 hRk y0 y1 y2 hfin ha6 HF HB2;simp only [Option.isSome_some,Option.getD_some]
   by_cases heq:s.x=a.1
   ·rw [if_pos heq] at hq;subst hq;have e1:(s.x.cable.toList==a.1.cable.toList)=true:=by rw [heq];simp
    have e2:(s.x.no==a.1.no)=true:=by rw [heq];simp
    clear heq;go_wp2;obtain⟨n1,n2,n3,n4,n5,n6,n7⟩:=HN.o.1 _ (qO (w.heap.size+1) [.string s.y.cable,.int .i64 s.y.no] 0 _) ((HN.o.2.set 0 _).set 1 _);exact⟨⟨k+1,_,_,n1,rfl,n2,n3,n4,n5,n6,n7⟩,by simp [qH4];omega⟩
   ·rw [if_neg heq] at hq;subst hq
    rcases qCf heq with e1|⟨e1,e2⟩
    ·clear heq;go_wp2;obtain⟨n1,n2,n3,n4,n5,n6,n7⟩:=HN.o.1 _ (qO (w.heap.size+1) [.string s.x.cable,.int .i64 s.x.no] 0 _) ((HN.o.2.set 0 _).set 1 _);exact⟨⟨k+1,_,_,n1,rfl,n2,n3,n4,n5,n6,n7⟩,by simp [qH4];omega⟩
    ·have e3:(s.x.no==a.1.no)=false:=by simpa using e2
     clear heq;go_wp2;obtain⟨n1,n2,n3,n4,n5,n6,n7⟩:=HN.o.1 _ (qO (w.heap.size+1) [.string s.x.cable,.int .i64 s.x.no] 0 _) ((HN.o.2.set 0 _).set 1 _);exact⟨⟨k+1,_,_,n1,rfl,n2,n3,n4,n5,n6,n7⟩,by simp [qH4];omega⟩
theorem qLM (p:Pl) (hp:jS p) (f:qQ) (site:ByteArray) (vS vC vX:Value) (w:World) (hA:qAN w vS vC vX p.S p.C p.X) (hX:p.X.length≤100)
  (ht:qAA p.C f site=true) (h0:zD p.X f site=none) (hk:qBb f):Calls prog 110 #[.agg #[vS,vC,vX],.agg ↑f,.string site] w
  λe w'=>∃v,e=.returned v∧w'.ownsRow w.heap.size 157 4 v (qB9 p.C p.X (f,site)).length ((qB9 p.C p.X (f,site)).flatMap Hop.cells)∧Below w.heap.size w w':=by
 obtain⟨aS,capS,rfl,hcS,hmS,hAS⟩:=id hA.s;obtain⟨aC,capC,rfl,hcC,hmC,hAC⟩:=id hA.c;obtain⟨aX,capX,rfl,hcX,hmX,hAX⟩:=id hA.x;unfold maxLen at hmS hmC hmX;have hBa:Below w.heap.size w ((w.alloc (.cells #[.slice aS p.S.length capS,.slice aC p.C.length capC,.slice aX p.X.length capX] 69)).alloc (.cells ↑f 77)):=by exact qS
 have HA:=mH (aI hBa (hA.below hBa));clear hA hBa hAS hAC hAX;go_enter func110,ntmps110;go_wp2_with fail;refine(qQy p hp f site _ _ _ _ HA.o.2 hX ht h0 hk).mono ?_;rintro e W3 ⟨v,rfl,ho,hb⟩;obtain⟨a,c,rfl⟩:=jO ho;have H3:=mH (aI (qAm ho HA.o.1.size) (HA.o.1.trans (hb.mono HA.o.1.size)));clear ho hb;go_wp2;go_ret;exact⟨_,rfl,H3.o.1,H3.o.2⟩
theorem qNr {a b:qQ} (h:a=b):(a.cable.toList==b.cable.toList)=true∧(a.no==b.no)=true:=by rw [h];simp
theorem qQD (s:qE) (f:qQ) (b:Nat) (w:World) (hb:qC w b ↑f 77):Calls prog 168 #[.agg ⟨qE.cells s⟩,.pointer (some ⟨b,0,none⟩)] w λe w'=>e=.returned (.bool (decide (s.x=f∨s.y=f)))∧Below w.heap.size w w':=by
 have HB:Hx (Below w.heap.size w (w.alloc (.cells ↑s 79))):=⟨qB bR _ lR⟩;have c0:=hb.cell 0 (.string f.cable) rfl;have c1:=hb.cell 1 (.int .i64 f.no) rfl;have hl:=hb.lt;clear hb;rw [qIZ]
 by_cases h1:s.x=f
 ·have HV:Hx (decide (s.x=f∨s.y=f)=true):=mH (by simp [h1]);obtain⟨e1,e2⟩:=qNr h1;clear h1
  (go_enter func168,ntmps168;go_wp2;go_ret;exact⟨qU (by rw [HV.o]),HB.o⟩)
 by_cases h2:s.y=f
 ·have HV:Hx (decide (s.x=f∨s.y=f)=true):=mH (by simp [h2]);obtain⟨e1,e2⟩:=qNr h2
  rcases qCf h1 with d1|⟨d1,d2⟩
  ·clear h1 h2
   (go_enter func168,ntmps168;go_wp2;go_ret;exact⟨qU (by rw [HV.o]),HB.o⟩)
  ·have d3:(s.x.no==f.no)=false:=by simpa using d2
   clear h1 h2
   (go_enter func168,ntmps168;go_wp2;go_ret;exact⟨qU (by rw [HV.o]),HB.o⟩)
 ·have HV:Hx (decide (s.x=f∨s.y=f)=false):=mH (by simp [h1,h2])
  rcases qCf h1 with d1|⟨d1,d2⟩
  ·rcases qCf h2 with e1|⟨e1,e2⟩
   ·clear h1 h2
    (go_enter func168,ntmps168;go_wp2;go_ret;exact⟨qU (by rw [HV.o]),HB.o⟩)
   ·have e3:(s.y.no==f.no)=false:=by simpa using e2
    clear h1 h2
    (go_enter func168,ntmps168;go_wp2;go_ret;exact⟨qU (by rw [HV.o]),HB.o⟩)
  ·have d3:(s.x.no==f.no)=false:=by simpa using d2
   rcases qCf h2 with e1|⟨e1,e2⟩
   ·clear h1 h2
    (go_enter func168,ntmps168;go_wp2;go_ret;exact⟨qU (by rw [HV.o]),HB.o⟩)
   ·have e3:(s.y.no==f.no)=false:=by simpa using e2
    clear h1 h2
    (go_enter func168,ntmps168;go_wp2;go_ret;exact⟨qU (by rw [HV.o]),HB.o⟩)
theorem qLH (b:Bool) (w:World):Calls prog 101 #[.bool b] w λe w'=>e=.returned (.int .i64 (if b then 1 else 0))∧w=w':=by
 cases b
 ·go_enter func101,ntmps101;go_wp2;go_ret;exact⟨rfl,rfl⟩
 ·go_enter func101,ntmps101;go_wp2;go_ret;exact⟨rfl,rfl⟩
theorem qS3:(prog.info? 77).map (λi=>(i.zero,i.size,i.bytes))=some (some (.agg #[.string ⟨#[]⟩,.int .i64 0]),2,24):=by kernel_rfl
theorem qQ3 (p:Pl) (f:qQ) (b:Nat) (vS vC vX:Value) (w:World) (hb:qC w b #[vS,vC,vX] 69) (hA:qI qE.cells 6 w p.X vX):Calls prog 166 #[.agg ↑f,.pointer (some ⟨b,0,none⟩)] w
  λe w'=>e=.returned (.bool (!(p.X.any λs=>decide (s.x=f∨s.y=f))))∧Below w.heap.size w w':=by
 obtain⟨a,cap,rfl,-⟩:=id hA;have hBa:Below w.heap.size w (w.alloc (.cells ↑f 77)):=qB bR _ lR;have hbf:qC (w.alloc (.cells ↑f 77)) w.heap.size ↑f 77:=qC.new _ _ _;have c2:=hb.cell 2 (.slice a p.X.length cap) rfl;have hl:=hb.lt;have HA:=mH (aI (hA.below hBa) (aI hbf hBa));clear hA hb hBa hbf;go_enter func166,ntmps166;go_wp2_with fail;refine(qFt _ p.X (λs=>decide (s.x=f∨s.y=f)) 168 #[.pointer (some ⟨w.heap.size,0,none⟩)] _ HA.o.1 (qAB func168 kR rfl) (λo w' _ hbw=>qQD o f _ w' (HA.o.2.1.below hbw HA.o.2.1.lt))).mono ?_;rintro e w' ⟨rfl,hb'⟩;have HB:=mH (HA.o.2.2.trans (hb'.mono HA.o.2.2.size));clear hb';go_wp2;go_ret;exact⟨qU sI,HB.o⟩
theorem jD {α:Type} {cells:α→List Value} {sz:Nat} {w:World} {l:List α} {v:Value} (h:qI cells sz w l v):∃a n c,v=.slice a n c:=by
 obtain⟨a,c,e,_⟩:=h;exact⟨a,_,c,e⟩
def qCg (c:qG) (m:Nat):List qQ:=(List.range m).map λ(n:Nat)=>(⟨c.key,(n:Int)+1⟩:qQ)
def qC3 (C:List qG):List qQ:=C.flatMap λc=>qCg c c.fibs.toNat
theorem qQ0 (c:qG) (m:Nat):qCg c (m+1)=qCg c m++[⟨c.key,(m:Int)+1⟩]:=by
 unfold qCg;rw [List.range_succ,List.map_append];rfl
theorem qLK {C:List qG} {k:Nat} (hk:k<C.length):qC3 (C.take (k+1))=qC3 (C.take k)++qCg C[k] C[k].fibs.toNat:=by
 unfold qC3;rw [List.take_succ_eq_append_getElem hk,List.flatMap_append,List.flatMap_cons,List.flatMap_nil,List.append_nil]
theorem qMw {C:List qG} (h:∀c∈C,c.fibs≤144) (k:Nat):(qC3 (C.take k)).length≤k*144:=by
 induction k with
 | zero=>simp [qC3]
 | succ k ih =>
  by_cases hk:k<C.length
  ·rw [qLK hk,List.length_append];have:=h C[k] (List.getElem_mem hk);have:(qCg C[k] C[k].fibs.toNat).length≤144:=by unfold qCg;simp;omega
   omega
  ·rw [List.take_of_length_le (by omega:C.length≤k+1)];rw [List.take_of_length_le (by omega:C.length≤k)] at ih;omega
theorem qNg (p:Pl) (hC:p.C.length≤100) (hf:∀c∈p.C,0≤c.fibs∧c.fibs≤144) (vS vC vX:Value) (w:World) (hA:qAN w vS vC vX p.S p.C p.X):Calls prog 217 #[.agg #[vS,vC,vX]] w
  λe w'=>∃v,e=.returned v∧w'.ownsRow w.heap.size 77 2 v (qC3 p.C).length ((qC3 p.C).flatMap qQ.cells)∧Below w.heap.size w w':=by
 obtain⟨i0,hi,hz0,hz1,hz2⟩:=info_parts qS3;obtain⟨aS,nS,capS,hfS⟩:=jD hA.s;obtain⟨aX,nX,capX,hfX⟩:=jD hA.x;subst hfS;subst hfX;obtain⟨aC,capC,rfl,hcC,hmC,hAC⟩:=id hA.c;have hbx:qC (w.alloc (.cells #[.slice aS nS capS,.slice aC p.C.length capC,.slice aX nX capX] 69)) w.heap.size #[.slice aS nS capS,.slice aC p.C.length capC,.slice aX nX capX] 69:=qC.new _ _ _;have hBa:Below w.heap.size w (w.alloc (.cells #[.slice aS nS capS,.slice aC p.C.length capC,.slice aX nX capX] 69)):=qB bR _ lR;have hzz:w.heap.size+1≤(w.alloc (.cells #[.slice aS nS capS,.slice aC p.C.length capC,.slice aX nX capX] 69)).heap.size:=by simp
 have HA:=mH (aI hAC (aI hf (aI hBa hzz)));have hfl:=qMw (λc hc=>(hf c hc).2);have HL:=mH hfl;clear hA hAC hf hBa hbx hzz hfl;go_enter func217,ntmps217;go_wp2_with fail;generalize w.alloc (.cells #[.slice aS nS capS,.slice aC p.C.length capC,.slice aX nX capX] 69)=W1 at *;go_loopw [3,10] (λov iv wr=>∃k:Nat,k≤p.C.length∧iv=.int .i64 k∧wr.ownsRow (w.heap.size+1) 77 2 ov (qC3 (p.C.take k)).length ((qC3 (p.C.take k)).flatMap qQ.cells)∧Below w.heap.size w wr∧w.heap.size+1≤wr.heap.size) (λov iv _=>p.C.length - (intOf iv).toNat)
 case atStart=>exact⟨0,by omega,rfl,World.ownsRow_nil _ _ _ _,HA.o.2.2.1,HA.o.2.2.2⟩
 case round =>
  obtain⟨k,hk,rfl,ho,hB,hz⟩:=hrel;have hln:=HL.o k;obtain⟨ao,co,hvo⟩:=jO ho;subst hvo
  by_cases hlt:k<p.C.length
  rotate_left
  ·obtain rfl:k=p.C.length:=by omega
   have HB:=mH (aI ho hB);clear ho hB;go_wp2;go_ret;exact⟨.slice ao (qC3 (p.C.take p.C.length)).length co,rfl,by have:=qAm (b':=w.heap.size) HB.o.1 oM;simpa only [List.take_length] using this,HB.o.2⟩
  have hsu:=qLK hlt;have hfx:=HA.o.2.1 p.C[k] (List.getElem_mem hlt);obtain⟨b,off,rfl,hb,hcc⟩:=HA.o.1 k hlt;obtain⟨c0,c1,c2,c3,c4⟩:=qCW hcc;replace c0:=(hB.cell (p:=⟨b,_,none⟩) hb).trans c0;replace c1:=(hB.cell (p:=⟨b,_,none⟩) hb).trans c1;replace c2:=(hB.cell (p:=⟨b,_,none⟩) hb).trans c2;replace c3:=(hB.cell (p:=⟨b,_,none⟩) hb).trans c3;replace c4:=(hB.cell (p:=⟨b,_,none⟩) hb).trans c4;have hk':(k:Int)<p.C.length:=by omega
  obtain⟨K,hK⟩:=eX (qC3 (p.C.take k));rw [hK] at ho hsu hln ⊢;generalize p.C[k]=x at *;have HB:=mH (aI ho (aI hB (aI hsu hfx)));clear ho hB hcc hsu hK;obtain⟨wo,rfl⟩:∃wo:World,wo=wr:=⟨_,rfl⟩;have hB1:Below w.heap.size w (wo.alloc (.cells ↑x 75)):=qB HB.o.2.1 _ HB.o.2.1.size;have hbn:qC (wo.alloc (.cells ↑x 75)) wo.heap.size ↑x 75:=qC.new _ _ _;have ho1:=HB.o.1.alloc (.cells ↑x 75);have hzq:w.heap.size+1≤(wo.alloc (.cells ↑x 75)).heap.size:=by simp;omega
  have H1:=mH (aI ho1 (aI hB1 (aI hbn hzq)));clear ho1 hB1 hbn hzq;go_wp2;go_loopw [3,6] (λov nv wi=>∃m:Nat,m≤x.fibs.toNat∧nv=.int .i64 ((m:Int)+1)∧wi.ownsRow (w.heap.size+1) 77 2 ov (K++qCg x m).length ((K++qCg x m).flatMap qQ.cells)∧Below w.heap.size w wi∧qC wi wo.heap.size ↑x 75∧w.heap.size+1≤wi.heap.size) (λov nv _=>x.fibs.toNat+2 - (intOf nv).toNat)
  case atStart=>exact⟨0,by omega,rfl,by simpa [qCg] using H1.o.1,H1.o.2.1,H1.o.2.2.1,H1.o.2.2.2⟩
  case round =>
   clear H1;obtain⟨m,hm,rfl,ho2,hB2,hbc,hzi⟩:=hrel;have hnb:=qA2 ho2 hbc dE;obtain⟨a2,d2,hv2⟩:=jO ho2;subst hv2;have y0:=hbc.cell 0 (.string x.key) rfl;have y4:=hbc.cell 4 (.int .i64 x.fibs) rfl;have hlc:=hbc.lt;have hfx:=HB.o.2.2.2;have hlm:(K++qCg x m).length≤14500:=by
    rw [List.length_append];have:(qCg x m).length=m:=by unfold qCg;simp
    omega
   have H2:=mH (aI ho2 (aI hB2 (aI hbc hnb)));clear ho2 hB2 hbc hnb
   by_cases hmm:(m:Int)+1≤x.fibs
   ·have hd:decide ((m:Int)+1≤x.fibs)=true:=by simpa using hmm
    obtain⟨q,hq⟩:=eX ((K++qCg x m).length);have ho2:=H2.o.1;have hnb:=H2.o.2.2.2;rw [hq] at ho2 hlm hnb;rw [hq];go_wp2_with ((at_builtin;go_must (refine wpList_append_own _ rfl _ _ 204 rfl _ 77 _ (.agg #[.string ⟨#[]⟩,.int .i64 0]) 2 24 underlying204 hi hz0 hz1 hz2 rfl dE _ _ _ rfl (ho2.alloc _) ⟨wr.heap.size,0,none⟩ 1 1 [.string x.key,.int .i64 ((m:Int)+1)] rfl rfl (by exact qBC (by first|rfl|simp) rF) (by simp [Value.oneCell']) (by unfold maxLen;omega) oM szq ?_));intro v' w5 hown5 hg5 _);refine⟨⟨m+1,by omega,by go_num,?_,jG (H2.o.2.1.trans (qB bR _ oM)) (ho2.alloc _) hg5 oM (by simp;omega),(H2.o.2.2.1.alloc _).grown hg5 (λe=>hnb e.symm),by have:=hg5.size;simp at this;omega⟩,by simp [intOf];omega⟩;rw [qQ0,←List.append_assoc,List.length_append,List.flatMap_append,hq];exact hown5
   ·have hd:decide ((m:Int)+1≤x.fibs)=false:=by simpa using hmm
    obtain rfl:m=x.fibs.toNat:=by omega
    go_wp2;refine⟨⟨k+1,by omega,by go_num,?_,H2.o.2.1,hzi⟩,by simp [intOf];omega⟩;rw [HB.o.2.2.1];exact H2.o.1
end Go.Proofs.YtbgnlfgkgklkdaaGreatDoor
