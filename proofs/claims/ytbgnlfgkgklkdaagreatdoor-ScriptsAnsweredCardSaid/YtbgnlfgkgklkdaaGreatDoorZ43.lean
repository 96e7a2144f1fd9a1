/- Parts of the proof of ScriptsAnswered: SsB, SsC, SsL, SsQ. No condition. -/
import Derived.Test.YtbgnlfgkgklkdaaGreatDoorZ35
import Derived.Test.YtbgnlfgkgklkdaaGreatDoorZ28
import Derived.Test.YtbgnlfgkgklkdaaGreatDoorZ29
set_option linter.unusedVariables false
set_option linter.unusedSimpArgs false
set_option maxHeartbeats 8000000
set_option maxRecDepth 100000
namespace Go.Proofs.YtbgnlfgkgklkdaaGreatDoor
open Go Go.RowKit Tryz
theorem qGY (p:Pl) (f:qQ) (vS vC vX:Value) (w:World) (hA:qAN w vS vC vX p.S p.C p.X):Calls prog 106 #[.agg #[vS,vC,vX],.agg ↑f] w
  λe w'=>e=.returned (.bool (jX p.C f))∧Below w.heap.size w w':=by
 obtain⟨aS,capS,rfl,hcS,hmS,hAS⟩:=id hA.s;obtain⟨aC,capC,rfl,hcC,hmC,hAC⟩:=id hA.c;obtain⟨aX,capX,rfl,hcX,hmX,hAX⟩:=id hA.x;unfold maxLen at hmS hmC hmX;have hbx:qC ((w.alloc (.cells #[.slice aS p.S.length capS,.slice aC p.C.length capC,.slice aX p.X.length capX] 69)).alloc (.cells ↑f 77)) w.heap.size #[.slice aS p.S.length capS,.slice aC p.C.length capC,.slice aX p.X.length capX] 69:=(qC.new w _ _).alloc _;have hbf:qC ((w.alloc (.cells #[.slice aS p.S.length capS,.slice aC p.C.length capC,.slice aX p.X.length capX] 69)).alloc (.cells ↑f 77)) (w.heap.size+1) ↑f 77:=qC.newAt sI;have hBa:Below w.heap.size w ((w.alloc (.cells #[.slice aS p.S.length capS,.slice aC p.C.length capC,.slice aX p.X.length capX] 69)).alloc (.cells ↑f 77)):=by exact qS
 have HA:=mH (aI hA (aI hBa (aI hbx hbf)));clear hA hAS hAC hAX;have t0:=hbx.cell 0 _ rfl;have t1:=hbx.cell 1 _ rfl;have t2:=hbx.cell 2 _ rfl;have s0:=hbf.cell 0 _ rfl;have s1:=hbf.cell 1 _ rfl;clear hbx hbf hBa;go_enter func106,ntmps106;go_wp2_with fail;generalize ((w.alloc (.cells #[.slice aS p.S.length capS,.slice aC p.C.length capC,.slice aX p.X.length capX] 69)).alloc (.cells ↑f 77))=W2 at *;obtain⟨c,hc⟩:=eX ((qY p.C f.cable).getD qAH);obtain⟨bo,hbo⟩:=eX ((qY p.C f.cable).isSome);have hcall:=qEZ p f.cable (.slice aS p.S.length capS) (.slice aC p.C.length capC) (.slice aX p.X.length capX) W2 (HA.o.1.below HA.o.2.1);rw [hc,hbo] at hcall;refine hcall.mono ?_;rintro e w3 ⟨rfl,hb3⟩;have HV:=mH (qKb hc hbo);have hbf3:=HA.o.2.2.2.below hb3 HA.o.2.2.2.lt;have hB3:=HA.o.2.1.trans (hb3.mono HA.o.2.1.size);have hbf4:=hbf3.alloc (.cells ↑c 75);have s1:=hbf4.cell 1 _ rfl;have HB:=mH (qB hB3 (.cells ↑c 75) hB3.size);clear hcall hc hbo hb3 hbf3 hB3 hbf4
 cases bo
 ·go_wp2;go_ret;exact⟨qU HV.o.symm,HB.o⟩
 ·go_wp2_with (go_at_call 96;refine(qDy _ _ _ _).mono ?_;rintro e' w' ⟨rfl,rfl⟩);go_ret;exact⟨qU HV.o.symm,HB.o⟩
theorem qHQ (p:Pl) (f:qQ) (site:ByteArray) (vS vC vX:Value) (w:World) (hA:qAN w vS vC vX p.S p.C p.X):Calls prog 108 #[.agg #[vS,vC,vX],.agg ↑f,.string site] w
  λe w'=>e=.returned (.bool (qAA p.C f site))∧Below w.heap.size w w':=by
 obtain⟨aS,capS,rfl,hcS,hmS,hAS⟩:=id hA.s;obtain⟨aC,capC,rfl,hcC,hmC,hAC⟩:=id hA.c;obtain⟨aX,capX,rfl,hcX,hmX,hAX⟩:=id hA.x;unfold maxLen at hmS hmC hmX;have hbx:qC ((w.alloc (.cells #[.slice aS p.S.length capS,.slice aC p.C.length capC,.slice aX p.X.length capX] 69)).alloc (.cells ↑f 77)) w.heap.size #[.slice aS p.S.length capS,.slice aC p.C.length capC,.slice aX p.X.length capX] 69:=(qC.new w _ _).alloc _;have hbf:qC ((w.alloc (.cells #[.slice aS p.S.length capS,.slice aC p.C.length capC,.slice aX p.X.length capX] 69)).alloc (.cells ↑f 77)) (w.heap.size+1) ↑f 77:=qC.newAt sI;have hBa:Below w.heap.size w ((w.alloc (.cells #[.slice aS p.S.length capS,.slice aC p.C.length capC,.slice aX p.X.length capX] 69)).alloc (.cells ↑f 77)):=by exact qS
 have HA:=mH (aI hA (aI hBa (aI hbx hbf)));clear hA hAS hAC hAX;have t0:=hbx.cell 0 _ rfl;have t1:=hbx.cell 1 _ rfl;have t2:=hbx.cell 2 _ rfl;have s0:=hbf.cell 0 _ rfl;have s1:=hbf.cell 1 _ rfl;clear hbx hbf hBa;go_enter func108,ntmps108;go_wp2_with fail;generalize ((w.alloc (.cells #[.slice aS p.S.length capS,.slice aC p.C.length capC,.slice aX p.X.length capX] 69)).alloc (.cells ↑f 77))=W2 at *;obtain⟨c,hc⟩:=eX ((qY p.C f.cable).getD qAH);obtain⟨bo,hbo⟩:=eX ((qY p.C f.cable).isSome);have hcall:=qEZ p f.cable (.slice aS p.S.length capS) (.slice aC p.C.length capC) (.slice aX p.X.length capX) W2 (HA.o.1.below HA.o.2.1);rw [hc,hbo] at hcall;refine hcall.mono ?_;rintro e w3 ⟨rfl,hb3⟩;have hv:=qNC site hc hbo;have hB3:=HA.o.2.1.trans (hb3.mono HA.o.2.1.size);have HB:=mH (qB hB3 (.cells ↑c 75) hB3.size);clear hcall hc hbo hb3 hB3
 cases bo
 ·have HV:=mH hv;clear hv;go_wp2;go_ret;exact⟨qU HV.o.symm,HB.o⟩
 ·cases h1:(c.a.toList==site.toList)
  ·rw [h1] at hv;have HV:=mH hv;clear hv;go_wp2;go_ret;exact⟨qU HV.o.symm,HB.o⟩
  ·rw [h1] at hv;have HV:=mH hv;clear hv;go_wp2;go_ret;exact⟨qU HV.o.symm,HB.o⟩
theorem qJg (p:Pl) (f:qQ) (site:ByteArray) (vS vC vX:Value) (w:World) (hA:qAN w vS vC vX p.S p.C p.X):Calls prog 216 #[.agg #[vS,vC,vX],.agg ↑f,.string site] w
  λe w'=>e=.returned (.string (zW p.C f site))∧Below w.heap.size w w':=by
 obtain⟨aS,capS,rfl,hcS,hmS,hAS⟩:=id hA.s;obtain⟨aC,capC,rfl,hcC,hmC,hAC⟩:=id hA.c;obtain⟨aX,capX,rfl,hcX,hmX,hAX⟩:=id hA.x;unfold maxLen at hmS hmC hmX;have hbx:qC ((w.alloc (.cells #[.slice aS p.S.length capS,.slice aC p.C.length capC,.slice aX p.X.length capX] 69)).alloc (.cells ↑f 77)) w.heap.size #[.slice aS p.S.length capS,.slice aC p.C.length capC,.slice aX p.X.length capX] 69:=(qC.new w _ _).alloc _;have hbf:qC ((w.alloc (.cells #[.slice aS p.S.length capS,.slice aC p.C.length capC,.slice aX p.X.length capX] 69)).alloc (.cells ↑f 77)) (w.heap.size+1) ↑f 77:=qC.newAt sI;have hBa:Below w.heap.size w ((w.alloc (.cells #[.slice aS p.S.length capS,.slice aC p.C.length capC,.slice aX p.X.length capX] 69)).alloc (.cells ↑f 77)):=by exact qS
 have HA:=mH (aI hA (aI hBa (aI hbx hbf)));clear hA hAS hAC hAX;have t0:=hbx.cell 0 _ rfl;have t1:=hbx.cell 1 _ rfl;have t2:=hbx.cell 2 _ rfl;have s0:=hbf.cell 0 _ rfl;have s1:=hbf.cell 1 _ rfl;clear hbx hbf hBa;go_enter func216,ntmps216;go_wp2_with fail;generalize ((w.alloc (.cells #[.slice aS p.S.length capS,.slice aC p.C.length capC,.slice aX p.X.length capX] 69)).alloc (.cells ↑f 77))=W2 at *;obtain⟨c,hc⟩:=eX ((qY p.C f.cable).getD qAH);obtain⟨bo,hbo⟩:=eX ((qY p.C f.cable).isSome);have hcall:=qEZ p f.cable (.slice aS p.S.length capS) (.slice aC p.C.length capC) (.slice aX p.X.length capX) W2 (HA.o.1.below HA.o.2.1);rw [hc,hbo] at hcall;refine hcall.mono ?_;rintro e w3 ⟨rfl,hb3⟩;have hv:=qML site hc;have hB3:=HA.o.2.1.trans (hb3.mono HA.o.2.1.size);have HB:=mH (qB hB3 (.cells ↑c 75) hB3.size);clear hcall hc hbo hb3 hB3
 cases h1:(c.a.toList==site.toList)
 ·rw [h1] at hv;have HV:=mH hv;clear hv;go_wp2;go_ret;exact⟨congrArg (λq=>Ending.returned (.string q)) HV.o.symm,HB.o⟩
 ·rw [h1] at hv;have HV:=mH hv;clear hv;go_wp2;go_ret;exact⟨congrArg (λq=>Ending.returned (.string q)) HV.o.symm,HB.o⟩
theorem qRe {α:Type} (q:α→Bool) (l:List α) {k:Nat} (hk:k<l.length) (h:(l.take k).any q=false) (hq:q l[k]=true):l.find? q=some l[k]:=by
 have h3:l=l.take k++l[k]::l.drop (k+1):=by rw [←List.drop_eq_getElem_cons hk,List.take_append_drop]
 have h2:(l.take k).find? q=none:=by
  rw [List.find?_eq_none];intro x hx;have:=List.any_eq_false.1 h x hx;simpa using this
 exact(congrArg (List.find? q) h3).trans (by rw [List.find?_append,h2,List.find?_cons_of_pos hq];rfl)
theorem qP7 {α:Type} (q:α→Bool) (l:List α) (h:l.any q=false):l.find? q=none:=by
 rw [List.find?_eq_none];intro x hx;have:=List.any_eq_false.1 h x hx;simpa using this
theorem qJ7 (p:Pl) (f:qQ) (site:ByteArray) (vS vC vX:Value) (w:World) (hA:qAN w vS vC vX p.S p.C p.X):Calls prog 109 #[.agg #[vS,vC,vX],.agg ↑f,.string site] w
  λe w'=>e=.returned (.tuple #[.agg ↑((zD p.X f site).getD ⟨⟨#[]⟩,⟨⟨#[]⟩,0⟩,⟨⟨#[]⟩,0⟩,0⟩),.bool (zD p.X f site).isSome])∧Below w.heap.size w w':=by
 obtain⟨aS,capS,rfl,hcS,hmS,hAS⟩:=id hA.s;obtain⟨aC,capC,rfl,hcC,hmC,hAC⟩:=id hA.c;obtain⟨aX,capX,rfl,hcX,hmX,hAX⟩:=id hA.x;unfold maxLen at hmS hmC hmX;have HAX:=mH hAX;have hbx:qC (((w.alloc (.cells #[.slice aS p.S.length capS,.slice aC p.C.length capC,.slice aX p.X.length capX] 69)).alloc (.cells ↑f 77)).alloc (.cells ↑zX 79)) w.heap.size #[.slice aS p.S.length capS,.slice aC p.C.length capC,.slice aX p.X.length capX] 69:=((qC.new w _ _).alloc _).alloc _;have hbf:qC (((w.alloc (.cells #[.slice aS p.S.length capS,.slice aC p.C.length capC,.slice aX p.X.length capX] 69)).alloc (.cells ↑f 77)).alloc (.cells ↑zX 79)) (w.heap.size+1) ↑f 77:=(qC.newAt sI).alloc _;have hbr:qC (((w.alloc (.cells #[.slice aS p.S.length capS,.slice aC p.C.length capC,.slice aX p.X.length capX] 69)).alloc (.cells ↑f 77)).alloc (.cells ↑zX 79)) (w.heap.size+2) ↑zX 79:=qC.newAt sI;have hBa:Below w.heap.size w (((w.alloc (.cells #[.slice aS p.S.length capS,.slice aC p.C.length capC,.slice aX p.X.length capX] 69)).alloc (.cells ↑f 77)).alloc (.cells ↑zX 79)):=by exact qS
 have HB:=mH (aI hBa (aI hbf hbr));have t2:=hbx.cell 2 (.slice aX p.X.length capX) rfl;clear hA hAS hAC hAX hBa hbf hbr hbx;go_enter func109,ntmps109;go_wp2_with fail;generalize (((w.alloc (.cells #[.slice aS p.S.length capS,.slice aC p.C.length capC,.slice aX p.X.length capX] 69)).alloc (.cells ↑f 77)).alloc (.cells ↑zX 79))=W1 at *;go_loopw [13] (λiv wr=>∃k:Nat,k≤p.X.length∧iv=.int .i64 k∧(p.X.take k).any (λs=>decide (s.site=site∧(s.x=f∨s.y=f)))=false∧Below w.heap.size w wr∧qC wr (w.heap.size+1) ↑f 77∧qC wr (w.heap.size+2) ↑zX 79) (λiv _=>p.X.length - (intOf iv).toNat)
 case atStart=>exact⟨0,by omega,rfl,rfl,HB.o⟩
 case round =>
  obtain⟨k,hk,rfl,hz,hB,hbf,hbr⟩:=hrel
  by_cases hlt:k<p.X.length
  rotate_left
  ·obtain rfl:k=p.X.length:=by omega
   rw [List.take_length] at hz;have HV:Hx (zD p.X f site=none):=mH (qP7 _ _ hz);have x0:=hbr.cell 0 (.string ⟨#[]⟩) rfl;have x1:=hbr.cell 1 (.string ⟨#[]⟩) rfl;have x2:=hbr.cell 2 (.int .i64 0) rfl;have x3:=hbr.cell 3 (.string ⟨#[]⟩) rfl;have x4:=hbr.cell 4 (.int .i64 0) rfl;have x5:=hbr.cell 5 (.int .i64 0) rfl;have f0:=hbr.free 0;have f1:=hbr.free 1;have f2:=hbr.free 2;have f3:=hbr.free 3;have f4:=hbr.free 4;have f5:=hbr.free 5;have HZ:=mH (aI hbr hB);clear hz hbr hB hbf;go_wp2;refine bodyPost_ret (v:=.tuple #[.agg ↑zX,.bool false]) ?_ rfl ⟨?_,?_⟩
   ·exact qF rfl _ _ (w.heap.size+2) 79 ↑zX _ (0,0) _ rfl rfl (qC.fill6 HZ.o.1) underlying79 rfl kR
   ·rw [HV.o];rfl
   ·exact Below.fill6 HZ.o.2 oM _ _ _ _ _ _
  obtain⟨b,off,rfl,hb,hcc⟩:=HAX.o k hlt;obtain⟨c0,c1,c2,c3,c4,c5⟩:=qBo hcc;replace c0:=(hB.cell (p:=⟨b,_,none⟩) hb).trans c0;replace c1:=(hB.cell (p:=⟨b,_,none⟩) hb).trans c1;replace c2:=(hB.cell (p:=⟨b,_,none⟩) hb).trans c2;replace c3:=(hB.cell (p:=⟨b,_,none⟩) hb).trans c3;replace c4:=(hB.cell (p:=⟨b,_,none⟩) hb).trans c4;replace c5:=(hB.cell (p:=⟨b,_,none⟩) hb).trans c5;have hk':(k:Int)<p.X.length:=by omega
  have hsz:=hB.size;have hbs:b<wr.heap.size:=Nat.lt_of_lt_of_le hb hsz;have s0:=hbf.cell 0 (.string f.cable) rfl;have s1:=hbf.cell 1 (.int .i64 f.no) rfl;have hl1:w.heap.size+1<wr.heap.size:=hbf.lt;have hl2:w.heap.size+2<wr.heap.size:=hbr.lt;have x0:=hbr.cell 0 (.string ⟨#[]⟩) rfl;have x1:=hbr.cell 1 (.string ⟨#[]⟩) rfl;have x2:=hbr.cell 2 (.int .i64 0) rfl;have x3:=hbr.cell 3 (.string ⟨#[]⟩) rfl;have x4:=hbr.cell 4 (.int .i64 0) rfl;have x5:=hbr.cell 5 (.int .i64 0) rfl;have f0:=hbr.free 0;have f1:=hbr.free 1;have f2:=hbr.free 2;have f3:=hbr.free 3;have f4:=hbr.free 4;have f5:=hbr.free 5;have HZ:=mH (aI hz (aI hB (aI hbf hbr)));have hhit:(p.X[k].site=site∧(p.X[k].x=f∨p.X[k].y=f))→Hx (zD p.X f site=some p.X[k]):=λh=>mH (qRe _ _ hlt hz (by simpa using h))
  have hmis:¬(p.X[k].site=site∧(p.X[k].x=f∨p.X[k].y=f))→Hx ((p.X.take (k+1)).any (λs=>decide (s.site=site∧(s.x=f∨s.y=f)))=false):=λh=>by rw [qBO _ p.X k hlt hz];exact mH (decide_eq_false h)
  clear hz hB hbf hbr hcc;generalize p.X[k]=s at *
  by_cases hs:s.site=site
  ·have q0:(s.site.toList==site.toList)=true:=by rw [hs];simp
   by_cases hx:s.x=f
   ·have HV:=hhit ⟨hs,.inl hx⟩;have q1:(s.x.cable.toList==f.cable.toList)=true:=by rw [hx];simp
    have q2:(s.x.no==f.no)=true:=by rw [hx];simp
    clear hs hx hhit hmis;go_wp2;refine bodyPost_ret (v:=.tuple #[.agg ↑s,.bool true]) ?_ rfl ⟨?_,?_⟩;(exact qF rfl _ _ (w.heap.size+2) 79 ↑s _ (0,0) _ rfl rfl ((qC.fill6 HZ.o.2.2.2).alloc _) underlying79 rfl kR);(rw [HV.o];rfl);(exact qB (Below.fill6 HZ.o.2.1 oM _ _ _ _ _ _) _ (by simp [World.setCell];omega))
   ·by_cases hy:s.y=f
    ·have HV:=hhit ⟨hs,.inr hy⟩;have q3:(s.y.cable.toList==f.cable.toList)=true:=by rw [hy];simp
     have q4:(s.y.no==f.no)=true:=by rw [hy];simp
     rcases qCf hx with q1|⟨q1,q2⟩
     ·clear hs hx hy hhit hmis;go_wp2;refine bodyPost_ret (v:=.tuple #[.agg ↑s,.bool true]) ?_ rfl ⟨?_,?_⟩;(exact qF rfl _ _ (w.heap.size+2) 79 ↑s _ (0,0) _ rfl rfl ((qC.fill6 HZ.o.2.2.2).alloc _) underlying79 rfl kR);(rw [HV.o];rfl);(exact qB (Below.fill6 HZ.o.2.1 oM _ _ _ _ _ _) _ (by simp [World.setCell];omega))
     ·have q2':(s.x.no==f.no)=false:=by simp [q2]
      clear hs hx hy hhit hmis;go_wp2;refine bodyPost_ret (v:=.tuple #[.agg ↑s,.bool true]) ?_ rfl ⟨?_,?_⟩;(exact qF rfl _ _ (w.heap.size+2) 79 ↑s _ (0,0) _ rfl rfl ((qC.fill6 HZ.o.2.2.2).alloc _) underlying79 rfl kR);(rw [HV.o];rfl);(exact qB (Below.fill6 HZ.o.2.1 oM _ _ _ _ _ _) _ (by simp [World.setCell];omega))
    ·have HT:=hmis (λq=>q.2.elim hx hy)
     rcases qCf hx with q1|⟨q1,q2⟩
     ·rcases qCf hy with q3|⟨q3,q4⟩
      ·clear hs hx hy hhit hmis;go_wp2;exact⟨⟨k+1,by omega,by go_num,HT.o,qB HZ.o.2.1 _ hsz,(HZ.o.2.2.1).alloc _,(HZ.o.2.2.2).alloc _⟩,by simp [intOf];omega⟩
      ·have q4':(s.y.no==f.no)=false:=by simp [q4]
       clear hs hx hy hhit hmis;go_wp2;exact⟨⟨k+1,by omega,by go_num,HT.o,qB HZ.o.2.1 _ hsz,(HZ.o.2.2.1).alloc _,(HZ.o.2.2.2).alloc _⟩,by simp [intOf];omega⟩
     ·have q2':(s.x.no==f.no)=false:=by simp [q2]
      rcases qCf hy with q3|⟨q3,q4⟩
      ·clear hs hx hy hhit hmis;go_wp2;exact⟨⟨k+1,by omega,by go_num,HT.o,qB HZ.o.2.1 _ hsz,(HZ.o.2.2.1).alloc _,(HZ.o.2.2.2).alloc _⟩,by simp [intOf];omega⟩
      ·have q4':(s.y.no==f.no)=false:=by simp [q4]
       clear hs hx hy hhit hmis;go_wp2;exact⟨⟨k+1,by omega,by go_num,HT.o,qB HZ.o.2.1 _ hsz,(HZ.o.2.2.1).alloc _,(HZ.o.2.2.2).alloc _⟩,by simp [intOf];omega⟩
  ·have q0:(s.site.toList==site.toList)=false:=qAZ hs;have HT:=hmis λh=>hs h.1
   clear hs hhit hmis;go_wp2;exact⟨⟨k+1,by omega,by go_num,HT.o,qB HZ.o.2.1 _ hsz,(HZ.o.2.2.1).alloc _,(HZ.o.2.2.2).alloc _⟩,by simp [intOf];omega⟩
structure SfS (w W:World) (v0 v1 v2:Value) (s:qE):Prop where
 bel:Below w.heap.size w W
 pl:qC W w.heap.size #[v0,v1,v2] 69
 sp:qC W (w.heap.size+1) ↑s 79
theorem SfS.next {w W W':World} {v0 v1 v2:Value} {s:qE} (h:SfS w W v0 v1 v2 s) (hb:Below W.heap.size W W'):SfS w W' v0 v1 v2 s :=
 ⟨h.bel.trans (hb.mono h.bel.size),h.pl.below hb h.pl.lt,h.sp.below hb h.sp.lt⟩
theorem qPo (p:Pl) (s:qE) (hok:jF s) (vS vC vX:Value) (w:World) (hA:qAN w vS vC vX p.S p.C p.X):Calls prog 274 #[.agg #[vS,vC,vX],.agg ↑s] w
  λe w'=>e=.returned (.int .i64 (jA p.S p.C s))∧Below w.heap.size w w':=by
 obtain⟨aS,capS,rfl,hcS,hmS,hAS⟩:=id hA.s;obtain⟨aC,capC,rfl,hcC,hmC,hAC⟩:=id hA.c;obtain⟨aX,capX,rfl,hcX,hmX,hAX⟩:=id hA.x;unfold maxLen at hmS hmC hmX;have hq:SfS w ((w.alloc (.cells #[.slice aS p.S.length capS,.slice aC p.C.length capC,.slice aX p.X.length capX] 69)).alloc (.cells ↑s 79)) (.slice aS p.S.length capS) (.slice aC p.C.length capC) (.slice aX p.X.length capX) s :=
  ⟨by exact qS,(qC.new w _ _).alloc _,qC.newAt sI⟩
 have HQ:=mH hq;have HA:=mH (aI hA hok);clear hA hok hAS hAC hAX hq;have hlt1:=HQ.o.sp.lt;go_enter func274,ntmps274;go_wp2_with fail;generalize (w.alloc (.cells #[.slice aS p.S.length capS,.slice aC p.C.length capC,.slice aX p.X.length capX] 69)).alloc (.cells ↑s 79)=W1 at *
 (have t0:=HQ.o.pl.cell 0 _ rfl;have t1:=HQ.o.pl.cell 1 _ rfl;have t2:=HQ.o.pl.cell 2 _ rfl;have x0:=HQ.o.sp.cell 0 _ rfl;have x1:=HQ.o.sp.cell 1 _ rfl;have x2:=HQ.o.sp.cell 2 _ rfl;have x3:=HQ.o.sp.cell 3 _ rfl;have x4:=HQ.o.sp.cell 4 _ rfl;have x5:=HQ.o.sp.cell 5 _ rfl)
 go_wp2_with fail;obtain⟨b1,h1⟩:∃b,qAQ p.S s.site=b:=⟨_,rfl⟩;have hcall:=qDZ p s.site _ _ _ _ (HA.o.1.below HQ.o.bel);rw [h1] at hcall;refine hcall.mono ?_;rintro e' w' ⟨rfl,hb'⟩;have HN:=mH (HQ.o.next hb');clear hcall hb' HQ t0 t1 t2 x0 x1 x2 x3 x4 x5;have HQ:=HN;clear HN
 (have t0:=HQ.o.pl.cell 0 _ rfl;have t1:=HQ.o.pl.cell 1 _ rfl;have t2:=HQ.o.pl.cell 2 _ rfl;have x0:=HQ.o.sp.cell 0 _ rfl;have x1:=HQ.o.sp.cell 1 _ rfl;have x2:=HQ.o.sp.cell 2 _ rfl;have x3:=HQ.o.sp.cell 3 _ rfl;have x4:=HQ.o.sp.cell 4 _ rfl;have x5:=HQ.o.sp.cell 5 _ rfl)
 cases b1
 ·have HV:Hx (jA p.S p.C s=8):=mH (by unfold jA;rw [if_pos (.inl h1)]);go_wp2;go_ret;exact⟨qN HV.o.symm,HQ.o.bel⟩
 go_wp2_with fail;obtain⟨b2,h2⟩:∃b,jX p.C s.x=b:=⟨_,rfl⟩;have hcall:=qGY p s.x _ _ _ _ (HA.o.1.below HQ.o.bel);rw [h2] at hcall;refine hcall.mono ?_;rintro e' w' ⟨rfl,hb'⟩;have HN:=mH (HQ.o.next hb');clear hcall hb' HQ t0 t1 t2 x0 x1 x2 x3 x4 x5;have HQ:=HN;clear HN
 (have t0:=HQ.o.pl.cell 0 _ rfl;have t1:=HQ.o.pl.cell 1 _ rfl;have t2:=HQ.o.pl.cell 2 _ rfl;have x0:=HQ.o.sp.cell 0 _ rfl;have x1:=HQ.o.sp.cell 1 _ rfl;have x2:=HQ.o.sp.cell 2 _ rfl;have x3:=HQ.o.sp.cell 3 _ rfl;have x4:=HQ.o.sp.cell 4 _ rfl;have x5:=HQ.o.sp.cell 5 _ rfl)
 cases b2
 ·have HV:Hx (jA p.S p.C s=8):=mH (by unfold jA;rw [if_pos (.inr (.inl h2))]);go_wp2;go_ret;exact⟨qN HV.o.symm,HQ.o.bel⟩
 go_wp2_with fail;obtain⟨b3,h3⟩:∃b,jX p.C s.y=b:=⟨_,rfl⟩;have hcall:=qGY p s.y _ _ _ _ (HA.o.1.below HQ.o.bel);rw [h3] at hcall;refine hcall.mono ?_;rintro e' w' ⟨rfl,hb'⟩;have HN:=mH (HQ.o.next hb');clear hcall hb' HQ t0 t1 t2 x0 x1 x2 x3 x4 x5;have HQ:=HN;clear HN
 (have t0:=HQ.o.pl.cell 0 _ rfl;have t1:=HQ.o.pl.cell 1 _ rfl;have t2:=HQ.o.pl.cell 2 _ rfl;have x0:=HQ.o.sp.cell 0 _ rfl;have x1:=HQ.o.sp.cell 1 _ rfl;have x2:=HQ.o.sp.cell 2 _ rfl;have x3:=HQ.o.sp.cell 3 _ rfl;have x4:=HQ.o.sp.cell 4 _ rfl;have x5:=HQ.o.sp.cell 5 _ rfl)
 cases b3
 ·have HV:Hx (jA p.S p.C s=8):=mH (by unfold jA;rw [if_pos (.inr (.inr h3))]);go_wp2;go_ret;exact⟨qN HV.o.symm,HQ.o.bel⟩
 have hf1:jA p.S p.C s=if qAG p.S s.site=4 then 4 else if qAA p.C s.x s.site=false∨qAA p.C s.y s.site=false∨0≤jN s.x s.y then 3 else if zC s.loss 0 10000 then 1 else 0:=by
  unfold jA;rw [if_neg (by rw [h1,h2,h3];simp)]
 have HF1:=mH hf1;clear hf1 h1 h2 h3;go_wp2_with fail;obtain⟨b4,h4⟩:∃b,qAG p.S s.site=b:=⟨_,rfl⟩;have hcall:=qJU p s.site _ _ _ _ (HA.o.1.below HQ.o.bel);rw [h4] at hcall;refine hcall.mono ?_;rintro e' w' ⟨rfl,hb'⟩;have HN:=mH (HQ.o.next hb');clear hcall hb' HQ t0 t1 t2 x0 x1 x2 x3 x4 x5;have HQ:=HN;clear HN
 (have t0:=HQ.o.pl.cell 0 _ rfl;have t1:=HQ.o.pl.cell 1 _ rfl;have t2:=HQ.o.pl.cell 2 _ rfl;have x0:=HQ.o.sp.cell 0 _ rfl;have x1:=HQ.o.sp.cell 1 _ rfl;have x2:=HQ.o.sp.cell 2 _ rfl;have x3:=HQ.o.sp.cell 3 _ rfl;have x4:=HQ.o.sp.cell 4 _ rfl;have x5:=HQ.o.sp.cell 5 _ rfl)
 rw [h4] at HF1;clear h4
 by_cases k4:b4=4
 ·have kb:(b4==4)=true:=by simpa using k4
  have HV:=mH (HF1.o.trans (if_pos k4));clear k4;go_wp2;go_ret;exact⟨qN HV.o.symm,HQ.o.bel⟩
 have kb:(b4==4)=false:=by simpa using k4
 have HF2:=mH (HF1.o.trans (if_neg k4));clear k4 HF1;go_wp2_with fail;obtain⟨b5,h5⟩:∃b,qAA p.C s.x s.site=b:=⟨_,rfl⟩;have hcall:=qHQ p s.x s.site _ _ _ _ (HA.o.1.below HQ.o.bel);rw [h5] at hcall;refine hcall.mono ?_;rintro e' w' ⟨rfl,hb'⟩;have HN:=mH (HQ.o.next hb');clear hcall hb' HQ t0 t1 t2 x0 x1 x2 x3 x4 x5;have HQ:=HN;clear HN
 (have t0:=HQ.o.pl.cell 0 _ rfl;have t1:=HQ.o.pl.cell 1 _ rfl;have t2:=HQ.o.pl.cell 2 _ rfl;have x0:=HQ.o.sp.cell 0 _ rfl;have x1:=HQ.o.sp.cell 1 _ rfl;have x2:=HQ.o.sp.cell 2 _ rfl;have x3:=HQ.o.sp.cell 3 _ rfl;have x4:=HQ.o.sp.cell 4 _ rfl;have x5:=HQ.o.sp.cell 5 _ rfl)
 cases b5
 ·have HV:=mH (HF2.o.trans (if_pos (.inl h5)));go_wp2;go_ret;exact⟨qN HV.o.symm,HQ.o.bel⟩
 go_wp2_with fail;obtain⟨b6,h6⟩:∃b,qAA p.C s.y s.site=b:=⟨_,rfl⟩;have hcall:=qHQ p s.y s.site _ _ _ _ (HA.o.1.below HQ.o.bel);rw [h6] at hcall;refine hcall.mono ?_;rintro e' w' ⟨rfl,hb'⟩;have HN:=mH (HQ.o.next hb');clear hcall hb' HQ t0 t1 t2 x0 x1 x2 x3 x4 x5;have HQ:=HN;clear HN
 (have t0:=HQ.o.pl.cell 0 _ rfl;have t1:=HQ.o.pl.cell 1 _ rfl;have t2:=HQ.o.pl.cell 2 _ rfl;have x0:=HQ.o.sp.cell 0 _ rfl;have x1:=HQ.o.sp.cell 1 _ rfl;have x2:=HQ.o.sp.cell 2 _ rfl;have x3:=HQ.o.sp.cell 3 _ rfl;have x4:=HQ.o.sp.cell 4 _ rfl;have x5:=HQ.o.sp.cell 5 _ rfl)
 cases b6
 ·have HV:=mH (HF2.o.trans (if_pos (.inr (.inl h6))));go_wp2;go_ret;exact⟨qN HV.o.symm,HQ.o.bel⟩
 go_wp2_with fail;obtain⟨o,ho⟩:=eX (jN s.x s.y);have hcall:=qEt s.x s.y w' HA.o.2.1 HA.o.2.2;rw [ho] at hcall;refine hcall.mono ?_;rintro e' w2 ⟨rfl,hg'⟩;have HN:=mH (HQ.o.next hg'.below);clear hcall hg' HQ t0 t1 t2 x0 x1 x2 x3 x4 x5;have HQ:=HN;clear HN
 (have t0:=HQ.o.pl.cell 0 _ rfl;have t1:=HQ.o.pl.cell 1 _ rfl;have t2:=HQ.o.pl.cell 2 _ rfl;have x0:=HQ.o.sp.cell 0 _ rfl;have x1:=HQ.o.sp.cell 1 _ rfl;have x2:=HQ.o.sp.cell 2 _ rfl;have x3:=HQ.o.sp.cell 3 _ rfl;have x4:=HQ.o.sp.cell 4 _ rfl;have x5:=HQ.o.sp.cell 5 _ rfl)
 by_cases o3:0≤o
 ·have HV:=mH (HF2.o.trans (if_pos (.inr (.inr (ho ▸ o3)))));have ob:decide (0≤o)=true:=by simpa using o3
  clear o3;go_wp2;go_ret;exact⟨qN HV.o.symm,HQ.o.bel⟩
 have HF3:=mH (HF2.o.trans (if_neg (by rw [h5,h6,ho];simp;omega)));have ob:decide (0≤o)=false:=by simpa using o3
 clear o3 ho h5 h6 HF2;go_wp2_with fail;obtain⟨b7,h7⟩:∃b,zC s.loss 0 10000=b:=⟨_,rfl⟩;have hcall:=qDy s.loss 0 10000 w2;rw [h7] at hcall HF3;refine hcall.mono ?_;rintro e' w3 ⟨rfl,rfl⟩
 cases b7
 ·have HV:=mH (HF3.o.trans (if_neg sI));clear hcall;go_wp2;go_ret;exact⟨qN HV.o.symm,HQ.o.bel⟩
 ·have HV:=mH (HF3.o.trans (if_pos rfl));clear hcall;go_wp2;go_ret;exact⟨qN HV.o.symm,HQ.o.bel⟩
theorem qSe (c:qG) (key:ByteArray) (b:Nat) (w:World) (hb:w.cell? ⟨b,0,none⟩=some (.string key)) (hl:b<w.heap.size):Calls prog 271 #[.agg ⟨qG.cells c⟩,.pointer (some ⟨b,0,none⟩)] w λe w'=>e=.returned (.bool (decide (c.key=key)))∧Below w.heap.size w w':=by
 have HB:Hx (Below w.heap.size w (w.alloc (.cells ↑c 75))):=⟨qB bR _ lR⟩;rw [qTI]
 by_cases h:c.key=key
 ·have q:(c.key.toList==key.toList)=true:=by rw [h];simp
  have HV:Hx (decide (c.key=key)=true):=mH (by simpa using h);clear h;go_enter func271,ntmps271;go_wp2;go_ret;exact⟨qU HV.o.symm,HB.o⟩
 ·have q:(c.key.toList==key.toList)=false:=qAZ h;have HV:Hx (decide (c.key=key)=false):=mH (by simpa using h);clear h;go_enter func271,ntmps271;go_wp2;go_ret;exact⟨qU HV.o.symm,HB.o⟩
theorem qSJ (s:qE) (key:ByteArray) (b:Nat) (w:World) (hb:w.cell? ⟨b,0,none⟩=some (.string key)) (hl:b<w.heap.size):Calls prog 272 #[.agg ⟨qE.cells s⟩,.pointer (some ⟨b,0,none⟩)] w λe w'=>e=.returned (.bool (qAL key s))∧Below w.heap.size w w':=by
 have HB:Hx (Below w.heap.size w (w.alloc (.cells ↑s 79))):=⟨qB bR _ lR⟩;rw [qIZ]
 by_cases h:s.x.cable=key
 ·have q:(s.x.cable.toList==key.toList)=true:=by rw [h];simp
  have HV:Hx (qAL key s=true):=mH (by unfold qAL;simp [h]);clear h;go_enter func272,ntmps272;go_wp2;go_ret;exact⟨qU HV.o.symm,HB.o⟩
 have q:(s.x.cable.toList==key.toList)=false:=qAZ h
 by_cases h2:s.y.cable=key
 ·have q2:(s.y.cable.toList==key.toList)=true:=by rw [h2];simp
  have HV:Hx (qAL key s=true):=mH (by unfold qAL;simp [h2]);clear h h2;go_enter func272,ntmps272;go_wp2;go_ret;exact⟨qU HV.o.symm,HB.o⟩
 ·have q2:(s.y.cable.toList==key.toList)=false:=qAZ h2;have HV:Hx (qAL key s=false):=mH (by unfold qAL;simp [h,h2]);clear h h2;go_enter func272,ntmps272;go_wp2;go_ret;exact⟨qU HV.o.symm,HB.o⟩
theorem zG.form3 {α:Type} {cells:α→List Value} {sz base:Nat} {w:World} {v:Value} {l:List α} (h:zG cells sz base w v l):∃a n c,v=.slice a n c:=by
 obtain⟨a,c,e⟩:=h.slice;exact⟨a,_,c,e⟩
theorem qHs {α:Type} {cells:α→List Value} {sz base b2:Nat} {w w':World} {v u:Value} {l:List α} (h:zG cells sz base w v l) (hg:w.grownBy w' u.ownBlock) (hu:∀k,u.ownBlock=some k→w.heap.size≤k∨∀j,v.ownBlock=some j→j≠k):zG cells sz base w' v l :=
 h.grown hg λj hj e=>by
  rcases hu j e with h1|h1
  ·have:=(h.lt j hj).2;omega
  ·exact h1 j hj rfl
theorem qNU (p:Pl) (hs:p.S.length≤100) (hc:p.C.length≤100) (hx:p.X.length≤100) (key:ByteArray) (vS vC vX:Value) (w:World) (hA:qAN w vS vC vX p.S p.C p.X):Calls prog 228 #[.agg #[vS,vC,vX],.string key] w
  λe w'=>∃v0 v1 v2,e=.returned (.agg #[v0,v1,v2])∧zG qJ.cells 2 (w.heap.size+3) w' v0 p.S∧zG qG.cells 5 (w.heap.size+3) w' v1 (p.C.filter λc=>!decide (c.key=key))∧zG qE.cells 6 (w.heap.size+3) w' v2 (p.X.filter λs=>!qAL key s)∧Below w.heap.size w w':=by
 obtain⟨aS,capS,rfl,hcS,hmS,hAS⟩:=id hA.s;obtain⟨aC,capC,rfl,hcC,hmC,hAC⟩:=id hA.c;obtain⟨aX,capX,rfl,hcX,hmX,hAX⟩:=id hA.x;unfold maxLen at hmS hmC hmX;have hbx:qC (((w.alloc (.cells #[.slice aS p.S.length capS,.slice aC p.C.length capC,.slice aX p.X.length capX] 69)).alloc (.cells #[.string key] 9)).alloc (.cells #[.slice none 0 0,.slice none 0 0,.slice none 0 0] 69)).drew w.heap.size #[.slice aS p.S.length capS,.slice aC p.C.length capC,.slice aX p.X.length capX] 69:=(((qC.new w _ _).alloc _).alloc _).drew;have hbk:qC (((w.alloc (.cells #[.slice aS p.S.length capS,.slice aC p.C.length capC,.slice aX p.X.length capX] 69)).alloc (.cells #[.string key] 9)).alloc (.cells #[.slice none 0 0,.slice none 0 0,.slice none 0 0] 69)).drew (w.heap.size+1) #[.string key] 9:=((qC.newAt sI).alloc _).drew;have hbr:qC (((w.alloc (.cells #[.slice aS p.S.length capS,.slice aC p.C.length capC,.slice aX p.X.length capX] 69)).alloc (.cells #[.string key] 9)).alloc (.cells #[.slice none 0 0,.slice none 0 0,.slice none 0 0] 69)).drew (w.heap.size+2) #[.slice none 0 0,.slice none 0 0,.slice none 0 0] 69:=(qC.newAt sI).drew;have hBa:Below w.heap.size w (((w.alloc (.cells #[.slice aS p.S.length capS,.slice aC p.C.length capC,.slice aX p.X.length capX] 69)).alloc (.cells #[.string key] 9)).alloc (.cells #[.slice none 0 0,.slice none 0 0,.slice none 0 0] 69)).drew:=by exact qS
 have hz:w.heap.size+3≤(((w.alloc (.cells #[.slice aS p.S.length capS,.slice aC p.C.length capC,.slice aX p.X.length capX] 69)).alloc (.cells #[.string key] 9)).alloc (.cells #[.slice none 0 0,.slice none 0 0,.slice none 0 0] 69)).drew.heap.size:=by simp
 have H1:=mH (aI hbx (aI hbk (aI hbr (aI hBa (aI hz (hA.below hBa))))));have HA:=mH hA;clear hA hAS hAC hAX hbx hbk hbr hBa hz;go_enter func228,ntmps228;go_wp2_with fail;refine qA.start (λW:World=>W.cell? ⟨w.heap.size,0,none⟩=some (.slice aS p.S.length capS)∧W.cell? ⟨w.heap.size,1,none⟩=some (.slice aC p.C.length capC)∧W.cell? ⟨w.heap.size,2,none⟩=some (.slice aX p.X.length capX)) [14] kR ?_;generalize (((w.alloc (.cells #[.slice aS p.S.length capS,.slice aC p.C.length capC,.slice aX p.X.length capX] 69)).alloc (.cells #[.string key] 9)).alloc (.cells #[.slice none 0 0,.slice none 0 0,.slice none 0 0] 69)).drew=W1 at *;have hS:(λW:World=>W.cell? ⟨w.heap.size,0,none⟩=some (.slice aS p.S.length capS)∧W.cell? ⟨w.heap.size,1,none⟩=some (.slice aC p.C.length capC)∧W.cell? ⟨w.heap.size,2,none⟩=some (.slice aX p.X.length capX)) W1:=⟨H1.o.1.cell 0 _ rfl,H1.o.1.cell 1 _ rfl,H1.o.1.cell 2 _ rfl⟩;refine qA.q 0 ?_;refine qA.t 1 hS ?_;refine qA.q 3 ?_;refine qA.t 4 hS ?_;refine qA.q 6 ?_;refine qA.q 8 ?_;refine qA.t 9 hS ?_;refine qA.q 11 ?_;refine qA.nx 2 λK hK=>?_;go_simp
 refine(qHy _ p.S W1 H1.o.2.2.2.2.2.s oM).mono ?_;rintro e W2 ⟨v0,rfl,⟨ho2,-⟩,hb2⟩;have hx2:=H1.o.1.below hb2 H1.o.1.lt;have hS2:(λW:World=>W.cell? ⟨w.heap.size,0,none⟩=some (.slice aS p.S.length capS)∧W.cell? ⟨w.heap.size,1,none⟩=some (.slice aC p.C.length capC)∧W.cell? ⟨w.heap.size,2,none⟩=some (.slice aX p.X.length capX)) W2:=⟨hx2.cell 0 _ rfl,hx2.cell 1 _ rfl,hx2.cell 2 _ rfl⟩;have H2:=mH (aI ((zG.of_own qJ.cells_len ho2).low H1.o.2.2.2.2.1) (aI hx2 (aI hb2 (Nat.le_trans H1.o.2.2.2.2.1 hb2.size))));clear ho2 hb2 hx2;refine qA.on hK (λ_ _=>hS2) ?_;clear hK K hS;have hS:=hS2;clear hS2;refine qA.nx 5 λK hK=>?_;go_simp
 refine(qHe _ p.C W2 (H1.o.2.2.2.2.2.below H2.o.2.2.1).c oM).mono ?_;rintro e W3 ⟨v1,rfl,⟨ho3,-⟩,hb3⟩;have hx3:=H2.o.2.1.below hb3 H2.o.2.1.lt;have hS3:(λW:World=>W.cell? ⟨w.heap.size,0,none⟩=some (.slice aS p.S.length capS)∧W.cell? ⟨w.heap.size,1,none⟩=some (.slice aC p.C.length capC)∧W.cell? ⟨w.heap.size,2,none⟩=some (.slice aX p.X.length capX)) W3:=⟨hx3.cell 0 _ rfl,hx3.cell 1 _ rfl,hx3.cell 2 _ rfl⟩;have hl3:=λk hk=>(ho3.lt k hk).1
 have H3:=mH (aI (H2.o.1.below hb3) (aI hx3 (aI (H2.o.2.2.1.trans (hb3.mono H2.o.2.2.1.size)) (aI (qAm ho3 H2.o.2.2.2) (aI (Nat.le_trans H2.o.2.2.2 hb3.size) (λk hk j hj=>by have h1:=(H2.o.1.lt j hj).2;have h2:=hl3 k hk;omega:∀k,v1.ownBlock=some k→∀j,v0.ownBlock=some j→j≠k))))));clear ho3 hb3 hx3 hl3;refine qA.on hK (λ_ _=>hS3) ?_;clear hK K hS;have hS:=hS3;clear hS3;refine qA.nx 7 λK hK=>?_;go_simp
 refine(qGc v1 p.C (λc=>decide (c.key=key)) 271 #[.pointer (some ⟨w.heap.size+1,0,none⟩)] (w.heap.size+3) W3 H3.o.2.2.2.1 oM (qAB func271 kR rfl) (λc w' _ hg=>qSe c key _ w' (by
  have hk:=(H1.o.2.1.below H3.o.2.2.1 H1.o.2.1.lt).grown hg (λe=>by have:=(H3.o.2.2.2.1.lt _ e.symm).1;omega);exact hk.cell 0 _ rfl) (by have:=hg.size;have:=H3.o.2.2.2.2.1;omega))).mono ?_
 rintro e W4 ⟨u1,rfl,ho4,hg4⟩;have hx4:=H3.o.2.1.grown hg4 (λe=>by have:=(H3.o.2.2.2.1.lt _ e.symm).1;omega);have hS4:(λW:World=>W.cell? ⟨w.heap.size,0,none⟩=some (.slice aS p.S.length capS)∧W.cell? ⟨w.heap.size,1,none⟩=some (.slice aC p.C.length capC)∧W.cell? ⟨w.heap.size,2,none⟩=some (.slice aX p.X.length capX)) W4:=⟨hx4.cell 0 _ rfl,hx4.cell 1 _ rfl,hx4.cell 2 _ rfl⟩;have hB4:Below (w.heap.size+3) W1 W4:=(H3.o.2.2.1.mono H1.o.2.2.2.2.1).trans (qCt H3.o.2.2.2.1 hg4 H3.o.2.2.2.2.1);have H4:=mH (aI (qHs (b2:=0) H3.o.1 hg4 (λk hk=>.inr (H3.o.2.2.2.2.2 k hk))) (aI hx4 (aI hB4 (aI (zG.of_own qG.cells_len ho4) (Nat.le_trans H3.o.2.2.2.2.1 hg4.size)))));clear ho4 hg4 hx4 hB4;refine qA.on hK (λ_ _=>hS4) ?_;clear hK K hS;have hS:=hS4;clear hS4;refine qA.nx 10 λK hK=>?_;go_simp
 have hBw4:Below w.heap.size w W4:=H1.o.2.2.2.1.trans (H4.o.2.2.1.mono oM);refine(qGM _ p.X W4 (HA.o.below hBw4).x oM).mono ?_;rintro e W5 ⟨v2,rfl,⟨ho5,-⟩,hb5⟩;have hx5:=H4.o.2.1.below hb5 H4.o.2.1.lt;have hS5:(λW:World=>W.cell? ⟨w.heap.size,0,none⟩=some (.slice aS p.S.length capS)∧W.cell? ⟨w.heap.size,1,none⟩=some (.slice aC p.C.length capC)∧W.cell? ⟨w.heap.size,2,none⟩=some (.slice aX p.X.length capX)) W5:=⟨hx5.cell 0 _ rfl,hx5.cell 1 _ rfl,hx5.cell 2 _ rfl⟩;have hl5:=λk hk=>(ho5.lt k hk).1
 have H5:=mH (aI (H4.o.1.below hb5) (aI (H4.o.2.2.2.1.below hb5) (aI hx5 (aI (H4.o.2.2.1.trans (hb5.mono H4.o.2.2.2.2)) (aI (qAm ho5 H4.o.2.2.2.2) (aI (Nat.le_trans H4.o.2.2.2.2 hb5.size) (aI (λk hk j hj=>by have h1:=(H4.o.1.lt j hj).2;have h2:=hl5 k hk;omega:∀k,v2.ownBlock=some k→∀j,v0.ownBlock=some j→j≠k) (λk hk j hj=>by have h1:=(H4.o.2.2.2.1.lt j hj).2;have h2:=hl5 k hk;omega:∀k,v2.ownBlock=some k→∀j,u1.ownBlock=some j→j≠k))))))));clear ho5 hb5 hx5 hl5 hBw4;refine qA.on hK (λ_ _=>hS5) ?_;clear hK K hS;have hS:=hS5;clear hS5;refine qA.nx 12 λK hK=>?_;go_simp
 refine(qEe v2 p.X (λs=>qAL key s) 272 #[.pointer (some ⟨w.heap.size+1,0,none⟩)] (w.heap.size+3) W5 H5.o.2.2.2.2.1 oM (qAB func272 kR rfl) (λc w' _ hg=>qSJ c key _ w' (by
  have hk:=(H1.o.2.1.below H5.o.2.2.2.1 oM).grown hg (λe=>by have:=(H5.o.2.2.2.2.1.lt _ e.symm).1;omega);exact hk.cell 0 _ rfl) (by have:=hg.size;have:=H5.o.2.2.2.2.2.1;omega))).mono ?_
 rintro e W6 ⟨u2,rfl,ho6,hg6⟩;have hx6:=H5.o.2.2.1.grown hg6 (λe=>by have:=(H5.o.2.2.2.2.1.lt _ e.symm).1;omega);have hB6:Below (w.heap.size+3) W1 W6:=H5.o.2.2.2.1.trans (qCt H5.o.2.2.2.2.1 hg6 H5.o.2.2.2.2.2.1);have hbr6:=H1.o.2.2.1.below hB6 oM;have H6:=mH (aI (qHs (b2:=0) H5.o.1 hg6 (λk hk=>.inr (H5.o.2.2.2.2.2.2.1 k hk))) (aI (qHs (b2:=0) H5.o.2.1 hg6 (λk hk=>.inr (H5.o.2.2.2.2.2.2.2 k hk))) (aI (zG.of_own qE.cells_len ho6) (aI hbr6 (H1.o.2.2.2.1.trans (hB6.mono oM))))));have hS6:(λW:World=>W.cell? ⟨w.heap.size,0,none⟩=some (.slice aS p.S.length capS)∧W.cell? ⟨w.heap.size,1,none⟩=some (.slice aC p.C.length capC)∧W.cell? ⟨w.heap.size,2,none⟩=some (.slice aX p.X.length capX)) W6:=⟨hx6.cell 0 _ rfl,hx6.cell 1 _ rfl,hx6.cell 2 _ rfl⟩;have f0:=hbr6.free 0;have f1:=hbr6.free 1;have f2:=hbr6.free 2;have r0:=hbr6.cell 0 (.slice none 0 0) rfl;have r1:=hbr6.cell 1 (.slice none 0 0) rfl;have r2:=hbr6.cell 2 (.slice none 0 0) rfl;obtain⟨a0,n0,c0,rfl⟩:=H6.o.1.form3;obtain⟨a1,n1,c1,rfl⟩:=H6.o.2.1.form3;obtain⟨a2,n2,c2,rfl⟩:=H6.o.2.2.1.form3;clear ho6 hg6 hx6 hB6 hbr6;refine qA.on hK (λ_ _=>hS6) ?_;clear hK K hS;have hS:=hS6;clear hS6;refine qA.q 13 ?_;refine qA.nx 14 λK hK=>?_;go_simp
 refine qA.o hK ?_;clear hK K;refine qA.done kR ?_;go_wp2;refine bodyPost_ret (v:=.agg #[.slice a0 n0 c0,.slice a1 n1 c1,.slice a2 n2 c2]) ?_ rfl ⟨_,_,_,rfl,?_,?_,?_,?_⟩
 ·exact results_cell_row rfl _ _ (w.heap.size+2) 69 #[.slice a0 n0 c0,.slice a1 n1 c1,.slice a2 n2 c2] (0,0) _ rfl (qC.fill3 H6.o.2.2.2.1) underlying69 rfl kR
 ·exact((H6.o.1.setNe (λe=>by have:=(H6.o.1.lt _ e).1;omega) 0 _).setNe (λe=>by have:=(H6.o.1.lt _ e).1;omega) 1 _).setNe (λe=>by have:=(H6.o.1.lt _ e).1;omega) 2 _
 ·exact((H6.o.2.1.setNe (λe=>by have:=(H6.o.2.1.lt _ e).1;omega) 0 _).setNe (λe=>by have:=(H6.o.2.1.lt _ e).1;omega) 1 _).setNe (λe=>by have:=(H6.o.2.1.lt _ e).1;omega) 2 _
 ·exact((H6.o.2.2.1.setNe (λe=>by have:=(H6.o.2.2.1.lt _ e).1;omega) 0 _).setNe (λe=>by have:=(H6.o.2.2.1.lt _ e).1;omega) 1 _).setNe (λe=>by have:=(H6.o.2.2.1.lt _ e).1;omega) 2 _
 ·exact Below.fill3 H6.o.2.2.2.2 oM _ _ _
end Go.Proofs.YtbgnlfgkgklkdaaGreatDoor
