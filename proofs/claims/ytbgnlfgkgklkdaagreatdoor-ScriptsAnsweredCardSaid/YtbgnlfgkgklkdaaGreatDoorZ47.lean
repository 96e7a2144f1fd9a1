/- Parts of the proof of ScriptsAnswered: SsN, SsO, SsR, StE, StI, StJ, StP, StQ, SrD. No condition. -/
import Derived.Test.YtbgnlfgkgklkdaaGreatDoorZ46
import Derived.Test.YtbgnlfgkgklkdaaGreatDoorZ44
import Derived.Test.YtbgnlfgkgklkdaaGreatDoorZ31
set_option linter.unusedVariables false
set_option linter.unusedSimpArgs false
set_option maxHeartbeats 8000000
set_option maxRecDepth 100000
namespace Go.Proofs.YtbgnlfgkgklkdaaGreatDoor
open Go Go.RowKit Tryz
theorem qEf {k:ByteArray} {b:Bool} (h:qL k=b) (w:World):Calls prog 97 #[.string k] w λe w'=>e=.returned (.bool b)∧w=w':=h ▸ qAj k w
theorem qEs {n lo hi:Int} {b:Bool} (h:zC n lo hi=b) (w:World):Calls prog 96 #[.int .i64 n,.int .i64 lo,.int .i64 hi] w λe w'=>e=.returned (.bool (!b))∧w=w':=h ▸ qDy n lo hi w
def qDe (l:List ByteArray) (k:Nat):ByteArray:=match k with|0=>⟨#[]⟩|j+1=>l[j]?.getD ⟨#[]⟩
theorem qKy {l:List ByteArray} {k:Nat} (hk:k<l.length):qDe l (k+1)=l[k]:=by
 show l[k]?.getD ⟨#[]⟩=l[k]
 rw [List.getElem?_eq_getElem hk];rfl
theorem qNs {a:ByteArray} (h:qL a=true):leB a ⟨#[]⟩=false:=by
 unfold qL at h;simp only [Bool.and_eq_true,decide_eq_true_eq] at h;obtain⟨⟨⟨h1,_⟩,h2⟩,_⟩:=h;unfold leB;simp only [ByteArray.toList_eq]
 cases hd:a.data.toList with
 | nil=>rw [hd] at h2;simp at h2
 | cons c r=>rfl
theorem qSV {S:List qJ} {k:Nat} (hk:k<S.length) (h:qL S[k].key=false):qD3 S k=5:=by
 unfold qD3;rw [List.getElem?_eq_getElem hk];simp [h]
theorem qQ2 {S:List qJ} {k:Nat} (hk:k<S.length) (h:qL S[k].key=true) (h2:zC S[k].kind 1 4=true):qD3 S k=4:=by
 unfold qD3;rw [List.getElem?_eq_getElem hk];simp [h,h2]
theorem qP6 {S:List qJ} {k:Nat} (hk:k<S.length) (h:qL S[k].key=true) (h2:zC S[k].kind 1 4=false):qD3 S k=if leB S[k].key (qDe (S.map qJ.key) k)=true then 7 else 0:=by
 unfold qD3;rw [List.getElem?_eq_getElem hk];simp only [h,h2]
 cases k with
 | zero=>simp [qDe,qNs h]
 | succ j =>
  have hj:j<S.length:=by omega
  simp [qDe,List.getElem?_eq_getElem hj]
theorem qRZ {S:List qJ} {C:List qG} {k:Nat} (hk:k<C.length) (h:qL C[k].key=false):qEm S C k=5:=by
 unfold qEm;rw [List.getElem?_eq_getElem hk];simp [h]
theorem qQK {S:List qJ} {C:List qG} {k:Nat} (hk:k<C.length) (h:qL C[k].key=true):qEm S C k=if qAQ S C[k].a=false∨qAQ S C[k].b=false then 8 else if C[k].a=C[k].b then 6 else if zC C[k].long 1 200000=true∨zC C[k].fibs 1 144=true then 1 else if leB C[k].key (qDe (C.map qG.key) k)=true then 7 else 0:=by
 unfold qEm;rw [List.getElem?_eq_getElem hk];simp only [h]
 cases k with
 | zero=>simp [qDe,qNs h]
 | succ j =>
  have hj:j<C.length:=by omega
  simp [qDe,List.getElem?_eq_getElem hj]
theorem qN8 (p:Pl) (hs:p.S.length≤100) (hc:p.C.length≤100) (vS vC vX:Value) (w:World) (hA:qAN w vS vC vX p.S p.C p.X):Calls prog 273 #[.agg #[vS,vC,vX]] w
  λe w'=>e=.returned (.int .i64 (qA8 p.S p.C))∧Below w.heap.size w w':=by
 obtain⟨aS,capS,rfl,hcS,hmS,hAS⟩:=id hA.s;obtain⟨aC,capC,rfl,hcC,hmC,hAC⟩:=id hA.c;obtain⟨aX,capX,rfl,hcX,hmX,hAX⟩:=id hA.x;unfold maxLen at hmS hmC hmX;have hbx:qC (w.alloc (.cells #[.slice aS p.S.length capS,.slice aC p.C.length capC,.slice aX p.X.length capX] 69)) w.heap.size #[.slice aS p.S.length capS,.slice aC p.C.length capC,.slice aX p.X.length capX] 69:=qC.new w _ _;have hBa:Below w.heap.size w (w.alloc (.cells #[.slice aS p.S.length capS,.slice aC p.C.length capC,.slice aX p.X.length capX] 69)):=qB bR _ lR;have b1:decide ((200:Int)<p.S.length)=false:=by simp;omega
 have b2:decide ((300:Int)<p.C.length)=false:=by simp;omega
 have HA:=mH (aI hA (aI hAS hAC));have H1:=mH (aI hBa hbx);have t0:=hbx.cell 0 (.slice aS p.S.length capS) rfl;have hFF:∀r,qZ (qD3 p.S) p.S.length=r→r≠0→qA8 p.S p.C=r:=λr h h0=>by
  unfold qA8;rw [if_neg oM,h,if_pos h0]
 have hFC:qZ (qD3 p.S) p.S.length=0→qA8 p.S p.C=qZ (qEm p.S p.C) p.C.length:=λh=>by
  unfold qA8;rw [if_neg oM,h,if_neg oM,if_neg oM]
 have HF:=mH (aI hFF hFC);clear hA hAS hAC hAX hBa hbx hFF hFC;go_enter func273,ntmps273;go_wp2;generalize w.alloc (.cells #[.slice aS p.S.length capS,.slice aC p.C.length capC,.slice aX p.X.length capX] 69)=W1 at *;go_loopw [3,15] (λlv iv wr=>∃k:Nat,k≤p.S.length∧iv=.int .i64 k∧lv=.string (qDe (p.S.map qJ.key) k)∧qZ (qD3 p.S) k=0∧Below w.heap.size w wr∧qC wr w.heap.size #[.slice aS p.S.length capS,.slice aC p.C.length capC,.slice aX p.X.length capX] 69) (λ_ iv _=>p.S.length - (intOf iv).toNat)
 case atStart=>exact⟨0,by omega,rfl,rfl,rfl,H1.o.1,H1.o.2⟩
 case round =>
  clear H1 t0;obtain⟨k,hk,rfl,rfl,hz,hB,hbx⟩:=hrel;have hsz:=hB.size
  by_cases hlt:k<p.S.length
  ·obtain⟨b,off,rfl,hb,hcc⟩:=HA.o.2.1 k hlt;obtain⟨c0,c1⟩:=qDq hcc;replace c0:=(hB.cell (p:=⟨b,_,none⟩) hb).trans c0;replace c1:=(hB.cell (p:=⟨b,_,none⟩) hb).trans c1;have hk':(k:Int)<p.S.length:=by omega
   have HZ:=mH hz;have HB:=mH (aI hB hbx);have hnext:qDe (p.S.map qJ.key) (k+1)=p.S[k].key:=by rw [qKy (by simpa using hlt)];simp
   have HN:=mH hnext;obtain⟨Lk,hLk⟩:=eX (qDe (p.S.map qJ.key) k);have hsl:=λh h2=>qP6 hlt h h2
   rw [hLk] at hsl;have hsk:=λh=>qSV hlt h
   have hsn:=λh h2=>qQ2 hlt h h2
   have HS:=mH (aI hsk (aI hsn hsl));rw [hLk];clear hcc hz hbx hnext hLk hsl hsk hsn
   cases hkx:qL p.S[k].key
   ·have HV:Hx (qA8 p.S p.C=5):=mH (HF.o.1 5 (by rw [qBL hlt HZ.o (by rw [HS.o.1 hkx];decide),HS.o.1 hkx]) dE);go_wp2_with (go_at_call 97;refine(qEf hkx _).mono ?_;rintro e' w' ⟨rfl,rfl⟩)
    (go_ret;exact⟨qN (HV.o).symm,by exact qS⟩)
   cases hox:zC p.S[k].kind 1 4
   rotate_left
   ·have HV:Hx (qA8 p.S p.C=4):=mH (HF.o.1 4 (by rw [qBL hlt HZ.o (by rw [HS.o.2.1 hkx hox];decide),HS.o.2.1 hkx hox]) dE);go_wp2_with (first|(go_at_call 97;refine(qEf hkx _).mono ?_;rintro e' w' ⟨rfl,rfl⟩)|(go_at_call 96;refine(qEs hox _).mono ?_;rintro e' w' ⟨rfl,rfl⟩))
    (go_ret;exact⟨qN (HV.o).symm,by exact qS⟩)
   have hq:=HS.o.2.2 hkx hox
   cases hle:leB p.S[k].key Lk
   rotate_left
   ·rw [if_pos hle] at hq;have HV:Hx (qA8 p.S p.C=7):=mH (HF.o.1 7 (by rw [qBL hlt HZ.o (by rw [hq];decide),hq]) dE);have hle':(Op.bytesLess p.S[k].key.toList Lk.toList || p.S[k].key.toList==Lk.toList)=true:=hle;clear hle hq;go_wp2_with (first|(go_at_call 97;refine(qEf hkx _).mono ?_;rintro e' w' ⟨rfl,rfl⟩)|(go_at_call 96;refine(qEs hox _).mono ?_;rintro e' w' ⟨rfl,rfl⟩))
    (go_ret;exact⟨qN (HV.o).symm,by exact qS⟩)
   rw [if_neg (by rw [hle];simp)] at hq;have HV:Hx (qZ (qD3 p.S) (k+1)=0):=mH (by rw [qCM HZ.o];exact hq);have hle':(Op.bytesLess p.S[k].key.toList Lk.toList || p.S[k].key.toList==Lk.toList)=false:=hle;clear hle hq hB;go_wp2_with (first|(go_at_call 97;refine(qEf hkx _).mono ?_;rintro e' w' ⟨rfl,rfl⟩)|(go_at_call 96;refine(qEs hox _).mono ?_;rintro e' w' ⟨rfl,rfl⟩));exact⟨⟨k+1,by omega,by go_num,by rw [HN.o],HV.o,qB HB.o.1 _ hsz,HB.o.2.alloc _⟩,by simp [intOf];omega⟩
  obtain rfl:k=p.S.length:=by omega
  have HFC:=mH (HF.o.2 hz);have t1:=hbx.cell 1 (.slice aC p.C.length capC) rfl;have H2:=mH (aI hB hbx);clear hz hB hbx;go_wp2;obtain⟨wo,rfl⟩:∃wo:World,wo=wr:=⟨_,rfl⟩;go_loopw [3,44] (λlv iv wr=>∃k:Nat,k≤p.C.length∧iv=.int .i64 k∧lv=.string (qDe (p.C.map qG.key) k)∧qZ (qEm p.S p.C) k=0∧Below w.heap.size w wr∧qC wr w.heap.size #[.slice aS p.S.length capS,.slice aC p.C.length capC,.slice aX p.X.length capX] 69) (λ_ iv _=>p.C.length - (intOf iv).toNat)
  case atStart=>exact⟨0,by omega,rfl,rfl,rfl,H2.o.1,H2.o.2⟩
  case round =>
   clear H2 t1;obtain⟨k,hk,rfl,rfl,hz,hB,hbx⟩:=hrel;have hsz:=hB.size
   by_cases hlt:k<p.C.length
   rotate_left
   ·obtain rfl:k=p.C.length:=by omega
    have HV:Hx (qA8 p.S p.C=0):=mH (HFC.o.trans hz);go_wp2
    (go_ret;exact⟨qN (HV.o).symm,by exact qS⟩)
   obtain⟨b,off,rfl,hb,hcc⟩:=HA.o.2.2 k hlt;obtain⟨c0,c1,c2,c3,c4⟩:=qCW hcc;replace c0:=(hB.cell (p:=⟨b,_,none⟩) hb).trans c0;replace c1:=(hB.cell (p:=⟨b,_,none⟩) hb).trans c1;replace c2:=(hB.cell (p:=⟨b,_,none⟩) hb).trans c2;replace c3:=(hB.cell (p:=⟨b,_,none⟩) hb).trans c3;replace c4:=(hB.cell (p:=⟨b,_,none⟩) hb).trans c4;have hk':(k:Int)<p.C.length:=by omega
   have hnext:qDe (p.C.map qG.key) (k+1)=p.C[k].key:=by rw [qKy (by simpa using hlt)];simp
   obtain⟨Lk,hLk⟩:=eX (qDe (p.C.map qG.key) k);have hsl:=λh=>qQK (S:=p.S) hlt h
   rw [hLk] at hsl;have hsk:=λh=>qRZ (S:=p.S) hlt h
   have hit:∀r,qEm p.S p.C k=r→r≠0→Hx (qA8 p.S p.C=r):=λr h h0=>mH (HFC.o.trans (by rw [qBL hlt hz (by rw [h];exact h0),h]))
   have HN:=mH (aI hnext (aI hz (aI hsk hsl)));have HIT:=mH hit;have HB:=mH (aI hB hbx);have t0:=hbx.cell 0 (.slice aS p.S.length capS) rfl;have t1:=hbx.cell 1 (.slice (some ⟨b,off,none⟩) p.C.length capC) rfl;have t2:=hbx.cell 2 (.slice aX p.X.length capX) rfl;have hlw:w.heap.size<wr.heap.size:=hbx.lt;rw [hLk];clear hcc hz hbx hnext hLk hsl hsk hit;generalize p.C[k]=c at *
   cases hkx:qL c.key
   ·have HV:=HIT.o 5 (HN.o.2.2.1 hkx) dE;go_wp2_with (go_at_call 97;refine(qEf hkx _).mono ?_;rintro e' w' ⟨rfl,rfl⟩)
    (go_ret;exact⟨qN (HV.o).symm,by exact qS⟩)
   have hq:=HN.o.2.2.2 hkx;have hbc:=qC.new wr ↑c 75;have hB3:=qB HB.o.1 (.cells ↑c 75) hsz;have H3:=mH (aI hB3 (aI (HB.o.2.alloc (.cells ↑c 75)) hbc));clear hbc hB3;go_wp2_with (first|(go_at_call 97;refine(qEf hkx _).mono ?_;rintro e' w' ⟨rfl,rfl⟩)|fail);refine(qDZ p c.a _ _ _ _ (HA.o.1.below H3.o.1)).mono ?_;rintro e w4 ⟨rfl,hb4⟩;have hbx4:=H3.o.2.1.below hb4 H3.o.2.1.lt;have hbc4:=H3.o.2.2.below hb4 H3.o.2.2.lt;have t0:=hbx4.cell 0 (.slice aS p.S.length capS) rfl;have t1:=hbx4.cell 1 (.slice (some ⟨b,off,none⟩) p.C.length capC) rfl;have t2:=hbx4.cell 2 (.slice aX p.X.length capX) rfl;have c0:=hbc4.cell 0 _ rfl;have c1:=hbc4.cell 1 _ rfl;have c2:=hbc4.cell 2 _ rfl;have c3:=hbc4.cell 3 _ rfl;have c4:=hbc4.cell 4 _ rfl;have H4:=mH (aI (H3.o.1.trans (hb4.mono H3.o.1.size)) (aI hbx4 hbc4));clear hb4 hbx4 hbc4 H3
   cases ha:qAQ p.S c.a
   ·have HV:=HIT.o 8 (by rw [hq,if_pos (.inl ha)]) dE;clear hq;go_wp2;go_ret;exact⟨qN HV.o.symm,H4.o.1⟩
   go_wp2_with fail;refine(qDZ p c.b _ _ _ _ (HA.o.1.below H4.o.1)).mono ?_;rintro e w5 ⟨rfl,hb5⟩;have hbx5:=H4.o.2.1.below hb5 H4.o.2.1.lt;have hbc5:=H4.o.2.2.below hb5 H4.o.2.2.lt;have c0:=hbc5.cell 0 _ rfl;have c1:=hbc5.cell 1 _ rfl;have c2:=hbc5.cell 2 _ rfl;have c3:=hbc5.cell 3 _ rfl;have c4:=hbc5.cell 4 _ rfl;have H5:=mH (aI (H4.o.1.trans (hb5.mono H4.o.1.size)) hbx5);clear hb5 hbx5 hbc5 H4 t0 t1 t2
   cases hb':qAQ p.S c.b
   ·have HV:=HIT.o 8 (by rw [hq,if_pos (.inr hb')]) dE;clear hq;go_wp2;go_ret;exact⟨qN HV.o.symm,H5.o.1⟩
   rw [if_neg (by rw [ha,hb'];simp)] at hq
   by_cases hab:c.a=c.b
   ·have HV:=HIT.o 6 (by rw [hq,if_pos hab]) dE;have hab':(c.a.toList==c.b.toList)=true:=by rw [hab];simp
    clear hq hab;go_wp2;go_ret;exact⟨qN HV.o.symm,H5.o.1⟩
   have hab':(c.a.toList==c.b.toList)=false:=qAZ hab;rw [if_neg hab] at hq;clear hab
   cases h1:zC c.long 1 200000
   rotate_left
   ·have HV:=HIT.o 1 (by rw [hq,if_pos (.inl h1)]) dE;clear hq;go_wp2_with (go_at_call 96;refine(qEs h1 _).mono ?_;rintro e' w' ⟨rfl,rfl⟩);go_ret;exact⟨qN HV.o.symm,H5.o.1⟩
   cases h2:zC c.fibs 1 144
   rotate_left
   ·have HV:=HIT.o 1 (by rw [hq,if_pos (.inr h2)]) dE;clear hq;go_wp2_with fail;refine(qEs h1 _).mono ?_;rintro e' w' ⟨rfl,rfl⟩;go_wp2_with fail;refine(qEs h2 _).mono ?_;rintro e' w' ⟨rfl,rfl⟩;go_wp2;go_ret;exact⟨qN HV.o.symm,H5.o.1⟩
   rw [if_neg (by rw [h1,h2];simp)] at hq
   cases hle:leB c.key Lk
   rotate_left
   ·rw [if_pos hle] at hq;have HV:=HIT.o 7 hq dE;have hle':(Op.bytesLess c.key.toList Lk.toList || c.key.toList==Lk.toList)=true:=hle;clear hle hq;go_wp2_with fail;refine(qEs h1 _).mono ?_;rintro e' w' ⟨rfl,rfl⟩;go_wp2_with fail;refine(qEs h2 _).mono ?_;rintro e' w' ⟨rfl,rfl⟩;go_wp2;go_ret;exact⟨qN HV.o.symm,H5.o.1⟩
   rw [if_neg (by rw [hle];simp)] at hq;have HV:Hx (qZ (qEm p.S p.C) (k+1)=0):=mH (by rw [qCM HN.o.2.1];exact hq);have hle':(Op.bytesLess c.key.toList Lk.toList || c.key.toList==Lk.toList)=false:=hle;clear hle hq;go_wp2_with fail;refine(qEs h1 _).mono ?_;rintro e' w' ⟨rfl,rfl⟩;go_wp2_with fail;refine(qEs h2 _).mono ?_;rintro e' w' ⟨rfl,rfl⟩;go_wp2;exact⟨⟨k+1,by omega,by go_num,by rw [HN.o.1],HV.o,H5.o.1,H5.o.2⟩,by simp [intOf];omega⟩
theorem qTH {S:List qJ} {C:List qG} {X:List qE} {k:Nat} (hk:k<X.length):qBd S C X k=if jA S C X[k]≠0 then jA S C X[k] else if 0<k∧0≤zF (X[k - 1]?.getD default) X[k] then 7 else 0:=by
 unfold qBd;rw [List.getElem?_eq_getElem hk]
theorem qRc {X:List qE} {k:Nat} (hk:k<X.length):qCC X k=if (X.take k).any (λo=>jC o X[k])=true then 6 else 0:=by
 unfold qCC;rw [List.getElem?_eq_getElem hk]
theorem qEV (p:Pl) (hs:p.S.length≤100) (hc:p.C.length≤100) (hx:p.X.length≤100) (hok:∀x∈p.X,jF x) (vS vC vX:Value) (w:World) (hA:qAN w vS vC vX p.S p.C p.X):Calls prog 229 #[.agg #[vS,vC,vX]] w
  λe w'=>e=.returned (.int .i64 (qAg p.S p.C p.X))∧Below w.heap.size w w':=by
 obtain⟨aS,capS,rfl,hcS,hmS,hAS⟩:=id hA.s;obtain⟨aC,capC,rfl,hcC,hmC,hAC⟩:=id hA.c;obtain⟨aX,capX,rfl,hcX,hmX,hAX⟩:=id hA.x;unfold maxLen at hmS hmC hmX;have hbx:qC (w.alloc (.cells #[.slice aS p.S.length capS,.slice aC p.C.length capC,.slice aX p.X.length capX] 69)) w.heap.size #[.slice aS p.S.length capS,.slice aC p.C.length capC,.slice aX p.X.length capX] 69:=qC.new w _ _;have hBa:Below w.heap.size w (w.alloc (.cells #[.slice aS p.S.length capS,.slice aC p.C.length capC,.slice aX p.X.length capX] 69)):=qB bR _ lR;have b3:decide ((5000:Int)<p.X.length)=false:=by simp;omega
 have HA:=mH (aI hA (aI hAX hok));have H1:=mH (aI hBa hbx);clear hA hAS hAC hAX hBa hbx hok;go_enter func229,ntmps229;go_wp2_with fail;generalize w.alloc (.cells #[.slice aS p.S.length capS,.slice aC p.C.length capC,.slice aX p.X.length capX] 69)=W1 at *;refine(qN8 p hs hc _ _ _ W1 (HA.o.1.below H1.o.1)).mono ?_;rintro e w2 ⟨rfl,hb2⟩;have hbx2:=H1.o.2.below hb2 H1.o.2.lt;have t2:=hbx2.cell 2 (.slice aX p.X.length capX) rfl;have H2:=mH (aI (H1.o.1.trans (hb2.mono H1.o.1.size)) hbx2);clear H1 hb2 hbx2
 by_cases h0:qA8 p.S p.C=0
 rotate_left
 ·have HV:Hx (qAg p.S p.C p.X=qA8 p.S p.C):=mH (by unfold qAg;rw [if_pos h0]);have hne:(qA8 p.S p.C != 0)=true:=by simpa using h0
  clear h0;go_wp2;go_ret;exact⟨qN HV.o.symm,H2.o.1⟩
 have hPF:qAg p.S p.C p.X=if qZ (qBd p.S p.C p.X) p.X.length≠0 then qZ (qBd p.S p.C p.X) p.X.length else qZ (qCC p.X) p.X.length:=by
  unfold qAg;rw [if_neg (by rw [h0];simp),if_neg oM]
 have HPF:=mH hPF;rw [h0];clear h0 hPF;go_wp2;go_loopw [21] (λiv wr=>∃k:Nat,k≤p.X.length∧iv=.int .i64 k∧qZ (qBd p.S p.C p.X) k=0∧Below w.heap.size w wr∧qC wr w.heap.size #[.slice aS p.S.length capS,.slice aC p.C.length capC,.slice aX p.X.length capX] 69) (λiv _=>p.X.length - (intOf iv).toNat)
 case atStart=>exact⟨0,by omega,rfl,rfl,H2.o.1,H2.o.2⟩
 case round =>
  clear H2 t2;obtain⟨k,hk,rfl,hz,hB,hbx⟩:=hrel;have hsz:=hB.size
  by_cases hlt:k<p.X.length
  ·obtain⟨b,off,rfl,hb,hcc⟩:=HA.o.2.1 k hlt;have hc0:=λj u hj=>(hB.cell (p:=⟨b,off+k*6+j,none⟩) hb).trans (hcc j u hj)
   obtain⟨c0,c1,c2,c3,c4,c5⟩:=qBo hc0;have hk':(k:Int)<p.X.length:=by omega
   have t0:=hbx.cell 0 (.slice aS p.S.length capS) rfl;have t1:=hbx.cell 1 (.slice aC p.C.length capC) rfl;have t2:=hbx.cell 2 (.slice (some ⟨b,off,none⟩) p.X.length capX) rfl;have hlw:w.heap.size<wr.heap.size:=hbx.lt;have hok:=HA.o.2.2 p.X[k] (List.getElem_mem hlt);have hF:=qTH (S:=p.S) (C:=p.C) hlt;have hit:∀r,qBd p.S p.C p.X k=r→r≠0→Hx (qAg p.S p.C p.X=r):=λr h h1=>mH (by
    have h2:qZ (qBd p.S p.C p.X) p.X.length=r:=by rw [qBL hlt hz (by rw [h];exact h1),h]
    rw [HPF.o,h2,if_pos h1])
   have hprev:0<k→∃j t,j+1=k∧jF t∧p.X[k - 1]?.getD default=t∧(∀i u,(qE.cells t)[i]? = some u→wr.cell? ⟨b,off+j*6+i,none⟩=some u):=λhp=>by
    obtain⟨j,hj⟩:∃j,j+1=k:=⟨k - 1,by omega⟩;have hjl:j<p.X.length:=by omega
    obtain⟨b',off',he,hb',hcj⟩:=HA.o.2.1 j hjl;simp only [Option.some.injEq,Addr.mk.injEq,and_true] at he;obtain⟨rfl,rfl⟩:=he;refine⟨j,p.X[j],hj,HA.o.2.2 _ (List.getElem_mem hjl),?_,λi u hi=>(hB.cell (p:=⟨b,_,none⟩) hb').trans (hcj i u hi)⟩;rw [←hj,Nat.add_sub_cancel,List.getElem?_eq_getElem hjl];rfl
   have HB:=mH (aI hB (aI hbx (aI hok (aI hF (aI hit (aI hprev hz))))));clear hcc hc0 hz hB hbx hok hF hit hprev;generalize p.X[k]=s at *;have hbs:=qC.new wr ↑s 79;have hB3:=qB HB.o.1 (.cells ↑s 79) hsz;have H3:=mH (aI hB3 (aI (HB.o.2.1.alloc (.cells ↑s 79)) hbs));clear hbs hB3;go_wp2_with fail;refine(qPo p s HB.o.2.2.1 _ _ _ _ (HA.o.1.below H3.o.1)).mono ?_;rintro e w4 ⟨rfl,hb4⟩;have hbx4:=H3.o.2.1.below hb4 H3.o.2.1.lt;have hbs4:=H3.o.2.2.below hb4 H3.o.2.2.lt;have hBw:Below wr.heap.size wr w4:=(qB bR _ lR).trans (hb4.mono sI);have H4:=mH (aI (H3.o.1.trans (hb4.mono H3.o.1.size)) (aI hbx4 (aI hbs4 hBw)));clear hb4 hbx4 hbs4 H3 hBw c0 c1 c2 c3 c4 c5 t0 t1 t2
   by_cases h1:jA p.S p.C s=0
   rotate_left
   ·have HV:=HB.o.2.2.2.2.1 _ (HB.o.2.2.2.1.trans (if_pos h1)) h1;have hne:(jA p.S p.C s != 0)=true:=by simpa using h1
    clear h1;go_wp2;go_ret;exact⟨qN HV.o.symm,H4.o.1⟩
   have hF:=HB.o.2.2.2.1;rw [if_neg (by rw [h1];simp)] at hF;rw [h1];clear h1
   by_cases hp:0<k
   ·obtain⟨j,t,hj,hokt,hpt,hcj⟩:=HB.o.2.2.2.2.2.1 hp;rw [hpt] at hF;have hw1:IntKind.i64.wrap ((k:Int) - 1)=(j:Nat):=by rw [IntWalk.i64_in _ oM];omega
    have hj':(j:Int)<p.X.length:=by omega
    have hbl:b<wr.heap.size:=Nat.lt_of_lt_of_le hb hsz;have hp':decide ((0:Int)<k)=true:=by simp;omega
    have hS:(λW:World=>W.cell? ⟨w.heap.size,2,none⟩=some (.slice (some ⟨b,off,none⟩) p.X.length capX)∧(W.cell? ⟨wr.heap.size,0,none⟩=some (.string s.site)∧W.cell? ⟨wr.heap.size,1,none⟩=some (.string s.x.cable)∧W.cell? ⟨wr.heap.size,2,none⟩=some (.int .i64 s.x.no)∧W.cell? ⟨wr.heap.size,3,none⟩=some (.string s.y.cable)∧W.cell? ⟨wr.heap.size,4,none⟩=some (.int .i64 s.y.no)∧W.cell? ⟨wr.heap.size,5,none⟩=some (.int .i64 s.loss))∧(W.cell? ⟨b,off+j*6,none⟩=some (.string t.site)∧W.cell? ⟨b,off+j*6+1,none⟩=some (.string t.x.cable)∧W.cell? ⟨b,off+j*6+2,none⟩=some (.int .i64 t.x.no)∧W.cell? ⟨b,off+j*6+3,none⟩=some (.string t.y.cable)∧W.cell? ⟨b,off+j*6+4,none⟩=some (.int .i64 t.y.no)∧W.cell? ⟨b,off+j*6+5,none⟩=some (.int .i64 t.loss))) w4.drew:=by
     have hs4:=H4.o.2.2.1.drew;have hr4:=λi u hi=>(H4.o.2.2.2.drew.cell (p:=⟨b,off+j*6+i,none⟩) hbl).trans (hcj i u hi)
     exact⟨H4.o.2.1.drew.cell 2 _ rfl,⟨hs4.cell 0 _ rfl,hs4.cell 1 _ rfl,hs4.cell 2 _ rfl,hs4.cell 3 _ rfl,hs4.cell 4 _ rfl,hs4.cell 5 _ rfl⟩,⟨hr4 0 _ rfl,hr4 1 _ rfl,hr4 2 _ rfl,hr4 3 _ rfl,hr4 4 _ rfl,hr4 5 _ rfl⟩⟩
    have HJ:=mH (aI hj (aI hokt hF));clear hj hokt hpt hcj hF;go_wp2_with fail;refine qA.start (λW:World=>W.cell? ⟨w.heap.size,2,none⟩=some (.slice (some ⟨b,off,none⟩) p.X.length capX)∧(W.cell? ⟨wr.heap.size,0,none⟩=some (.string s.site)∧W.cell? ⟨wr.heap.size,1,none⟩=some (.string s.x.cable)∧W.cell? ⟨wr.heap.size,2,none⟩=some (.int .i64 s.x.no)∧W.cell? ⟨wr.heap.size,3,none⟩=some (.string s.y.cable)∧W.cell? ⟨wr.heap.size,4,none⟩=some (.int .i64 s.y.no)∧W.cell? ⟨wr.heap.size,5,none⟩=some (.int .i64 s.loss))∧(W.cell? ⟨b,off+j*6,none⟩=some (.string t.site)∧W.cell? ⟨b,off+j*6+1,none⟩=some (.string t.x.cable)∧W.cell? ⟨b,off+j*6+2,none⟩=some (.int .i64 t.x.no)∧W.cell? ⟨b,off+j*6+3,none⟩=some (.string t.y.cable)∧W.cell? ⟨b,off+j*6+4,none⟩=some (.int .i64 t.y.no)∧W.cell? ⟨b,off+j*6+5,none⟩=some (.int .i64 t.loss))) [10] kR ?_;refine qA.q 0 ?_;refine qA.q 1 ?_;refine qA.q 2 ?_;refine qA.qg 3 ?_;refine qA.tg 4 hS ?_;refine qA.qg 5 ?_;refine qA.qg 6 ?_;refine qA.qg 7 ?_;refine qA.tg 8 hS ?_;refine qA.tg 9 hS ?_;refine qA.nx 10 λK hK=>?_;go_simp
    refine(qGW t s _ HJ.o.2.1 HB.o.2.2.1).mono ?_;rintro e w5 ⟨rfl,hg5⟩;have H5:=mH (aI (H4.o.1.drew.trans (hg5.below.mono H4.o.1.drew.size)) (H4.o.2.1.drew.below hg5.below H4.o.2.1.drew.lt));clear hg5;obtain⟨o,ho⟩:=eX (zF t s);have HO:=mH ho;rw [ho];clear ho;refine qA.o hK ?_;clear hK K;refine qA.qg 11 ?_;refine qA.q 12 ?_;refine qA.done kR ?_;have hF:=HJ.o.2.2;rw [HO.o] at hF
    by_cases h7:0≤o
    ·rw [if_pos ⟨hp,h7⟩] at hF;have HV:=HB.o.2.2.2.2.1 7 hF dE;clear hF hS;go_wp2;go_ret;exact⟨qN HV.o.symm,H5.o.1⟩
    ·rw [if_neg (λh=>h7 h.2)] at hF;have HV:Hx (qZ (qBd p.S p.C p.X) (k+1)=0):=mH (by rw [qCM HB.o.2.2.2.2.2.2];exact hF);clear hF hS;go_wp2;exact⟨⟨k+1,by omega,by go_num,HV.o,H5.o.1,H5.o.2⟩,by simp [intOf];omega⟩
   ·rw [if_neg (λh=>hp h.1)] at hF;have HV:Hx (qZ (qBd p.S p.C p.X) (k+1)=0):=mH (by rw [qCM HB.o.2.2.2.2.2.2];exact hF);have hp':decide ((0:Int)<k)=false:=by simp;omega
    have hS:True:=trivial;clear hF;go_wp2_with fail;refine qA.start (λW=>True) [] kR ?_;refine qA.q 0 ?_;refine qA.q 1 ?_;refine qA.q 2 ?_;refine qA.qf 3 ?_;refine qA.qf 4 ?_;refine qA.qf 5 ?_;refine qA.qf 6 ?_;refine qA.qf 7 ?_;refine qA.qf 8 ?_;refine qA.qf 9 ?_;refine qA.qf 10 ?_;refine qA.qf 11 ?_;refine qA.q 12 ?_;refine qA.done kR ?_;go_wp2;exact⟨⟨k+1,by omega,by go_num,HV.o,H4.o.1.drew,H4.o.2.1.drew⟩,by simp [intOf];omega⟩
  obtain rfl:k=p.X.length:=by omega
  have HPT:Hx (qAg p.S p.C p.X=qZ (qCC p.X) p.X.length):=mH (by rw [HPF.o,hz,if_neg sI]);have t2:=hbx.cell 2 (.slice aX p.X.length capX) rfl;have H2:=mH (aI hB hbx);clear hz hB hbx;go_wp2;obtain⟨wo,rfl⟩:∃wo:World,wo=wr:=⟨_,rfl⟩;go_loopw [49] (λiv wr=>∃k:Nat,k≤p.X.length∧iv=.int .i64 k∧qZ (qCC p.X) k=0∧Below w.heap.size w wr∧qC wr w.heap.size #[.slice aS p.S.length capS,.slice aC p.C.length capC,.slice aX p.X.length capX] 69) (λiv _=>p.X.length - (intOf iv).toNat)
  case atStart=>exact⟨0,by omega,rfl,rfl,H2.o.1,H2.o.2⟩
  case round =>
   clear H2 t2;obtain⟨k,hk,rfl,hz,hB,hbx⟩:=hrel;have hsz:=hB.size
   by_cases hlt:k<p.X.length
   rotate_left
   ·obtain rfl:k=p.X.length:=by omega
    have HV:Hx (qAg p.S p.C p.X=0):=mH (HPT.o.trans hz);go_wp2;go_ret;exact⟨qN HV.o.symm,hB⟩
   obtain⟨b,off,rfl,hb,hcc⟩:=HA.o.2.1 k hlt;have hc0:=λj u hj=>(hB.cell (p:=⟨b,off+k*6+j,none⟩) hb).trans (hcc j u hj)
   obtain⟨c0,c1,c2,c3,c4,c5⟩:=qBo hc0;have hk':(k:Int)<p.X.length:=by omega
   have hkc:(k:Int)≤capX:=by omega
   have t2:=hbx.cell 2 (.slice (some ⟨b,off,none⟩) p.X.length capX) rfl;have hlw:w.heap.size<wr.heap.size:=hbx.lt;have hF:=qRc hlt;have HB:=mH (aI hB (aI hbx (aI hF hz)));clear hcc hc0 hz hB hbx hF;generalize p.X[k]=s at *;have hbs:=qC.new wr ↑s 79;have hB3:=qB HB.o.1 (.cells ↑s 79) hsz;have H3:=mH (aI hB3 (aI (HB.o.2.1.alloc (.cells ↑s 79)) hbs));clear hbs hB3;go_wp2_with fail;refine(qFt _ (p.X.take k) (λo=>jC o s) 275 #[.pointer (some ⟨wr.heap.size,0,none⟩)] _ ((HA.o.1.x.below H3.o.1).take _ oM) (qAB func275 kR rfl) (λo w' _ hbw=>qSF o s _ w' (H3.o.2.2.below hbw H3.o.2.2.lt))).mono ?_;rintro e w4 ⟨rfl,hb4⟩;have H4:=mH (aI (H3.o.1.trans (hb4.mono H3.o.1.size)) (H3.o.2.1.below hb4 H3.o.2.1.lt));clear hb4 H3 c0 c1 c2 c3 c4 c5;have hF:=HB.o.2.2.1
   cases hy:(p.X.take k).any (λo=>jC o s)
   ·rw [if_neg (by rw [hy];simp)] at hF;have HV:Hx (qZ (qCC p.X) (k+1)=0):=mH (by rw [qCM HB.o.2.2.2];exact hF);clear hF hy;go_wp2;exact⟨⟨k+1,by omega,by go_num,HV.o,H4.o.1,H4.o.2⟩,by simp [intOf];omega⟩
   ·rw [if_pos hy] at hF;have HV:Hx (qAg p.S p.C p.X=6):=mH (HPT.o.trans (by rw [qBL hlt HB.o.2.2.2 (by rw [hF];decide),hF]));clear hF hy;go_wp2;go_ret;exact⟨qN HV.o.symm,H4.o.1⟩
structure EtS (w W:World) (v0 v1 v2:Value) (e:qD) (u0 u1 u2:Value):Prop where
 bel:Below w.heap.size w W
 pl:qC W w.heap.size #[v0,v1,v2] 69
 en:qC W (w.heap.size+1) ↑e 81
 rs:qC W (w.heap.size+2) #[.slice none 0 0,.slice none 0 0,.slice none 0 0] 69
 ou:qC W (w.heap.size+3) #[u0,u1,u2] 69
theorem EtS.next {w W W':World} {v0 v1 v2 u0 u1 u2:Value} {e:qD} (h:EtS w W v0 v1 v2 e u0 u1 u2) (hb:Below W.heap.size W W'):EtS w W' v0 v1 v2 e u0 u1 u2 :=
 ⟨h.bel.trans (hb.mono h.bel.size),h.pl.below hb h.pl.lt,h.en.below hb h.en.lt,h.rs.below hb h.rs.lt,h.ou.below hb h.ou.lt⟩
def Cm {α:Type} (F:Nat→Prop) (cells:α→List Value) (sz:Nat) (W:World) (v:Value) (l:List α):Prop :=
 ∃o:Option Nat,(∀b,o=some b→b<W.heap.size∧¬F b)∧∀W':World,W.heap.size≤W'.heap.size→(∀b,o=some b→W'.heap[b]? = W.heap[b]?)→qI cells sz W' l v
theorem Cm.arr {α:Type} {F:Nat→Prop} {cells:α→List Value} {sz:Nat} {W:World} {v:Value} {l:List α} (h:Cm F cells sz W v l):qI cells sz W l v:=by
 obtain⟨o,_,h2⟩:=h;exact h2 W lR (λ_ _=>rfl)
theorem Cm.grown {α:Type} {F:Nat→Prop} {cells:α→List Value} {sz:Nat} {W W':World} {v:Value} {l:List α} (h:Cm F cells sz W v l) {r:Option Nat} (hg:W.grownBy W' r) (hr:∀b,r=some b→F b):Cm F cells sz W' v l:=by
 obtain⟨o,h1,h2⟩:=h;have key:∀b,o=some b→W'.heap[b]? = W.heap[b]? := λb hb=>hg.block b (h1 b hb).1 (λe=>(h1 b hb).2 (hr b e.symm))
 exact⟨o,λb hb=>⟨Nat.lt_of_lt_of_le (h1 b hb).1 hg.size,(h1 b hb).2⟩,λW'' hs hb=>h2 W'' (Nat.le_trans hg.size hs) (λb e=>(hb b e).trans (key b e))⟩
theorem Cm.next {α:Type} {F:Nat→Prop} {cells:α→List Value} {sz:Nat} {W W':World} {v:Value} {l:List α} (h:Cm F cells sz W v l) (hb:Below W.heap.size W W'):Cm F cells sz W' v l:=h.grown (qH none hb) (λ_ e=>by cases e)
theorem Cm.tw {α:Type} {F G:Nat→Prop} {cells:α→List Value} {sz:Nat} {W:World} {v:Value} {l:List α} (h:Cm F cells sz W v l) (hG:∀b,b<W.heap.size→¬F b→¬G b):Cm G cells sz W v l:=by
 obtain⟨o,h1,h2⟩:=h;exact⟨o,λb hb=>⟨(h1 b hb).1,hG b (h1 b hb).1 (h1 b hb).2⟩,h2⟩
theorem Cm.nil {α:Type} (F:Nat→Prop) (cells:α→List Value) (sz:Nat) (W:World):Cm F cells sz W (.slice none 0 0) ([]:List α):=⟨none,(λ_ e=>by cases e),λW' _ _=>qI.nil _ _ _⟩
def F2 (F:Nat→Prop) (n:Nat) (r:Nat):Prop:=F r∨r=n+2
theorem qFB {α:Type} {F:Nat→Prop} {cells:α→List Value} {sz:Nat} {w W:World} {v:Value} {l:List α} (h:Cm F cells sz w v l) (hb:Below w.heap.size w W):Cm (F2 F w.heap.size) cells sz W v l :=
 (h.tw (G:=F2 F w.heap.size) λb h1 h2 h3=>h3.elim h2 (λe=>by omega)).next hb
theorem qFg {α:Type} {F:Nat→Prop} {cells:α→List Value} {sz base:Nat} {W:World} {v:Value} {l:List α} (h:zG cells sz base W v l) (hF:∀r,F r→r<base):Cm F cells sz W v l:=by
 refine⟨v.ownBlock,λb hb=>⟨(h.lt b hb).2,λhf=>by have:=(h.lt b hb).1;have:=hF b hf;omega⟩,λW' hs hb=>?_⟩
 rcases h with⟨rfl,rfl⟩|⟨g,cap,rfl,hg2,hc,hm,hr⟩
 ·exact qI.nil _ _ _
 ·exact(hr.kept (hb g rfl) hs).arr rfl hc hm
def PlF (F:Nat→Prop) (W:World) (v0 v1 v2:Value) (p:Pl):Prop:=Cm F qJ.cells 2 W v0 p.S∧Cm F qG.cells 5 W v1 p.C∧Cm F qE.cells 6 W v2 p.X
theorem PlF.arr {F:Nat→Prop} {W:World} {v0 v1 v2:Value} {p:Pl} (h:PlF F W v0 v1 v2 p):qAN W v0 v1 v2 p.S p.C p.X:=⟨h.1.arr,h.2.1.arr,h.2.2.arr⟩
theorem PlF.next {F:Nat→Prop} {W W':World} {v0 v1 v2:Value} {p:Pl} (h:PlF F W v0 v1 v2 p) (hb:Below W.heap.size W W'):PlF F W' v0 v1 v2 p:=⟨h.1.next hb,h.2.1.next hb,h.2.2.next hb⟩
theorem PlF.grown {F:Nat→Prop} {W W':World} {v0 v1 v2:Value} {p:Pl} (h:PlF F W v0 v1 v2 p) {r:Option Nat} (hg:W.grownBy W' r) (hr:∀b,r=some b→F b):PlF F W' v0 v1 v2 p:=⟨h.1.grown hg hr,h.2.1.grown hg hr,h.2.2.grown hg hr⟩
theorem PlF.tw {F G:Nat→Prop} {W:World} {v0 v1 v2:Value} {p:Pl} (h:PlF F W v0 v1 v2 p) (hG:∀b,b<W.heap.size→¬F b→¬G b):PlF G W v0 v1 v2 p:=⟨h.1.tw hG,h.2.1.tw hG,h.2.2.tw hG⟩
theorem jM {α:Type} {cells:α→List Value} {sz:Nat} {w:World} {l:List α} {v:Value} (h:qI cells sz w l v):∃a n c,v=.slice a n c:=by
 obtain⟨a,c,e,_⟩:=h;exact⟨a,_,c,e⟩
theorem qEy {α:Type} {cells:α→List Value} {sz:Nat} {w:World} {l:List α} {v:Value} (h:qI cells sz w l v):∃a n c,v=.slice a n c∧n=l.length:=by
 obtain⟨a,c,e,_⟩:=h;exact⟨a,_,c,e,rfl⟩
def EtP (F:Nat→Prop) (r:Int × Pl) (w:World) (e:Ending) (w':World):Prop:=∃v0 v1 v2,e=.returned (.tuple #[.agg #[v0,v1,v2],.int .i64 r.1])∧PlF F w' v0 v1 v2 r.2∧Below w.heap.size w w'
theorem qM4 {p:Pl} (h:jS p) (hs:p.S.length≤100) (hc:p.C.length≤100) (hx:p.X.length≤100):qAg p.S p.C p.X=0:=(qFW h oM oM oM).2
theorem qHz {F:Nat→Prop} {n:Nat} {W:World} {v0 v1 v2:Value} {S:List qJ} {C:List qG} {X:List qE} (h0:Cm (F2 F n) qJ.cells 2 W v0 S) (h1:Cm (F2 F n) qG.cells 5 W v1 C) (h2:Cm (F2 F n) qE.cells 6 W v2 X) (a b c:Value):PlF F (((W.setCell ⟨n+2,0,none⟩ a).setCell ⟨n+2,1,none⟩ b).setCell ⟨n+2,2,none⟩ c) v0 v1 v2 ⟨S,C,X⟩ :=
 PlF.tw (F:=F2 F n) (PlF.grown (p:=⟨S,C,X⟩) ⟨h0,h1,h2⟩ (qO (n+2) [a,b,c] 0 W) (λb e=>.inr (Option.some.inj e).symm)) (λb _ h1 h2=>h1 (.inl h2))
theorem qQg {a b:qE}:(zF b a=0)↔zP a b=true:=by
 rw [←qC8];exact⟨qAh.zero,qAh.zero⟩
theorem EtS.put0 {w W:World} {v0 v1 v2 u0 u1 u2:Value} {e:qD} (h:EtS w W v0 v1 v2 e u0 u1 u2) (u:Value):EtS w (W.setCell ⟨w.heap.size+3,0,none⟩ u) v0 v1 v2 e u u1 u2 :=
 ⟨h.bel.setCell (by show w.heap.size≤w.heap.size+3;omega) _,h.pl.setOther oM 0 _,h.en.setOther oM 0 _,h.rs.setOther oM 0 _,h.ou.set 0 u⟩
theorem EtS.put1 {w W:World} {v0 v1 v2 u0 u1 u2:Value} {e:qD} (h:EtS w W v0 v1 v2 e u0 u1 u2) (u:Value):EtS w (W.setCell ⟨w.heap.size+3,1,none⟩ u) v0 v1 v2 e u0 u u2 :=
 ⟨h.bel.setCell (by show w.heap.size≤w.heap.size+3;omega) _,h.pl.setOther oM 1 _,h.en.setOther oM 1 _,h.rs.setOther oM 1 _,h.ou.set 1 u⟩
theorem EtS.put2 {w W:World} {v0 v1 v2 u0 u1 u2:Value} {e:qD} (h:EtS w W v0 v1 v2 e u0 u1 u2) (u:Value):EtS w (W.setCell ⟨w.heap.size+3,2,none⟩ u) v0 v1 v2 e u0 u1 u :=
 ⟨h.bel.setCell (by show w.heap.size≤w.heap.size+3;omega) _,h.pl.setOther oM 2 _,h.en.setOther oM 2 _,h.rs.setOther oM 2 _,h.ou.set 2 u⟩
theorem qGl {C:List qG} {k:ByteArray} {b:Bool} (h:(qY C k).isSome=b):C.any (λy=>decide (y.key=k))=b:=by
 cases b with
 | false=>exact qEI.1 (by simpa using h)
 | true =>
  cases hq:C.any (λy=>decide (y.key=k)) with
  | true=>rfl
  | false=>rw [qEI.2 hq] at h;cases h
theorem qGC (p:Pl) (e:qD) (vS vC vX:Value) (w:World):EtS w ((((w.alloc (.cells #[vS,vC,vX] 69)).alloc (.cells ↑e 81)).alloc (.cells #[.slice none 0 0,.slice none 0 0,.slice none 0 0] 69)).alloc (.cells #[vS,vC,vX] 69)) vS vC vX e vS vC vX :=
 ⟨by exact qS,(((qC.new w _ _).alloc _).alloc _).alloc _,((qC.newAt sI).alloc _).alloc _,(qC.newAt sI).alloc _,qC.newAt sI⟩
theorem qOx (p:Pl) (e:qD) (hp:jS p) (hs:p.S.length<19) (hc:p.C.length<19) (hx:p.X.length<19) (hok:∀x∈p.X,jF x) (hoe:jF e.spc) (F:Nat→Prop) (vS vC vX:Value) (w:World) (hF:∀r,F r→r<w.heap.size) (hPF:PlF F w vS vC vX p) (hk:e.kind=1):Calls prog 171 #[.agg #[vS,vC,vX],.agg ↑e] w (EtP F (zV p e) w):=by
 have hA:=hPF.arr;obtain⟨aS,nS,capS,hfS⟩:=jM hA.s;obtain⟨aC,nC,capC,hfC⟩:=jM hA.c;obtain⟨aX,nX,capX,hfX,hnX⟩:=qEy hA.x;subst hfS;subst hfC;subst hfX;have HNX:=mH hnX;clear hnX;have HP:=mH (aI hPF hF);clear hPF hF;have HA:=mH (aI hA (aI hp (aI hok hoe)));have HE:=mH (qGC p e (.slice aS nS capS) (.slice aC nC capC) (.slice aX nX capX) w);have HS:Hx (zV p e=if p.S.any (λy=>decide (y.key=e.site.key)) then (6,p) else if qA4 e.site≠0 then (qA4 e.site,p) else (0,{ p with S:=qHx p.S e.site })):=mH (by unfold zV;rw [if_pos hk]);have q1:(e.kind==1)=true:=by rw [hk];rfl
 clear hA hp hok hoe hk;go_enter func171,ntmps171;go_wp2_with fail;generalize ((((w.alloc (.cells #[.slice aS nS capS,.slice aC nC capC,.slice aX nX capX] 69)).alloc (.cells ↑e 81)).alloc (.cells #[.slice none 0 0,.slice none 0 0,.slice none 0 0] 69)).alloc (.cells #[.slice aS nS capS,.slice aC nC capC,.slice aX nX capX] 69))=W1 at *;refine(qDZ p e.site.key _ _ _ W1 (HA.o.1.below HE.o.bel)).mono ?_;rintro r W5 ⟨rfl,hb5⟩;have HE5:=mH (HE.o.next hb5);have hz5:w.heap.size+4≤W5.heap.size:=by have:=HE5.o.ou.lt;omega
 have HB:Hx (∀r,F2 F w.heap.size r→r<W5.heap.size):=mH (λr h=>h.elim (λh=>by have:=HP.o.2 r h;omega) (λh=>by omega));clear hb5 HE;have t0:=HE5.o.pl.cell 0 _ rfl;have t1:=HE5.o.pl.cell 1 _ rfl;have t2:=HE5.o.pl.cell 2 _ rfl;have r0:=HE5.o.rs.cell 0 _ rfl;have r1:=HE5.o.rs.cell 1 _ rfl;have r2:=HE5.o.rs.cell 2 _ rfl;have f0:=HE5.o.rs.free 0;have f1:=HE5.o.rs.free 1;have f2:=HE5.o.rs.free 2;have hl0:=HE5.o.pl.lt;have hl1:=HE5.o.en.lt;have hl2:=HE5.o.rs.lt;have hl3:=HE5.o.ou.lt;have o0:=HE5.o.ou.cell 0 _ rfl;have o1:=HE5.o.ou.cell 1 _ rfl;have o2:=HE5.o.ou.cell 2 _ rfl;have g0:=HE5.o.ou.free 0;have g1:=HE5.o.ou.free 1;have g2:=HE5.o.ou.free 2;have e4:=HE5.o.en.cell 4 _ rfl;have e5:=HE5.o.en.cell 5 _ rfl
 cases hq:qAQ p.S e.site.key
 rotate_left
 ·have HV:Hx (zV p e=(6,p)):=mH (by rw [HS.o,if_pos ((by rw [←qIz HA.o.2.1];exact hq))]);clear hq;go_wp2
  (refine bodyPost_ret (v:=.tuple #[.agg #[.slice aS nS capS,.slice aC nC capC,.slice aX nX capX],.int .i64 6]) ?_ rfl ?_;(· exact qF rfl _ _ (w.heap.size+2) 69 #[.slice aS nS capS,.slice aC nC capC,.slice aX nX capX] _ (0,0) _ rfl rfl (qC.fill3 HE5.o.rs) underlying69 rfl kR))
  rw [HV.o];exact⟨_,_,_,rfl,HP.o.1.next (Below.fill3 HE5.o.bel oM _ _ _),Below.fill3 HE5.o.bel oM _ _ _⟩
 have hany:p.S.any (λy=>decide (y.key=e.site.key))=false:=(by rw [←qIz HA.o.2.1];exact hq);clear hq;go_wp2_with fail;refine(qSK _ p.S e.site W5 (HA.o.1.below HE5.o.bel).s oM).mono ?_;rintro r W6 ⟨v6,L,rfl,hrv,hpm,hasc,hb6⟩;obtain⟨hL,hF,hR⟩:=qLu HA.o.2.1 hany hpm hasc oM oM oM;have hlen:L.length=p.S.length+1:=by rw [hpm.length_eq];simp
 have HE6:=mH (HE5.o.next hb6);have HF:=mH hF;have HL:=mH hL;obtain⟨a6,n6,c6,rfl⟩:=hrv.form3;clear hb6 hF hR HE5 hpm hasc hL t0 t1 t2 r0 r1 r2 f0 f1 f2 o0 o1 o2 g0 g1 g2 hl0 hl1 hl2 hl3 e4 e5;have t0:=HE6.o.pl.cell 0 _ rfl;have t1:=HE6.o.pl.cell 1 _ rfl;have t2:=HE6.o.pl.cell 2 _ rfl;have r0:=HE6.o.rs.cell 0 _ rfl;have r1:=HE6.o.rs.cell 1 _ rfl;have r2:=HE6.o.rs.cell 2 _ rfl;have f0:=HE6.o.rs.free 0;have f1:=HE6.o.rs.free 1;have f2:=HE6.o.rs.free 2;have hl0:=HE6.o.pl.lt;have hl1:=HE6.o.en.lt;have hl2:=HE6.o.rs.lt;have hl3:=HE6.o.ou.lt;have o0:=HE6.o.ou.cell 0 _ rfl;have o1:=HE6.o.ou.cell 1 _ rfl;have o2:=HE6.o.ou.cell 2 _ rfl;have g0:=HE6.o.ou.free 0;have g1:=HE6.o.ou.free 1;have g2:=HE6.o.ou.free 2;go_wp2_with fail;have H7:=mH (HE6.o.put0 (.slice a6 n6 c6));have HM:=mH (aI (qFg (hrv.setNe (c:=w.heap.size+3) (λh=>by have:=(hrv.lt _ h).1;omega) 0 (.slice a6 n6 c6)) HB.o) (aI (qFB HP.o.1.2.1 H7.o.bel) (qFB HP.o.1.2.2 H7.o.bel)));generalize W6.setCell ⟨w.heap.size+3,0,none⟩ (.slice a6 n6 c6)=W7 at *;clear HE6 hrv t0 t1 t2 r0 r1 r2 f0 f1 f2 o0 o1 o2 g0 g1 g2 hl0 hl1 hl2 hl3;have t0:=H7.o.pl.cell 0 _ rfl;have t1:=H7.o.pl.cell 1 _ rfl;have t2:=H7.o.pl.cell 2 _ rfl;have r0:=H7.o.rs.cell 0 _ rfl;have r1:=H7.o.rs.cell 1 _ rfl;have r2:=H7.o.rs.cell 2 _ rfl;have f0:=H7.o.rs.free 0;have f1:=H7.o.rs.free 1;have f2:=H7.o.rs.free 2;have hl0:=H7.o.pl.lt;have hl1:=H7.o.en.lt;have hl2:=H7.o.rs.lt;have hl3:=H7.o.ou.lt;have o0:=H7.o.ou.cell 0 _ rfl;have o1:=H7.o.ou.cell 1 _ rfl;have o2:=H7.o.ou.cell 2 _ rfl;have g0:=H7.o.ou.free 0;have g1:=H7.o.ou.free 1;have g2:=H7.o.ou.free 2
 go_wp2_with fail;refine(qEV ⟨L,p.C,p.X⟩ (by show L.length≤100;rw [hlen];omega) (by show p.C.length≤100;omega) (by show p.X.length≤100;omega) HA.o.2.2.1 _ _ _ W7 ⟨HM.o.1.arr,HM.o.2.1.arr,HM.o.2.2.arr⟩).mono ?_;rintro r W9 ⟨hr9,hb9⟩;rw [HF.o] at hr9;subst hr9;have HE9:=mH (H7.o.next hb9);have HM9:=mH (aI (HM.o.1.next hb9) (aI (HM.o.2.1.next hb9) (HM.o.2.2.next hb9)));clear hb9 HM H7 t0 t1 t2 r0 r1 r2 f0 f1 f2 o0 o1 o2 g0 g1 g2 hl0 hl1 hl2 hl3;have t0:=HE9.o.pl.cell 0 _ rfl;have t1:=HE9.o.pl.cell 1 _ rfl;have t2:=HE9.o.pl.cell 2 _ rfl;have r0:=HE9.o.rs.cell 0 _ rfl;have r1:=HE9.o.rs.cell 1 _ rfl;have r2:=HE9.o.rs.cell 2 _ rfl;have f0:=HE9.o.rs.free 0;have f1:=HE9.o.rs.free 1;have f2:=HE9.o.rs.free 2;have hl0:=HE9.o.pl.lt;have hl1:=HE9.o.en.lt;have hl2:=HE9.o.rs.lt;have hl3:=HE9.o.ou.lt;have o0:=HE9.o.ou.cell 0 _ rfl;have o1:=HE9.o.ou.cell 1 _ rfl;have o2:=HE9.o.ou.cell 2 _ rfl;have g0:=HE9.o.ou.free 0;have g1:=HE9.o.ou.free 1;have g2:=HE9.o.ou.free 2;have hst:=HS.o;rw [if_neg (by rw [hany];simp)] at hst
 by_cases h0:qA4 e.site=0
 ·rw [if_neg (by rw [h0];simp),←HL.o] at hst;have HV:=mH hst;have hz:(qA4 e.site != 0)=false:=by rw [h0];rfl
  clear hst h0;go_wp2
  (refine bodyPost_ret (v:=.tuple #[.agg #[.slice a6 n6 c6,.slice aC nC capC,.slice aX nX capX],.int .i64 0]) ?_ rfl ?_;(· exact qF rfl _ _ (w.heap.size+2) 69 #[.slice a6 n6 c6,.slice aC nC capC,.slice aX nX capX] _ (0,0) _ rfl rfl (qC.fill3 HE9.o.rs) underlying69 rfl kR))
  rw [HV.o];exact⟨_,_,_,rfl,qHz HM9.o.1 HM9.o.2.1 HM9.o.2.2 _ _ _,Below.fill3 HE9.o.bel oM _ _ _⟩
 ·rw [if_pos h0] at hst;have HV:=mH hst;have hne:(qA4 e.site != 0)=true:=by simpa using h0
  clear hst h0;go_wp2
  (refine bodyPost_ret (v:=.tuple #[.agg #[.slice aS nS capS,.slice aC nC capC,.slice aX nX capX],.int .i64 (qA4 e.site)]) ?_ rfl ?_;(· exact qF rfl _ _ (w.heap.size+2) 69 #[.slice aS nS capS,.slice aC nC capC,.slice aX nX capX] _ (0,0) _ rfl rfl (qC.fill3 HE9.o.rs) underlying69 rfl kR))
  rw [HV.o];exact⟨_,_,_,rfl,HP.o.1.next (Below.fill3 HE9.o.bel oM _ _ _),Below.fill3 HE9.o.bel oM _ _ _⟩
theorem qP8 (p:Pl) (e:qD) (hp:jS p) (hs:p.S.length<19) (hc:p.C.length<19) (hx:p.X.length<19) (hok:∀x∈p.X,jF x) (hoe:jF e.spc) (F:Nat→Prop) (vS vC vX:Value) (w:World) (hF:∀r,F r→r<w.heap.size) (hPF:PlF F w vS vC vX p) (hk:e.kind=2):Calls prog 171 #[.agg #[vS,vC,vX],.agg ↑e] w (EtP F (zV p e) w):=by
 have hA:=hPF.arr;obtain⟨aS,nS,capS,hfS⟩:=jM hA.s;obtain⟨aC,nC,capC,hfC⟩:=jM hA.c;obtain⟨aX,nX,capX,hfX,hnX⟩:=qEy hA.x;subst hfS;subst hfC;subst hfX;have HNX:=mH hnX;clear hnX;have HP:=mH (aI hPF hF);clear hPF hF;have HA:=mH (aI hA (aI hp (aI hok hoe)));have HE:=mH (qGC p e (.slice aS nS capS) (.slice aC nC capC) (.slice aX nX capX) w);have HS:Hx (zV p e=if p.C.any (λy=>decide (y.key=e.cab.key)) then (6,p) else if jP p.S e.cab≠0 then (jP p.S e.cab,p) else (0,{ p with C:=qH2 p.C e.cab })):=mH (by unfold zV;rw [if_neg (by rw [hk];decide)];rw [if_pos hk]);have q1:(e.kind==1)=false:=by rw [hk];rfl
 have q2:(e.kind==2)=true:=by rw [hk];rfl
 clear hA hp hok hoe hk;go_enter func171,ntmps171;go_wp2_with fail;generalize ((((w.alloc (.cells #[.slice aS nS capS,.slice aC nC capC,.slice aX nX capX] 69)).alloc (.cells ↑e 81)).alloc (.cells #[.slice none 0 0,.slice none 0 0,.slice none 0 0] 69)).alloc (.cells #[.slice aS nS capS,.slice aC nC capC,.slice aX nX capX] 69))=W1 at *;refine(qFP p e.cab.key _ _ _ W1 (HA.o.1.below HE.o.bel)).mono ?_;rintro r W5 ⟨rfl,hb5⟩;have HE5:=mH (HE.o.next hb5);have hz5:w.heap.size+4≤W5.heap.size:=by have:=HE5.o.ou.lt;omega
 have HB:Hx (∀r,F2 F w.heap.size r→r<W5.heap.size):=mH (λr h=>h.elim (λh=>by have:=HP.o.2 r h;omega) (λh=>by omega));clear hb5 HE;have t0:=HE5.o.pl.cell 0 _ rfl;have t1:=HE5.o.pl.cell 1 _ rfl;have t2:=HE5.o.pl.cell 2 _ rfl;have r0:=HE5.o.rs.cell 0 _ rfl;have r1:=HE5.o.rs.cell 1 _ rfl;have r2:=HE5.o.rs.cell 2 _ rfl;have f0:=HE5.o.rs.free 0;have f1:=HE5.o.rs.free 1;have f2:=HE5.o.rs.free 2;have hl0:=HE5.o.pl.lt;have hl1:=HE5.o.en.lt;have hl2:=HE5.o.rs.lt;have hl3:=HE5.o.ou.lt;have o0:=HE5.o.ou.cell 0 _ rfl;have o1:=HE5.o.ou.cell 1 _ rfl;have o2:=HE5.o.ou.cell 2 _ rfl;have g0:=HE5.o.ou.free 0;have g1:=HE5.o.ou.free 1;have g2:=HE5.o.ou.free 2;have e6:=HE5.o.en.cell 6 _ rfl;have e7:=HE5.o.en.cell 7 _ rfl;have e8:=HE5.o.en.cell 8 _ rfl;have e9:=HE5.o.en.cell 9 _ rfl;have e10:=HE5.o.en.cell 10 _ rfl
 cases hq:(qY p.C e.cab.key).isSome
 rotate_left
 ·have HV:Hx (zV p e=(6,p)):=mH (by rw [HS.o,if_pos ((qGl hq))]);clear hq;go_wp2
  (refine bodyPost_ret (v:=.tuple #[.agg #[.slice aS nS capS,.slice aC nC capC,.slice aX nX capX],.int .i64 6]) ?_ rfl ?_;(· exact qF rfl _ _ (w.heap.size+2) 69 #[.slice aS nS capS,.slice aC nC capC,.slice aX nX capX] _ (0,0) _ rfl rfl (qC.fill3 HE5.o.rs) underlying69 rfl kR))
  rw [HV.o];exact⟨_,_,_,rfl,HP.o.1.next (Below.fill3 HE5.o.bel oM _ _ _),Below.fill3 HE5.o.bel oM _ _ _⟩
 have hany:p.C.any (λy=>decide (y.key=e.cab.key))=false:=(qGl hq);clear hq;go_wp2_with fail;refine(qR2 _ p.C e.cab W5 (HA.o.1.below HE5.o.bel).c oM).mono ?_;rintro r W6 ⟨v6,L,rfl,hrv,hpm,hasc,hb6⟩;obtain⟨hL,hF,hR⟩:=qK6 HA.o.2.1 hany hpm hasc oM oM oM;have hlen:L.length=p.C.length+1:=by rw [hpm.length_eq];simp
 have HE6:=mH (HE5.o.next hb6);have HF:=mH hF;have HL:=mH hL;obtain⟨a6,n6,c6,rfl⟩:=hrv.form3;clear hb6 hF hR HE5 hpm hasc hL t0 t1 t2 r0 r1 r2 f0 f1 f2 o0 o1 o2 g0 g1 g2 hl0 hl1 hl2 hl3 e6 e7 e8 e9 e10;have t0:=HE6.o.pl.cell 0 _ rfl;have t1:=HE6.o.pl.cell 1 _ rfl;have t2:=HE6.o.pl.cell 2 _ rfl;have r0:=HE6.o.rs.cell 0 _ rfl;have r1:=HE6.o.rs.cell 1 _ rfl;have r2:=HE6.o.rs.cell 2 _ rfl;have f0:=HE6.o.rs.free 0;have f1:=HE6.o.rs.free 1;have f2:=HE6.o.rs.free 2;have hl0:=HE6.o.pl.lt;have hl1:=HE6.o.en.lt;have hl2:=HE6.o.rs.lt;have hl3:=HE6.o.ou.lt;have o0:=HE6.o.ou.cell 0 _ rfl;have o1:=HE6.o.ou.cell 1 _ rfl;have o2:=HE6.o.ou.cell 2 _ rfl;have g0:=HE6.o.ou.free 0;have g1:=HE6.o.ou.free 1;have g2:=HE6.o.ou.free 2;go_wp2_with fail;have H7:=mH (HE6.o.put1 (.slice a6 n6 c6));have HM:=mH (aI (qFB HP.o.1.1 H7.o.bel) (aI (qFg (hrv.setNe (c:=w.heap.size+3) (λh=>by have:=(hrv.lt _ h).1;omega) 1 (.slice a6 n6 c6)) HB.o) (qFB HP.o.1.2.2 H7.o.bel)));generalize W6.setCell ⟨w.heap.size+3,1,none⟩ (.slice a6 n6 c6)=W7 at *;clear HE6 hrv t0 t1 t2 r0 r1 r2 f0 f1 f2 o0 o1 o2 g0 g1 g2 hl0 hl1 hl2 hl3;have t0:=H7.o.pl.cell 0 _ rfl;have t1:=H7.o.pl.cell 1 _ rfl;have t2:=H7.o.pl.cell 2 _ rfl;have r0:=H7.o.rs.cell 0 _ rfl;have r1:=H7.o.rs.cell 1 _ rfl;have r2:=H7.o.rs.cell 2 _ rfl;have f0:=H7.o.rs.free 0;have f1:=H7.o.rs.free 1;have f2:=H7.o.rs.free 2;have hl0:=H7.o.pl.lt;have hl1:=H7.o.en.lt;have hl2:=H7.o.rs.lt;have hl3:=H7.o.ou.lt;have o0:=H7.o.ou.cell 0 _ rfl;have o1:=H7.o.ou.cell 1 _ rfl;have o2:=H7.o.ou.cell 2 _ rfl;have g0:=H7.o.ou.free 0;have g1:=H7.o.ou.free 1;have g2:=H7.o.ou.free 2
 go_wp2_with fail;refine(qEV ⟨p.S,L,p.X⟩ (by show p.S.length≤100;omega) (by show L.length≤100;rw [hlen];omega) (by show p.X.length≤100;omega) HA.o.2.2.1 _ _ _ W7 ⟨HM.o.1.arr,HM.o.2.1.arr,HM.o.2.2.arr⟩).mono ?_;rintro r W9 ⟨hr9,hb9⟩;rw [HF.o] at hr9;subst hr9;have HE9:=mH (H7.o.next hb9);have HM9:=mH (aI (HM.o.1.next hb9) (aI (HM.o.2.1.next hb9) (HM.o.2.2.next hb9)));clear hb9 HM H7 t0 t1 t2 r0 r1 r2 f0 f1 f2 o0 o1 o2 g0 g1 g2 hl0 hl1 hl2 hl3;have t0:=HE9.o.pl.cell 0 _ rfl;have t1:=HE9.o.pl.cell 1 _ rfl;have t2:=HE9.o.pl.cell 2 _ rfl;have r0:=HE9.o.rs.cell 0 _ rfl;have r1:=HE9.o.rs.cell 1 _ rfl;have r2:=HE9.o.rs.cell 2 _ rfl;have f0:=HE9.o.rs.free 0;have f1:=HE9.o.rs.free 1;have f2:=HE9.o.rs.free 2;have hl0:=HE9.o.pl.lt;have hl1:=HE9.o.en.lt;have hl2:=HE9.o.rs.lt;have hl3:=HE9.o.ou.lt;have o0:=HE9.o.ou.cell 0 _ rfl;have o1:=HE9.o.ou.cell 1 _ rfl;have o2:=HE9.o.ou.cell 2 _ rfl;have g0:=HE9.o.ou.free 0;have g1:=HE9.o.ou.free 1;have g2:=HE9.o.ou.free 2;have hst:=HS.o;rw [if_neg (by rw [hany];simp)] at hst
 by_cases h0:jP p.S e.cab=0
 ·rw [if_neg (by rw [h0];simp),←HL.o] at hst;have HV:=mH hst;have hz:(jP p.S e.cab != 0)=false:=by rw [h0];rfl
  clear hst h0;go_wp2
  (refine bodyPost_ret (v:=.tuple #[.agg #[.slice aS nS capS,.slice a6 n6 c6,.slice aX nX capX],.int .i64 0]) ?_ rfl ?_;(· exact qF rfl _ _ (w.heap.size+2) 69 #[.slice aS nS capS,.slice a6 n6 c6,.slice aX nX capX] _ (0,0) _ rfl rfl (qC.fill3 HE9.o.rs) underlying69 rfl kR))
  rw [HV.o];exact⟨_,_,_,rfl,qHz HM9.o.1 HM9.o.2.1 HM9.o.2.2 _ _ _,Below.fill3 HE9.o.bel oM _ _ _⟩
 ·rw [if_pos h0] at hst;have HV:=mH hst;have hne:(jP p.S e.cab != 0)=true:=by simpa using h0
  clear hst h0;go_wp2
  (refine bodyPost_ret (v:=.tuple #[.agg #[.slice aS nS capS,.slice aC nC capC,.slice aX nX capX],.int .i64 (jP p.S e.cab)]) ?_ rfl ?_;(· exact qF rfl _ _ (w.heap.size+2) 69 #[.slice aS nS capS,.slice aC nC capC,.slice aX nX capX] _ (0,0) _ rfl rfl (qC.fill3 HE9.o.rs) underlying69 rfl kR))
  rw [HV.o];exact⟨_,_,_,rfl,HP.o.1.next (Below.fill3 HE9.o.bel oM _ _ _),Below.fill3 HE9.o.bel oM _ _ _⟩
theorem qOw (p:Pl) (e:qD) (hp:jS p) (hs:p.S.length<19) (hc:p.C.length<19) (hx:p.X.length<19) (hok:∀x∈p.X,jF x) (hoe:jF e.spc) (F:Nat→Prop) (vS vC vX:Value) (w:World) (hF:∀r,F r→r<w.heap.size) (hPF:PlF F w vS vC vX p) (hk:e.kind=3):Calls prog 171 #[.agg #[vS,vC,vX],.agg ↑e] w (EtP F (zV p e) w):=by
 have hA:=hPF.arr;obtain⟨aS,nS,capS,hfS⟩:=jM hA.s;obtain⟨aC,nC,capC,hfC⟩:=jM hA.c;obtain⟨aX,nX,capX,hfX,hnX⟩:=qEy hA.x;subst hfS;subst hfC;subst hfX;have HNX:=mH hnX;clear hnX;have HP:=mH (aI hPF hF);clear hPF hF;have HA:=mH (aI hA (aI hp (aI hok hoe)));have HE:=mH (qGC p e (.slice aS nS capS) (.slice aC nC capC) (.slice aX nX capX) w);have HS:Hx (zV p e=if jA p.S p.C e.spc≠0 then (jA p.S p.C e.spc,p) else if p.X.any (zP e.spc) then (7,p) else if p.X.any (λo=>jC o e.spc) then (6,p) else (0,{ p with X:=qG1 p.X e.spc })):=mH (by unfold zV;rw [if_neg (by rw [hk];decide)];rw [if_neg (by rw [hk];decide)];rw [if_pos hk]);have q1:(e.kind==1)=false:=by rw [hk];rfl
 have q2:(e.kind==2)=false:=by rw [hk];rfl
 have q3:(e.kind==3)=true:=by rw [hk];rfl
 clear hA hp hok hoe hk;go_enter func171,ntmps171;go_wp2_with fail;have hz5:w.heap.size+4≤((((w.alloc (.cells #[.slice aS nS capS,.slice aC nC capC,.slice aX nX capX] 69)).alloc (.cells ↑e 81)).alloc (.cells #[.slice none 0 0,.slice none 0 0,.slice none 0 0] 69)).alloc (.cells #[.slice aS nS capS,.slice aC nC capC,.slice aX nX capX] 69)).heap.size:=by simp
 have HB:Hx (∀r,F2 F w.heap.size r→r<((((w.alloc (.cells #[.slice aS nS capS,.slice aC nC capC,.slice aX nX capX] 69)).alloc (.cells ↑e 81)).alloc (.cells #[.slice none 0 0,.slice none 0 0,.slice none 0 0] 69)).alloc (.cells #[.slice aS nS capS,.slice aC nC capC,.slice aX nX capX] 69)).heap.size):=mH (λr h=>h.elim (λh=>by have:=HP.o.2 r h;omega) (λh=>by omega));generalize ((((w.alloc (.cells #[.slice aS nS capS,.slice aC nC capC,.slice aX nX capX] 69)).alloc (.cells ↑e 81)).alloc (.cells #[.slice none 0 0,.slice none 0 0,.slice none 0 0] 69)).alloc (.cells #[.slice aS nS capS,.slice aC nC capC,.slice aX nX capX] 69))=W5 at *;refine(qSW _ p.X e.spc W5 (HA.o.1.below HE.o.bel).x oM (λy hy=>by
  rcases List.mem_append.1 hy with h|h
  ·exact HA.o.2.2.1 y h
  ·rw [List.mem_singleton.1 h];exact HA.o.2.2.2)).mono ?_
 rintro r W6 ⟨v6,L,rfl,hrv,hpm,hasc,hb6⟩;obtain⟨hF,hR⟩:=qLs HA.o.2.1 hpm hasc oM oM oM;have hlen:L.length=p.X.length+1:=by rw [hpm.length_eq];simp
 have hokL:∀x∈L,jF x:=λy hy=>by
  rcases List.mem_append.1 (hpm.mem_iff.1 hy) with h|h
  ·exact HA.o.2.2.1 y h
  ·rw [List.mem_singleton.1 h];exact HA.o.2.2.2
 have HE6:=mH (HE.o.next hb6);obtain⟨f,hf⟩:=eX (qAg p.S p.C L);have HF:=mH hf;have HR:=mH (aI (hf.symm.trans hF) (λh=>(hR (hf.trans h)).1:f=0→L=qG1 p.X e.spc));obtain⟨a6,n6,c6,rfl⟩:=hrv.form3;have HOK:=mH hokL;clear hb6 hF hR HE hpm hasc hf hokL;have t0:=HE6.o.pl.cell 0 _ rfl;have t1:=HE6.o.pl.cell 1 _ rfl;have t2:=HE6.o.pl.cell 2 _ rfl;have r0:=HE6.o.rs.cell 0 _ rfl;have r1:=HE6.o.rs.cell 1 _ rfl;have r2:=HE6.o.rs.cell 2 _ rfl;have f0:=HE6.o.rs.free 0;have f1:=HE6.o.rs.free 1;have f2:=HE6.o.rs.free 2;have hl0:=HE6.o.pl.lt;have hl1:=HE6.o.en.lt;have hl2:=HE6.o.rs.lt;have hl3:=HE6.o.ou.lt;have o0:=HE6.o.ou.cell 0 _ rfl;have o1:=HE6.o.ou.cell 1 _ rfl;have o2:=HE6.o.ou.cell 2 _ rfl;have g0:=HE6.o.ou.free 0;have g1:=HE6.o.ou.free 1;have g2:=HE6.o.ou.free 2;go_wp2_with fail;have H7:=mH (HE6.o.put2 (.slice a6 n6 c6));have HM:=mH (aI (qFB HP.o.1.1 H7.o.bel) (aI (qFB HP.o.1.2.1 H7.o.bel) (qFg (hrv.setNe (c:=w.heap.size+3) (λh=>by have:=(hrv.lt _ h).1;omega) 2 (.slice a6 n6 c6)) HB.o)));generalize W6.setCell ⟨w.heap.size+3,2,none⟩ (.slice a6 n6 c6)=W7 at *;clear HE6 hrv t0 t1 t2 r0 r1 r2 f0 f1 f2 o0 o1 o2 g0 g1 g2 hl0 hl1 hl2 hl3;have t0:=H7.o.pl.cell 0 _ rfl;have t1:=H7.o.pl.cell 1 _ rfl;have t2:=H7.o.pl.cell 2 _ rfl;have r0:=H7.o.rs.cell 0 _ rfl;have r1:=H7.o.rs.cell 1 _ rfl;have r2:=H7.o.rs.cell 2 _ rfl;have f0:=H7.o.rs.free 0;have f1:=H7.o.rs.free 1;have f2:=H7.o.rs.free 2;have hl0:=H7.o.pl.lt;have hl1:=H7.o.en.lt;have hl2:=H7.o.rs.lt;have hl3:=H7.o.ou.lt;have o0:=H7.o.ou.cell 0 _ rfl;have o1:=H7.o.ou.cell 1 _ rfl;have o2:=H7.o.ou.cell 2 _ rfl;have g0:=H7.o.ou.free 0;have g1:=H7.o.ou.free 1;have g2:=H7.o.ou.free 2
 go_wp2_with fail;refine(qEV ⟨p.S,p.C,L⟩ (by show p.S.length≤100;omega) (by show p.C.length≤100;omega) (by show L.length≤100;rw [hlen];omega) HOK.o _ _ _ W7 ⟨HM.o.1.arr,HM.o.2.1.arr,HM.o.2.2.arr⟩).mono ?_;rintro r W9 ⟨hr9,hb9⟩;rw [HF.o] at hr9;subst hr9;have HE9:=mH (H7.o.next hb9);have HM9:=mH (aI (HM.o.1.next hb9) (aI (HM.o.2.1.next hb9) (HM.o.2.2.next hb9)));clear hb9 HM H7 t0 t1 t2 r0 r1 r2 f0 f1 f2 o0 o1 o2 g0 g1 g2 hl0 hl1 hl2 hl3;have t0:=HE9.o.pl.cell 0 _ rfl;have t1:=HE9.o.pl.cell 1 _ rfl;have t2:=HE9.o.pl.cell 2 _ rfl;have r0:=HE9.o.rs.cell 0 _ rfl;have r1:=HE9.o.rs.cell 1 _ rfl;have r2:=HE9.o.rs.cell 2 _ rfl;have f0:=HE9.o.rs.free 0;have f1:=HE9.o.rs.free 1;have f2:=HE9.o.rs.free 2;have hl0:=HE9.o.pl.lt;have hl1:=HE9.o.en.lt;have hl2:=HE9.o.rs.lt;have hl3:=HE9.o.ou.lt;have o0:=HE9.o.ou.cell 0 _ rfl;have o1:=HE9.o.ou.cell 1 _ rfl;have o2:=HE9.o.ou.cell 2 _ rfl;have g0:=HE9.o.ou.free 0;have g1:=HE9.o.ou.free 1;have g2:=HE9.o.ou.free 2;have hst:zV p e=if f≠0 then (f,p) else (0,{ p with X:=qG1 p.X e.spc }):=by
  rw [HS.o,HR.o.1]
  repeat' split
  all_goals first|rfl|(exfalso;omega)|simp_all
 by_cases h0:f=0
 ·rw [if_neg (by rw [h0];simp),←HR.o.2 h0] at hst;have HV:=mH hst;have hz:(f != 0)=false:=by rw [h0];rfl
  clear hst h0;go_wp2
  (refine bodyPost_ret (v:=.tuple #[.agg #[.slice aS nS capS,.slice aC nC capC,.slice a6 n6 c6],.int .i64 0]) ?_ rfl ?_;(· exact qF rfl _ _ (w.heap.size+2) 69 #[.slice aS nS capS,.slice aC nC capC,.slice a6 n6 c6] _ (0,0) _ rfl rfl (qC.fill3 HE9.o.rs) underlying69 rfl kR))
  rw [HV.o];exact⟨_,_,_,rfl,qHz HM9.o.1 HM9.o.2.1 HM9.o.2.2 _ _ _,Below.fill3 HE9.o.bel oM _ _ _⟩
 ·rw [if_pos h0] at hst;have HV:=mH hst;have hne:(f != 0)=true:=by simpa using h0
  clear hst h0;go_wp2
  (refine bodyPost_ret (v:=.tuple #[.agg #[.slice aS nS capS,.slice aC nC capC,.slice aX nX capX],.int .i64 f]) ?_ rfl ?_;(· exact qF rfl _ _ (w.heap.size+2) 69 #[.slice aS nS capS,.slice aC nC capC,.slice aX nX capX] _ (0,0) _ rfl rfl (qC.fill3 HE9.o.rs) underlying69 rfl kR))
  rw [HV.o];exact⟨_,_,_,rfl,HP.o.1.next (Below.fill3 HE9.o.bel oM _ _ _),Below.fill3 HE9.o.bel oM _ _ _⟩
theorem qRb (s:qE) (e:qD) (b:Nat) (w:World) (hs:jF s) (hoe:jF e.spc) (hb:qC w b ↑e 81):Calls prog 227 #[.agg ⟨qE.cells s⟩,.pointer (some ⟨b,0,none⟩)] w λr w'=>r=.returned (.bool (zP e.spc s))∧Below w.heap.size w w':=by
 have HS:=mH (aI hs hoe);have e11:=hb.cell 11 _ rfl;have e12:=hb.cell 12 _ rfl;have e13:=hb.cell 13 _ rfl;have e14:=hb.cell 14 _ rfl;have e15:=hb.cell 15 _ rfl;have e16:=hb.cell 16 _ rfl;have hl:=hb.lt;have HB:Hx (Below w.heap.size w (w.alloc (.cells ↑s 79))):=⟨qB bR _ lR⟩;clear hb hs hoe;rw [qIZ];go_enter func227,ntmps227;go_wp2_with fail;refine(qGW s e.spc _ HS.o.1 HS.o.2).mono ?_;rintro r w' ⟨rfl,hg⟩;have HB2:=mH (HB.o.trans (hg.below.mono HB.o.size));clear hg
 cases h:zP e.spc s
 ·have hz:(zF s e.spc==0)=false:=by
   simp only [beq_eq_false_iff_ne,ne_eq];intro h2;rw [qQg.1 h2] at h;cases h
  have HV:Hx (zP e.spc s=false):=mH h;clear h;go_wp2;go_ret;exact⟨by rw [HV.o];first|rfl|rw [hz]|simp [hz],HB2.o⟩
 ·have hz:(zF s e.spc==0)=true:=by rw [qQg.2 h];rfl
  have HV:Hx (zP e.spc s=true):=mH h;clear h;go_wp2;go_ret;exact⟨by rw [HV.o];first|rfl|rw [hz]|simp [hz],HB2.o⟩
theorem qOL {α:Type} {q:α→Bool} {l:List α}:((l.filter λy=>!q y).length=l.length)↔l.any q=false:=by
 rw [List.length_filter_eq_length_iff];simp
theorem qP9 (p:Pl) (e:qD) (hp:jS p) (hs:p.S.length<19) (hc:p.C.length<19) (hx:p.X.length<19) (hok:∀x∈p.X,jF x) (hoe:jF e.spc) (F:Nat→Prop) (vS vC vX:Value) (w:World) (hF:∀r,F r→r<w.heap.size) (hPF:PlF F w vS vC vX p) (hk:e.kind=4):Calls prog 171 #[.agg #[vS,vC,vX],.agg ↑e] w (EtP F (zV p e) w):=by
 have hA:=hPF.arr;obtain⟨aS,nS,capS,hfS⟩:=jM hA.s;obtain⟨aC,nC,capC,hfC⟩:=jM hA.c;obtain⟨aX,nX,capX,hfX,hnX⟩:=qEy hA.x;subst hfS;subst hfC;subst hfX;have HNX:=mH hnX;clear hnX;have HP:=mH (aI hPF hF);clear hPF hF;have HA:=mH (aI hA (aI hp (aI hok hoe)));have HE:=mH (qGC p e (.slice aS nS capS) (.slice aC nC capC) (.slice aX nX capX) w);have HS:Hx (zV p e=if p.X.any (zP e.spc) then (0,{ p with X:=p.X.filter λy=>!zP e.spc y }) else (8,p)):=mH (by unfold zV;rw [if_neg (by rw [hk];decide)];rw [if_neg (by rw [hk];decide)];rw [if_neg (by rw [hk];decide)];rw [if_pos hk]);have q1:(e.kind==1)=false:=by rw [hk];rfl
 have q2:(e.kind==2)=false:=by rw [hk];rfl
 have q3:(e.kind==3)=false:=by rw [hk];rfl
 have q4:(e.kind==4)=true:=by rw [hk];rfl
 clear hA hp hok hoe hk;go_enter func171,ntmps171;go_wp2_with fail;have hz5:w.heap.size+4≤((((w.alloc (.cells #[.slice aS nS capS,.slice aC nC capC,.slice aX nX capX] 69)).alloc (.cells ↑e 81)).alloc (.cells #[.slice none 0 0,.slice none 0 0,.slice none 0 0] 69)).alloc (.cells #[.slice aS nS capS,.slice aC nC capC,.slice aX nX capX] 69)).heap.size:=by simp
 have HB:Hx (∀r,F2 F w.heap.size r→r<((((w.alloc (.cells #[.slice aS nS capS,.slice aC nC capC,.slice aX nX capX] 69)).alloc (.cells ↑e 81)).alloc (.cells #[.slice none 0 0,.slice none 0 0,.slice none 0 0] 69)).alloc (.cells #[.slice aS nS capS,.slice aC nC capC,.slice aX nX capX] 69)).heap.size):=mH (λr h=>h.elim (λh=>by have:=HP.o.2 r h;omega) (λh=>by omega));generalize ((((w.alloc (.cells #[.slice aS nS capS,.slice aC nC capC,.slice aX nX capX] 69)).alloc (.cells ↑e 81)).alloc (.cells #[.slice none 0 0,.slice none 0 0,.slice none 0 0] 69)).alloc (.cells #[.slice aS nS capS,.slice aC nC capC,.slice aX nX capX] 69))=W5 at *;refine(qGM _ p.X W5 (HA.o.1.below HE.o.bel).x oM).mono ?_;rintro r W6 ⟨v6,rfl,⟨ho6,-⟩,hb6⟩;have HE6:=mH (HE.o.next hb6);have HO6:=mH (aI ho6 (aI hb6 hb6.size));clear ho6 hb6;have t0:=HE6.o.pl.cell 0 _ rfl;have t1:=HE6.o.pl.cell 1 _ rfl;have t2:=HE6.o.pl.cell 2 _ rfl;have r0:=HE6.o.rs.cell 0 _ rfl;have r1:=HE6.o.rs.cell 1 _ rfl;have r2:=HE6.o.rs.cell 2 _ rfl;have f0:=HE6.o.rs.free 0;have f1:=HE6.o.rs.free 1;have f2:=HE6.o.rs.free 2;have hl0:=HE6.o.pl.lt;have hl1:=HE6.o.en.lt;have hl2:=HE6.o.rs.lt;have hl3:=HE6.o.ou.lt;have o0:=HE6.o.ou.cell 0 _ rfl;have o1:=HE6.o.ou.cell 1 _ rfl;have o2:=HE6.o.ou.cell 2 _ rfl;have g0:=HE6.o.ou.free 0;have g1:=HE6.o.ou.free 1;have g2:=HE6.o.ou.free 2;go_wp2_with fail;refine(qEe v6 p.X (zP e.spc) 227 #[.pointer (some ⟨w.heap.size+1,0,none⟩)] W5.heap.size W6 HO6.o.1 oM (qAB func227 kR rfl) (λs w' hs hg=>qRb s e (w.heap.size+1) w' (HA.o.2.2.1 s hs) HA.o.2.2.2 (HE6.o.en.grown hg (λh=>by have:=(HO6.o.1.lt _ h.symm).1;omega)))).mono ?_
 rintro r W7 ⟨v7,rfl,ho7,hg7⟩;have hB7:Below W5.heap.size W5 W7:=HO6.o.2.1.trans (qCt HO6.o.1 hg7 HO6.o.2.2);have HE7:=mH (HE.o.next hB7);have hrv:=zG.of_own qE.cells_len ho7;obtain⟨n7,hn7⟩:∃n,(p.X.filter λy=>!zP e.spc y).length=n:=⟨_,rfl⟩;obtain⟨a6,n6,c6,hv7⟩:∃a n c,v7=.slice a n c:=hrv.form3;obtain⟨a8,c8,hv8⟩:=hrv.slice;have hn6:n6=(p.X.filter λy=>!zP e.spc y).length:=by rw [hv7] at hv8;injection hv8
 subst hv7;have hle6:n6≤p.X.length:=by rw [hn6];exact List.length_filter_le _ _
 have HN6:=mH hn6;clear hn6;clear hv8 ho7 hg7 hB7 HE HO6 HE6 hn7 t0 t1 t2 r0 r1 r2 f0 f1 f2 o0 o1 o2 g0 g1 g2 hl0 hl1 hl2 hl3;have t0:=HE7.o.pl.cell 0 _ rfl;have t1:=HE7.o.pl.cell 1 _ rfl;have t2:=HE7.o.pl.cell 2 _ rfl;have r0:=HE7.o.rs.cell 0 _ rfl;have r1:=HE7.o.rs.cell 1 _ rfl;have r2:=HE7.o.rs.cell 2 _ rfl;have f0:=HE7.o.rs.free 0;have f1:=HE7.o.rs.free 1;have f2:=HE7.o.rs.free 2;have hl0:=HE7.o.pl.lt;have hl1:=HE7.o.en.lt;have hl2:=HE7.o.rs.lt;have hl3:=HE7.o.ou.lt;have o0:=HE7.o.ou.cell 0 _ rfl;have o1:=HE7.o.ou.cell 1 _ rfl;have o2:=HE7.o.ou.cell 2 _ rfl;have g0:=HE7.o.ou.free 0;have g1:=HE7.o.ou.free 1;have g2:=HE7.o.ou.free 2;go_upto_region 18 with fail;have H7:=mH (HE7.o.put2 (.slice a6 n6 c6));have HM:=mH (aI (qFB HP.o.1.1 H7.o.bel) (aI (qFB HP.o.1.2.1 H7.o.bel) (qFg (hrv.setNe (c:=w.heap.size+3) (λh=>by have:=(hrv.lt _ h).1;omega) 2 (.slice a6 n6 c6)) HB.o)));generalize W7.setCell ⟨w.heap.size+3,2,none⟩ (.slice a6 n6 c6)=W8 at *;clear HE7 hrv t0 t1 t2 r0 r1 r2 f0 f1 f2 o0 o1 o2 g0 g1 g2 hl0 hl1 hl2 hl3;have t0:=H7.o.pl.cell 0 _ rfl;have t1:=H7.o.pl.cell 1 _ rfl;have t2:=H7.o.pl.cell 2 _ rfl;have r0:=H7.o.rs.cell 0 _ rfl;have r1:=H7.o.rs.cell 1 _ rfl;have r2:=H7.o.rs.cell 2 _ rfl;have f0:=H7.o.rs.free 0;have f1:=H7.o.rs.free 1;have f2:=H7.o.rs.free 2;have hl0:=H7.o.pl.lt;have hl1:=H7.o.en.lt;have hl2:=H7.o.rs.lt;have hl3:=H7.o.ou.lt;have o0:=H7.o.ou.cell 0 _ rfl;have o1:=H7.o.ou.cell 1 _ rfl;have o2:=H7.o.ou.cell 2 _ rfl;have g0:=H7.o.ou.free 0;have g1:=H7.o.ou.free 1;have g2:=H7.o.ou.free 2
 rcases Bool.eq_false_or_eq_true (p.X.any (zP e.spc)) with hany|hany
 rotate_left
 ·have hq:nX=n6:=by rw [HN6.o,HNX.o];exact(qOL.2 hany).symm
  have HV:Hx (zV p e=(8,p)):=mH (by rw [HS.o,if_neg (by rw [hany];simp)]);clear HN6 hany;subst hq;go_wp2
  (refine bodyPost_ret (v:=.tuple #[.agg #[.slice aS nS capS,.slice aC nC capC,.slice aX nX capX],.int .i64 8]) ?_ rfl ?_;(· exact qF rfl _ _ (w.heap.size+2) 69 #[.slice aS nS capS,.slice aC nC capC,.slice aX nX capX] _ (0,0) _ rfl rfl (qC.fill3 H7.o.rs) underlying69 rfl kR))
  rw [HV.o];exact⟨_,_,_,rfl,HP.o.1.next (Below.fill3 H7.o.bel oM _ _ _),Below.fill3 H7.o.bel oM _ _ _⟩
 have hne:((n6:Int)==(nX:Int))=false:=by
  simp only [beq_eq_false_iff_ne,ne_eq];intro h;have:=qOL.1 (HN6.o.symm.trans ((show n6=nX by omega).trans HNX.o));rw [hany] at this;cases this
 have HV:Hx (zV p e=(0,{ p with X:=p.X.filter λy=>!zP e.spc y })):=mH (by rw [HS.o,if_pos hany]);have HF:Hx (qAg p.S p.C (p.X.filter λy=>!zP e.spc y)=0):=mH (qM4 (qNy HA.o.2.1 _) (by show p.S.length≤100;omega) (by show p.C.length≤100;omega) (by show(List.filter _ _).length≤100;rw [←HN6.o];omega));have hlx:(p.X.filter λy=>!zP e.spc y).length≤100:=by rw [←HN6.o];omega
 have HL:=mH (aI HN6.o hlx);clear hany hlx;go_wp2_with fail;refine(qEV ⟨p.S,p.C,p.X.filter λy=>!zP e.spc y⟩ (by show p.S.length≤100;omega) (by show p.C.length≤100;omega) HL.o.2 (λy hy=>HA.o.2.2.1 y (List.mem_filter.1 hy).1) _ _ _ W8 ⟨HM.o.1.arr,HM.o.2.1.arr,HM.o.2.2.arr⟩).mono ?_;rintro r W9 ⟨hr9,hb9⟩;rw [HF.o] at hr9;subst hr9;have HE9:=mH (H7.o.next hb9);have HM9:=mH (aI (HM.o.1.next hb9) (aI (HM.o.2.1.next hb9) (HM.o.2.2.next hb9)));clear hb9 HM H7 t0 t1 t2 r0 r1 r2 f0 f1 f2 o0 o1 o2 g0 g1 g2 hl0 hl1 hl2 hl3;have t0:=HE9.o.pl.cell 0 _ rfl;have t1:=HE9.o.pl.cell 1 _ rfl;have t2:=HE9.o.pl.cell 2 _ rfl;have r0:=HE9.o.rs.cell 0 _ rfl;have r1:=HE9.o.rs.cell 1 _ rfl;have r2:=HE9.o.rs.cell 2 _ rfl;have f0:=HE9.o.rs.free 0;have f1:=HE9.o.rs.free 1;have f2:=HE9.o.rs.free 2;have hl0:=HE9.o.pl.lt;have hl1:=HE9.o.en.lt;have hl2:=HE9.o.rs.lt;have hl3:=HE9.o.ou.lt;have o0:=HE9.o.ou.cell 0 _ rfl;have o1:=HE9.o.ou.cell 1 _ rfl;have o2:=HE9.o.ou.cell 2 _ rfl;have g0:=HE9.o.ou.free 0;have g1:=HE9.o.ou.free 1;have g2:=HE9.o.ou.free 2;go_wp2
 (refine bodyPost_ret (v:=.tuple #[.agg #[.slice aS nS capS,.slice aC nC capC,.slice a6 n6 c6],.int .i64 0]) ?_ rfl ?_;(· exact qF rfl _ _ (w.heap.size+2) 69 #[.slice aS nS capS,.slice aC nC capC,.slice a6 n6 c6] _ (0,0) _ rfl rfl (qC.fill3 HE9.o.rs) underlying69 rfl kR))
 rw [HV.o];exact⟨_,_,_,rfl,qHz HM9.o.1 HM9.o.2.1 HM9.o.2.2 _ _ _,Below.fill3 HE9.o.bel oM _ _ _⟩
theorem qMZ (p:Pl) (e:qD) (hp:jS p) (hs:p.S.length<19) (hc:p.C.length<19) (hx:p.X.length<19) (hok:∀x∈p.X,jF x) (hoe:jF e.spc) (F:Nat→Prop) (vS vC vX:Value) (w:World) (hF:∀r,F r→r<w.heap.size) (hPF:PlF F w vS vC vX p) (k1:e.kind≠1) (k2:e.kind≠2) (k3:e.kind≠3) (k4:e.kind≠4):Calls prog 171 #[.agg #[vS,vC,vX],.agg ↑e] w (EtP F (zV p e) w):=by
 have hA:=hPF.arr;obtain⟨aS,nS,capS,hfS⟩:=jM hA.s;obtain⟨aC,nC,capC,hfC⟩:=jM hA.c;obtain⟨aX,nX,capX,hfX,hnX⟩:=qEy hA.x;subst hfS;subst hfC;subst hfX;have HNX:=mH hnX;clear hnX;have HP:=mH (aI hPF hF);clear hPF hF;have HA:=mH (aI hA (aI hp (aI hok hoe)));have HE:=mH (qGC p e (.slice aS nS capS) (.slice aC nC capC) (.slice aX nX capX) w);have HS:Hx (zV p e=if p.C.any (λy=>decide (y.key=e.cab.key)) then (0,{ p with C:=p.C.filter (λy=>!decide (y.key=e.cab.key)),X:=p.X.filter λy=>!qAL e.cab.key y }) else (8,p)):=mH (by unfold zV;rw [if_neg k1,if_neg k2,if_neg k3,if_neg k4]);have q1:(e.kind==1)=false:=by simp;omega
 have q2:(e.kind==2)=false:=by simp;omega
 have q3:(e.kind==3)=false:=by simp;omega
 have q4:(e.kind==4)=false:=by simp;omega
 clear hA hp hok hoe k1 k2 k3 k4;go_enter func171,ntmps171;go_wp2_with fail;generalize ((((w.alloc (.cells #[.slice aS nS capS,.slice aC nC capC,.slice aX nX capX] 69)).alloc (.cells ↑e 81)).alloc (.cells #[.slice none 0 0,.slice none 0 0,.slice none 0 0] 69)).alloc (.cells #[.slice aS nS capS,.slice aC nC capC,.slice aX nX capX] 69))=W1 at *;refine(qFP p e.cab.key _ _ _ W1 (HA.o.1.below HE.o.bel)).mono ?_;rintro r W5 ⟨rfl,hb5⟩;have HE5:=mH (HE.o.next hb5);have hz5:w.heap.size+4≤W5.heap.size:=by have:=HE5.o.ou.lt;omega
 have HB:Hx (∀r,F2 F w.heap.size r→r<W5.heap.size):=mH (λr h=>h.elim (λh=>by have:=HP.o.2 r h;omega) (λh=>by omega));clear hb5 HE;have t0:=HE5.o.pl.cell 0 _ rfl;have t1:=HE5.o.pl.cell 1 _ rfl;have t2:=HE5.o.pl.cell 2 _ rfl;have r0:=HE5.o.rs.cell 0 _ rfl;have r1:=HE5.o.rs.cell 1 _ rfl;have r2:=HE5.o.rs.cell 2 _ rfl;have f0:=HE5.o.rs.free 0;have f1:=HE5.o.rs.free 1;have f2:=HE5.o.rs.free 2;have hl0:=HE5.o.pl.lt;have hl1:=HE5.o.en.lt;have hl2:=HE5.o.rs.lt;have hl3:=HE5.o.ou.lt;have o0:=HE5.o.ou.cell 0 _ rfl;have o1:=HE5.o.ou.cell 1 _ rfl;have o2:=HE5.o.ou.cell 2 _ rfl;have g0:=HE5.o.ou.free 0;have g1:=HE5.o.ou.free 1;have g2:=HE5.o.ou.free 2;have e6:=HE5.o.en.cell 6 _ rfl
 cases hq:(qY p.C e.cab.key).isSome
 ·have HV:Hx (zV p e=(8,p)):=mH (by rw [HS.o,if_neg (by rw [qGl hq];simp)]);clear hq;go_wp2
  (refine bodyPost_ret (v:=.tuple #[.agg #[.slice aS nS capS,.slice aC nC capC,.slice aX nX capX],.int .i64 8]) ?_ rfl ?_;(· exact qF rfl _ _ (w.heap.size+2) 69 #[.slice aS nS capS,.slice aC nC capC,.slice aX nX capX] _ (0,0) _ rfl rfl (qC.fill3 HE5.o.rs) underlying69 rfl kR))
  rw [HV.o];exact⟨_,_,_,rfl,HP.o.1.next (Below.fill3 HE5.o.bel oM _ _ _),Below.fill3 HE5.o.bel oM _ _ _⟩
 have HV:Hx (zV p e=(0,{ p with C:=p.C.filter (λy=>!decide (y.key=e.cab.key)),X:=p.X.filter λy=>!qAL e.cab.key y })):=mH (by rw [HS.o,if_pos (qGl hq)]);clear hq;go_wp2_with fail;refine(qNU p oM oM oM e.cab.key _ _ _ W5 (HA.o.1.below HE5.o.bel)).mono ?_;rintro r W6 ⟨v0,v1,v2,rfl,hv0,hv1,hv2,hb6⟩;have HE6:=mH (HE5.o.next hb6);obtain⟨a0,n0,c0,rfl⟩:=hv0.form3;obtain⟨a1,n1,c1,rfl⟩:=hv1.form3;obtain⟨a2,n2,c2,rfl⟩:=hv2.form3;clear hb6 HE5 e6 t0 t1 t2 r0 r1 r2 f0 f1 f2 o0 o1 o2 g0 g1 g2 hl0 hl1 hl2 hl3;have t0:=HE6.o.pl.cell 0 _ rfl;have t1:=HE6.o.pl.cell 1 _ rfl;have t2:=HE6.o.pl.cell 2 _ rfl;have r0:=HE6.o.rs.cell 0 _ rfl;have r1:=HE6.o.rs.cell 1 _ rfl;have r2:=HE6.o.rs.cell 2 _ rfl;have f0:=HE6.o.rs.free 0;have f1:=HE6.o.rs.free 1;have f2:=HE6.o.rs.free 2;have hl0:=HE6.o.pl.lt;have hl1:=HE6.o.en.lt;have hl2:=HE6.o.rs.lt;have hl3:=HE6.o.ou.lt;have o0:=HE6.o.ou.cell 0 _ rfl;have o1:=HE6.o.ou.cell 1 _ rfl;have o2:=HE6.o.ou.cell 2 _ rfl;have g0:=HE6.o.ou.free 0;have g1:=HE6.o.ou.free 1;have g2:=HE6.o.ou.free 2;go_wp2_with fail;have H7:=mH (((HE6.o.put0 (.slice a0 n0 c0)).put1 (.slice a1 n1 c1)).put2 (.slice a2 n2 c2));have hnn:∀r,(r:Nat)=w.heap.size+3→r<W5.heap.size+3:=λr h=>by omega
 have HB2:∀r,F2 F w.heap.size r→r<W5.heap.size+3:=λr h=>by have:=HB.o r h;omega
 have HM:=mH (aI (qFg (((hv0.setNe (c:=w.heap.size+3) (λh=>by have:=(hv0.lt _ h).1;omega) 0 (.slice a0 n0 c0)).setNe (c:=w.heap.size+3) (λh=>by have:=(hv0.lt _ h).1;omega) 1 (.slice a1 n1 c1)).setNe (c:=w.heap.size+3) (λh=>by have:=(hv0.lt _ h).1;omega) 2 (.slice a2 n2 c2)) HB2) (aI (qFg (((hv1.setNe (c:=w.heap.size+3) (λh=>by have:=(hv1.lt _ h).1;omega) 0 (.slice a0 n0 c0)).setNe (c:=w.heap.size+3) (λh=>by have:=(hv1.lt _ h).1;omega) 1 (.slice a1 n1 c1)).setNe (c:=w.heap.size+3) (λh=>by have:=(hv1.lt _ h).1;omega) 2 (.slice a2 n2 c2)) HB2) (qFg (((hv2.setNe (c:=w.heap.size+3) (λh=>by have:=(hv2.lt _ h).1;omega) 0 (.slice a0 n0 c0)).setNe (c:=w.heap.size+3) (λh=>by have:=(hv2.lt _ h).1;omega) 1 (.slice a1 n1 c1)).setNe (c:=w.heap.size+3) (λh=>by have:=(hv2.lt _ h).1;omega) 2 (.slice a2 n2 c2)) HB2)));generalize ((W6.setCell ⟨w.heap.size+3,0,none⟩ (.slice a0 n0 c0)).setCell ⟨w.heap.size+3,1,none⟩ (.slice a1 n1 c1)).setCell ⟨w.heap.size+3,2,none⟩ (.slice a2 n2 c2)=W7 at *;clear HE6 hv0 hv1 hv2 HB2 hnn t0 t1 t2 r0 r1 r2 f0 f1 f2 o0 o1 o2 g0 g1 g2 hl0 hl1 hl2 hl3;have t0:=H7.o.pl.cell 0 _ rfl;have t1:=H7.o.pl.cell 1 _ rfl;have t2:=H7.o.pl.cell 2 _ rfl;have r0:=H7.o.rs.cell 0 _ rfl;have r1:=H7.o.rs.cell 1 _ rfl;have r2:=H7.o.rs.cell 2 _ rfl;have f0:=H7.o.rs.free 0;have f1:=H7.o.rs.free 1;have f2:=H7.o.rs.free 2;have hl0:=H7.o.pl.lt;have hl1:=H7.o.en.lt;have hl2:=H7.o.rs.lt;have hl3:=H7.o.ou.lt;have o0:=H7.o.ou.cell 0 _ rfl;have o1:=H7.o.ou.cell 1 _ rfl;have o2:=H7.o.ou.cell 2 _ rfl;have g0:=H7.o.ou.free 0;have g1:=H7.o.ou.free 1;have g2:=H7.o.ou.free 2
 have HF:Hx (qAg p.S (p.C.filter λc=>!decide (c.key=e.cab.key)) (p.X.filter λs=>!qAL e.cab.key s)=0):=mH (qM4 (qJr HA.o.2.1 _) (by show p.S.length≤100;omega) (by show(List.filter _ _).length≤100;exact Nat.le_trans (List.length_filter_le _ _) oM) (by show(List.filter _ _).length≤100;exact Nat.le_trans (List.length_filter_le _ _) oM));go_wp2_with fail;refine(qEV ⟨p.S,(p.C.filter λc=>!decide (c.key=e.cab.key)),(p.X.filter λs=>!qAL e.cab.key s)⟩ (by show p.S.length≤100;omega) (Nat.le_trans (List.length_filter_le _ _) oM) (Nat.le_trans (List.length_filter_le _ _) oM) (λy hy=>HA.o.2.2.1 y (List.mem_filter.1 hy).1) _ _ _ W7 ⟨HM.o.1.arr,HM.o.2.1.arr,HM.o.2.2.arr⟩).mono ?_;rintro r W9 ⟨hr9,hb9⟩;rw [HF.o] at hr9;subst hr9;have HE9:=mH (H7.o.next hb9);have HM9:=mH (aI (HM.o.1.next hb9) (aI (HM.o.2.1.next hb9) (HM.o.2.2.next hb9)));clear hb9 HM H7 t0 t1 t2 r0 r1 r2 f0 f1 f2 o0 o1 o2 g0 g1 g2 hl0 hl1 hl2 hl3;have t0:=HE9.o.pl.cell 0 _ rfl;have t1:=HE9.o.pl.cell 1 _ rfl;have t2:=HE9.o.pl.cell 2 _ rfl;have r0:=HE9.o.rs.cell 0 _ rfl;have r1:=HE9.o.rs.cell 1 _ rfl;have r2:=HE9.o.rs.cell 2 _ rfl;have f0:=HE9.o.rs.free 0;have f1:=HE9.o.rs.free 1;have f2:=HE9.o.rs.free 2;have hl0:=HE9.o.pl.lt;have hl1:=HE9.o.en.lt;have hl2:=HE9.o.rs.lt;have hl3:=HE9.o.ou.lt;have o0:=HE9.o.ou.cell 0 _ rfl;have o1:=HE9.o.ou.cell 1 _ rfl;have o2:=HE9.o.ou.cell 2 _ rfl;have g0:=HE9.o.ou.free 0;have g1:=HE9.o.ou.free 1;have g2:=HE9.o.ou.free 2;go_wp2
 (refine bodyPost_ret (v:=.tuple #[.agg #[.slice a0 n0 c0,.slice a1 n1 c1,.slice a2 n2 c2],.int .i64 0]) ?_ rfl ?_;(· exact qF rfl _ _ (w.heap.size+2) 69 #[.slice a0 n0 c0,.slice a1 n1 c1,.slice a2 n2 c2] _ (0,0) _ rfl rfl (qC.fill3 HE9.o.rs) underlying69 rfl kR))
 rw [HV.o];exact⟨_,_,_,rfl,qHz HM9.o.1 HM9.o.2.1 HM9.o.2.2 _ _ _,Below.fill3 HE9.o.bel oM _ _ _⟩
theorem qId (p:Pl) (e:qD) (hp:jS p) (hs:p.S.length<19) (hc:p.C.length<19) (hx:p.X.length<19) (hok:∀x∈p.X,jF x) (hoe:jF e.spc) (F:Nat→Prop) (vS vC vX:Value) (w:World) (hF:∀r,F r→r<w.heap.size) (hPF:PlF F w vS vC vX p):Calls prog 171 #[.agg #[vS,vC,vX],.agg ↑e] w (EtP F (zV p e) w):=by
 by_cases k1:e.kind=1
 ·exact qOx p e hp hs hc hx hok hoe F vS vC vX w hF hPF k1
 by_cases k2:e.kind=2
 ·exact qP8 p e hp hs hc hx hok hoe F vS vC vX w hF hPF k2
 by_cases k3:e.kind=3
 ·exact qOw p e hp hs hc hx hok hoe F vS vC vX w hF hPF k3
 by_cases k4:e.kind=4
 ·exact qP9 p e hp hs hc hx hok hoe F vS vC vX w hF hPF k4
 ·exact qMZ p e hp hs hc hx hok hoe F vS vC vX w hF hPF k1 k2 k3 k4
theorem qSS:(prog.info? 3).map (λi=>(i.zero,i.size,i.bytes))=some (some (.int .i64 0),1,8):=by kernel_rfl
def qEp (p:Pl) (key:ByteArray) (f:qQ):Bool:=decide (f.cable=key) && !(p.X.any λs=>decide (s.x=f∨s.y=f))
def qAl (p:Pl) (key:ByteArray) (L:List qQ):List Int:=(L.filter (qEp p key)).map (·.no)
theorem qPX {p:Pl} {key:ByteArray} {L:List qQ} {k:Nat} (hk:k<L.length):qAl p key (L.take (k+1))=qAl p key (L.take k)++if qEp p key L[k]=true then [L[k].no] else []:=by
 unfold qAl;rw [List.take_succ_eq_append_getElem hk,List.filter_append,List.map_append]
 congr 1
 by_cases h:qEp p key L[k]=true
 ·rw [if_pos h,List.filter_cons_of_pos h];rfl
 ·rw [if_neg h,List.filter_cons_of_neg h];rfl
theorem qQi (p:Pl) (key:ByteArray) (L:List qQ):(qAl p key L).length≤L.length:=by
 unfold qAl;rw [List.length_map];exact List.length_filter_le _ _
theorem qN4 (p:Pl) (hC:p.C.length≤100) (hf:∀c∈p.C,0≤c.fibs∧c.fibs≤144) (key:ByteArray) (b:Nat) (vS vC vX:Value) (w:World) (hA:qAN w vS vC vX p.S p.C p.X) (hb:qC w b #[vS,vC,vX] 69) :
  Calls prog 165 #[.agg #[vS,vC,vX],.string key,.func (.func 166) #[] #[.pointer (some ⟨b,0,none⟩)]] w
  λe w'=>∃v,e=.returned v∧w'.ownsRow w.heap.size 3 1 v (qAl p key (qC3 p.C)).length ((qAl p key (qC3 p.C)).map (Value.int .i64))∧Below w.heap.size w w':=by
 obtain⟨i0,hi,hz0,hz1,hz2⟩:=info_parts qSS;obtain⟨aS,nS,capS,hfS⟩:=jD hA.s;obtain⟨aC,nC,capC,hfC⟩:=jD hA.c;obtain⟨aX,nX,capX,hfX⟩:=jD hA.x;subst hfS;subst hfC;subst hfX;have hBa:Below w.heap.size w (w.alloc (.cells #[.slice aS nS capS,.slice aC nC capC,.slice aX nX capX] 69)):=qB bR _ lR;have hrun:=qAB func166 kR rfl;have hlf:=qMw (λc hc=>(hf c hc).2) p.C.length;rw [List.take_length] at hlf;have HA:=mH (aI hA (aI hb (aI hBa hf)));clear hA hb hBa hf;go_enter func165,ntmps165;go_wp2_with fail;refine(qNg p hC HA.o.2.2.2 _ _ _ _ (HA.o.1.below HA.o.2.2.1)).mono ?_;rintro e W3 ⟨vL,rfl,ho,hb3⟩;have hB3:=HA.o.2.2.1.trans (hb3.mono HA.o.2.2.1.size);obtain⟨L,hL⟩:=eX (qC3 p.C);rw [hL] at ho hlf;have hAL:=(zG.of_own (cells:=qQ.cells) (λ_=>rfl) ho).arr;obtain⟨aL,capL,rfl,-,-,hcL⟩:=id hAL;have hL2:Hx (qC3 p.C=L):=mH hL;have H3:=mH (aI hB3 hcL);clear ho hb3 hB3 hAL hcL hL;go_wp2_with fail;go_loopw [7,13] (λov iv wr=>∃k:Nat,k≤L.length∧iv=.int .i64 k∧wr.ownsRow W3.heap.size 3 1 ov (qAl p key (L.take k)).length ((qAl p key (L.take k)).map (Value.int .i64))∧Below W3.heap.size W3 wr) (λov iv _=>L.length - (intOf iv).toNat)
 case atStart=>exact⟨0,by omega,rfl,World.ownsRow_nil _ _ _ _,Below.refl _ _⟩
 case round =>
  obtain⟨k,hk,rfl,ho,hB⟩:=hrel;obtain⟨ao,co,hvo⟩:=jO ho;subst hvo
  by_cases hlt:k<L.length
  rotate_left
  ·obtain rfl:k=L.length:=by omega
   have HB:=mH (aI ho hB);clear ho hB;go_wp2;go_ret;rw [hL2.o];exact⟨.slice ao (qAl p key (L.take L.length)).length co,rfl,by have:=qAm (b':=w.heap.size) HB.o.1 H3.o.1.size;simpa only [List.take_length] using this,H3.o.1.trans (HB.o.2.mono H3.o.1.size)⟩
  have hsu:=qPX (p:=p) (key:=key) hlt;have hln:(qAl p key (L.take k)).length≤14400:=Nat.le_trans (qQi _ _ _) (by rw [List.length_take];omega);obtain⟨K,hK⟩:=eX (qAl p key (L.take k));rw [hK] at ho hsu hln ⊢;obtain⟨b2,off,rfl,hb2,hcc⟩:=H3.o.2 k hlt;have c0:=(hB.cell (p:=⟨b2,_,none⟩) hb2).trans (hcc 0 _ rfl);have c1:=(hB.cell (p:=⟨b2,_,none⟩) hb2).trans (hcc 1 _ rfl);have hk':(k:Int)<L.length:=by omega
  rw [Nat.add_zero] at c0;generalize L[k]=f at *;have hB1:Below W3.heap.size W3 (wr.alloc (.cells ↑f 77)):=qB hB _ hB.size;have hBw:=H3.o.1.trans (hB1.mono H3.o.1.size);have hbp:=HA.o.2.1.below hBw HA.o.2.1.lt;have hax:=(HA.o.1.below hBw).x;have hcall:=qQ3 p f b _ _ _ _ hbp hax;have HB:=mH (aI ho (aI hB hsu));clear ho hB hcc hsu hK hbp hax hBw hB1
  by_cases hc:f.cable=key
  rotate_left
  ·have e1:(f.cable.toList==key.toList)=false:=qAZ hc;have hq:qEp p key f=false:=by unfold qEp;simp [hc]
   have HS:Hx (qAl p key (L.take (k+1))=K):=mH (by rw [HB.o.2.2,if_neg (by rw [hq];simp),List.append_nil]);clear hc hq hcall;go_wp2;refine⟨⟨k+1,by omega,by go_num,?_,qB HB.o.2.1 _ HB.o.2.1.size⟩,by simp [intOf];omega⟩;rw [HS.o];exact HB.o.1.alloc _
  have e1:(f.cable.toList==key.toList)=true:=by rw [hc];simp
  obtain⟨r,hr⟩:=eX ((!(p.X.any λs=>decide (s.x=f∨s.y=f))));have hq:qEp p key f=r:=by unfold qEp;rw [hr];simp [hc]
  rw [hr] at hcall;have HQ:=mH hq;clear hc hq hr;go_wp2_with fail;refine hcall.mono ?_;rintro e w4 ⟨rfl,hb4⟩;clear hcall;have hz4:=hb4.size;simp only [World.size_alloc] at hz4;have ho4:=qAv (HB.o.1.alloc (.cells ↑f 77)) hb4;have hB4:Below W3.heap.size W3 w4:=(qB HB.o.2.1 (.cells ↑f 77) HB.o.2.1.size).trans (hb4.mono (by have:=HB.o.2.1.size;simp;omega));have hbf:=(qC.new wr ↑f 77).below hb4 sI;have d0:=hbf.cell 0 (.string f.cable) rfl;have d1:=hbf.cell 1 (.int .i64 f.no) rfl;have hlf4:=hbf.lt;have H4:=mH (aI ho4 hB4);have hz34:=hB4.size;clear ho4 hB4 hb4 hbf c0 c1
  cases r
  ·have HS:Hx (qAl p key (L.take (k+1))=K):=mH (by rw [HB.o.2.2,if_neg (by rw [HQ.o];simp),List.append_nil]);go_wp2;refine⟨⟨k+1,by omega,by go_num,?_,H4.o.2⟩,by simp [intOf];omega⟩;rw [HS.o];exact H4.o.1
  ·have HS:Hx (qAl p key (L.take (k+1))=K++[f.no]):=mH (by rw [HB.o.2.2,if_pos HQ.o]);go_wp2_with ((at_builtin;go_must (refine wpList_append_own _ rfl _ _ 22 rfl _ 3 _ (.int .i64 0) 1 8 underlying22 hi hz0 hz1 hz2 rfl dE _ _ _ rfl (H4.o.1.alloc _) ⟨w4.heap.size,0,none⟩ 1 1 [.int .i64 f.no] rfl rfl (by exact qBC (by first|rfl|simp) rF) (by simp [Value.oneCell']) (by unfold maxLen;omega) oM szq ?_));intro v' w5 hown5 hg5 _);refine⟨⟨k+1,by omega,by go_num,?_,jG (H4.o.2.trans (qB bR _ oM)) (H4.o.1.alloc _) hg5 oM (by simp;omega)⟩,by simp [intOf];omega⟩;rw [HS.o,List.length_append,List.map_append];exact hown5
theorem qH7 (p:Pl) (key:ByteArray) (A B:List qQ):qAl p key (A++B)=qAl p key A++qAl p key B:=by
 unfold qAl;rw [List.filter_append,List.map_append]
theorem qHG {p:Pl} {key:ByteArray}:∀{A:List qG},(∀c∈A,c.key≠key)→qAl p key (qC3 A)=[]
 | [],_=>rfl
 | c::A,h=>by
  have ih:=qHG (p:=p) (A:=A) λy hy=>h y (List.mem_cons_of_mem _ hy)
  have h1:qAl p key (qCg c c.fibs.toNat)=[]:=by
   unfold qAl;have:(qCg c c.fibs.toNat).filter (qEp p key)=[]:=by
    rw [List.filter_eq_nil_iff];intro f hf;obtain⟨n,_,rfl⟩:=List.mem_map.1 hf;unfold qEp;simp [h c (List.mem_cons_self ..)]
   rw [this];rfl
  show qAl p key (qCg c c.fibs.toNat++qC3 A)=[]
  rw [qH7,h1,ih];rfl
theorem qQx (p:Pl) (c:qG):qAl p c.key (qCg c c.fibs.toNat)=qBK p c:=by
 unfold qAl qCg qBK;rw [List.filter_map,List.map_map,List.filter_map]
 congr 1
 refine List.filter_congr λn _=>?_
 simp [qEp]
theorem qSE {p:Pl} (hp:jS p) {key:ByteArray} {c:qG} (hc:qY p.C key=some c):qAl p key (qC3 p.C)=qBK p c:=by
 obtain⟨hk,A,B,hAB,hA⟩:=List.find?_eq_some_iff_append.1 hc;have hk':c.key=key:=by simpa using hk
 have hAk:∀y∈A,y.key≠key:=λy hy=>by simpa using hA y hy
 have hBk:∀y∈B,y.key≠key:=λy hy e=>by
  have h1:=hp.c1;rw [hAB] at h1;have h2:=(List.pairwise_cons.1 (List.pairwise_append.1 h1).2.1).1 y hy;have h3:qAS c.key y.key<0:=h2;rw [e,hk',(qA5 key key).2 rfl] at h3;omega
 rw [hAB]
 show qAl p key ((A++c::B).flatMap λc=>qCg c c.fibs.toNat)=_
 rw [List.flatMap_append,List.flatMap_cons,qH7,qH7];have e1:=qHG (p:=p) hAk;have e2:=qHG (p:=p) hBk;unfold qC3 at e1 e2;rw [e1,e2,List.append_nil,List.nil_append,←hk',qQx]
theorem qON (p:Pl) (hC:p.C.length≤100) (hf:∀c∈p.C,0≤c.fibs∧c.fibs≤144) (key:ByteArray) (vS vC vX:Value) (w:World) (hA:qAN w vS vC vX p.S p.C p.X):Calls prog 112 #[.agg #[vS,vC,vX],.string key] w
  λe w'=>∃v,e=.returned v∧w'.ownsRow w.heap.size 3 1 v (qAl p key (qC3 p.C)).length ((qAl p key (qC3 p.C)).map (Value.int .i64))∧Below w.heap.size w w':=by
 obtain⟨aS,nS,capS,hfS⟩:=jD hA.s;obtain⟨aC,nC,capC,hfC⟩:=jD hA.c;obtain⟨aX,nX,capX,hfX⟩:=jD hA.x;subst hfS;subst hfC;subst hfX;have hBa:Below w.heap.size w (w.alloc (.cells #[.slice aS nS capS,.slice aC nC capC,.slice aX nX capX] 69)):=qB bR _ lR;have hb:qC (w.alloc (.cells #[.slice aS nS capS,.slice aC nC capC,.slice aX nX capX] 69)) w.heap.size #[.slice aS nS capS,.slice aC nC capC,.slice aX nX capX] 69:=qC.new _ _ _;have HA:=mH (aI (hA.below hBa) (aI hb (aI hBa hf)));clear hA hb hBa hf;go_enter func112,ntmps112;go_wp2_with fail;refine(qN4 p hC HA.o.2.2.2 key w.heap.size _ _ _ _ HA.o.1 HA.o.2.1).mono ?_;rintro e W3 ⟨v,rfl,ho,hb3⟩;obtain⟨a,c,rfl⟩:=jO ho;have H3:=mH (aI (qAm ho HA.o.2.2.1.size) (HA.o.2.2.1.trans (hb3.mono HA.o.2.2.1.size)));clear ho hb3;go_wp2;go_ret;exact⟨_,rfl,H3.o.1,H3.o.2⟩
theorem qPj (at_:Int):zB [] at_=Pl.nil:=by
 unfold zB ixL qFY qJZ
 rfl
theorem qC4 {E:List qD} {at_:Int} (hE:qBg E) (hl:E.length≤100):jS (zB E at_)∧(zB E at_).S.length≤100∧(zB E at_).C.length≤100∧(zB E at_).X.length≤100:=by
 have h1:(ixL E at_).length≤E.length:=by
  rw [(qJB hE.asc at_).1.length_eq];unfold qFY;refine Nat.le_trans (List.length_filter_le _ _) ?_;simp
 obtain⟨q1,q2,q3,q4⟩:=qJY E (ixL E at_) oM;exact⟨q1,by show(jU E (ixL E at_)).1.S.length≤100;omega,by show(jU E (ixL E at_)).1.C.length≤100;omega,by show(jU E (ixL E at_)).1.X.length≤100;omega⟩
theorem qEr (E:List qD) (v:Value) (at_:Int) (w:World) (hA:qI qD.cells 17 w E v) (hE:qBg E) (hl:E.length≤100) (hW:∀y∈E,qB2 y):Calls prog 46 #[v,.int .i64 at_,.func (.func 47) #[] #[]] w
  λe w'=>∃gb nn,e=.returned (.pointer (some ⟨gb,0,none⟩))∧qAe w.heap.size w' w' gb nn (zB E at_)∧Below w.heap.size w w':=by
 rcases Nat.eq_zero_or_pos E.length with h0|h0
 ·obtain rfl:=List.length_eq_zero_iff.1 h0;obtain⟨a,cap,rfl,_,hm,_⟩:=hA;refine(qPJ a cap hm at_ _ #[] w).mono ?_;rintro e w' ⟨gb,rfl,h1,h2⟩;exact⟨gb,0,rfl,by rw [qPj];exact h1,h2⟩
 ·refine(qJs E v at_ 47 #[] w hA h0 hl (λy hy=>⟨hW y hy,(qDI (hE.ok y hy)).1.kind⟩) (λ_ _ W=>Below w.heap.size w W) (λL W hb=>hb) (λL hp ha=>?_)).mono ?_
  ·refine⟨qAB func47 kR rfl,λk W W' h hb=>h.trans hb,λk W h=>hA.below h,λk hk W h=>?_⟩;refine(qOv _ _ W).mono ?_;rintro e W' ⟨rfl,rfl⟩;exact⟨rfl,h,none,(λb hb=>by cases hb),qCE _ _⟩
  ·rintro e w' ⟨gb,nn,L,k,rfl,hp,ha,hk,hnn,h1,h2,hgr,hJ⟩;have hix:=qNq hE.asc hp ha hk h1 h2;refine⟨gb,nn,rfl,?_,hJ⟩;have:qBH E L k=zB E at_:=by rw [qHq,hix];rfl
   rw [←this];exact hgr
theorem qAe.read {base gb nn:Nat} {wf w:World} {p:Pl} (h:qAe base wf w gb nn p):∃vS vC vX,w.cell? ⟨gb,0,none⟩=some vS∧w.cell? ⟨gb,1,none⟩=some vC∧w.cell? ⟨gb,2,none⟩=some vX∧qAN w vS vC vX p.S p.C p.X∧gb<w.heap.size∧∀(w':World) (r:Nat),w.grownBy w' (some r)→r<base→qAN w' vS vC vX p.S p.C p.X:=by
 obtain⟨u,h⟩:=h;exact⟨u.vS,u.vC,u.vX,h.blk.cell 0 _ rfl,h.blk.cell 1 _ rfl,h.blk.cell 2 _ rfl,⟨qI.of_own qJ.cells_len h.oS,qI.of_own qG.cells_len h.oC,qI.of_own qE.cells_len h.oX⟩,h.blk.lt,λw' r hg hr=>by
  have k:=h.kept hg (λb hb=>by have:=Option.some.inj hb;omega);exact⟨qI.of_own qJ.cells_len k.oS,qI.of_own qG.cells_len k.oC,qI.of_own qE.cells_len k.oX⟩⟩
end Go.Proofs.YtbgnlfgkgklkdaaGreatDoor
