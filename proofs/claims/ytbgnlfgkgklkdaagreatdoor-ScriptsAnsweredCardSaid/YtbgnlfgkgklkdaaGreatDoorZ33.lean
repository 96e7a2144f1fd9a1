/- Parts of the proof of ScriptsAnswered: PlainTx, PlainTy, SuM, SuB. No condition. -/
import Derived.Test.YtbgnlfgkgklkdaaGreatDoorZ7
import Derived.Test.YtbgnlfgkgklkdaaGreatDoorZ14
set_option linter.unusedVariables false
set_option linter.unusedSimpArgs false
set_option maxHeartbeats 8000000
set_option maxRecDepth 100000
namespace Go.Proofs.YtbgnlfgkgklkdaaGreatDoor
open Go Go.RowKit Tryz
def qSl:List UInt8:=[100,114,111,112]
def qNp (l:List UInt8):Option qBJ:=match qB4 32 l with
 | [a,k,n,p,o]=>if a=qUD∧k≠[]∧p≠[] then (jH 15 n).bind λn=>(jH 15 o).map λo=>⟨bA k,n,if p=[45] then bA [] else bA p,o⟩ else none
 | _=>none
def qPv (l:List UInt8):Option Drp:=match qB4 32 l with
 | [a,c,s,o]=>if a=qSl∧c≠[]∧s≠[] then (jH 15 o).map λo=>⟨bA c,bA s,o⟩ else none
 | _=>none
def qNz (l:List UInt8):Bool:=match qB4 32 l with
 | [a,c,s,o]=>decide (a=qSl∧c≠[]∧s≠[]∧o≠[])
 | _=>false
def qTX (done:List (List UInt8)) (l:List UInt8):Bool:=((qNp l).isSome && done.all λx=>!qNz x) || (qPv l).isSome
def qUY (done:List (List UInt8)):Prop:=∀k (hk:k<done.length),qTX (done.take k) done[k]=true
structure qUi (done:List (List UInt8)) (xs:List qBJ) (ys:List Drp):Prop where
 lx:xs.length≤done.length
 ly:ys.length≤done.length
 no:ys.length=0↔(done.all λx=>!qNz x)=true
 ok:qUY done→xs=done.filterMap qNp∧ys=done.filterMap qPv
def qA9 (s:ByteArray):Prop:=(10:UInt8) ∉ s.data.toList
theorem qA9.app {a b:ByteArray} (ha:qA9 a) (hb:qA9 b):qA9 (a++b):=by
 unfold qA9 at *;rw [ByteArray.data_append,Array.toList_append,List.mem_append];rintro (h|h)
 ·exact ha h
 ·exact hb h
theorem qA9.cut {t:ByteArray} (h:qA9 t) (i j:Nat):qA9 (t.extract i j):=by
 unfold qA9 at *;rw [ByteArray.data_extract,Array.toList_extract,List.extract_eq_take_drop];exact λhm=>h (List.mem_of_mem_drop (List.mem_of_mem_take hm))
def qUA (n:Nat) (v:Value) (_:World):Prop:=∃t:ByteArray,v=.string t∧t.size≤n∧qA9 t
def qPH (n:Nat) (t:ByteArray):Bool:=decide (t.size≤n) && !t.data.toList.contains 10
def qBP (n:Nat) (t:ByteArray):Prop:=t.size≤n∧qA9 t
theorem qIN {n:Nat} {t:ByteArray} (h:qPH n t=true):qBP n t:=by
 unfold qPH at h;simp only [Bool.and_eq_true,decide_eq_true_eq,Bool.not_eq_true',List.contains_eq_mem,decide_eq_false_iff_not] at h;exact h
theorem qBP.cat {n m:Nat} {a b:ByteArray} (ha:qBP n a) (hb:qBP m b):qBP (n+m) (a++b):=⟨by rw [ByteArray.size_append];have:=ha.1;have:=hb.1;omega,ha.2.app hb.2⟩
theorem qBP.mono {n m:Nat} {a:ByteArray} (ha:qBP n a) (h:n≤m):qBP m a:=⟨Nat.le_trans ha.1 h,ha.2⟩
theorem qLG (z:Int):(Utf8.encode z).size≤4:=by
 unfold Utf8.encode;dsimp only
 repeat' split
 all_goals (show Array.size _≤4;simp)
theorem qMe (s m:Nat) (t w':ByteArray) (w:World) (h:jT w s m) (hm:m≤1000000) (ht:t.size≤100000) (hw:w'.size≤100) (hn:qA9 t) (hv:qA9 w') (he:∀j (hj:j<w'.size),qA9 (Utf8.encode (IntKind.i32.wrap (w'[j].toNat:Int)))):Calls prog 17 #[.pointer (some ⟨s,0,none⟩),.string t,.string w'] w
  (qIw (qUA (t.size+w'.size+4)) s m 3 w):=by
 have HS:=mH h;have HN:=mH (aI hn (aI hv he));clear h hn hv he
 by_cases h0:t.size=0
 ·have hE:t.toList.isEmpty=true:=by rw [qAs];simp [h0]
  clear h0;go_enter func17,ntmps17;go_wp2;go_ret;exact⟨_,rfl,⟨w',rfl,by omega,HN.o.2.1⟩,HS.o.mono oM,qH _ bR⟩
 have hE:t.toList.isEmpty=false:=by rw [qAs];simp [h0]
 by_cases h1:w'.size=0
 ·have hF:w'.toList.isEmpty=true:=by rw [qAs];simp [h1]
  clear h0 h1;go_enter func17,ntmps17;go_wp2;go_ret;exact⟨_,rfl,⟨w',rfl,by omega,HN.o.2.1⟩,HS.o.mono oM,qH _ bR⟩
 have hF:w'.toList.isEmpty=false:=by rw [qAs];simp [h1]
 go_enter func17,ntmps17;go_wp2_with fail;refine(qD5 s m _ _ HS.o oM oM oM).mono ?_;rintro e w1 ⟨v,rfl,⟨r,rfl,z0,z1⟩,hs1,hg1⟩;obtain⟨i,rfl⟩:=Int.eq_ofNat_of_zero_le z0;have hil:i<t.size:=by omega
 have hile:i≤t.size:=by omega
 have hil1:i+1≤t.size:=by omega
 have hwi:IntKind.i64.wrap ((i:Int)+1)=(i:Int)+1:=IntWalk.i64_in _ oM;have hi1:(0:Int)≤(i:Int)+1:=by omega
 have hi2:(i:Int)+1≤(t.size:Int):=by omega
 have hi3:((i:Int)+1).toNat=i+1:=by omega
 have hi4:(i:Int)≤(t.size:Int):=by omega
 have H1:=mH (aI hs1 hg1);clear hs1 hg1;go_wp2_with fail;refine(qD5 s (m+1) _ _ H1.o.1 oM oM oM).mono ?_;rintro e w2 ⟨v,rfl,⟨r,rfl,y0,y1⟩,hs2,hg2⟩;obtain⟨j,rfl⟩:=Int.eq_ofNat_of_zero_le y0;have hjl:j<w'.size:=by omega
 have H2:=mH (aI hs2 (qK H1.o.2 hg2));clear hs2 hg2;go_wp2_with fail;refine(qD5 s (m+2) _ _ H2.o.1 oM oM oM).mono ?_;rintro e w3 ⟨v,rfl,⟨r,rfl,x0,x1⟩,hs3,hg3⟩;have H3:=mH (aI hs3 (qK H2.o.2 hg3));clear hs3 hg3
 rcases (show r=0∨r=1∨r=2 by omega) with rfl|rfl|rfl
 ·go_wp2_with fail;refine qA.start (λ_=>True) [] kR ?_
  (refine qA.q 0 ?_)
  (refine qA.q 1 ?_)
  (refine qA.q 2 ?_)
  (refine qA.q 3 ?_)
  (refine qA.q 4 ?_)
  (refine qA.q 5 ?_)
  (obtain⟨E,hE'⟩:∃E,E=Utf8.encode (IntKind.i32.wrap (w'[j].toNat:Int)):=⟨_,rfl⟩;have hEs:E.size≤4:=(by rw [hE'];exact qLG _);have HEn:Hx (qA9 E):=mH (by rw [hE'];exact HN.o.2.2 j hjl);rw [←hE'];clear hE')
  (obtain⟨A,hA⟩:∃A,A=t.extract 0 i:=⟨_,rfl⟩;have hAs:A.size≤i:=(by rw [hA,ByteArray.size_extract];omega);have HA:Hx (qA9 A):=mH (by rw [hA];exact HN.o.1.cut _ _);rw [←hA];clear hA)
  have a1:¬9223372036854775807<A.size+E.size:=by omega
  (refine qA.q 6 ?_)
  (obtain⟨B,hB⟩:∃B,B=A++E:=⟨_,rfl⟩;have hBs:B.size≤i+4:=(by rw [hB,ByteArray.size_append];omega);have HB:Hx (qA9 B):=mH (by rw [hB];exact HA.o.app HEn.o);rw [←hB];clear hB a1)
  (refine qA.q 7 ?_)
  (refine qA.q 8 ?_)
  (refine qA.q 9 ?_)
  (refine qA.q 10 ?_)
  (obtain⟨C,hC⟩:∃C,C=t.extract (i+1) t.size:=⟨_,rfl⟩;have hCs:C.size≤t.size - (i+1):=(by rw [hC,ByteArray.size_extract];omega);have HC:Hx (qA9 C):=mH (by rw [hC];exact HN.o.1.cut _ _);rw [←hC];clear hC)
  have a2:¬9223372036854775807<B.size+C.size:=by omega
  (refine qA.q 11 ?_)
  (refine qA.q 12 ?_)
  refine qA.done kR ?_;go_wp2;go_ret;exact⟨_,rfl,⟨B++C,rfl,by rw [ByteArray.size_append];omega,HB.o.app HC.o⟩,H3.o.1,qBz H3.o.2⟩
 ·go_wp2_with fail;refine qA.start (λ_=>True) [] kR ?_
  (refine qA.q 0 ?_)
  (refine qA.q 1 ?_)
  (refine qA.q 2 ?_)
  (refine qA.q 3 ?_)
  (refine qA.q 4 ?_)
  (refine qA.q 5 ?_)
  (obtain⟨E,hE'⟩:∃E,E=Utf8.encode (IntKind.i32.wrap (w'[j].toNat:Int)):=⟨_,rfl⟩;have hEs:E.size≤4:=(by rw [hE'];exact qLG _);have HEn:Hx (qA9 E):=mH (by rw [hE'];exact HN.o.2.2 j hjl);rw [←hE'];clear hE')
  (obtain⟨A,hA⟩:∃A,A=t.extract 0 i:=⟨_,rfl⟩;have hAs:A.size≤i:=(by rw [hA,ByteArray.size_extract];omega);have HA:Hx (qA9 A):=mH (by rw [hA];exact HN.o.1.cut _ _);rw [←hA];clear hA)
  have a1:¬9223372036854775807<A.size+E.size:=by omega
  (refine qA.q 6 ?_)
  (obtain⟨B,hB⟩:∃B,B=A++E:=⟨_,rfl⟩;have hBs:B.size≤i+4:=(by rw [hB,ByteArray.size_append];omega);have HB:Hx (qA9 B):=mH (by rw [hB];exact HA.o.app HEn.o);rw [←hB];clear hB a1)
  (refine qA.q 7 ?_)
  (refine qA.q 8 ?_)
  (refine qA.q 9 ?_)
  (obtain⟨C,hC⟩:∃C,C=t.extract i t.size:=⟨_,rfl⟩;have hCs:C.size≤t.size - i:=(by rw [hC,ByteArray.size_extract];omega);have HC:Hx (qA9 C):=mH (by rw [hC];exact HN.o.1.cut _ _);rw [←hC];clear hC)
  have a2:¬9223372036854775807<B.size+C.size:=by omega
  (refine qA.q 10 ?_)
  (refine qA.q 11 ?_)
  refine qA.done kR ?_;go_wp2;go_ret;exact⟨_,rfl,⟨B++C,rfl,by rw [ByteArray.size_append];omega,HB.o.app HC.o⟩,H3.o.1,qBz H3.o.2⟩
 ·go_wp2_with fail;refine qA.start (λ_=>True) [] kR ?_
  (refine qA.q 0 ?_)
  (refine qA.q 1 ?_)
  (refine qA.q 2 ?_)
  (obtain⟨A,hA⟩:∃A,A=t.extract 0 i:=⟨_,rfl⟩;have hAs:A.size≤i:=(by rw [hA,ByteArray.size_extract];omega);have HA:Hx (qA9 A):=mH (by rw [hA];exact HN.o.1.cut _ _);rw [←hA];clear hA)
  (refine qA.q 3 ?_)
  (refine qA.q 4 ?_)
  (refine qA.q 5 ?_)
  (refine qA.q 6 ?_)
  (obtain⟨C,hC⟩:∃C,C=t.extract (i+1) t.size:=⟨_,rfl⟩;have hCs:C.size≤t.size - (i+1):=(by rw [hC,ByteArray.size_extract];omega);have HC:Hx (qA9 C):=mH (by rw [hC];exact HN.o.1.cut _ _);rw [←hC];clear hC)
  have a2:¬9223372036854775807<A.size+C.size:=by omega
  (refine qA.q 7 ?_)
  (refine qA.q 8 ?_)
  refine qA.done kR ?_;go_wp2;go_ret;exact⟨_,rfl,⟨A++C,rfl,by rw [ByteArray.size_append];omega,HA.o.app HC.o⟩,H3.o.1,qBz H3.o.2⟩
theorem qRj:∀j (hj:j<(⟨#[32,97,48,99,45]⟩:ByteArray).size),qA9 (Utf8.encode (IntKind.i32.wrap ((⟨#[32,97,48,99,45]⟩:ByteArray)[j].toNat:Int))):=by
 intro j hj;have h5:j<5:=hj
 rcases (show j=0∨j=1∨j=2∨j=3∨j=4 by omega) with rfl|rfl|rfl|rfl|rfl
 ·show qA9 (Utf8.encode (IntKind.i32.wrap 32));unfold qA9;decide
 ·show qA9 (Utf8.encode (IntKind.i32.wrap 97));unfold qA9;decide
 ·show qA9 (Utf8.encode (IntKind.i32.wrap 48));unfold qA9;decide
 ·show qA9 (Utf8.encode (IntKind.i32.wrap 99));unfold qA9;decide
 ·show qA9 (Utf8.encode (IntKind.i32.wrap 45));unfold qA9;decide
end Go.Proofs.YtbgnlfgkgklkdaaGreatDoor
