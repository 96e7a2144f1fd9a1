/- Parts of the proof of ScriptsAnswered: Itoa, TxN, TxL, SnF, SpA, TxM, TxC, TxP, TxQ, StW, SuN, SuO, Shp. No condition. -/
import Derived.Lib.SmallJoins
import Derived.Test.YtbgnlfgkgklkdaaGreatDoorZ15
import Derived.Test.YtbgnlfgkgklkdaaGreatDoorZ33
set_option linter.unusedVariables false
set_option linter.unusedSimpArgs false
set_option maxHeartbeats 8000000
set_option maxRecDepth 100000
namespace Go.Proofs.YtbgnlfgkgklkdaaGreatDoor
open Go Go.RowKit Tryz
def Tab10 (w:World):Prop:=Lib.TabIs prog w "internal/strconv.uint64pow10" .u64 Lib.pow10Tab
theorem Tab10.below {w w':World} (h:Tab10 w) (hb:Below w.heap.size w w'):Tab10 w':=by
 unfold Tab10 Lib.TabIs World.var? at *
 cases hg:prog.globalNamed "internal/strconv.uint64pow10" with
 | none=>simp [hg] at h
 | some g =>
  simp only [hg,Option.bind_some] at h ⊢;have hlt:g<w.heap.size:=by
   rcases Nat.lt_or_ge g w.heap.size with h'|h'
   ·exact h'
   ·rw [Array.getElem?_eq_none h'] at h;simp at h
  rw [hb.block g hlt];exact h
def qBq (n:Int):ByteArray:=⟨(Lib.itoa n).toArray⟩
theorem qN6 {B:Nat} {w:World} (hB:B≤w.heap.size) (k:Nat) (os:Array Obj):Below B w (Sort.grow (w.drewN k) os) :=
 ⟨rfl,rfl,rfl,by show w.heap.size≤(w.heap++os).size;rw [Array.size_append];omega,λj hj=>by show(w.heap++os)[j]? = w.heap[j]?;exact Array.getElem?_append_left oM⟩
theorem qCH (n:Int) (h0 : -9223372036854775808≤n) (h1:n≤9223372036854775807) (w:World) (ht:Tab10 w):Calls prog 15 #[.int .i64 n] w
  λe w'=>e=.returned (.string (qBq n))∧Below w.heap.size w w':=by
 refine(Tryz.strconv_Itoa n h0 h1 w ht).mono ?_;rintro e w' ⟨rfl,k,os,rfl⟩;exact⟨rfl,qN6 lR k os⟩
theorem qCr (s:ByteArray) (w:World):Calls prog 81 #[.string s,.string ⟨#[45]⟩] w λe w'=>e=.returned (.string (bA (qAM s.data.toList)))∧w'=w:=Tryz.strings_TrimPrefix s ⟨#[45]⟩ w
section
variable {s D : ByteArray} {most : Nat}
theorem qOI (hD:D.data.toList=qAM s.data.toList) (h:D.size=0):jH most s.data.toList=none:=by
 have e:qAM s.data.toList=[]:=by rw [←hD];exact List.length_eq_zero_iff.1 (by rw [←Lib.size_eq];exact h)
 unfold jH qCd;rw [e];simp
theorem qQs (hD:D.data.toList=qAM s.data.toList) (h:most<D.size):jH most s.data.toList=none:=by
 have e:(qAM s.data.toList).length=D.size:=by rw [←hD,←Lib.size_eq]
 unfold jH qCd;rw [decide_eq_false (show ¬(qAM s.data.toList).length≤most by omega)];simp
theorem qTw (hD:D.data.toList=qAM s.data.toList) (h0:0<D.size) (h:D[0]=48) (h2:1<D.size∨D.size<s.size):jH most s.data.toList=none:=by
 obtain⟨r,hr⟩:=qG7 D h0;have e:(qAM s.data.toList).length=D.size:=by rw [←hD,←Lib.size_eq]
 have e2:s.data.toList.length=s.size:=(Lib.size_eq s).symm;have e3:(qAM s.data.toList).head? = some 48:=by rw [←hD,hr,h];rfl
 unfold jH qID;rw [e3]
 rcases h2 with h2|h2
 ·rw [decide_eq_true (show 1<(qAM s.data.toList).length by omega)];simp
 ·rw [decide_eq_true (show(qAM s.data.toList).length<s.data.toList.length by omega)];simp
theorem qSr (hD:D.data.toList=qAM s.data.toList) (h:D.data.toList.all qA1=false):jH most s.data.toList=none:=by
 unfold jH qCd;rw [←hD,h];simp
theorem qU8 (hD:D.data.toList=qAM s.data.toList) (h0:0<D.size) (h1:D.size≤most) (h2:D[0]=48→D.size≤1∧s.size≤D.size) (h:D.data.toList.all qA1=true):∃n,Lib.atoi s.data.toList=some n∧jH most s.data.toList=some n:=by
 have e:(qAM s.data.toList).length=D.size:=by rw [←hD,←Lib.size_eq]
 have e2:s.data.toList.length=s.size:=(Lib.size_eq s).symm;have hd:qCd most s.data.toList=true:=by
  unfold qCd;rw [decide_eq_true (show(qAM s.data.toList).length≤most by omega),←hD,h]
  cases hl:D.data.toList with
  | nil=>rw [hD] at hl;rw [hl] at e;simp at e;omega
  | cons _ _=>rfl
 obtain⟨m,_,ha,_⟩:=qHf hd;refine⟨_,ha,?_⟩;obtain⟨r,hr⟩:=qG7 D h0;have e3:(qAM s.data.toList).head? = some D[0]:=by rw [←hD,hr];rfl
 unfold jH;rw [hd,←ha,if_pos];unfold qID;rw [e3]
 by_cases h48:D[0]=48
 ·obtain⟨h3,h4⟩:=h2 h48;rw [decide_eq_false (show ¬1<(qAM s.data.toList).length by omega),decide_eq_false (show ¬(qAM s.data.toList).length<s.data.toList.length by omega)];simp
 ·simp [h48]
end
theorem qNm (s:List UInt8):(qAM s).length≤s.length∧s.length≤(qAM s).length+1:=by
 cases s with
 | nil=>rw [qHT];simp
 | cons b r =>
  by_cases h:b=45
  ·subst h;rw [qFy];simp
  ·rw [qFz h];simp
theorem qLt (s:ByteArray) (n:Int) (hl:s.size≤18) (h:Lib.atoi s.data.toList=some n) (w:World):Calls prog 82 #[.string s] w λe w'=>e=.returned (.tuple #[.int .i64 n,.nilIface])∧Below w.heap.size w w':=by
 refine(Tryz.strconv_Atoi s n hl h w).mono ?_;rintro e w' ⟨rfl,t,rfl⟩;exact⟨rfl,Go.Joins.below_bytesWorld _ _ _ _ lR⟩
def qDh (most:Nat) (s:ByteArray) (w:World) (e:Ending) (w':World):Prop:=e=.returned (.tuple #[.int .i64 ((jH most s.data.toList).getD 0),.bool (jH most s.data.toList).isSome])∧Below w.heap.size w w'
theorem qE9 {most:Nat} {s:ByteArray} {w w':World} (h:jH most s.data.toList=none) (hb:Below w.heap.size w w'):qDh most s w (.returned (.tuple #[.int .i64 0,.bool false])) w':=by
 unfold qDh;rw [h];exact⟨rfl,hb⟩
theorem qR0 {most:Nat} {s:ByteArray} {n:Int} {w w':World} (h:jH most s.data.toList=some n) (hb:Below w.heap.size w w'):qDh most s w (.returned (.tuple #[.int .i64 n,.bool true])) w':=by
 unfold qDh;rw [h];exact⟨rfl,hb⟩
theorem qF2 (s:ByteArray) (most:Nat) (hm:most≤17) (w:World) (hs:s.size≤1000000):Calls prog 55 #[.string s,.int .i64 most] w (qDh most s w):=by
 obtain⟨D,hD⟩:=eY (bA (qAM s.data.toList));have hDd:D.data.toList=qAM s.data.toList:=by rw [hD];rfl
 have HD:=mH (aI hD hDd);have hDs:D.size≤s.size∧s.size≤D.size+1:=by
  have:=qNm s.data.toList;rw [←hDd,←Lib.size_eq,←Lib.size_eq] at this;exact this
 obtain⟨hDs1,hDs2⟩:=hDs;clear hD hDd
 by_cases h0:D.size=0
 ·have hE:D.toList.isEmpty=true:=by rw [qAs];simp [h0]
  have HN:=mH (qOI (most:=most) HD.o.2 h0);clear h0
  (go_enter func55,ntmps55;go_wp2_with (refine(qCr s _).mono ?_;rintro e w' ⟨rfl,hw⟩;rw [hw,←HD.o.1];clear hw w');go_ret2;exact qE9 (HN.o) bR)
 have hpos:0<D.size:=by omega
 have hE:D.toList.isEmpty=false:=by rw [qAs];simp [h0]
 by_cases hlong:most<D.size
 ·have HN:=mH (qQs HD.o.2 hlong);clear h0
  (go_enter func55,ntmps55;go_wp2_with (refine(qCr s _).mono ?_;rintro e w' ⟨rfl,hw⟩;rw [hw,←HD.o.1];clear hw w');go_ret2;exact qE9 (HN.o) bR)
 have hlong':¬(most:Int)<(D.size:Int):=by omega
 by_cases hz:D[0]=48∧(1<D.size∨D.size<s.size)
 ·obtain⟨hz1,hz2⟩:=hz;have HN:=mH (qTw (most:=most) HD.o.2 hpos hz1 hz2);have hz3:((D[0].toNat:Int)==48)=true:=by rw [hz1];rfl
  have HZ1:=mH hz1;clear h0 hz1
  rcases Nat.lt_or_ge 1 D.size with h1|h1
  ·clear hz2
   (go_enter func55,ntmps55;go_wp2_with (refine(qCr s _).mono ?_;rintro e w' ⟨rfl,hw⟩;rw [hw,←HD.o.1];clear hw w');go_ret2;exact qE9 (HN.o) bR)
  ·have h1':¬(1:Int)<(D.size:Int):=by omega
   have h2:D.size<s.size:=by omega
   clear hz2
   (go_enter func55,ntmps55;go_wp2_with (refine(qCr s _).mono ?_;rintro e w' ⟨rfl,hw⟩;rw [hw,←HD.o.1];clear hw w');go_ret2;exact qE9 (HN.o) bR)
 have HZ:=mH hz;clear hE h0;have hE:D.toList.isEmpty=false:=by rw [qAs];exact decide_eq_false oM
 go_enter func55,ntmps55;go_upto_region 2 with ((refine(qCr s _).mono ?_;rintro e w' ⟨rfl,hw⟩;rw [hw,←HD.o.1];clear hw w'));go_cut [36] from 12 to 36 (λt wc=>t=.bool false∧wc=w)
 case first =>
  by_cases h48:D[0]=48
  ·have hz3:((D[0].toNat:Int)==48)=true:=by rw [h48];rfl
   have h1:¬(1:Int)<(D.size:Int):=λh=>hz ⟨h48,.inl oM⟩
   have h2:¬(D.size:Int)<(s.size:Int):=λh=>hz ⟨h48,.inr oM⟩
   clear h48 hz;go_wp2;go_meet;exact⟨rfl,rfl⟩
  ·have hz3:((D[0].toNat:Int)==48)=false:=by
    rw [beq_eq_false_iff_ne];intro h;exact h48 (qIW (n:=48) oM dE)
   clear h48 hz;go_wp2;go_meet;exact⟨rfl,rfl⟩
 case rest =>
 obtain⟨rfl,hw⟩:=hcut;have hw:=hw.symm;subst hw;clear hz;go_wp2;go_loop [39] (λi=>∃k:Nat,k≤D.size∧i=.int .i64 k∧(D.data.toList.take k).all qA1=true) (λi=>D.size - (intOf i).toNat)
 case atStart=>exact⟨0,by omega,rfl,by simp⟩
 case round =>
  obtain⟨k,hk,rfl,hzk⟩:=hrel;have HK:=mH hzk;clear hzk
  by_cases hlt:k<D.size
  ·cases hc:qA1 D[k]
   ·have HB:=mH (qSr (most:=most) HD.o.2 (qJz D qA1 k hlt hc));unfold qA1 at hc
    rcases (show(D[k].toNat:Int)<48∨57<(D[k].toNat:Int) by simp at hc;omega) with q|q
    ·clear hc;go_wp2;go_ret2;exact qE9 HB.o bR
    ·have q2:¬(D[k].toNat:Int)<48:=by omega
     clear hc;go_wp2;go_ret2;exact qE9 HB.o bR
   ·have HT:=mH ((qFO D qA1 k hlt HK.o).trans hc);have hb:=qGq hc;have q1:¬(D[k].toNat:Int)<48:=by omega
    have q2:¬57<(D[k].toNat:Int):=by omega
    clear hc hb;go_wp2;exact⟨⟨k+1,by omega,by go_num,HT.o⟩,by simp [intOf];omega⟩
  ·obtain rfl:k=D.size:=by omega
   have hall:D.data.toList.all qA1=true:=by
    have:=HK.o
    rwa [List.take_of_length_le (by rw [←Lib.size_eq];exact Nat.le_refl _)] at this
   obtain⟨n,ha,hn⟩:=qU8 (most:=most) HD.o.2 hpos oM (λh=>by
    have:=HZ.o
    constructor
    ·rcases Nat.lt_or_ge 1 D.size with h1|h1
     ·exact absurd ⟨h,.inl h1⟩ this
     ·exact h1
    ·rcases Nat.lt_or_ge D.size s.size with h1|h1
     ·exact absurd ⟨h,.inr h1⟩ this
     ·exact h1) hall
   have HN:=mH (aI ha hn);clear ha hn hall;go_wp2_with fail;refine(qLt s n oM HN.o.1 _).mono ?_;rintro e w2 ⟨rfl,hb2⟩;have HB2:=mH hb2;clear hb2;go_wp2_with fail;go_quiet (fail);go_wp2;go_ret2;exact qR0 HN.o.2 (by have:=HB2.o;exact qS)
def MaxL (w:World):Prop:=∃m,w.cell? ⟨0,0,none⟩=some (.int .i64 m)
theorem MaxL.below {w w':World} (h:MaxL w) (hb:Below w.heap.size w w'):MaxL w':=by
 obtain⟨m,hm⟩:=h;exact⟨m,(hb.cell (World.block_lt_of_cell? _ _ hm)).trans hm⟩
def qAb (c:UInt8) (s:ByteArray):List ByteArray:=(qB4 c s.data.toList).map bA
theorem qPr (c:UInt8) (s:ByteArray):Lib.splitB ⟨#[c]⟩ 0 (Lib.countB s ⟨#[c]⟩) s=qAb c s∧(qAb c s).length=Lib.countB s ⟨#[c]⟩+1:=by
 have h1:Lib.splitB ⟨#[c]⟩ 0 (Lib.countB s ⟨#[c]⟩) s=qAb c s:=by
  unfold qAb;rw [←qNf c s,List.map_map];have:(bA ∘ λx:ByteArray=>x.data.toList)=id:=by funext x;exact qIT x
  rw [this,List.map_id]
 exact⟨h1,by rw [←h1];exact Lib.splitB_all ⟨#[c]⟩ lR 0 _ s rfl⟩
theorem qGO (s:ByteArray) (c:UInt8) (w:World) (hs:s.size≤1000000) (hM:MaxL w):Calls prog 27 #[.string s,.string ⟨#[c]⟩] w
  λe w'=>e=.returned (.slice (some ⟨w.heap.size,0,none⟩) (qAb c s).length (qAb c s).length)∧w'=w.alloc (.cells ((qAb c s).map Value.string).toArray 9):=by
 obtain⟨m,hm⟩:=hM;refine(Tryz.strings_Split s ⟨#[c]⟩ m w oM hm lR).mono ?_;rintro e w' ⟨rfl,rfl⟩;obtain⟨h1,h2⟩:=qPr c s;rw [h1,h2];exact⟨rfl,rfl⟩
theorem qBp {c:UInt8} {s:ByteArray} {x:ByteArray} (hx:x∈qAb c s):x.size≤s.size:=by
 unfold qAb at hx;obtain⟨l,hl,rfl⟩:=List.mem_map.1 hx;rw [qCJ];have key:∀(t:List UInt8),∀l∈qB4 c t,l.length≤t.length:=by
  intro t
  induction t with
  | nil=>intro l hl;simp [qB4] at hl;subst hl;simp
  | cons y t ih =>
   intro l hl;unfold qB4 at hl
   split at hl
   ·rcases List.mem_cons.1 hl with rfl|hl
    ·simp
    ·have:=ih l hl;simp;omega
   ·cases hr:qB4 c t with
    | nil=>exact absurd hr (qKF c t)
    | cons g r =>
     rw [hr] at hl
     rcases List.mem_cons.1 hl with rfl|hl
     ·have:=ih g (by rw [hr];simp);simp;omega
     ·have:=ih l (by rw [hr];simp [hl]);simp;omega
 have:=key _ l hl;rw [Lib.size_eq];exact this
theorem qCF {W:World} {b:Nat} {L:List ByteArray} {t:TypeId} (h:qC W b (L.map Value.string).toArray t) (k:Nat) (hk:k<L.length):W.cell? ⟨b,k,none⟩=some (.string L[k]) :=
 h.cell k _ (by simp [List.getElem?_eq_getElem hk])
def wAt:ByteArray:=⟨#[97,116]⟩
def wDo:ByteArray:=⟨#[100,111]⟩
def qAp:ByteArray:=⟨#[112,97,116,104]⟩
def qAn:ByteArray:=⟨#[102,114,101,101]⟩
def qAo:ByteArray:=⟨#[115,112,108,105,99,101,115]⟩
def qA0:ByteArray:=⟨#[115,105,116,101]⟩
def qAE:ByteArray:=⟨#[99,97,98,108,101]⟩
def qAR:ByteArray:=⟨#[106,111,105,110]⟩
def qAt:ByteArray:=⟨#[99,117,116]⟩
def jL:ByteArray:=⟨#[114,101,116,105,114,101]⟩
def qF6:ByteArray:=⟨#[111,102,102,105,99,101]⟩
def qEb:ByteArray:=⟨#[99,108,111,115,117,114,101]⟩
def qEj:ByteArray:=⟨#[99,97,98,105,110,101,116]⟩
def qEO:ByteArray:=⟨#[99,117,115,116,111,109,101,114]⟩
def qBk (w:ByteArray):Int:=if w=qF6 then 1 else if w=qEb then 2 else if w=qEj then 3 else if w=qEO then 4 else 0
def wd (W:List ByteArray) (i:Nat):ByteArray:=W[i]?.getD eS
theorem qCZ {W:List ByteArray} {i:Nat} (h:i<W.length):wd W i=W[i]:=by unfold wd;rw [List.getElem?_eq_getElem h];rfl
def qAW (most:Nat) (W:List ByteArray) (i:Nat):Option Int:=jH most (wd W i).data.toList
def qX (most:Nat) (W:List ByteArray):Option qD :=
 if wd W 0=qA0∧W.length=3 then
  (if qL (wd W 1)=true∧qBk (wd W 2)≠0 then some { qAx with kind:=1,site:=⟨wd W 1,qBk (wd W 2)⟩ } else none)
 else if wd W 0=qAE∧W.length=6 then
  (if qL (wd W 1)=true∧qL (wd W 2)=true∧qL (wd W 3)=true then
   (qAW most W 4).bind λn=>(qAW most W 5).map λm=>{ qAx with kind:=2,cab:=⟨wd W 1,wd W 2,wd W 3,n,m⟩ } else none)
 else if wd W 0=qAR∧W.length=7 then
  (if qL (wd W 1)=true∧qL (wd W 2)=true∧qL (wd W 4)=true then
   (qAW most W 3).bind λn=>(qAW most W 5).bind λm=>(qAW most W 6).map λo=>{ qAx with kind:=3,spc:=⟨wd W 1,⟨wd W 2,n⟩,⟨wd W 4,m⟩,o⟩ } else none)
 else if wd W 0=qAt∧W.length=6 then
  (if qL (wd W 1)=true∧qL (wd W 2)=true∧qL (wd W 4)=true then
   (qAW most W 3).bind λn=>(qAW most W 5).map λm=>{ qAx with kind:=4,spc:=⟨wd W 1,⟨wd W 2,n⟩,⟨wd W 4,m⟩,0⟩ } else none)
 else if wd W 0=jL∧W.length=2 then
  (if qL (wd W 1)=true then some { qAx with kind:=5,cab:={ qAH with key:=wd W 1 } } else none)
 else none
theorem qNJ (w:ByteArray):0≤qBk w∧qBk w≤4:=by
 unfold qBk;repeat' split
 all_goals omega
theorem qJO {most:Nat} {W:List ByteArray} {e:qD} (h:qX most W=some e):1≤e.kind∧e.kind≤5∧qCq e=true∧e.team=eS∧e.no=0∧e.at_=0:=by
 unfold qX at h
 split at h
 ·split at h
  ·obtain rfl:=Option.some.inj h;exact⟨by show(1:Int)≤_;dsimp only;omega,by dsimp only;omega,by unfold qCq;simp [qAx],rfl,rfl,rfl⟩
  ·cases h
 ·split at h
  ·split at h
   ·obtain⟨n,hn,h⟩:=Option.bind_eq_some_iff.1 h;obtain⟨m,hm,rfl⟩:=Option.map_eq_some_iff.1 h;exact⟨by show(1:Int)≤_;dsimp only;omega,by dsimp only;omega,by unfold qCq;simp [qAx],rfl,rfl,rfl⟩
   ·cases h
  ·split at h
   ·split at h
    ·obtain⟨n,hn,h⟩:=Option.bind_eq_some_iff.1 h;obtain⟨m,hm,h⟩:=Option.bind_eq_some_iff.1 h;obtain⟨o,ho,rfl⟩:=Option.map_eq_some_iff.1 h;exact⟨by show(1:Int)≤_;dsimp only;omega,by dsimp only;omega,by unfold qCq;simp [qAx],rfl,rfl,rfl⟩
    ·cases h
   ·split at h
    ·split at h
     ·obtain⟨n,hn,h⟩:=Option.bind_eq_some_iff.1 h;obtain⟨m,hm,rfl⟩:=Option.map_eq_some_iff.1 h;exact⟨by show(1:Int)≤_;dsimp only;omega,by dsimp only;omega,by unfold qCq;simp [qAx],rfl,rfl,rfl⟩
     ·cases h
    ·split at h
     ·split at h
      ·rename_i hk
       obtain rfl:=Option.some.inj h;exact⟨by show(1:Int)≤_;dsimp only;omega,by dsimp only;omega,by unfold qCq;simp [qAx,hk],rfl,rfl,rfl⟩
      ·cases h
     ·cases h
def okT:List UInt8:=[111,107,10]
def qD6 (n:Int):List UInt8:=[101,114,114,111,114,32]++Lib.itoa n++[10]
def qCQ (h:Hop):List UInt8:=h.fib.cable.data.toList++32::(Lib.itoa h.fib.no++32::(h.fr.data.toList++32::(h.tw.data.toList++[10])))
def qBa (p:Pl) (f:qQ) (site:ByteArray):Int × List UInt8 :=
 if jX p.C f=false∨qAQ p.S site=false then (8,[]) else if qAA p.C f site=false then (3,[]) else if (zD p.X f site).isSome=true then (11,[]) else (0,(qB9 p.C p.X (f,site)).flatMap qCQ++okT)
def qBK (p:Pl) (c:qG):List Int:=((List.range c.fibs.toNat).map λ(n:Nat)=>(n:Int)+1).filter λn=>!(p.X.any λs=>decide (s.x=⟨c.key,n⟩∨s.y=⟨c.key,n⟩))
def qCA (p:Pl) (k:ByteArray):Int × List UInt8:=match qY p.C k with
 | none=>(8,[])
 | some c=>(0,(if qBK p c=[] then [110,111,110,101] else qEv 32 ((qBK p c).map Lib.itoa))++[10])
def zR (E:List qD) (at_:Int) (W:List ByteArray):(Int × List UInt8) × List qD × Int :=
 if wd W 0=wAt∧W.length=2 then
  (match qAW 12 W 1 with
  | none=>((9,[]),E,at_)
  | some n=>if qCl n=false then ((1,[]),E,at_) else if n<at_ then ((7,[]),E,at_) else ((0,okT),E,n))
 else if wd W 0=wDo∧2<W.length then
  (match qX 12 (W.drop 2) with
  | none=>((9,[]),E,at_)
  | some e=>(((qAC E at_ (wd W 1) e).1,okT),(qAC E at_ (wd W 1) e).2,at_))
 else if wd W 0=qAp∧W.length=4 then
  (match qAW 12 W 2 with
  | none=>((9,[]),E,at_)
  | some n=>(qBa (zB E at_) ⟨wd W 1,n⟩ (wd W 3),E,at_))
 else if wd W 0=qAn∧W.length=2 then (qCA (zB E at_) (wd W 1),E,at_)
 else if wd W 0=qAo∧W.length=1 then ((0,Lib.itoa (zB E at_).X.length++[10]),E,at_)
 else ((9,[]),E,at_)
def qBu (r:Int × List UInt8):List UInt8:=if r.1≠0 then qD6 r.1 else r.2
def doV (D:List qD × Int) (line:ByteArray):List UInt8 × (List qD × Int) :=
 if (qAb 32 line).any (λx=>decide (x.size=0)) then (qD6 9,D) else (qBu (zR D.1 D.2 (qAb 32 line)).1,(zR D.1 D.2 (qAb 32 line)).2)
def qBB:List ByteArray→List qD × Int→List UInt8 × (List qD × Int)
 | [],D=>([],D)
 | x::l,D=>((doV D x).1++(qBB l (doV D x).2).1,(qBB l (doV D x).2).2)
theorem qIy:∀(l:List ByteArray) (x:ByteArray) (D:List qD × Int),qBB (l++[x]) D=((qBB l D).1++(doV (qBB l D).2 x).1,(doV (qBB l D).2 x).2)
 | [],x,D=>by simp [qBB]
 | y::l,x,D=>by simp [qBB,qIy l x (doV D y).2]
theorem qQG {l:List ByteArray} {k:Nat} (h:k<l.length) (D:List qD × Int):qBB (l.take (k+1)) D=((qBB (l.take k) D).1++(doV (qBB (l.take k) D).2 l[k]).1,(doV (qBB (l.take k) D).2 l[k]).2):=by
 rw [List.take_succ_eq_append_getElem h,qIy]
def qBI (s:ByteArray):List ByteArray:=(qAb 10 s).filter λx=>!decide (x.size=0)
def qCX (s:ByteArray):List UInt8:=if 200000<s.size then qD6 2 else (qBB (qBI s) ([],0)).1
theorem qPg:qCl 0=true:=by decide
theorem qGu:qBR [] 0:=⟨qS2,qPg,(λ_ h=>by cases h),(λ_ h=>by cases h)⟩
theorem qRC {E:List qD} {at_:Int} (h:qBR E at_) (W:List ByteArray):qBR (zR E at_ W).2.1 (zR E at_ W).2.2∧(zR E at_ W).2.1.length≤E.length+1:=by
 unfold zR
 split
 ·split
  ·exact⟨h,by simp⟩
  ·split
   ·exact⟨h,by simp⟩
   ·rename_i hm
    split
    ·exact⟨h,by simp⟩
    ·rename_i hn
     exact⟨⟨h.ent,by simpa using hm,λy hy=>by have:=h.at2 y hy;dsimp only;omega,h.no⟩,by simp⟩
 ·split
  ·split
   ·exact⟨h,by simp⟩
   ·exact qN9 h
  ·split
   ·split
    ·exact⟨h,by simp⟩
    ·exact⟨h,by simp⟩
   ·split
    ·exact⟨h,by simp⟩
    ·split
     ·exact⟨h,by simp⟩
     ·exact⟨h,by simp⟩
theorem qLj {D:List qD × Int} (h:qBR D.1 D.2) (line:ByteArray):qBR (doV D line).2.1 (doV D line).2.2∧(doV D line).2.1.length≤D.1.length+1:=by
 unfold doV
 split
 ·exact⟨h,by simp⟩
 ·exact qRC h _
theorem qIp:∀(l:List ByteArray) (D:List qD × Int),qBR D.1 D.2→qBR (qBB l D).2.1 (qBB l D).2.2∧(qBB l D).2.1.length≤D.1.length+l.length
 | [],D,h=>⟨h,by simp [qBB]⟩
 | x::l,D,h=>by
  have h1:=qLj h x;have h2:=qIp l (doV D x).2 h1.1;exact⟨h2.1,by have:=h2.2;simp only [qBB,List.length_cons];omega⟩
theorem qDr (v:Value) (l:List ByteArray) (p:ByteArray→Bool) (F:FuncId) (cp:Array Value) (w:World) (h:qI strCells 1 w l v) (hF:∀(args:Array Value) (w:World),(callFunc F args).run prog w=.ok (.enter F args) w)
  (hcall:∀(x:ByteArray) (w':World),x∈l→Below w.heap.size w w'→Calls prog F (#[.string x]++cp) w' λe w''=>e=.returned (.bool (p x))∧Below w'.heap.size w' w'') :
  Calls prog 43 #[v,.func (.func F) #[] cp] w λe w'=>e=.returned (.int .i64 (qAu p l))∧Below w.heap.size w w':=by
 obtain⟨a,cap,rfl,hcap,hmax,hc⟩:=h;have hlen:l.length≤maxLen:=by omega
 unfold maxLen at hlen hmax;have HC:=mH hcall;clear hcall;go_enter func43,ntmps43;go_wp2;go_loopw [8] (λi wr=>∃k:Nat,k≤l.length∧i=.int .i64 k∧(l.take k).any p=false∧Below w.heap.size w wr) (λi _=>l.length - (intOf i).toNat)
 case atStart=>exact⟨0,by omega,rfl,rfl,Below.refl _ _⟩
 case round =>
  obtain⟨k,hk,rfl,hz,hB⟩:=hrel;have HZ:=mH hz;clear hz;have hsz:=hB.size
  by_cases hlt:k<l.length
  ·obtain⟨b,off,rfl,hb,hcc⟩:=hc k hlt;have c0:=hcc 0 _ rfl;simp only [Nat.mul_one,Nat.add_zero] at c0;replace c0:=(hB.cell (p:=⟨b,_,none⟩) hb).trans c0;clear hc hcc
   cases hx:p l[k]
   ·have HT:=mH (qBO _ l k hlt HZ.o);have HX:=mH hx;clear hx;go_wp2_with fail;refine(HC.o l[k] _ (List.getElem_mem _) ?_).mono ?_
    ·exact qS
    rintro e w1 ⟨rfl,hb1⟩;have hx:=HX.o;go_wp2;exact⟨⟨k+1,by omega,by go_num,by rw [HT.o];exact HX.o,by exact qS⟩,by simp [intOf];omega⟩
   ·have HX:=mH (qD0 hlt HZ.o hx);go_wp2_with fail;refine(HC.o l[k] _ (List.getElem_mem _) ?_).mono ?_
    ·exact qS
    rintro e w1 ⟨rfl,hb1⟩;go_wp2;go_ret;exact⟨qN (by rw [HX.o]),by exact qS⟩
  ·go_wp2;go_ret;exact⟨qN (by rw [qBY (qCO oM HZ.o)]),hB⟩
theorem qCN (v:Value) (l:List ByteArray) (p:ByteArray→Bool) (F:FuncId) (cp:Array Value) (w:World) (h:qI strCells 1 w l v) (hF:∀(args:Array Value) (w:World),(callFunc F args).run prog w=.ok (.enter F args) w)
  (hcall:∀(x:ByteArray) (w':World),x∈l→Below w.heap.size w w'→Calls prog F (#[.string x]++cp) w' λe w''=>e=.returned (.bool (p x))∧Below w'.heap.size w' w'') :
  Calls prog 86 #[v,.func (.func F) #[] cp] w λe w'=>e=.returned (.bool (l.any p))∧Below w.heap.size w w':=by
 have HC:=mH (aI hF hcall);clear hF hcall;have HI:=mH (qDn p l);go_enter func86,ntmps86;go_wp2_with (go_at_call 43;refine(qDr v l p F cp _ h HC.o.1 HC.o.2).mono ?_;rintro e w1 ⟨rfl,hb1⟩);go_ret;exact⟨qU (by rw [Bool.eq_iff_iff];simp only [decide_eq_true_eq];exact HI.o),by exact qS⟩
theorem qER (s:ByteArray) (w:World):Calls prog 88 #[.string s] w λe w'=>e=.returned (.bool (!qL s))∧Below w.heap.size w w':=by
 go_enter func88,ntmps88;go_wp2_with (go_at_call 89;refine(qBh _ _).mono ?_;rintro e w' ⟨rfl,rfl⟩);go_ret;exact⟨rfl,Below.refl _ _⟩
def jY (e:qD):List ByteArray:=if e.kind=1 then [e.site.key] else if e.kind=2 then [e.cab.key,e.cab.a,e.cab.b] else if e.kind=5 then [e.cab.key] else [e.spc.site,e.spc.x.cable,e.spc.y.cable]
theorem qEx (e:qD) (w:World):Calls prog 87 #[.agg ↑e] w λx w'=>∃v,x=.returned v∧qI strCells 1 w' (jY e) v∧Below w.heap.size w w':=by
 by_cases k1:e.kind=1
 ·have HN:Hx (jY e=[e.site.key]):=by unfold jY;rw [if_pos k1];exact mH rfl
  have b1:(e.kind==1)=true:=by simp [k1]
  (go_enter func87,ntmps87;go_wp2;go_ret;exact⟨_,rfl,by rw [HN.o];exact(by exact qI.litAt (cells:=strCells) (sz:=1) (λ_=>rfl) (by first|rfl|simp) rF rF (by simp [maxLen])),by exact qS⟩)
 have b1:(e.kind==1)=false:=by simp [k1]
 by_cases k2:e.kind=2
 ·have HN:Hx (jY e=[e.cab.key,e.cab.a,e.cab.b]):=by unfold jY;rw [if_neg k1,if_pos k2];exact mH rfl
  have b2:(e.kind==2)=true:=by simp [k2]
  (go_enter func87,ntmps87;go_wp2;go_ret;exact⟨_,rfl,by rw [HN.o];exact(by exact qI.litAt (cells:=strCells) (sz:=1) (λ_=>rfl) (by first|rfl|simp) rF rF (by simp [maxLen])),by exact qS⟩)
 have b2:(e.kind==2)=false:=by simp [k2]
 by_cases k5:e.kind=5
 ·have HN:Hx (jY e=[e.cab.key]):=by unfold jY;rw [if_neg k1,if_neg k2,if_pos k5];exact mH rfl
  have b5:(e.kind==5)=true:=by simp [k5]
  (go_enter func87,ntmps87;go_wp2;go_ret;exact⟨_,rfl,by rw [HN.o];exact(by exact qI.litAt (cells:=strCells) (sz:=1) (λ_=>rfl) (by first|rfl|simp) rF rF (by simp [maxLen])),by exact qS⟩)
 have b5:(e.kind==5)=false:=by simp [k5]
 have HN:Hx (jY e=[e.spc.site,e.spc.x.cable,e.spc.y.cable]):=by unfold jY;rw [if_neg k1,if_neg k2,if_neg k5];exact mH rfl
 (go_enter func87,ntmps87;go_wp2;go_ret;exact⟨_,rfl,by rw [HN.o];exact(by exact qI.litAt (cells:=strCells) (sz:=1) (λ_=>rfl) (by first|rfl|simp) rF rF (by simp [maxLen])),by exact qS⟩)
theorem qUW (w:World):(Instr.index 247 (Value.agg #[.string ⟨#[111,102,102,105,99,101]⟩,.string ⟨#[99,108,111,115,117,114,101]⟩,.string ⟨#[99,97,98,105,110,101,116]⟩,.string ⟨#[99,117,115,116,111,109,101,114]⟩]) (.int .i64 0)).run prog w=.ok (.string qF6) w:=by kernel_rfl
theorem qUU (w:World):(Instr.index 247 (Value.agg #[.string ⟨#[111,102,102,105,99,101]⟩,.string ⟨#[99,108,111,115,117,114,101]⟩,.string ⟨#[99,97,98,105,110,101,116]⟩,.string ⟨#[99,117,115,116,111,109,101,114]⟩]) (.int .i64 1)).run prog w=.ok (.string qEb) w:=by kernel_rfl
theorem qUX (w:World):(Instr.index 247 (Value.agg #[.string ⟨#[111,102,102,105,99,101]⟩,.string ⟨#[99,108,111,115,117,114,101]⟩,.string ⟨#[99,97,98,105,110,101,116]⟩,.string ⟨#[99,117,115,116,111,109,101,114]⟩]) (.int .i64 2)).run prog w=.ok (.string qEj) w:=by kernel_rfl
theorem qUR (w:World):(Instr.index 247 (Value.agg #[.string ⟨#[111,102,102,105,99,101]⟩,.string ⟨#[99,108,111,115,117,114,101]⟩,.string ⟨#[99,97,98,105,110,101,116]⟩,.string ⟨#[99,117,115,116,111,109,101,114]⟩]) (.int .i64 3)).run prog w=.ok (.string qEO) w:=by kernel_rfl
def kwB (k:Nat):ByteArray:=if k=1 then qF6 else if k=2 then qEb else if k=3 then qEj else qEO
theorem qH3 (k:Nat) (h1:1≤k) (h2:k≤4) (w:World):Calls prog 141 #[.int .i64 k] w λe w'=>e=.returned (.string (kwB k))∧w=w':=by
 have hk:k=1∨k=2∨k=3∨k=4:=by omega
 rcases hk with rfl|rfl|rfl|rfl
 all_goals
  have i0:=qUW;have i1:=qUU;have i2:=qUX;have i3:=qUR;go_enter func141,ntmps141;go_wp2;go_ret;exact⟨rfl,rfl⟩
theorem qFb {a b:ByteArray}:(a.toList==b.toList)=decide (b=a):=by
 by_cases h:b=a
 ·subst h;simp
 ·rw [qAZ (λq=>h q.symm)];simp [h]
theorem qOZ (s:ByteArray) (w:World):Calls prog 83 #[.string s] w λe w'=>e=.returned (.int .i64 (qBk s))∧w=w':=by
 go_enter func83,ntmps83;go_wp2;go_loop [3] (λiv=>∃k:Nat,1≤k∧k≤5∧iv=.int .i64 k∧∀j,1≤j→j<k→s≠kwB j) (λiv=>5 - (intOf iv).toNat)
 case atStart=>exact⟨1,by omega,by omega,rfl,λj h1 h2=>by omega⟩
 case round =>
  obtain⟨k,hk1,hk,rfl,hn⟩:=hrel;have HZ:=mH hn;clear hn
  by_cases hlt:k≤4
  ·have hlt':(k:Int)≤4:=by omega
   by_cases hs:s=kwB k
   ·have he:((kwB k).toList==s.toList)=true:=by rw [hs];simp
    have HV:Hx (qBk s=k):=by
     have hk':k=1∨k=2∨k=3∨k=4:=by omega
     rcases hk' with rfl|rfl|rfl|rfl <;> subst hs <;> exact mH dE
    clear hs;go_wp2_with (go_at_call 141;refine(qH3 k hk1 hlt _).mono ?_;rintro e w' ⟨rfl,rfl⟩);go_ret;exact⟨qN HV.o.symm,rfl⟩
   ·have he:((kwB k).toList==s.toList)=false:=qAZ (λq=>hs q.symm);have HS:=mH hs;clear hs;go_wp2_with (go_at_call 141;refine(qH3 k hk1 hlt _).mono ?_;rintro e w' ⟨rfl,rfl⟩);go_round
    case rel=>exact⟨k+1,by omega,by omega,by go_num,λj h1 h2=>by
     rcases Nat.lt_or_ge j k with h3|h3
     ·exact HZ.o j h1 h3
     ·obtain rfl:j=k:=by omega
      exact HS.o⟩
    case measure=>simp [intOf];omega
  ·obtain rfl:k=5:=by omega
   have HV:Hx (qBk s=0):=by
    have h1:s≠qF6:=HZ.o 1 oM oM;have h2:s≠qEb:=HZ.o 2 oM oM;have h3:s≠qEj:=HZ.o 3 oM oM;have h4:s≠qEO:=HZ.o 4 oM oM;exact mH (by unfold qBk;rw [if_neg h1,if_neg h2,if_neg h3,if_neg h4])
   go_wp2;go_ret;exact⟨qN HV.o.symm,rfl⟩
def qKA (n:Int):ByteArray:=⟨(qD6 n).toArray⟩
theorem qLk {n:Int} (h:n.natAbs<10 ^ 15):(qBq n).size≤16:=by
 show(bA (Lib.itoa n)).size≤16
 rw [qCJ];exact(qHM (qEz h dE)).1
theorem qOG (n:Int):(⟨#[101,114,114,111,114,32]⟩++qBq n++⟨#[10]⟩:ByteArray)=qKA n:=by
 apply ByteArray.ext
 simp [qKA,qD6,qBq]
theorem qHP (n:Int) (h0:0≤n) (h1:n≤100) (w:World) (ht:Tab10 w):Calls prog 25 #[.int .i64 n] w λe w'=>e=.returned (.string (qKA n))∧Below w.heap.size w w':=by
 have HE:=mH (qOG n);have z1:=qLk (n:=n) oM;obtain⟨T,hT⟩:=eX (qBq n);rw [hT] at z1;have a1:¬9223372036854775807<6+T.size:=by omega
 have a2:¬9223372036854775807<((⟨#[101,114,114,111,114,32]⟩:ByteArray)++T).size+1:=by rw [ByteArray.size_append];show ¬9223372036854775807<6+T.size+1;omega
 have a3:¬9223372036854775807<6+T.size+1:=by omega
 (go_enter func25,ntmps25;go_wp2_with (go_at_call 15;refine(qCH n oM oM _ ht).mono ?_;rintro e w1 ⟨rfl,hb1⟩;rw [hT]);go_ret;exact⟨by rw [←hT];exact congrArg (λq=>Ending.returned (.string q)) HE.o,by exact qS⟩)
theorem jW (n:Int) (h0:0≤n) (h1:n≤100) (w:World) (ht:Tab10 w):Calls prog 29 #[.int .i64 n] w λe w'=>e=.returned (.string (qKA n))∧Below w.heap.size w w':=by
 have HE:=mH (qOG n);have z1:=qLk (n:=n) oM;obtain⟨T,hT⟩:=eX (qBq n);rw [hT] at z1;have a1:¬9223372036854775807<6+T.size:=by omega
 have a2:¬9223372036854775807<((⟨#[101,114,114,111,114,32]⟩:ByteArray)++T).size+1:=by rw [ByteArray.size_append];show ¬9223372036854775807<6+T.size+1;omega
 have a3:¬9223372036854775807<6+T.size+1:=by omega
 (go_enter func29,ntmps29;go_wp2_with (go_at_call 15;refine(qCH n oM oM _ ht).mono ?_;rintro e w1 ⟨rfl,hb1⟩;rw [hT]);go_ret;exact⟨by rw [←hT];exact congrArg (λq=>Ending.returned (.string q)) HE.o,by exact qS⟩)
theorem qOv (a b:Value) (w:World):Calls prog 47 #[a,b] w λe w'=>e=.returned (.tuple #[])∧w=w':=by
 go_enter func47,ntmps47;go_wp2
 ((try simp only [Exit.inBlock,Exit.then]);refine bodyPost_end (results_none rfl _ _ _) rfl ?_)
 exact⟨rfl,rfl⟩
def qTp:List UInt8:=[48,49,50,51,52,53,54,55,56,57]
theorem qQH (c:UInt8):(Lib.indexByte qTp c<0)↔qA1 c=false :=
 qKU (λc=>(Lib.indexByte qTp c<0)↔qA1 c=false) (by decide +kernel) c
def qPt (most:Nat) (s:ByteArray) (w:World) (e:Ending) (w':World):Prop:=∃(n:Int) (b:Bool),e=.returned (.tuple #[.int .i64 n,.bool b])∧jH most s.data.toList=(if b then some n else none)∧Below w.heap.size w w'
theorem qIu {most:Nat} {s:ByteArray} {w w':World} (h:jH most s.data.toList=none) (hb:Below w.heap.size w w'):qPt most s w (.returned (.tuple #[.int .i64 0,.bool false])) w':=⟨0,false,rfl,h,hb⟩
theorem qSx {s D:ByteArray} {most:Nat} (hD:D.data.toList=qAM s.data.toList) (h0:0<D.size) (h1:D.size≤most) (h:D.data.toList.all qA1=true):qCd most s.data.toList=true:=by
 have e:(qAM s.data.toList).length=D.size:=by rw [←hD,←Lib.size_eq]
 unfold qCd;rw [decide_eq_true (show(qAM s.data.toList).length≤most by omega),←hD,h]
 cases hl:D.data.toList with
 | nil=>rw [hD] at hl;rw [hl] at e;simp at e;omega
 | cons _ _=>rfl
theorem qL7 {n:Int} {s:ByteArray}:qBq n=s↔Lib.itoa n=s.data.toList:=by
 constructor
 ·intro h;rw [←h];rfl
 ·intro h
  show bA (Lib.itoa n)=s
  rw [h];exact qIT s
theorem qG0 (s:ByteArray) (most:Nat) (hm:most≤17) (w:World) (hs:s.size≤1000000) (ht:Tab10 w):Calls prog 62 #[.string s,.int .i64 most] w (qPt most s w):=by
 obtain⟨D,hD⟩:=eY (bA (qAM s.data.toList));have hDd:D.data.toList=qAM s.data.toList:=by rw [hD];rfl
 have HD:=mH (aI hD hDd);have HTab:=mH ht;have hDs:D.size≤s.size∧s.size≤D.size+1:=by
  have:=qNm s.data.toList;rw [←hDd,←Lib.size_eq,←Lib.size_eq] at this;exact this
 obtain⟨hDs1,hDs2⟩:=hDs;have hDs0:D.size≤1000000:=by omega
 clear hD hDd ht
 by_cases h0:D.size=0
 ·have hE:D.toList.isEmpty=true:=by rw [qAs];simp [h0]
  have HN:=mH (qOI (most:=most) HD.o.2 h0);clear h0;go_enter func62,ntmps62;go_wp2_with (refine(qCr s _).mono ?_;rintro e w' ⟨rfl,hw⟩;rw [hw,←HD.o.1];clear hw w');go_ret2;exact qIu HN.o bR
 have hpos:0<D.size:=by omega
 have hE:D.toList.isEmpty=false:=by rw [qAs];exact decide_eq_false oM
 clear h0
 by_cases hlong:most<D.size
 ·have HN:=mH (qQs HD.o.2 hlong);have hlong':(most:Int)<(D.size:Int):=by omega
  go_enter func62,ntmps62;go_wp2_with (refine(qCr s _).mono ?_;rintro e w' ⟨rfl,hw⟩;rw [hw,←HD.o.1];clear hw w');go_ret2;exact qIu HN.o bR
 have hlong':¬(most:Int)<(D.size:Int):=by omega
 cases hall:D.data.toList.all qA1
 ·have HN:=mH (qSr (most:=most) HD.o.2 hall);have HA:=mH (show qHS D qA1=false from hall);clear hall;go_enter func62,ntmps62;go_wp2_with (first|(refine(qCr s _).mono ?_;rintro e w' ⟨rfl,hw⟩;rw [hw,←HD.o.1];clear hw w')|(refine(qFk D _ qA1 _ hDs0 qQH).mono ?_;rintro e w' ⟨rfl,hw⟩;rw [←hw,HA.o];clear hw w'));go_ret2;exact qIu HN.o bR
 ·have HA:=mH (show qHS D qA1=true from hall);obtain⟨n,ha,hlt,hi1,hi2⟩:=qRq (qSx HD.o.2 hpos (Nat.le_of_not_lt hlong) hall);have hsz:s.size≤18:=by omega
  have hp:n.natAbs<10 ^ 17:=Nat.lt_of_lt_of_le hlt (Nat.pow_le_pow_right dE hm);have hp2 : -9223372036854775808≤n∧n≤9223372036854775807:=by
   have:(10:Nat) ^ 17=100000000000000000:=by decide
   omega
  have HN:=mH (aI ha (aI hi1 (aI hi2 hp2)));clear hall ha hlt hi1 hi2 hp hp2;go_enter func62,ntmps62;go_wp2_with (first|(refine(qCr s _).mono ?_;rintro e w' ⟨rfl,hw⟩;rw [hw,←HD.o.1];clear hw w')|(refine(qFk D _ qA1 _ hDs0 qQH).mono ?_;rintro e w' ⟨rfl,hw⟩;rw [←hw,HA.o];clear hw w')|fail);refine(qLt s n hsz HN.o.1 _).mono ?_;rintro e w2 ⟨rfl,hb2⟩;have H2:=mH (aI hb2 (HTab.o.below hb2));clear hb2;go_wp2_with fail;refine(qCH n HN.o.2.2.2.1 HN.o.2.2.2.2 _ H2.o.2).mono ?_;rintro e w3 ⟨rfl,hb3⟩;have H3:=mH (qBD H2.o.1 hb3 H2.o.1.size);clear hb3;obtain⟨Z,hZ⟩:=eY (qBq n);have HZ:=mH hZ;rw [←hZ];clear hZ
  by_cases heq:Z=s
  ·have he:(Z.toList==s.toList)=true:=by rw [heq];simp
   have HR:=mH (HN.o.2.1.1 (qL7.1 (HZ.o ▸ heq)));clear heq;go_wp2;go_ret2;exact⟨n,true,rfl,HR.o,H3.o⟩
  ·have he:(Z.toList==s.toList)=false:=by
    rw [beq_eq_false_iff_ne];intro h;rw [ByteArray.toList_eq,ByteArray.toList_eq] at h;exact heq (by rw [←Lib.mk_data Z,←Lib.mk_data s,h])
   have HR:=mH (HN.o.2.2.1 (λh=>heq (HZ.o.trans (qL7.2 h))));clear heq;go_wp2;go_ret2;exact⟨n,false,rfl,HR.o,H3.o⟩
def qUu (W W':World):Prop:=W.heap.size≤W'.heap.size∧∀b cs,qC W b cs 9→qC W' b cs 9
theorem qIk (c:UInt8):∀s:List UInt8,(qB4 c s).length≤s.length+1
 | []=>by simp [qB4]
 | x::r=>by
  have ih:=qIk c r;unfold qB4
  split
  ·simp;omega
  ·cases hr:qB4 c r with
   | nil=>exact absurd hr (qKF c r)
   | cons g t=>rw [hr] at ih;simp at ih ⊢;omega


theorem qFp (x:ByteArray):(strCells x).length=1:=rfl
theorem qSM (w:World):(zeroValue 9).run prog w=.ok (.string ⟨#[]⟩) w:=by kernel_rfl
def qPZ (base:Nat) (l:List ByteArray) (p:ByteArray→Bool) (v:Value) (w:World) (e:Ending) (w':World):Prop :=
 ∃v',e=.returned v'∧w'.ownsRow base 9 1 v' (l.filter λx=>!p x).length ((l.filter λx=>!p x).flatMap strCells)∧w.grownBy w' v.ownBlock
theorem qK0 (v:Value) (l:List ByteArray) (p:ByteArray→Bool) (F:FuncId) (cp:Array Value) (base:Nat) (w:World) (ho:w.ownsRow base 9 1 v l.length (l.flatMap strCells)) (hlen:l.length≤100000000)
  (hF:∀(args:Array Value) (w:World),(callFunc F args).run prog w=.ok (.enter F args) w)
  (hcall:∀(x:ByteArray) (w':World),x∈l→w.grownBy w' v.ownBlock→Calls prog F (#[.string x]++cp) w' λe w''=>e=.returned (.bool (p x))∧Below w'.heap.size w' w'') :
  Calls prog 30 #[v,.func (.func F) #[] cp] w (qPZ base l p v w):=by
 have HC:=mH (aI hF hcall);clear hF hcall
 rcases ho.2 with⟨hv,h0⟩|⟨g,cap,_,hv,hbg,_,hcap,hmax,_,_⟩
 ·subst hv;obtain rfl:l=[]:=List.length_eq_zero_iff.1 h0;go_enter func30,ntmps30;go_wp2_with (go_at_call 43;refine(qDr _ [] (λ_=>false) F cp _ (qI.nil _ _ _) HC.o.1 (λx w' hx hB=>by cases hx)).mono ?_;rintro e w1 ⟨rfl,hb1⟩);go_ret;exact⟨_,rfl,World.ownsRow_nil _ _ _ _,qH _ hb1⟩
 subst hv;have hO:qAr strCells 1 9 cap w g l:=qAr.of_own ho rfl;have hrow:=hO.row qFp hmax;have hA:qI strCells 1 w l (.slice (some ⟨g,0,none⟩) l.length cap):=hrow.arr rfl hcap hmax;have hir:=qE1 p l;have HM:Hx (cap≤maxLen):=⟨hmax⟩;unfold maxLen at hmax
 by_cases hnone:l.any p=false
 ·have HI:=mH (qBY hnone);have hfl:(l.filter λx=>!p x)=l:=by
   rw [List.filter_eq_self];intro x hx;have:=List.any_eq_false.1 hnone x hx
   simpa using this
  have HFL:=mH hfl;have HO:=mH ho;clear hnone hfl hir ho hO hrow;go_enter func30,ntmps30;go_wp2_with (go_at_call 43;refine(qDr _ l p F cp _ hA HC.o.1 (λx w' hx hB=>HC.o.2 x w' hx (qH _ hB))).mono ?_;rw [HI.o];rintro e w1 ⟨rfl,hb1⟩);go_ret;exact⟨_,rfl,by rw [HFL.o];exact qAv HO.o hb1,qH _ hb1⟩
 ·obtain⟨k,hk,hi0,ht0,hp0⟩:=qFI (Bool.not_eq_false _ ▸ hnone);have HI:=mH hi0;have HD:Hx (∀w1,Below w.heap.size w w1→qC6 strCells 1 9 cap p l w w1 g k (k+1) l):=⟨λw1 hb=>⟨Del.first hk ht0 hp0 (hrow.below hb hrow.2.2) (qH _ hb),hO.below hb hO.lt⟩⟩;have hkn:((k:Int) == -1)=false:=by simp
  clear hnone hir ht0 hp0 hi0 ho hO;go_enter func30,ntmps30;go_wp2_with (go_at_call 43;refine(qDr _ l p F cp _ hA HC.o.1 (λx w' hx hB=>HC.o.2 x w' hx (qH _ hB))).mono ?_;rw [HI.o];rintro e w1 ⟨rfl,hb1⟩);go_loopw [5,6] (λa b wr=>∃i j:Nat,a=.int .i64 i∧b=.int .i64 j∧∃cur,qC6 strCells 1 9 cap p l w wr g i j cur) (λ_ b _=>l.length - (intOf b).toNat)
  case atStart=>exact⟨k,k+1,rfl,by go_num,l,HD.o _ hb1⟩
  case round =>
   obtain⟨i,j,rfl,rfl,cur,hdo⟩:=hrel;have hd:=hdo.d;have hij:=hd.ij;have hjn:=hd.jn;have HDel:=mH hdo;have hgl:=hd.row.2.2;clear hdo
   by_cases hlt:j<l.length
   ·have hcj:j<cur.length:=by rw [hd.len];exact hlt
    have hci:i<cur.length:=by rw [hd.len];omega
    have c0:=hd.row.1 j hcj 0 _ rfl;rw [hd.at hlt hcj] at c0;have d0:=hd.row.1 i hci 0 _ rfl;have hfz:=hd.row.2.1;simp only [Nat.zero_add,Nat.mul_one,Nat.add_zero] at c0 d0;have hin:l[j]∈l:=List.getElem_mem _
    cases hp:p l[j]
    ·have HP:=mH hp;have hF:=HC.o.1;clear hd;go_wp2_with fail;refine(HC.o.2 l[j] _ hin ?_).mono ?_
     ·exact qK HDel.o.d.grown (qH _ (by exact qS))
     rw [HP.o];rintro e w2 ⟨rfl,hb2⟩;have hcg:=qDg hb2 g szq;have hfg:∀o,w2.frozen? ⟨g,o,none⟩=false:=λo=>(hb2.frozen (p:=⟨g,o,none⟩) szq).trans (hfz o)
     go_wp2;exact⟨⟨i+1,j+1,by go_num,by go_num,cur.set i l[j],(by have hk:=HDel.o.keep qFp hlt HP.o hb2;rw [Nat.mul_one] at hk;exact hk)⟩,by simp [intOf];omega⟩
    ·have HP:=mH hp;have hF:=HC.o.1;clear hd;go_wp2_with fail;refine(HC.o.2 l[j] _ hin ?_).mono ?_
     ·exact qK HDel.o.d.grown (qH _ (by exact qS))
     rw [HP.o];rintro e w2 ⟨rfl,hb2⟩;go_wp2;exact⟨⟨i,j+1,rfl,by go_num,cur,HDel.o.skip hlt HP.o (by exact qS)⟩,by simp [intOf];omega⟩
   ·obtain rfl:j=l.length:=by omega
    obtain⟨hd1,hd2⟩:=hd.done;have HE:=mH (aI hd1 hd2);have hlc:=hd.len;have hrl:∀j,j<(l.length - i)*1→(wr.cell? ⟨g,i*1+j,none⟩).isSome=true:=by
     intro q hq;have hk2:(i*1+q) / 1<cur.length:=by rw [hd.len];omega
     have:=hd.row.1 ((i*1+q) / 1) hk2 ((i*1+q) % 1) _ (List.getElem?_eq_getElem (by rw [qFp];omega));rw [show 0+(i*1+q) / 1*1+(i*1+q) % 1=i*1+q by omega] at this;rw [this];rfl
    have hcl:=λty=>qCo (P:=prog) wr 26 9 ty _ underlying26 qSM (by simp [Value.cells,Value.oneCell']) g (i*1) (l.length - i) (cap - i) oM hrl hd.row.2.1
    have hzl:(Builtin.zeroCells (Value.string ⟨#[]⟩).cells (l.length - i)).toList.length=(l.length - i)*1:=by simp [Builtin.zeroCells,Value.cells]
    generalize (Builtin.zeroCells (Value.string ⟨#[]⟩).cells (l.length - i)).toList=zs at hcl hzl;simp only [Nat.mul_one] at hcl;have HZ:=mH (aI hzl hlc);have hcap1:¬cap=i:=by omega
    have hcap2:¬i=cap:=by omega
    have hcap3:i≤cap:=by omega
    clear hd hrl hd1 hd2 hzl hlc;go_wp2;go_ret;have h3:=(HDel.o.o.cut qFp i (by rw [HZ.o.2];omega) zs (by rw [HZ.o.2];exact HZ.o.1)).own (base:=base) qFp hbg HM.o;rw [HE.o.1] at h3;simp only [Nat.mul_one] at h3;exact⟨_,rfl,by rw [←HE.o.2] at h3 ⊢;exact h3,qK HDel.o.d.grown (qO _ _ _ _)⟩
section
variable {P : Program} {ops : Array Oper} {Q : Exit → Act → World → Prop} {F : Nat → Value → World → Prop} {D : List (List Nat)} {T : List Nat} {s top : Nat} {w0 : World} {a0 : Act} {i : Nat} {o : Oper}
theorem qW.val (hw:o.guard=none)
  (h:∀(ev:Operand→Value) (u:Nat→Value) (w:World) (M:Nat),(zY ops.toList 0 u a0).eval=ev→(∀v,ev (.const v)=v)→(∀f,ev (.func f)=.func (.func f) #[] #[])→jT w s M→w0.grownBy w (some s)→(∀j∈D.getD i [],F j (u j) w) →
   ∃v w',(execOp ev o).run P w=.ok (.value v) w'∧jT w' s M∧w.grownBy w' (some s)∧F i v w'):qW P ops Q F D T s top w0 a0 i o:=by
 intro hT u w M hs hM hg hf K hK;obtain⟨v,w',hr,hs',hg',hF⟩:=h _ u w M rfl (λ_=>rfl) (λ_=>rfl) hs hg hf;rw [if_pos (by unfold Region.wanted;rw [hw])];unfold Oper.wp;rw [hr,Oper.upon_value];exact hK _ v w' M hs' oM hg' hF rfl
theorem qW.call (hw:o.guard=none)
  (h:∀(ev:Operand→Value) (u:Nat→Value) (w:World) (M:Nat),(zY ops.toList 0 u a0).eval=ev→(∀v,ev (.const v)=v)→(∀f,ev (.func f)=.func (.func f) #[] #[])→jT w s M→M+60≤top→w0.grownBy w (some s)→(∀j∈D.getD i [],F j (u j) w) →
   ∃f args,(execOp ev o).run P w=.ok (.enter f args) w∧Calls P f args w λe w'=>∃v,e=.returned v∧F i v w'∧jT w' s (M+60)∧w.grownBy w' (some s)):qW P ops Q F D T s top w0 a0 i o:=by
 intro hT u w M hs hM hg hf K hK;obtain⟨f,args,hr,hc⟩:=h _ u w M rfl (λ_=>rfl) (λ_=>rfl) hs hM hg hf;rw [if_pos (by unfold Region.wanted;rw [hw])];unfold Oper.wp;rw [hr,Oper.upon_enter];refine hc.mono ?_;rintro e w' ⟨v,rfl,hF,hs',hg'⟩;exact hK _ v w' (M+60) hs' oM hg' hF rfl
end
structure OpH (P:Program) (ops:Array Oper) (Q:Exit→Act→World→Prop) (F:Nat→Value→World→Prop) (D:List (List Nat)) (T:List Nat) (s top:Nat) (w0:World) (a0:Act) (i:Nat) (o:Oper):Prop where
 out:qW P ops Q F D T s top w0 a0 i o
theorem qM.step {P:Program} {ops:Array Oper} {Q:Exit→Act→World→Prop} {F:Nat→Value→World→Prop} {D:List (List Nat)} {T:List Nat} {s top:Nat} {w0:World} {a0:Act} {k:Nat} {o:Oper} {r:List Oper} (k':Nat) (h:OpH P ops Q F D T s top w0 a0 k o) (hr:qM (qW P ops Q F D T s top w0 a0) k' r) (hk:k'=k+1:=by rfl):qM (qW P ops Q F D T s top w0 a0) k (o::r):=by subst hk;exact⟨h.out,hr⟩
theorem qTR {a:Act} {x:Option Tmp} {v d:Value} {e:Tmp} (h:x≠some e):(a.put x v).tmps.getD e d=a.tmps.getD e d:=by
 cases x with
 | none=>rfl
 | some y =>
  have:y≠e:=λq=>h (by rw [q])
  simp only [Act.put,Array.getD_eq_getD_getElem?,Array.getElem?_setIfInBounds,if_neg this]
theorem qMi {a:Act} {x:Option Tmp} {v:Value}:(a.put x v).tmps.size=a.tmps.size:=by
 cases x with
 | none=>rfl
 | some y=>simp [Act.put]
theorem qFX:∀(l:List Oper) (k:Nat) (u:Nat→Value) (a:Act) (e:Tmp) (d:Value),e ∉ qAk l→(zY l k u a).tmps.getD e d=a.tmps.getD e d
 | [],_,_,_,_,_,_=>rfl
 | o::r,k,u,a,e,d,h=>by
  unfold zY;have h1:o.dst≠some e:=λq=>h (by unfold qAk;rw [List.filterMap_cons,q];exact List.mem_cons_self ..)
  have h2:e ∉ qAk r:=λq=>h (by unfold qAk at *;rw [List.filterMap_cons];split;exact q;exact List.mem_cons_of_mem _ q)
  rw [qFX r (k+1) u _ e d h2,qTR h1]
theorem qHH:∀(l:List Oper) (k:Nat) (u:Nat→Value) (a:Act) (j:Nat) (e:Tmp) (d:Value),(qAk l).Nodup→(l[j]?).bind (·.dst)=some e→e<a.tmps.size→(zY l k u a).tmps.getD e d=u (k+j)
 | [],_,_,_,_,_,_,_,h,_=>by simp at h
 | o::r,k,u,a,0,e,d,hn,h,he=>by
  unfold zY;have h1:o.dst=some e:=by simpa using h
  have h2:e ∉ qAk r:=by
   unfold qAk at hn ⊢;rw [List.filterMap_cons,h1] at hn;exact(List.nodup_cons.1 hn).1
  rw [qFX r (k+1) u _ e d h2,h1,Nat.add_zero];simp [Act.put,Array.getD_eq_getD_getElem?,he]
 | o::r,k,u,a,j+1,e,d,hn,h,he=>by
  unfold zY;rw [show k+(j+1)=k+1+j by omega];refine qHH r (k+1) u _ j e d ?_ (by simpa using h) (by rw [qMi];exact he);unfold qAk at hn ⊢;rw [List.filterMap_cons] at hn
  split at hn
  ·exact hn
  ·exact(List.nodup_cons.1 hn).2
structure Frm (ops:Array Oper) (a0:Act) (n:Nat):Prop where
 nd:(qAk ops.toList).Nodup
 sz:a0.tmps.size=n
theorem qHi {ops:Array Oper} {a0:Act} {n j:Nat} {e:Tmp} (fr:Frm ops a0 n) (hd:(ops[j]?).bind (·.dst)=some e) (he:e<n) (u:Nat→Value):(zY ops.toList 0 u a0).eval (.tmp e)=u j:=by
 have:=qHH ops.toList 0 u a0 j e undef fr.nd (by simpa using hd) (by rw [fr.sz];exact he);rw [Nat.zero_add] at this;exact this
theorem qLh {ops:Array Oper} {a0:Act} {e:Tmp} {v:Value} (hd:(qAk ops.toList).contains e=false) (h:a0.eval (.tmp e)=v) (u:Nat→Value):(zY ops.toList 0 u a0).eval (.tmp e)=v :=
 (qFX ops.toList 0 u a0 e undef (by simpa using hd)).trans h
theorem qG3:∀(l:List Oper) (k:Nat) (u:Nat→Value) (a:Act),(zY l k u a).tmps.size=a.tmps.size
 | [],_,_,_=>rfl
 | o::r,k,u,a=>by unfold zY;rw [qG3 r,qMi]
theorem qHZ:∀(l:List Oper) (k:Nat) (u:Nat→Value) (a:Act),(zY l k u a).defers=a.defers
 | [],_,_,_=>rfl
 | o::r,k,u,a=>by
  unfold zY;rw [qHZ r]
  cases o.dst <;> rfl
def qDQ (u:Nat→Value):List (Option Nat)→List Value→List Value
 | some j::J,_::l=>u j::qDQ u J l
 | none::J,v::l=>v::qDQ u J l
 | _,_=>[]
theorem qIq (u:Nat→Value):∀(J:List (Option Nat)) (l:List Value),J.length=l.length→(qDQ u J l).length=l.length
 | [],[],_=>rfl
 | some _::J,_::l,h=>by simp only [qDQ,List.length_cons];rw [qIq u J l (by simpa using h)]
 | none::J,_::l,h=>by simp only [qDQ,List.length_cons];rw [qIq u J l (by simpa using h)]
theorem qIx (u:Nat→Value):∀(J:List (Option Nat)) (l:List Value) (d:Nat),J.length=l.length→(qDQ u J l)[d]? = match J[d]? with|some (some j)=>some (u j)|some none=>l[d]? | none=>none
 | [],[],d,_=>by simp [qDQ]
 | some _::J,_::l,0,h=>by simp [qDQ]
 | none::J,_::l,0,h=>by simp [qDQ]
 | some _::J,_::l,d+1,h=>by simpa [qDQ] using qIx u J l d (by simpa using h)
 | none::J,_::l,d+1,h=>by simpa [qDQ] using qIx u J l d (by simpa using h)
def qUJ (ops:Array Oper) (J:List (Option Nat)):Bool:=(List.range J.length).all λd=>match J.getD d none with
 | some j=>(ops[j]?).bind (·.dst)==some d
 | none=>!(qAk ops.toList).contains d
theorem qPR {ops:Array Oper} {a0:Act} {n:Nat} {J:List (Option Nat)} (fr:Frm ops a0 n) (hJ:J.length=n) (hc:qUJ ops J=true) (u:Nat→Value):zY ops.toList 0 u a0=⟨(qDQ u J a0.tmps.toList).toArray,a0.defers⟩:=by
 have hl:J.length=a0.tmps.toList.length:=by rw [hJ,←fr.sz];simp
 have h1:=qHZ ops.toList 0 u a0;have h2:(zY ops.toList 0 u a0).tmps=(qDQ u J a0.tmps.toList).toArray:=by
  apply Array.ext
  ·rw [qG3,List.size_toArray];exact(qIq u J _ hl).symm
  ·intro d hd hd2;have hdn:d<a0.tmps.size:=by rw [qG3] at hd;exact hd
   have hdJ:d<J.length:=by rw [hl];simpa using hdn
   have hg:=qIx u J a0.tmps.toList d hl;have hc1:=List.all_eq_true.1 hc d (by simpa using hdJ);rw [List.getD_eq_getElem?_getD,List.getElem?_eq_getElem hdJ,Option.getD_some] at hc1;rw [List.getElem?_eq_getElem hdJ] at hg;have hL:(zY ops.toList 0 u a0).tmps[d]=(zY ops.toList 0 u a0).tmps.getD d undef:=by simp [Array.getD,hd]
   rw [hL,List.getElem_toArray];have hd3:d<(qDQ u J a0.tmps.toList).length:=by simpa using hd2
   rw [List.getElem?_eq_getElem hd3] at hg
   cases hj:J[d] with
   | some j =>
    rw [hj] at hg hc1;simp only [beq_iff_eq] at hc1;have:=qHH ops.toList 0 u a0 j d undef fr.nd (by simpa using hc1) hdn;rw [this,Nat.zero_add];exact(Option.some.inj hg).symm
   | none =>
    rw [hj] at hg hc1;simp only [Bool.not_eq_true',List.contains_eq_mem,decide_eq_false_iff_not] at hc1;rw [qFX ops.toList 0 u a0 d undef hc1];simp only [Array.getD,hdn,dif_pos];have hg2:some (qDQ u J a0.tmps.toList)[d]=a0.tmps.toList[d]? := hg;rw [List.getElem?_eq_getElem (by simpa using hdn)] at hg2;have:=Option.some.inj hg2;rw [this];simp
 obtain⟨x,y⟩:(∃x,x=zY ops.toList 0 u a0):=⟨_,rfl⟩;rw [←y] at h1 h2 ⊢;obtain⟨tm,df⟩:=x;simp only at h1 h2;rw [h1,h2]
theorem qHX {P:Program} {ops:Array Oper} {Q:Exit→Act→World→Prop} {id:Nat} {a0:Act} {w:World} (k s M0 top:Nat) (F:Nat→Value→World→Prop) (D:List (List Nat)) (J:List (Option Nat)) (hsz:ops.size=k) (htop:M0+60*k=top) (hm:P.follows .mixedOrders=true)
  (hris:qGd .any ops=true) (hlast:qLW .any ops []=true) (hnd:(qAk ops.toList).Nodup) (hk:qCj ops.size (qCP ops [])=0) (hD:qSt .any ops D=true) (hcl:qKG .any ops (qCP ops [])=true)
  (hF:∀i v w w',w.grownBy w' (some s)→F i v w→F i v w') (hS:jT w s M0) (hfs:a0.tmps.size=117) (hJ:J.length=117) (hc:qUJ ops J=true) (hr:Region.ready .any ops (qCP ops [])=[]) (hop:Frm ops a0 117→qM (qW P ops Q F D [] s top w.drew a0) 0 ops.toList)
  (hend:∀u w' M,jT w' s M→M≤top→w.drew.grownBy w' (some s)→(∀i,i<k→F i (u i) w')→Q .normal ⟨(qDQ u J a0.tmps.toList).toArray,a0.defers⟩ w'):(Code.region id ops true).wp P Q a0 w:=by
 subst hsz htop;refine qKS hm F D [] 0 s M0 hris hlast hnd hk hD hcl hF hS (hop ⟨hnd,hfs⟩) λu w' M h1 h2 h3 h4=>qA.done hr ?_
 rw [qPR ⟨hnd,hfs⟩ hJ hc u];exact hend u w' M h1 h2 h3 λi hi=>h4 i hi rfl
inductive Kd where
 | ptr
 | clo
 | str (n:Nat)
 | strs (n k:Nat)
 | ints (k:Nat)
def kdF (s bx:Nat) (K:List Kd) (i:Nat) (v:Value) (w:World):Prop:=match K.getD i .ptr with
 | .ptr=>v=.pointer (some ⟨s,0,none⟩)
 | .clo=>v=.func (.func 14) #[] #[.pointer (some ⟨bx,0,none⟩)]
 | .str n=>∃t:ByteArray,v=.string t∧qBP n t
 | .strs n k=>∃(L:List ByteArray) (b:Nat),v=.slice (some ⟨b,0,none⟩) k k∧b≠s∧L.length=k∧(∀t∈L,qBP n t)∧qI strCells 1 w L v
 | .ints k=>∃(L:List Int) (b:Nat),v=.slice (some ⟨b,0,none⟩) k k∧b≠s∧L.length=k∧(∀z∈L,-1000≤z∧z≤1000)∧qI qA6 1 w L v
theorem qKh {s bx:Nat} {K:List Kd} (i:Nat) (v:Value) (w w':World) (hg:w.grownBy w' (some s)) (h:kdF s bx K i v w):kdF s bx K i v w':=by
 unfold kdF at *
 split at h
 ·exact h
 ·exact h
 ·exact h
 ·obtain⟨L,b,rfl,hb,hl,hg',hA⟩:=h;exact⟨L,b,rfl,hb,hl,hg',hA.grown hg hb⟩
 ·obtain⟨L,b,rfl,hb,hl,hg',hA⟩:=h;exact⟨L,b,rfl,hb,hl,hg',hA.grown hg hb⟩
theorem qQh {n:Int} (h : -1000≤n∧n≤1000):qBP 20 (qBq n):=by
 refine⟨by show(bA (Lib.itoa n)).size≤20;rw [qCJ];exact Nat.le_trans (qHM (qEz (most:=4) (n:=n) oM dE)).1 oM,?_⟩;unfold qA9;rw [show(qBq n).data.toList=Lib.itoa n from rfl];exact qTQ (qEz (most:=4) (n:=n) oM dE) dE
section
variable {ops : Array Oper} {Q : Exit → Act → World → Prop} {D : List (List Nat)} {T : List Nat} {s bx top : Nat} {w0 : World} {a0 : Act} {i : Nat} {K : List Kd} {d : Option Tmp} {ty : TypeId} {pos : String} {aft : Array Edge}
def jB (ops:Array Oper) (a0:Act) (s bx:Nat) (K:List Kd) (D:List (List Nat)) (i:Nat) (x:Operand) (n:Nat):Prop :=
 ∀(u:Nat→Value) (w:World),(∀j∈D.getD i [],kdF s bx K j (u j) w)→∃t:ByteArray,(zY ops.toList 0 u a0).eval x=.string t∧qBP n t
theorem jB.lit {t:ByteArray} {n:Nat} (h:qPH n t=true:=by decide):jB ops a0 s bx K D i (.const (.string t)) n:=λ_ _ _=>⟨t,rfl,qIN h⟩
theorem jB.tmp (j:Nat) {e:Tmp} {n:Nat} (hj:j∈D.getD i []:=by decide) (hk:K.getD j .ptr=.str n:=by rfl) (fr:Frm ops a0 117:=by assumption) (hd:(ops[j]?).bind (·.dst)=some e:=by kernel_rfl) (hl:e<117:=by decide):jB ops a0 s bx K D i (.tmp e) n:=λu w hf=>by
 have h:=hf j hj;unfold kdF at h;rw [hk] at h;obtain⟨t,h1,h2⟩:=h;exact⟨t,(qHi fr hd hl u).trans h1,h2⟩
theorem jB.old {t:ByteArray} {e:Tmp} {n:Nat} (h:qBP n t) (hd:(qAk ops.toList).contains e=false:=by kernel_rfl) (ho:a0.eval (.tmp e)=.string t:=by rfl):jB ops a0 s bx K D i (.tmp e) n:=λu _ _=>⟨t,qLh hd ho u,h⟩
theorem jB.mono {x:Operand} {n m:Nat} (h:jB ops a0 s bx K D i x n) (hm:n≤m:=by decide):jB ops a0 s bx K D i x m:=λu w hf=>by
 obtain⟨t,h1,h2⟩:=h u w hf;exact⟨t,h1,h2.mono hm⟩
theorem qW.cat {x y:Operand} {n m:Nat} (hx:jB ops a0 s bx K D i x n) (hy:jB ops a0 s bx K D i y m) (hk:K.getD i .ptr=.str (n+m):=by rfl) (hn:n≤100000:=by decide) (hm:m≤100000:=by decide) :
  OpH prog ops Q (kdF s bx K) D T s top w0 a0 i { dst:=d,op:=.binOp .add 9 x y 9,type:=ty,pos:=pos,after:=aft,guard:=none }:=by
 refine⟨qW.val ?_ ?_⟩
 ·rfl
 intro ev u w M ha hcn hfn hs hg hf;obtain⟨t1,e1,g1⟩:=hx u w hf;obtain⟨t2,e2,g2⟩:=hy u w hf;rw [ha] at e1 e2;have aa:¬9223372036854775807<t1.size+t2.size:=by have:=g1.1;have:=g2.1;omega
 refine⟨.string (t1++t2),w,?_,hs,qBA _ _,?_⟩
 ·clear hf ha hx hy;go_simp
 ·unfold kdF;rw [hk];exact⟨_,rfl,g1.cat g2⟩
theorem qW.mv {x:Operand} {n:Nat} (hx:jB ops a0 s bx K D i x n) (hk:K.getD i .ptr=.str n:=by rfl) :
  OpH prog ops Q (kdF s bx K) D T s top w0 a0 i { dst:=d,op:=.move x,type:=ty,pos:=pos,after:=aft,guard:=none }:=by
 refine⟨qW.val ?_ ?_⟩
 ·rfl
 intro ev u w M ha hcn hfn hs hg hf;obtain⟨t1,e1,g1⟩:=hx u w hf;rw [ha] at e1;refine⟨.string t1,w,?_,hs,qBA _ _,?_⟩
 ·clear hf ha hx;go_simp
 ·unfold kdF;rw [hk];exact⟨_,rfl,g1⟩
theorem qW.asg {x:Operand} {n:Nat} (hx:jB ops a0 s bx K D i x n) (hk:K.getD i .ptr=.str n:=by rfl) :
  OpH prog ops Q (kdF s bx K) D T s top w0 a0 i { dst:=d,op:=.assign x,type:=ty,pos:=pos,after:=aft,guard:=none }:=by
 refine⟨qW.val ?_ ?_⟩
 ·rfl
 intro ev u w M ha hcn hfn hs hg hf;obtain⟨t1,e1,g1⟩:=hx u w hf;rw [ha] at e1;refine⟨.string t1,w,?_,hs,qBA _ _,?_⟩
 ·clear hf ha hx;go_simp
 ·unfold kdF;rw [hk];exact⟨_,rfl,g1⟩
theorem qW.fn {e:Tmp} (hk:K.getD i .ptr=.clo:=by rfl) (hd:(qAk ops.toList).contains e=false:=by kernel_rfl) (ho:a0.eval (.tmp e)=.func (.func 14) #[] #[.pointer (some ⟨bx,0,none⟩)]:=by rfl) :
  OpH prog ops Q (kdF s bx K) D T s top w0 a0 i { dst:=d,op:=.move (.tmp e),type:=ty,pos:=pos,after:=aft,guard:=none }:=by
 refine⟨qW.val ?_ ?_⟩
 ·rfl
 intro ev u w M ha hcn hfn hs hg hf;have e1:=qLh hd ho u;rw [ha] at e1;refine⟨.func (.func 14) #[] #[.pointer (some ⟨bx,0,none⟩)],w,?_,hs,qBA _ _,?_⟩
 ·clear hf ha hd ho;go_simp
 ·unfold kdF;rw [hk]
theorem qW.load {e:Tmp} (hb:∀w,w0.grownBy w (some s)→w.cell? ⟨bx,0,none⟩=some (.pointer (some ⟨s,0,none⟩))) (hk:K.getD i .ptr=.ptr:=by rfl) (hd:(qAk ops.toList).contains e=false:=by kernel_rfl) (ho:a0.eval (.tmp e)=.pointer (some ⟨bx,0,none⟩):=by rfl) :
  OpH prog ops Q (kdF s bx K) D T s top w0 a0 i { dst:=d,op:=.load 23 (.tmp e),type:=ty,pos:=pos,after:=aft,guard:=none }:=by
 refine⟨qW.val ?_ ?_⟩
 ·rfl
 intro ev u w M ha hcn hfn hs hg hf;have e1:=qLh hd ho u;rw [ha] at e1;have hc:=hb w hg;refine⟨.pointer (some ⟨s,0,none⟩),w,?_,hs,qBA _ _,?_⟩
 ·clear hf ha hd ho hb;go_simp
 ·unfold kdF;rw [hk]
theorem qW.sm (ja jb:Nat) {ea eb:Tmp} {n k:Nat} {at_:Array TypeId} (hja:ja∈D.getD i []:=by decide) (hjb:jb∈D.getD i []:=by decide) (hka:K.getD ja .ptr=.ptr:=by rfl) (hkb:K.getD jb .ptr=.strs n k:=by rfl) (hk:K.getD i .ptr=.str n:=by rfl) (hk1:1≤k:=by decide) (hk2:k≤1000:=by decide) (htop:top≤1000000000:=by omega)
  (fr:Frm ops a0 117:=by assumption) (hda:(ops[ja]?).bind (·.dst)=some ea:=by kernel_rfl) (hla:ea<117:=by decide) (hdb:(ops[jb]?).bind (·.dst)=some eb:=by kernel_rfl) (hlb:eb<117:=by decide) :
  OpH prog ops Q (kdF s bx K) D T s top w0 a0 i { dst:=d,op:=.call { callee:=.value (.func 7),args:=#[.tmp ea,.tmp eb],argTypes:=at_ },type:=ty,pos:=pos,after:=aft,guard:=none }:=by
 refine⟨qW.call ?_ ?_⟩
 ·rfl
 intro ev u w M ha hcn hfn hs hM hg hf;have e1:=qHi fr hda hla u;have e2:=qHi fr hdb hlb u;rw [ha] at e1 e2;have f1:=hf ja hja;have f2:=hf jb hjb;unfold kdF at f1 f2;rw [hka] at f1;rw [hkb] at f2;obtain⟨L,b,hv,hb,hl,hgood,hA⟩:=f2;rw [f1] at e1;rw [hv] at e2 hA;subst hl;refine⟨7,#[.pointer (some ⟨s,0,none⟩),.slice (some ⟨b,0,none⟩) L.length L.length],?_,?_⟩
 ·clear hf ha fr hda hdb hA;go_simp
 ·refine(qM0 s M _ L w hs oM hA hk1 oM (λn cap off e=>by simp only [Value.slice.injEq,Option.some.injEq,Addr.mk.injEq] at e;exact hb e.1.1)).mono ?_;rintro e w' ⟨v,rfl,⟨r,rfl,hr⟩,hs',hg'⟩;exact⟨_,rfl,by unfold kdF;rw [hk];exact⟨r,rfl,hgood r hr⟩,hs'.mono oM,hg'⟩
theorem qW.num (ja jb:Nat) {ea eb:Tmp} {k:Nat} {at_:Array TypeId}
  (hcl:∀(w:World) (M:Nat) (L:List Int) (v:Value),w0.grownBy w (some s)→jT w s M→M≤top→qI qA6 1 w L v→1≤L.length→L.length≤1000→(∀z∈L,-1000≤z∧z≤1000)→(∀n cap off,v≠.slice (some ⟨s,off,none⟩) n cap) →
   Calls prog 14 #[v,.pointer (some ⟨bx,0,none⟩)] w λe w'=>∃t:ByteArray,e=.returned (.string t)∧qBP 20 t∧jT w' s (M+1)∧w.grownBy w' (some s))
  (hja:ja∈D.getD i []:=by decide) (hjb:jb∈D.getD i []:=by decide) (hka:K.getD ja .ptr=.clo:=by rfl) (hkb:K.getD jb .ptr=.ints k:=by rfl) (hk:K.getD i .ptr=.str 20:=by rfl) (hk1:1≤k:=by decide) (hk2:k≤1000:=by decide)
  (fr:Frm ops a0 117:=by assumption) (hda:(ops[ja]?).bind (·.dst)=some ea:=by kernel_rfl) (hla:ea<117:=by decide) (hdb:(ops[jb]?).bind (·.dst)=some eb:=by kernel_rfl) (hlb:eb<117:=by decide) :
  OpH prog ops Q (kdF s bx K) D T s top w0 a0 i { dst:=d,op:=.call { callee:=.value (.tmp ea),args:=#[.tmp eb],argTypes:=at_ },type:=ty,pos:=pos,after:=aft,guard:=none }:=by
 refine⟨qW.call ?_ ?_⟩
 ·rfl
 intro ev u w M ha hcn hfn hs hM hg hf;have e1:=qHi fr hda hla u;have e2:=qHi fr hdb hlb u;rw [ha] at e1 e2;have f1:=hf ja hja;have f2:=hf jb hjb;unfold kdF at f1 f2;rw [hka] at f1;rw [hkb] at f2;obtain⟨L,b,hv,hb,hl,hgood,hA⟩:=f2;rw [f1] at e1;rw [hv] at e2 hA;subst hl;refine⟨14,#[.slice (some ⟨b,0,none⟩) L.length L.length,.pointer (some ⟨bx,0,none⟩)],?_,?_⟩
 ·clear hf ha fr hda hdb hA hcl;have hfn:=qAB func14 kR rfl;go_simp
 ·refine(hcl w M L _ hg hs oM hA hk1 hk2 hgood (λn cap off e=>by simp only [Value.slice.injEq,Option.some.injEq,Addr.mk.injEq] at e;exact hb e.1.1)).mono ?_;rintro e w' ⟨t,rfl,ht,hs',hg'⟩;exact⟨_,rfl,by unfold kdF;rw [hk];exact⟨t,rfl,ht⟩,hs'.mono oM,hg'⟩
theorem qW.sl2 {x0 x1:Operand} {n:Nat} (h0:jB ops a0 s bx K D i x0 n) (h1:jB ops a0 s bx K D i x1 n) (hk:K.getD i .ptr=.strs n 2:=by rfl) :
  OpH prog ops Q (kdF s bx K) D T s top w0 a0 i { dst:=d,op:=.buildSlice 26 2 #[(0,x0),(1,x1)],type:=ty,pos:=pos,after:=aft,guard:=none }:=by
 refine⟨qW.val ?_ ?_⟩
 ·rfl
 intro ev u w M ha hcn hfn hs hg hf;obtain⟨t0,e0,g0⟩:=h0 u w hf;obtain⟨t1,e1,g1⟩:=h1 u w hf;rw [ha] at e0 e1;refine⟨.slice (some ⟨w.heap.size,0,none⟩) 2 2,w.alloc (.cells #[.string t0,.string t1] 9),?_,hs.alloc _,World.grownBy_alloc w _ _,?_⟩
 ·clear hf ha h0 h1;go_simp
 ·unfold kdF;rw [hk];have hl:=hs.lt;refine⟨[t0,t1],w.heap.size,rfl,by omega,rfl,?_,qI.litAt (cells:=strCells) (sz:=1) (λ_=>rfl) rfl rfl rfl (by simp [maxLen])⟩;intro t ht;simp only [List.mem_cons,List.not_mem_nil,or_false] at ht
  rcases ht with rfl|rfl
  ·exact g0
  ·exact g1
theorem qW.sl3 {x0 x1 x2:Operand} {n:Nat} (h0:jB ops a0 s bx K D i x0 n) (h1:jB ops a0 s bx K D i x1 n) (h2:jB ops a0 s bx K D i x2 n) (hk:K.getD i .ptr=.strs n 3:=by rfl) :
  OpH prog ops Q (kdF s bx K) D T s top w0 a0 i { dst:=d,op:=.buildSlice 26 3 #[(0,x0),(1,x1),(2,x2)],type:=ty,pos:=pos,after:=aft,guard:=none }:=by
 refine⟨qW.val ?_ ?_⟩
 ·rfl
 intro ev u w M ha hcn hfn hs hg hf;obtain⟨t0,e0,g0⟩:=h0 u w hf;obtain⟨t1,e1,g1⟩:=h1 u w hf;obtain⟨t2,e2,g2⟩:=h2 u w hf;rw [ha] at e0 e1 e2;refine⟨.slice (some ⟨w.heap.size,0,none⟩) 3 3,w.alloc (.cells #[.string t0,.string t1,.string t2] 9),?_,hs.alloc _,World.grownBy_alloc w _ _,?_⟩
 ·clear hf ha h0 h1 h2;go_simp
 ·unfold kdF;rw [hk];have hl:=hs.lt;refine⟨[t0,t1,t2],w.heap.size,rfl,by omega,rfl,?_,qI.litAt (cells:=strCells) (sz:=1) (λ_=>rfl) rfl rfl rfl (by simp [maxLen])⟩;intro t ht;simp only [List.mem_cons,List.not_mem_nil,or_false] at ht
  rcases ht with rfl|rfl|rfl
  ·exact g0
  ·exact g1
  ·exact g2
theorem qW.sl4 {x0 x1 x2 x3:Operand} {n:Nat} (h0:jB ops a0 s bx K D i x0 n) (h1:jB ops a0 s bx K D i x1 n) (h2:jB ops a0 s bx K D i x2 n) (h3:jB ops a0 s bx K D i x3 n) (hk:K.getD i .ptr=.strs n 4:=by rfl) :
  OpH prog ops Q (kdF s bx K) D T s top w0 a0 i { dst:=d,op:=.buildSlice 26 4 #[(0,x0),(1,x1),(2,x2),(3,x3)],type:=ty,pos:=pos,after:=aft,guard:=none }:=by
 refine⟨qW.val ?_ ?_⟩
 ·rfl
 intro ev u w M ha hcn hfn hs hg hf;obtain⟨t0,e0,g0⟩:=h0 u w hf;obtain⟨t1,e1,g1⟩:=h1 u w hf;obtain⟨t2,e2,g2⟩:=h2 u w hf;obtain⟨t3,e3,g3⟩:=h3 u w hf;rw [ha] at e0 e1 e2 e3;refine⟨.slice (some ⟨w.heap.size,0,none⟩) 4 4,w.alloc (.cells #[.string t0,.string t1,.string t2,.string t3] 9),?_,hs.alloc _,World.grownBy_alloc w _ _,?_⟩
 ·clear hf ha h0 h1 h2 h3;go_simp
 ·unfold kdF;rw [hk];have hl:=hs.lt;refine⟨[t0,t1,t2,t3],w.heap.size,rfl,by omega,rfl,?_,qI.litAt (cells:=strCells) (sz:=1) (λ_=>rfl) rfl rfl rfl (by simp [maxLen])⟩;intro t ht;simp only [List.mem_cons,List.not_mem_nil,or_false] at ht
  rcases ht with rfl|rfl|rfl|rfl
  ·exact g0
  ·exact g1
  ·exact g2
  ·exact g3
theorem qW.sl5 {x0 x1 x2 x3 x4:Operand} {n:Nat} (h0:jB ops a0 s bx K D i x0 n) (h1:jB ops a0 s bx K D i x1 n) (h2:jB ops a0 s bx K D i x2 n) (h3:jB ops a0 s bx K D i x3 n) (h4:jB ops a0 s bx K D i x4 n) (hk:K.getD i .ptr=.strs n 5:=by rfl) :
  OpH prog ops Q (kdF s bx K) D T s top w0 a0 i { dst:=d,op:=.buildSlice 26 5 #[(0,x0),(1,x1),(2,x2),(3,x3),(4,x4)],type:=ty,pos:=pos,after:=aft,guard:=none }:=by
 refine⟨qW.val ?_ ?_⟩
 ·rfl
 intro ev u w M ha hcn hfn hs hg hf;obtain⟨t0,e0,g0⟩:=h0 u w hf;obtain⟨t1,e1,g1⟩:=h1 u w hf;obtain⟨t2,e2,g2⟩:=h2 u w hf;obtain⟨t3,e3,g3⟩:=h3 u w hf;obtain⟨t4,e4,g4⟩:=h4 u w hf;rw [ha] at e0 e1 e2 e3 e4;refine⟨.slice (some ⟨w.heap.size,0,none⟩) 5 5,w.alloc (.cells #[.string t0,.string t1,.string t2,.string t3,.string t4] 9),?_,hs.alloc _,World.grownBy_alloc w _ _,?_⟩
 ·clear hf ha h0 h1 h2 h3 h4;go_simp
 ·unfold kdF;rw [hk];have hl:=hs.lt;refine⟨[t0,t1,t2,t3,t4],w.heap.size,rfl,by omega,rfl,?_,qI.litAt (cells:=strCells) (sz:=1) (λ_=>rfl) rfl rfl rfl (by simp [maxLen])⟩;intro t ht;simp only [List.mem_cons,List.not_mem_nil,or_false] at ht
  rcases ht with rfl|rfl|rfl|rfl|rfl
  ·exact g0
  ·exact g1
  ·exact g2
  ·exact g3
  ·exact g4
theorem qW.sl6 {x0 x1 x2 x3 x4 x5:Operand} {n:Nat} (h0:jB ops a0 s bx K D i x0 n) (h1:jB ops a0 s bx K D i x1 n) (h2:jB ops a0 s bx K D i x2 n) (h3:jB ops a0 s bx K D i x3 n) (h4:jB ops a0 s bx K D i x4 n) (h5:jB ops a0 s bx K D i x5 n) (hk:K.getD i .ptr=.strs n 6:=by rfl) :
  OpH prog ops Q (kdF s bx K) D T s top w0 a0 i { dst:=d,op:=.buildSlice 26 6 #[(0,x0),(1,x1),(2,x2),(3,x3),(4,x4),(5,x5)],type:=ty,pos:=pos,after:=aft,guard:=none }:=by
 refine⟨qW.val ?_ ?_⟩
 ·rfl
 intro ev u w M ha hcn hfn hs hg hf;obtain⟨t0,e0,g0⟩:=h0 u w hf;obtain⟨t1,e1,g1⟩:=h1 u w hf;obtain⟨t2,e2,g2⟩:=h2 u w hf;obtain⟨t3,e3,g3⟩:=h3 u w hf;obtain⟨t4,e4,g4⟩:=h4 u w hf;obtain⟨t5,e5,g5⟩:=h5 u w hf;rw [ha] at e0 e1 e2 e3 e4 e5;refine⟨.slice (some ⟨w.heap.size,0,none⟩) 6 6,w.alloc (.cells #[.string t0,.string t1,.string t2,.string t3,.string t4,.string t5] 9),?_,hs.alloc _,World.grownBy_alloc w _ _,?_⟩
 ·clear hf ha h0 h1 h2 h3 h4 h5;go_simp
 ·unfold kdF;rw [hk];have hl:=hs.lt;refine⟨[t0,t1,t2,t3,t4,t5],w.heap.size,rfl,by omega,rfl,?_,qI.litAt (cells:=strCells) (sz:=1) (λ_=>rfl) rfl rfl rfl (by simp [maxLen])⟩;intro t ht;simp only [List.mem_cons,List.not_mem_nil,or_false] at ht
  rcases ht with rfl|rfl|rfl|rfl|rfl|rfl
  ·exact g0
  ·exact g1
  ·exact g2
  ·exact g3
  ·exact g4
  ·exact g5
theorem qW.sl11 {x0 x1 x2 x3 x4 x5 x6 x7 x8 x9 x10:Operand} {n:Nat} (h0:jB ops a0 s bx K D i x0 n) (h1:jB ops a0 s bx K D i x1 n) (h2:jB ops a0 s bx K D i x2 n) (h3:jB ops a0 s bx K D i x3 n) (h4:jB ops a0 s bx K D i x4 n) (h5:jB ops a0 s bx K D i x5 n) (h6:jB ops a0 s bx K D i x6 n) (h7:jB ops a0 s bx K D i x7 n) (h8:jB ops a0 s bx K D i x8 n) (h9:jB ops a0 s bx K D i x9 n) (h10:jB ops a0 s bx K D i x10 n) (hk:K.getD i .ptr=.strs n 11:=by rfl) :
  OpH prog ops Q (kdF s bx K) D T s top w0 a0 i { dst:=d,op:=.buildSlice 26 11 #[(0,x0),(1,x1),(2,x2),(3,x3),(4,x4),(5,x5),(6,x6),(7,x7),(8,x8),(9,x9),(10,x10)],type:=ty,pos:=pos,after:=aft,guard:=none }:=by
 refine⟨qW.val ?_ ?_⟩
 ·rfl
 intro ev u w M ha hcn hfn hs hg hf;obtain⟨t0,e0,g0⟩:=h0 u w hf;obtain⟨t1,e1,g1⟩:=h1 u w hf;obtain⟨t2,e2,g2⟩:=h2 u w hf;obtain⟨t3,e3,g3⟩:=h3 u w hf;obtain⟨t4,e4,g4⟩:=h4 u w hf;obtain⟨t5,e5,g5⟩:=h5 u w hf;obtain⟨t6,e6,g6⟩:=h6 u w hf;obtain⟨t7,e7,g7⟩:=h7 u w hf;obtain⟨t8,e8,g8⟩:=h8 u w hf;obtain⟨t9,e9,g9⟩:=h9 u w hf;obtain⟨t10,e10,g10⟩:=h10 u w hf;rw [ha] at e0 e1 e2 e3 e4 e5 e6 e7 e8 e9 e10;refine⟨.slice (some ⟨w.heap.size,0,none⟩) 11 11,w.alloc (.cells #[.string t0,.string t1,.string t2,.string t3,.string t4,.string t5,.string t6,.string t7,.string t8,.string t9,.string t10] 9),?_,hs.alloc _,World.grownBy_alloc w _ _,?_⟩
 ·clear hf ha h0 h1 h2 h3 h4 h5 h6 h7 h8 h9 h10;go_simp
 ·unfold kdF;rw [hk];have hl:=hs.lt;refine⟨[t0,t1,t2,t3,t4,t5,t6,t7,t8,t9,t10],w.heap.size,rfl,by omega,rfl,?_,qI.litAt (cells:=strCells) (sz:=1) (λ_=>rfl) rfl rfl rfl (by simp [maxLen])⟩;intro t ht;simp only [List.mem_cons,List.not_mem_nil,or_false] at ht
  rcases ht with rfl|rfl|rfl|rfl|rfl|rfl|rfl|rfl|rfl|rfl|rfl
  ·exact g0
  ·exact g1
  ·exact g2
  ·exact g3
  ·exact g4
  ·exact g5
  ·exact g6
  ·exact g7
  ·exact g8
  ·exact g9
  ·exact g10
theorem qW.in2 {z0 z1:Int} (hz:([z0,z1]:List Int).all (λz=>decide (-1000≤z∧z≤1000))=true:=by decide) (hk:K.getD i .ptr=.ints 2:=by rfl) :
  OpH prog ops Q (kdF s bx K) D T s top w0 a0 i { dst:=d,op:=.buildSlice 22 2 #[(0,.const (.int .i64 z0)),(1,.const (.int .i64 z1))],type:=ty,pos:=pos,after:=aft,guard:=none }:=by
 refine⟨qW.val ?_ ?_⟩
 ·rfl
 intro ev u w M ha hcn hfn hs hg hf;refine⟨.slice (some ⟨w.heap.size,0,none⟩) 2 2,w.alloc (.cells #[.int .i64 z0,.int .i64 z1] 3),?_,hs.alloc _,World.grownBy_alloc w _ _,?_⟩
 ·clear hf ha hz;go_simp
 ·unfold kdF;rw [hk];have hl:=hs.lt;exact⟨[z0,z1],w.heap.size,rfl,by omega,rfl,λz h=>by simpa using List.all_eq_true.1 hz z h,qI.litAt (cells:=qA6) (sz:=1) (λ_=>rfl) rfl rfl rfl (by simp [maxLen])⟩
theorem qW.in3 {z0 z1 z2:Int} (hz:([z0,z1,z2]:List Int).all (λz=>decide (-1000≤z∧z≤1000))=true:=by decide) (hk:K.getD i .ptr=.ints 3:=by rfl) :
  OpH prog ops Q (kdF s bx K) D T s top w0 a0 i { dst:=d,op:=.buildSlice 22 3 #[(0,.const (.int .i64 z0)),(1,.const (.int .i64 z1)),(2,.const (.int .i64 z2))],type:=ty,pos:=pos,after:=aft,guard:=none }:=by
 refine⟨qW.val ?_ ?_⟩
 ·rfl
 intro ev u w M ha hcn hfn hs hg hf;refine⟨.slice (some ⟨w.heap.size,0,none⟩) 3 3,w.alloc (.cells #[.int .i64 z0,.int .i64 z1,.int .i64 z2] 3),?_,hs.alloc _,World.grownBy_alloc w _ _,?_⟩
 ·clear hf ha hz;go_simp
 ·unfold kdF;rw [hk];have hl:=hs.lt;exact⟨[z0,z1,z2],w.heap.size,rfl,by omega,rfl,λz h=>by simpa using List.all_eq_true.1 hz z h,qI.litAt (cells:=qA6) (sz:=1) (λ_=>rfl) rfl rfl rfl (by simp [maxLen])⟩
end
def kd2:List Kd:=[.ptr,.strs 2 5,.str 2,.ptr,.strs 2 4,.str 2,.str 2,.str 2]
def dp2:List (List Nat):=[[],[],[0,1],[],[],[3,4],[2],[5]]
def sl2:List (Option Nat):=[none,none,none,none,some 6,some 7,none,none,some 0,some 1,some 2,some 3,some 4,some 5,none,none,none,none,none,none,none,none,none,none,none,none,none,none,none,none,none,none,none,none,none,none,none,none,none,none,none,none,none,none,none,none,none,none,none,none,none,none,none,none,none,none,none,none,none,none,none,none,none,none,none,none,none,none,none,none,none,none,none,none,none,none,none,none,none,none,none,none,none,none,none,none,none,none,none,none,none,none,none,none,none,none,none,none,none,none,none,none,none,none,none,none,none,none,none,none,none,none,none,none,none,none,none]
def kd3:List Kd:=[.ptr,.ptr,.strs 3 6,.str 3,.str 6,.ptr,.strs 3 3,.str 3,.str 6,.str 12,.ptr,.strs 2 3,.str 2,.str 14,.str 15,.ptr,.strs 7 3,.str 7,.str 22,.ptr,.strs 2 3,.str 2,.str 15,.str 16,.str 2,.str 18,.str 19,.ptr,.strs 1 3,.str 1,.str 20,.str 21,.clo,.ints 3,.str 20,.str 41,.str 42,.clo,.ints 3,.str 20,.str 62,.ptr,.strs 1 3,.str 1,.str 13,.str 17,.clo,.ints 2,.str 20,.str 37,.str 41,.clo,.ints 2,.str 20,.str 61,.str 62,.clo,.ints 2,.str 20,.str 82,.ptr,.strs 1 2,.str 1,.str 12,.str 16,.clo,.ints 2,.str 20,.str 36,.str 40,.clo,.ints 2,.str 20,.str 60,.str 2,.str 16,.str 2,.str 7,.str 8,.clo,.ints 3,.str 20,.str 28,.str 29,.str 2,.str 31,.ptr,.strs 2 3,.str 2,.str 12,.str 2,.str 7,.ptr,.strs 9 6,.str 9,.strs 82 11,.str 82,.str 82]
def dp3:List (List Nat):=[[],[],[],[1,2],[3],[],[],[5,6],[7],[8],[],[],[10,11],[9,12],[13],[],[],[15,16],[14,17],[],[],[19,20],[21],[22],[],[23,24],[25],[],[],[27,28],[26,29],[30],[],[],[32,33],[31,34],[35],[],[],[37,38],[36,39],[],[],[41,42],[43],[44],[],[],[46,47],[45,48],[49],[],[],[51,52],[50,53],[54],[],[],[56,57],[55,58],[],[],[60,61],[62],[63],[],[],[65,66],[64,67],[68],[],[],[70,71],[69,72],[],[74],[],[76],[77],[],[],[79,80],[78,81],[82],[],[83,84],[],[],[86,87],[88],[],[90],[],[],[92,93],[4,18,40,59,73,75,85,89,91,94],[0,95],[96]]
def sl3:List (Option Nat):=[none,none,none,none,none,none,some 97,none,none,none,none,none,none,none,some 0,some 1,some 2,some 3,some 4,some 5,some 6,some 7,some 8,some 9,some 10,some 11,some 12,some 13,some 14,some 15,some 16,some 17,some 18,some 19,some 20,some 21,some 22,some 23,some 24,some 25,some 26,some 27,some 28,some 29,some 30,some 31,some 32,some 33,some 34,some 35,some 36,some 37,some 38,some 39,some 40,some 41,some 42,some 43,some 44,some 45,some 46,some 47,some 48,some 49,some 50,some 51,some 52,some 53,some 54,some 55,some 56,some 57,some 58,some 59,some 60,some 61,some 62,some 63,some 64,some 65,some 66,some 67,some 68,some 69,some 70,some 71,some 72,some 73,some 74,some 75,some 76,some 77,some 78,some 79,some 80,some 81,some 82,some 83,some 84,some 85,some 86,some 87,some 88,some 89,some 90,some 91,some 92,some 93,some 94,some 95,some 96,none,none,none,none,none,none]
theorem qSR (s bx m:Nat) (l:List Int) (v:Value) (w:World) (hs:jT w s m) (hm:m≤1000000) (hA:qI qA6 1 w l v) (h1:1≤l.length) (h2:l.length≤1000) (hz:∀z∈l,-1000≤z∧z≤1000) (hne:∀n cap off,v≠.slice (some ⟨s,off,none⟩) n cap) (hb:w.cell? ⟨bx,0,none⟩=some (.pointer (some ⟨s,0,none⟩))) (hT:∀w',w.grownBy w' (some s)→Tab10 w') :
  Calls prog 14 #[v,.pointer (some ⟨bx,0,none⟩)] w λe w'=>∃t:ByteArray,e=.returned (.string t)∧qBP 20 t∧jT w' s (m+1)∧w.grownBy w' (some s):=by
 obtain⟨a,cap,rfl,-⟩:=id hA;have HA:=mH (aI hs (aI hA (aI hz (aI hne hT))));clear hs hA hz hne hT;go_enter func14,ntmps14;go_wp2_with fail;refine(qST s m _ l w HA.o.1 oM HA.o.2.1 h1 oM HA.o.2.2.2.1).mono ?_;rintro e w1 ⟨v,rfl,⟨r,rfl,hr⟩,hs1,hg1⟩;have hrz:=HA.o.2.2.1 r hr;have H1:=mH (aI hs1 (aI hg1 (aI (HA.o.2.2.2.2 w1 hg1) (qQh hrz))));clear hs1 hg1 hr;go_wp2_with fail;refine(qCH r oM oM w1 H1.o.2.2.1).mono ?_;rintro e w2 ⟨rfl,hb2⟩;go_wp2;go_ret;exact⟨_,rfl,H1.o.2.2.2,H1.o.1.below hb2 lR,qK H1.o.2.1 (qH _ hb2)⟩
theorem qNI (s m:Nat) (w:World) (hs:jT w s m) (hm:m≤100000) (hT:∀w',w.grownBy w' (some s)→Tab10 w'):Calls prog 5 #[.pointer (some ⟨s,0,none⟩)] w
  (qIw (qUA 300) s m 10000 w):=by
 have HS:=mH (aI hs hT);clear hs hT;go_enter func5,ntmps5;go_upto_region 2 with fail;have hbl:qC (w.alloc (.cells #[.pointer (some ⟨s,0,none⟩)] 23)) w.heap.size #[.pointer (some ⟨s,0,none⟩)] 23:=qC.new w _ _;have hs1:jT (w.alloc (.cells #[.pointer (some ⟨s,0,none⟩)] 23)) s m:=HS.o.1.alloc _;have hg1:w.grownBy (w.alloc (.cells #[.pointer (some ⟨s,0,none⟩)] 23)) (some s):=World.grownBy_alloc w _ _;have hne:w.heap.size≠s:=by have:=HS.o.1.lt;omega
 obtain⟨bx,hbx⟩:=eX (w.heap.size);rw [hbx] at hbl hne ⊢;generalize w.alloc (.cells #[.pointer (some ⟨s,0,none⟩)] 23)=w1 at *;have HBX:Hx (∀w',w1.grownBy w' (some s)→w'.cell? ⟨bx,0,none⟩=some (.pointer (some ⟨s,0,none⟩))):=mH λw' hg=>hg.cell (hbl.cell 0 _ rfl) (by simpa using hne)
 have H1:=mH (aI hs1 hg1);clear hbl hs1 hg1 hne hbx;refine qHX 8 s m (m+480) (kdF s bx kd2) dp2 sl2 kR rfl kR kR kR (by decide +kernel) kR kR kR qKh H1.o.1 kR kR kR kR ?_ ?_
 ·intro hfr;have HCL:Hx (m+60*8≤1000000):=mH oM;replace HBX:Hx (∀w',w1.drew.grownBy w' (some s)→w'.cell? ⟨bx,0,none⟩=some (.pointer (some ⟨s,0,none⟩))):=mH λw' hg=>HBX.o w' (qK (qBz (qBA _ _)) hg)
  refine qM.step 1 (qW.load HBX.o) ?_;refine qM.step 2 (qW.sl5 (n:=2) .lit .lit .lit .lit .lit) ?_;refine qM.step 3 (qW.sm 0 1) ?_;refine qM.step 4 (qW.load HBX.o) ?_;refine qM.step 5 (qW.sl4 (n:=2) .lit .lit .lit .lit) ?_;refine qM.step 6 (qW.sm 3 4) ?_;refine qM.step 7 (qW.asg (.tmp 2)) ?_;refine qM.step 8 (qW.asg (.tmp 5)) ?_;exact trivial
 intro u w2 M hs2 hM hg2 hF;obtain⟨cable,ec,gc⟩:∃t:ByteArray,u 6=.string t∧qBP 2 t:=hF 6 dE;obtain⟨site,es,gs⟩:∃t:ByteArray,u 7=.string t∧qBP 2 t:=hF 7 dE;have GC:=mH gc;have GS:=mH gs;have hg2':w.grownBy w2 (some s):=qK H1.o.2 (qK (qBz (qBA _ _)) hg2);replace HBX:Hx (∀w',w2.drew.grownBy w' (some s)→w'.cell? ⟨bx,0,none⟩=some (.pointer (some ⟨s,0,none⟩))):=mH λw' hg=>HBX.o w' (qK (qBz (qBA _ _)) (qK hg2 (qK (qBz (qBA _ _)) hg)))
 have hc1:w2.drew.cell? ⟨bx,0,none⟩=some (.pointer (some ⟨s,0,none⟩)):=HBX.o _ (qBA _ _);have H2:=mH (aI hs2 hg2');have hM1:M≤100480:=by omega
 have HM:=mH hM;clear gc gs hF hs2 hg2 hg2' H1 hM;simp only [sl2,qDQ,ec,es];clear ec es;go_upto_region 3 with fail;refine qHX 98 s M (M+5880) (kdF s bx kd3) dp3 sl3 kR rfl kR kR kR (by decide +kernel) kR kR kR qKh H2.o.1 kR kR kR kR ?_ ?_
 ·intro hfr;have HCL:Hx (∀(w':World) (N:Nat) (L:List Int) (v:Value),w2.drew.grownBy w' (some s)→jT w' s N→N≤M+5880→qI qA6 1 w' L v→1≤L.length→L.length≤1000→(∀z∈L,-1000≤z∧z≤1000)→(∀n cap off,v≠.slice (some ⟨s,off,none⟩) n cap) →
    Calls prog 14 #[v,.pointer (some ⟨bx,0,none⟩)] w' λe w''=>∃t:ByteArray,e=.returned (.string t)∧qBP 20 t∧jT w'' s (N+1)∧w'.grownBy w'' (some s)) :=
   mH λw' N L v hg hs hN hA h1 h2 hz hne=>qSR s bx N L v w' hs oM hA h1 h2 hz hne (HBX.o w' hg) (λw'' hg'=>HS.o.2 w'' (qK H2.o.2 (qK (qBz (qBA _ _)) (qK hg hg'))))
  refine qM.step 1 (qW.load HBX.o) ?_;refine qM.step 2 (qW.load HBX.o) ?_;refine qM.step 3 (qW.sl6 (n:=3) .lit .lit .lit .lit .lit .lit) ?_;refine qM.step 4 (qW.sm 1 2) ?_;refine qM.step 5 (qW.cat (n:=3) (m:=3) .lit (.tmp 3)) ?_;refine qM.step 6 (qW.load HBX.o) ?_;refine qM.step 7 (qW.sl3 (n:=3) .lit .lit .lit) ?_;refine qM.step 8 (qW.sm 5 6) ?_;refine qM.step 9 (qW.cat (n:=3) (m:=3) .lit (.tmp 7)) ?_;refine qM.step 10 (qW.cat (n:=6) (m:=6) (.tmp 8) .lit) ?_;refine qM.step 11 (qW.load HBX.o) ?_;refine qM.step 12 (qW.sl3 (n:=2) .lit .lit .lit) ?_;refine qM.step 13 (qW.sm 10 11) ?_;refine qM.step 14 (qW.cat (n:=12) (m:=2) (.tmp 9) (.tmp 12)) ?_;refine qM.step 15 (qW.cat (n:=14) (m:=1) (.tmp 13) .lit) ?_;refine qM.step 16 (qW.load HBX.o) ?_;refine qM.step 17 (qW.sl3 (n:=7) .lit .lit .lit) ?_;refine qM.step 18 (qW.sm 15 16) ?_;refine qM.step 19 (qW.cat (n:=15) (m:=7) (.tmp 14) (.tmp 17)) ?_;refine qM.step 20 (qW.load HBX.o) ?_;refine qM.step 21 (qW.sl3 (n:=2) .lit .lit .lit) ?_;refine qM.step 22 (qW.sm 19 20) ?_;refine qM.step 23 (qW.cat (n:=13) (m:=2) .lit (.tmp 21)) ?_;refine qM.step 24 (qW.cat (n:=15) (m:=1) (.tmp 22) .lit) ?_;refine qM.step 25 (qW.mv (.old GS.o)) ?_;refine qM.step 26 (qW.cat (n:=16) (m:=2) (.tmp 23) (.tmp 24)) ?_;refine qM.step 27 (qW.cat (n:=18) (m:=1) (.tmp 25) .lit) ?_;refine qM.step 28 (qW.load HBX.o) ?_;refine qM.step 29 (qW.sl3 (n:=1) .lit .lit .lit) ?_
  refine qM.step 30 (qW.sm 27 28) ?_;refine qM.step 31 (qW.cat (n:=19) (m:=1) (.tmp 26) (.tmp 29)) ?_;refine qM.step 32 (qW.cat (n:=20) (m:=1) (.tmp 30) .lit) ?_;refine qM.step 33 qW.fn ?_;refine qM.step 34 qW.in3 ?_;refine qM.step 35 (qW.num 32 33 HCL.o) ?_;refine qM.step 36 (qW.cat (n:=21) (m:=20) (.tmp 31) (.tmp 34)) ?_;refine qM.step 37 (qW.cat (n:=41) (m:=1) (.tmp 35) .lit) ?_;refine qM.step 38 qW.fn ?_;refine qM.step 39 qW.in3 ?_;refine qM.step 40 (qW.num 37 38 HCL.o) ?_;refine qM.step 41 (qW.cat (n:=42) (m:=20) (.tmp 36) (.tmp 39)) ?_;refine qM.step 42 (qW.load HBX.o) ?_;refine qM.step 43 (qW.sl3 (n:=1) .lit .lit .lit) ?_;refine qM.step 44 (qW.sm 41 42) ?_;refine qM.step 45 (qW.cat (n:=12) (m:=1) .lit (.tmp 43)) ?_;refine qM.step 46 (qW.cat (n:=13) (m:=4) (.tmp 44) .lit) ?_;refine qM.step 47 qW.fn ?_;refine qM.step 48 qW.in2 ?_;refine qM.step 49 (qW.num 46 47 HCL.o) ?_;refine qM.step 50 (qW.cat (n:=17) (m:=20) (.tmp 45) (.tmp 48)) ?_;refine qM.step 51 (qW.cat (n:=37) (m:=4) (.tmp 49) .lit) ?_;refine qM.step 52 qW.fn ?_;refine qM.step 53 qW.in2 ?_;refine qM.step 54 (qW.num 51 52 HCL.o) ?_;refine qM.step 55 (qW.cat (n:=41) (m:=20) (.tmp 50) (.tmp 53)) ?_;refine qM.step 56 (qW.cat (n:=61) (m:=1) (.tmp 54) .lit) ?_;refine qM.step 57 qW.fn ?_;refine qM.step 58 qW.in2 ?_;refine qM.step 59 (qW.num 56 57 HCL.o) ?_;refine qM.step 60 (qW.cat (n:=62) (m:=20) (.tmp 55) (.tmp 58)) ?_
  refine qM.step 61 (qW.load HBX.o) ?_;refine qM.step 62 (qW.sl2 (n:=1) .lit .lit) ?_;refine qM.step 63 (qW.sm 60 61) ?_;refine qM.step 64 (qW.cat (n:=11) (m:=1) .lit (.tmp 62)) ?_;refine qM.step 65 (qW.cat (n:=12) (m:=4) (.tmp 63) .lit) ?_;refine qM.step 66 qW.fn ?_;refine qM.step 67 qW.in2 ?_;refine qM.step 68 (qW.num 65 66 HCL.o) ?_;refine qM.step 69 (qW.cat (n:=16) (m:=20) (.tmp 64) (.tmp 67)) ?_;refine qM.step 70 (qW.cat (n:=36) (m:=4) (.tmp 68) .lit) ?_;refine qM.step 71 qW.fn ?_;refine qM.step 72 qW.in2 ?_;refine qM.step 73 (qW.num 70 71 HCL.o) ?_;refine qM.step 74 (qW.cat (n:=40) (m:=20) (.tmp 69) (.tmp 72)) ?_;refine qM.step 75 (qW.mv (.old GC.o)) ?_;refine qM.step 76 (qW.cat (n:=14) (m:=2) .lit (.tmp 74)) ?_;refine qM.step 77 (qW.mv (.old GC.o)) ?_;refine qM.step 78 (qW.cat (n:=5) (m:=2) .lit (.tmp 76)) ?_;refine qM.step 79 (qW.cat (n:=7) (m:=1) (.tmp 77) .lit) ?_;refine qM.step 80 qW.fn ?_;refine qM.step 81 qW.in3 ?_;refine qM.step 82 (qW.num 79 80 HCL.o) ?_;refine qM.step 83 (qW.cat (n:=8) (m:=20) (.tmp 78) (.tmp 81)) ?_;refine qM.step 84 (qW.cat (n:=28) (m:=1) (.tmp 82) .lit) ?_;refine qM.step 85 (qW.mv (.old GS.o)) ?_;refine qM.step 86 (qW.cat (n:=29) (m:=2) (.tmp 83) (.tmp 84)) ?_;refine qM.step 87 (qW.load HBX.o) ?_;refine qM.step 88 (qW.sl3 (n:=2) .lit .lit .lit) ?_;refine qM.step 89 (qW.sm 86 87) ?_;refine qM.step 90 (qW.cat (n:=10) (m:=2) .lit (.tmp 88)) ?_
  refine qM.step 91 (qW.mv (.old GC.o)) ?_;refine qM.step 92 (qW.cat (n:=5) (m:=2) .lit (.tmp 90)) ?_;refine qM.step 93 (qW.load HBX.o) ?_;refine qM.step 94 (qW.sl6 (n:=9) .lit .lit .lit .lit .lit .lit) ?_;refine qM.step 95 (qW.sm 92 93) ?_;refine qM.step 96 (qW.sl11 (n:=82) (jB.mono (n:=6) (.tmp 4)) (jB.mono (n:=22) (.tmp 18)) (jB.mono (n:=62) (.tmp 40)) (jB.mono (n:=82) (.tmp 59)) (jB.mono (n:=60) (.tmp 73)) (jB.mono (n:=16) (.tmp 75)) (jB.mono (n:=31) (.tmp 85)) (jB.mono (n:=12) (.tmp 89)) (jB.mono (n:=7) (.tmp 91)) .lit (jB.mono (n:=9) (.tmp 94))) ?_;refine qM.step 97 (qW.sm 0 95) ?_;refine qM.step 98 (qW.asg (.tmp 96)) ?_;exact trivial
 intro u w3 M3 hs3 hM3 hg3 hF;obtain⟨t,et,gt⟩:∃t:ByteArray,u 97=.string t∧qBP 82 t:=hF 97 dE;have GT:=mH gt;have hg3':w.grownBy w3 (some s):=qK H2.o.2 (qK (qBz (qBA _ _)) hg3);have hc3:w3.cell? ⟨bx,0,none⟩=some (.pointer (some ⟨s,0,none⟩)):=HBX.o _ hg3;have HBY:Hx (∀w',w3.grownBy w' (some s)→w'.cell? ⟨bx,0,none⟩=some (.pointer (some ⟨s,0,none⟩))):=mH λw' hg=>HBX.o w' (qK hg3 hg)
 have H3:=mH (aI hs3 hg3');have hM4:M3≤m+6360:=by have:=HM.o;omega
 clear gt hF hs3 hg3 hg3' H2 hc1 HBX hM3 hM1;simp only [sl3,qDQ,et];clear et;go_wp2_with fail;refine(qMz s M3 12 _ H3.o.1 oM oM oM).mono ?_;rintro e w4 ⟨v,rfl,⟨fb,rfl⟩,hs4,hg4⟩;have H4:=mH (aI hs4 (aI (qK H3.o.2 hg4) (HBY.o w4 hg4)));clear hs4 hg4 hc3
 cases fb
 ·go_wp2;go_ret;exact⟨_,rfl,⟨t,rfl,Nat.le_trans GT.o.1 oM,GT.o.2⟩,H4.o.1.mono oM,H4.o.2.1⟩
 ·have hc4:=H4.o.2.2;have hts:=GT.o.1;go_wp2_with fail;refine(qMe s _ t ⟨#[32,97,48,99,45]⟩ _ H4.o.1 oM oM dE GT.o.2 (by unfold qA9;decide) qRj).mono ?_;rintro e w5 ⟨v,rfl,⟨t2,rfl,ht2,hn2⟩,hs5,hg5⟩;have hsz:(⟨#[32,97,48,99,45]⟩:ByteArray).size=5:=rfl;have H5:=mH (aI hs5 (aI (qK H4.o.2.1 hg5) (aI (show t2.size≤300 by omega) hn2)));clear hs5 hg5 ht2 hn2;go_wp2;go_ret;exact⟨_,rfl,⟨t2,rfl,H5.o.2.2.1,H5.o.2.2.2⟩,H5.o.1.mono oM,H5.o.2.1⟩
theorem maxL_shape {W:World} (h:W.ShapedOpen Tryz.prog):MaxL W :=
 cell_of_shapedOpen_int (g:=0) (t:=3) (zero:=#[.int .i64 0]) h (of_decide_eq_true (by kernel_rfl)) (by kernel_rfl) (by kernel_rfl) (by kernel_rfl) (by kernel_rfl) Tryz.underlying3
theorem laid_shaped {H:Type} {enc:TypeId × Value→H} {a:Assume} {C:Checked} {os:Os} {f:FuncId} {fn:Func} {s:ChangeSpec} {conds:List PathCond} {apart fresh handsOn again:Bool} {L:World→Prop}
  (hL:∀w w':World,w.heap=w'.heap→L w→L w')
  (own:ownKnob C.prog.godebug=none) (started:os.Started) (noInit:C.prog.inits.idxOf? f=none) (hfn:C.prog.funcs[f]? = some fn)
  (witness:∃(w:World) (tape:Tape) (i:Input),w.os=os∧(w.forCall tape i).Shaped C.prog∧i.vars=[]∧Input.okWide C.prog (w.forCall tape i) .any w.heap.size f i ∧
   ((s.pre enc C.prog fn conds apart (w.forCall tape i).memory i.args∧L (w.forCall tape i).memory)∧sizedMet enc C.prog fn (OpenSpec.ofChange s) apart (w.forCall tape i).memory i.args)∧a.holds C.prog (lone (Frame.enter C.prog f i.args .normal) [] (w.forCall tape i)))
  (go:∀(W:World) (base:Nat) (args:Array Value) (ds gs:List (DataW H)) (before:List MemPlace),
   (∀(j:Nat) t v,fn.params[j]? = some t→args[j]? = some v→Value.okWide C.prog W .any base t v) →
   DataW.Whole enc C.prog fn.params.toList s.vars apart W args.toList ds gs before→L W→W.ShapedOpen C.prog →
   Calls C.prog f args W fun e W'=>∃v,e=.returned v∧s.post enc C.prog fn apart fresh handsOn again W args v W') :
  ReturnsInHanded a C os f .any (fun w args=>(s.pre enc C.prog fn conds apart w args∧L w)∧sizedMet enc C.prog fn (OpenSpec.ofChange s) apart w args) (s.post enc C.prog fn apart fresh handsOn again):=by
 refine returnsInHanded_of_calls own started noInit witness fun w tape i _ hsh _ hok hpre _=>?_
 obtain⟨⟨⟨ds,gs,before,hw,_⟩,hl⟩,_⟩:=hpre
 obtain⟨_,_,_,fn',hfn',_,_,_,_,hval⟩:=hok
 obtain rfl:fn'=fn:=Option.some.inj (hfn'.symm.trans hfn)
 refine(go (w.forCall tape i) w.heap.size i.args ds gs before hval (hw.of_heap (w':=w.forCall tape i) (by rfl)) (hL _ _ (by rfl) hl) hsh).mono fun e W' h=>?_
 obtain⟨v,rfl,hp⟩:=h
 exact ChangeSpec.post_blind hp
end Go.Proofs.YtbgnlfgkgklkdaaGreatDoor
