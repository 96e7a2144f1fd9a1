/- Parts of the proof of ScriptsAnswered: AskC, TyN, TyR, TyM. No condition. -/
import Derived.Test.YtbgnlfgkgklkdaaGreatDoorZ26
import Derived.Test.YtbgnlfgkgklkdaaGreatDoorZ34
import Derived.Test.YtbgnlfgkgklkdaaGreatDoorZ11
set_option linter.unusedVariables false
set_option linter.unusedSimpArgs false
set_option maxHeartbeats 8000000
set_option maxRecDepth 100000
namespace Go.Proofs.YtbgnlfgkgklkdaaGreatDoor
open Go Go.RowKit Tryz
theorem qLz:(prog.info? 3).map (λi=>(i.zero,i.size,i.bytes))=some (some (.int .i64 0),1,8):=by kernel_rfl
def qRo (most:Nat) (L:List ByteArray) (w:World) (e:Ending) (w':World):Prop :=
 ((∃(ns:List Int) (v:Value),L.map (λx=>jH most x.data.toList)=ns.map some∧e=.returned (.tuple #[v,.bool true])∧w'.ownsRow w.heap.size 3 1 v ns.length (ns.map (Value.int .i64))) ∨
  ((∃x∈L,jH most x.data.toList=none)∧e=.returned (.tuple #[.slice none 0 0,.bool false])))∧Below w.heap.size w w'
theorem qH6 {L:List ByteArray} {f:ByteArray→Option Int} {k:Nat} (hk:k<L.length) {ns:List Int} {n:Int} (h:(L.take k).map f=ns.map some) (hn:f L[k]=some n):(L.take (k+1)).map f=(ns++[n]).map some:=by
 rw [List.take_succ_eq_append_getElem hk,List.map_append,h,List.map_append];simp [hn]
theorem qRz (v:Value) (L:List ByteArray) (most:Nat) (hm:most≤17) (w:World) (h:qI strCells 1 w L v) (hs:∀x∈L,x.size≤1000000) (hL:L.length≤1000000):Calls prog 84 #[v,.int .i64 most] w (qRo most L w):=by
 obtain⟨i0,hi,hz0,hz1,hz2⟩:=info_parts qLz;obtain⟨a,cap,rfl,hcap,hmax,hc⟩:=h;have hlen:L.length≤maxLen:=by omega
 unfold maxLen at hlen hmax;have HS:=mH hs;have HC:=mH hc;clear hs hc;go_enter func84,ntmps84;go_wp2;go_loopw [6,13] (λv i wr=>∃(k:Nat) (ns:List Int),k≤L.length∧i=.int .i64 k∧(L.take k).map (λx=>jH most x.data.toList)=ns.map some∧wr.ownsRow w.heap.size 3 1 v k (ns.map (Value.int .i64))∧Below w.heap.size w wr) (λ_ i _=>L.length - (intOf i).toNat)
 case atStart=>exact⟨0,[],by omega,rfl,rfl,World.ownsRow_nil _ _ _ _,Below.refl _ _⟩
 case round =>
  obtain⟨k,ns,hk,rfl,hns,ho,hbe⟩:=hrel;have HR:=mH (aI hns (aI ho hbe));have hz:=hbe.size;clear hns ho hbe
  by_cases hlt:k<L.length
  ·obtain⟨b,off,rfl,hb,hcc⟩:=HC.o k hlt;have c0:=hcc 0 _ rfl;simp only [Nat.mul_one,Nat.add_zero] at c0;replace c0:=(HR.o.2.2.cell (p:=⟨b,_,none⟩) hb).trans c0;have HX:=mH (HS.o L[k] (List.getElem_mem hlt));clear hcc
   rcases hn:jH most L[k].data.toList with _|n
   ·have HN:Hx (∃x∈L,jH most x.data.toList=none):=⟨⟨L[k],List.getElem_mem hlt,hn⟩⟩;have HN2:=mH hn;clear hn;go_wp2_with fail;refine(qF2 L[k] most hm _ HX.o).mono ?_;unfold qDh;rw [HN2.o];rintro e w1 ⟨rfl,hb1⟩;have H1:=mH (qBD HR.o.2.2 hb1 hz);clear hb1;simp only [Option.getD_none,Option.isSome_none];go_wp2;go_ret2;exact⟨.inr ⟨HN.o,rfl⟩,H1.o⟩
   ·have HN:=mH (qH6 hlt HR.o.1 hn);have HN2:=mH hn;clear hn;go_wp2_with fail;refine(qF2 L[k] most hm _ HX.o).mono ?_;unfold qDh;rw [HN2.o];rintro e w1 ⟨rfl,hb1⟩;have hy1:=hb1.size;have H1:=mH (aI (qBD HR.o.2.2 hb1 hz) (qAv HR.o.2.1 hb1));clear hb1;simp only [Option.getD_some,Option.isSome_some];go_wp2_with ((at_builtin;go_must (refine wpList_append_own _ rfl _ _ 22 rfl _ 3 _ (.int .i64 0) 1 8 underlying22 hi hz0 hz1 hz2 rfl dE _ _ _ rfl (H1.o.2.alloc _) ⟨w1.heap.size,0,none⟩ 1 1 [.int .i64 n] rfl rfl (by exact qBC (by first|rfl|simp) rF) (by simp [Value.oneCell']) (by unfold maxLen;omega) oM szq ?_));intro v' w3 hown1 hgrow _);refine⟨⟨k+1,ns++[n],by omega,by go_num,HN.o,?_,?_⟩,by simp [intOf];omega⟩
    ·rw [List.map_append];exact hown1
    ·exact jG (qB H1.o.1 _ oM) (H1.o.2.alloc _) hgrow lR (by simp;omega)
  ·obtain rfl:k=L.length:=by omega
   go_wp2;go_ret2;have h1:=HR.o.1;rw [List.take_length] at h1;have h2:=congrArg List.length h1;rw [List.length_map,List.length_map] at h2;exact⟨.inl ⟨ns,_,h1,rfl,by rw [←h2];exact HR.o.2.1⟩,HR.o.2.2⟩
theorem qQV (v:Value) (L:List ByteArray) (most:Nat) (hm:most≤17) (w:World) (h:qI strCells 1 w L v) (hs:∀x∈L,x.size≤1000000) (hL:L.length≤1000000):Calls prog 84 #[v,.int .i64 most] w
  λe w'=>∃(v':Value) (b:Bool),e=.returned (.tuple #[v',.bool b])∧Below w.heap.size w w'∧(b=true→∃ns:List Int,L.map (λx=>jH most x.data.toList)=ns.map some∧w'.ownsRow w.heap.size 3 1 v' ns.length (ns.map (Value.int .i64)))∧(b=false→∃x∈L,jH most x.data.toList=none):=by
 refine(qRz v L most hm w h hs hL).mono ?_;rintro e w' ⟨⟨ns,v',h1,rfl,h2⟩|⟨h1,rfl⟩,hb⟩
 ·exact⟨v',true,rfl,hb,λ_=>⟨ns,h1,h2⟩,λh=>by cases h⟩
 ·exact⟨_,false,rfl,hb,(λh=>by cases h),λ_=>h1⟩
def qDu (L:List ByteArray):Bool:=Lib.containsS (L.take L.length) ⟨#[]⟩
theorem qMM {L:List ByteArray}:qDu L=true↔∃x∈L,x.size=0:=by
 unfold qDu;rw [List.take_length,Lib.containsS_iff]
 constructor
 ·intro h;exact⟨_,h,rfl⟩
 ·rintro⟨x,hx,h0⟩;have:x=⟨#[]⟩:=by
   cases x with
   | mk d =>
    have:d.size=0:=h0;rw [Array.eq_empty_of_size_eq_zero this]
  rw [←this];exact hx
theorem qKo (v:Value) (L:List ByteArray) (most:Nat) (hm:most≤17) (w:World) (h:qI strCells 1 w L v) (hs:∀x∈L,x.size≤1000000) (hL:L.length≤1000000) (ht:Tab10 w):Calls prog 99 #[v,.int .i64 most] w
  λe w'=>∃(v':Value) (b:Bool) (ns:List Int),e=.returned (.tuple #[v',.bool b])∧Below w.heap.size w w'∧w'.ownsRow w.heap.size 3 1 v' ns.length (ns.map (Value.int .i64))∧(b=true→L.map (λx=>jH most x.data.toList)=ns.map some)∧(b=false→∃x∈L,jH most x.data.toList=none):=by
 obtain⟨i0,hi,hz0,hz1,hz2⟩:=info_parts qLz;obtain⟨a,cap,rfl,hcap,hmax,hc⟩:=h;have hlen:L.length≤maxLen:=by omega
 unfold maxLen at hlen hmax;have HS:=mH hs;have HC:=mH hc;have HT:=mH ht;clear hs hc ht;go_enter func99,ntmps99;go_wp2;go_loopw [6,7,14] (λv bb i wr=>∃(k:Nat) (ns:List Int) (b:Bool),k≤L.length∧i=.int .i64 k∧bb=.bool b∧ns.length=k∧(b=true→(L.take k).map (λx=>jH most x.data.toList)=ns.map some)∧(b=false→∃x∈L,jH most x.data.toList=none)∧wr.ownsRow w.heap.size 3 1 v k (ns.map (Value.int .i64))∧Below w.heap.size w wr) (λ_ _ i _=>L.length - (intOf i).toNat)
 case atStart=>exact⟨0,[],true,by omega,rfl,rfl,rfl,λ_=>rfl,(λh=>by cases h),World.ownsRow_nil _ _ _ _,Below.refl _ _⟩
 case round =>
  obtain⟨k,ns,b,hk,rfl,rfl,hnl,hns,hnf,ho,hbe⟩:=hrel;have HR:=mH (aI hns (aI hnf (aI ho (aI hbe hnl))));have hz:=hbe.size;clear hns hnf ho hbe hnl
  by_cases hlt:k<L.length
  ·obtain⟨bk,off,rfl,hb,hcc⟩:=HC.o k hlt;have c0:=hcc 0 _ rfl;simp only [Nat.mul_one,Nat.add_zero] at c0;replace c0:=(HR.o.2.2.2.1.cell (p:=⟨bk,_,none⟩) hb).trans c0;have HX:=mH (HS.o L[k] (List.getElem_mem hlt));clear hcc;go_wp2_with fail;refine(qG0 L[k] most hm _ HX.o (HT.o.below HR.o.2.2.2.1)).mono ?_;rintro e w1 ⟨n,b1,rfl,hn,hb1⟩;have hy1:=hb1.size;have H1:=mH (aI (qBD HR.o.2.2.2.1 hb1 hz) (qAv HR.o.2.2.1 hb1));have HN:=mH hn;clear hb1 hn
   cases b
   ·have HF:=mH (show ∃x∈L,jH most x.data.toList=none from HR.o.2.1 (by trivial));go_wp2_with ((at_builtin;go_must (refine wpList_append_own _ rfl _ _ 22 rfl _ 3 _ (.int .i64 0) 1 8 underlying22 hi hz0 hz1 hz2 rfl dE _ _ _ rfl (H1.o.2.alloc _) ⟨w1.heap.size,0,none⟩ 1 1 [.int .i64 n] rfl rfl (by exact qBC (by first|rfl|simp) rF) (by simp [Value.oneCell']) (by unfold maxLen;omega) oM szq ?_));intro v' w3 hown1 hgrow _);refine⟨⟨k+1,ns++[n],false,by omega,by go_num,rfl,by simp [HR.o.2.2.2.2],(λh=>by cases h),λ_=>HF.o,?_,?_⟩,by simp [intOf];omega⟩
    ·rw [List.map_append];exact hown1
    ·exact jG (qB H1.o.1 _ oM) (H1.o.2.alloc _) hgrow lR (by simp;omega)
   ·have HG:=mH (show(L.take k).map (λx=>jH most x.data.toList)=ns.map some from HR.o.1 (by trivial));go_wp2_with ((at_builtin;go_must (refine wpList_append_own _ rfl _ _ 22 rfl _ 3 _ (.int .i64 0) 1 8 underlying22 hi hz0 hz1 hz2 rfl dE _ _ _ rfl (H1.o.2.alloc _) ⟨w1.heap.size,0,none⟩ 1 1 [.int .i64 n] rfl rfl (by exact qBC (by first|rfl|simp) rF) (by simp [Value.oneCell']) (by unfold maxLen;omega) oM szq ?_));intro v' w3 hown1 hgrow _);refine⟨⟨k+1,ns++[n],b1,by omega,by go_num,rfl,by simp [HR.o.2.2.2.2],λh=>?_,λh=>?_,?_,?_⟩,by simp [intOf];omega⟩
    ·subst h;exact qH6 hlt HG.o (by have:=HN.o;simpa using this)
    ·subst h;exact⟨L[k],List.getElem_mem hlt,by have:=HN.o;simpa using this⟩
    ·rw [List.map_append];exact hown1
    ·exact jG (qB H1.o.1 _ oM) (H1.o.2.alloc _) hgrow lR (by simp;omega)
  ·obtain rfl:k=L.length:=by omega
   go_wp2;go_ret2;refine⟨_,b,ns,rfl,HR.o.2.2.2.1,by rw [HR.o.2.2.2.2];exact HR.o.2.2.1,λh=>?_,HR.o.2.1⟩;have h1:=HR.o.1 h
   rwa [List.take_length] at h1
theorem qCv (x:ByteArray) (W:World) (hx:x.size≤1000000) (hM:MaxL W):Calls prog 61 #[.string x] W
  λe w'=>e=.returned (.tuple #[.slice (some ⟨W.heap.size,0,none⟩) (qAb 32 x).length (qAb 32 x).length,.bool (!qDu (qAb 32 x))])∧w'=W.alloc (.cells ((qAb 32 x).map Value.string).toArray 9):=by
 have hbk:qC (W.alloc (.cells ((qAb 32 x).map Value.string).toArray 9)) W.heap.size ((qAb 32 x).map Value.string).toArray 9:=qC.new _ _ _;have HBK:=mH hbk;have hLl:(qAb 32 x).length≤1000001:=by
  unfold qAb;rw [List.length_map];have h1:=qIk 32 x.data.toList;have h2:x.data.toList.length=x.size:=(Lib.size_eq x).symm;omega
 clear hbk;go_enter func61,ntmps61;go_wp2_with fail;refine(qGO x 32 W hx hM).mono ?_;rintro e w1 ⟨rfl,hw⟩;obtain⟨L,hL⟩:=eY (qAb 32 x);rw [←hL] at HBK hLl hw ⊢;rw [←hw] at HBK;have HW:=mH hw;have HLL:=mH hL;clear hL hw;go_wp2_with fail;refine(Tryz.slices_Contains_string W.heap.size 0 L.length L.length L ⟨#[]⟩ _ lR oM (λj hj=>by
  have:=qCF HBK.o j hj;rw [Nat.zero_add,this,List.getD_eq_getElem?_getD,List.getElem?_eq_getElem hj];rfl)).mono ?_
 rintro e w2 ⟨rfl,hw⟩;rw [hw,show Lib.containsS (L.take L.length) ⟨#[]⟩=qDu L from rfl];clear hw w2;go_wp2;go_ret2;rw [←HLL.o];exact⟨rfl,HW.o⟩
end Go.Proofs.YtbgnlfgkgklkdaaGreatDoor
