/- Parts of the proof of ScriptsAnswered: SnS, SqSit, SqCab, SqSpc, SqEnt, SnT. No condition. -/
import Derived.Test.YtbgnlfgkgklkdaaGreatDoorZ15
import Derived.Test.YtbgnlfgkgklkdaaGreatDoorZ18
import Derived.Test.YtbgnlfgkgklkdaaGreatDoorZ9
import Derived.Test.YtbgnlfgkgklkdaaGreatDoorZ16
set_option linter.unusedVariables false
set_option linter.unusedSimpArgs false
set_option maxHeartbeats 8000000
set_option maxRecDepth 100000
namespace Go.Proofs.YtbgnlfgkgklkdaaGreatDoor
open Go Go.RowKit Tryz
section
open Go.Sort (HoldsK putRowK flatK size_flatK get_flatK)
def qDf {α:Type} (F:FuncId) (cp:Array Value) (cells:α→List Value) (cf:α→α→Int) (w:World) (v:Value):Prop :=
 ∀(x y:α) (w':World),w.grownBy w' v.ownBlock→Calls prog F (#[.agg ⟨cells x⟩,.agg ⟨cells y⟩]++cp) w' λe w''=>e=.returned (.int .i64 (cf x y))∧Gr w' w''
section
variable {α : Type} [Inhabited α] {cells : α → List Value} {sz : Nat}
theorem qGe (w:World) (b:Nat) (f:Array Value→Array Value):w.grownBy (Sort.mapBlock w b f) (some b) :=
 ⟨rfl,rfl,rfl,by simp [Sort.mapBlock],λk hk hne=>by
  have:b≠k:=λe=>hne (by rw [e])
  simp [Sort.mapBlock,Array.getElem?_modify,this]⟩
theorem qCI (w:World) (g m:Nat) (dk:Array α) (os:Array Obj):w.grownBy (sortWorldK cells sz w g 0 m dk os) (some g):=by
 unfold sortWorldK putRowK Sort.putRow;have h1:w.grownBy (Sort.ahead w m) (some g):=⟨rfl,rfl,rfl,Nat.le_refl _,λ_ _ _=>rfl⟩;have h2:=qGe (Sort.ahead w m) g (Sort.putCells id 0 (flatK cells sz dk));refine qK (qK h1 h2) ?_;exact qH _ (show Below _ _ _ from Gr.below ⟨0,os,by rfl⟩)
theorem Row.holdsK {w:World} {g:Nat} {l:List α} (hlen:∀x,(cells x).length=sz) (h:Row cells sz w g l):HoldsK cells sz w g 0 l.toArray:=by
 intro j hj;rw [size_flatK] at hj;refine⟨?_,h.2.1 _⟩;rw [get_flatK _ _ _ _ hj];have hs:0<sz:=by
  rcases Nat.eq_zero_or_pos sz with q|q
  ·subst q;simp at hj
  ·exact q
 have hk:j / sz<l.length:=(Nat.div_lt_iff_lt_mul hs).2 (by simpa using hj);have hm:j % sz<sz:=Nat.mod_lt _ hs;have e:j / sz*sz+j % sz=j:=by rw [Nat.mul_comm];exact Nat.div_add_mod j sz
 have e2:l.toArray[j / sz]! = l[j / sz]:=by simp [hk]
 have h1:=h.1 (j / sz) hk (j % sz) (cells l[j / sz])[j % sz]! (by
  rw [List.getElem!_eq_getElem?_getD,List.getElem?_eq_getElem (by rw [hlen];exact hm)];rfl)
 rw [Nat.zero_add,e] at h1;rw [e2,Nat.zero_add,h1];rfl
theorem Row.of_holdsK {w:World} {g:Nat} {l:List α} (hlen:∀x,(cells x).length=sz) (h:HoldsK cells sz w g 0 l.toArray) (hf:∀o,w.frozen? ⟨g,o,none⟩=false) (hg:g<w.heap.size):Row cells sz w g l:=by
 refine⟨λk hk j u hu=>?_,hf,hg⟩;have hj:j<sz:=by rw [←hlen l[k]];exact(List.getElem?_eq_some_iff.1 hu).1
 have hb:k*sz+j<l.toArray.size*sz:=by
  have:(k+1)*sz≤l.length*sz:=Nat.mul_le_mul_right _ hk;rw [Nat.succ_mul] at this;simp;omega
 have h1:=(h (k*sz+j) (by rw [size_flatK];exact hb)).1;rw [get_flatK _ _ _ _ hb] at h1;have hs:0<sz:=by omega
 have e1:(k*sz+j) / sz=k:=by rw [Nat.mul_comm,Nat.mul_add_div hs,Nat.div_eq_of_lt hj];rfl
 have e2:(k*sz+j) % sz=j:=by rw [Nat.mul_comm,Nat.mul_add_mod,Nat.mod_eq_of_lt hj]
 rw [e1,e2] at h1;have e3:l.toArray[k]! = l[k]:=by simp [hk]
 rw [e3] at h1;rw [Nat.zero_add] at h1 ⊢;rw [h1];rw [List.getElem!_eq_getElem?_getD,hu];rfl
theorem qFD {w:World} {g:Nat} {l:List α} (hlen:∀x,(cells x).length=sz) (h:Row cells sz w g l) {m:Nat} {dk:Array α} {os:Array Obj} (hs:dk.size=l.length):Row cells sz (sortWorldK cells sz w g 0 m dk os) g dk.toList:=by
 have hg:=qCI (cells:=cells) (sz:=sz) w g m dk os;have hH:=holdsK_sortWorldK_c cells sz w g 0 l.toArray dk m os (h.holdsK hlen) h.2.2 (by simpa using hs);refine Row.of_holdsK hlen (by simpa using hH) (λo=>?_) (Nat.lt_of_lt_of_le h.2.2 hg.size);have hlt:=h.2.2;unfold sortWorldK putRowK;have h1:Gr (Sort.putRow id (Sort.ahead w m) g 0 (flatK cells sz dk)) (Sort.grow (Sort.putRow id (Sort.ahead w m) g 0 (flatK cells sz dk)) os):=⟨0,os,by rfl⟩;rw [h1.below.frozen (p:=⟨g,o,none⟩) (by simp [Sort.putRow,Sort.mapBlock];exact hlt),Sort.frozen?_putRow];exact h.2.1 o
theorem qMO {β:Type} {cf:β→β→Int} (h:zU cf):Sort.SWO (ltOf cf) where
 irrefl x:=by unfold ltOf;rw [h.refl x];rfl
 trans x y z h1 h2:=by
  unfold ltOf at *;rw [decide_eq_true_eq] at *;exact h.lt_trans h1 h2
 ntrans x y z h1 h2:=by
  unfold ltOf at *;rw [decide_eq_false_iff_not] at *;have f1:=h.flip x y;have f2:=h.flip y z;have f3:=h.flip x z;have f1':=h.flip y x;have f2':=h.flip z y;have f3':=h.flip z x;have:=h.trans z y x oM oM;omega
theorem qGn {cf:α→α→Int} (hO:zU cf) {l:List α} {d:Array α} (hp:Sort.PermIn 0 l.length l.toArray d) (hs:Sort.SortedIn (ltOf cf) 0 l.length d):d.toList.Perm l∧Asc cf d.toList∧d.size=l.length:=by
 obtain⟨h1,_,h2⟩:=hp;have hd:d.size=l.length:=by simpa using h1
 have e1:d.extract 0 l.length=d:=by rw [←hd];exact Array.extract_size
 have e2:l.toArray.extract 0 l.length=l.toArray:=by
  have:l.toArray.size=l.length:=rfl;rw [←this];exact Array.extract_size
 rw [e1,e2] at h2;refine⟨by simpa using h2,?_,hd⟩;unfold Asc;rw [List.pairwise_iff_getElem];intro i j hi hj hij;rw [Array.length_toList] at hi hj;have h3:=hs i j (Nat.zero_le _) hij oM;unfold ltOf at h3;rw [decide_eq_false_iff_not,show d[i]! = d[i] from getElem!_pos d i hi,show d[j]! = d[j] from getElem!_pos d j hj] at h3;have:=hO.flip d[j] d[i];have:=hO.flip d[i] d[j];simp only [Array.getElem_toList];omega
theorem qFE (cf:α→α→Int) (hO:zU cf) (l:List α):(Sort.insertionSort (ltOf cf) l.toArray 0 l.length).toList.Perm l∧Asc cf (Sort.insertionSort (ltOf cf) l.toArray 0 l.length).toList∧(Sort.insertionSort (ltOf cf) l.toArray 0 l.length).size=l.length:=by
 obtain⟨h1,h2⟩:=Sort.insertionSort_holds (qMO hO) l.toArray 0 l.length (Nat.zero_le _) sI;exact qGn hO h1 h2
theorem qH1 {β:Type} {cells:β→List Value} (h:∀(l:List β),∀u∈l.flatMap cells,u.oneCell'=true):∀x,∀v∈cells x,v.oneCell'=true:=λx v hv=>h [x] v (by simpa using hv)
theorem qDf.lays {F:FuncId} {cp:Array Value} {cf:α→α→Int} {w:World} {v:Value} (h:qDf F cp cells cf w v) (g:Nat) (hv:v.ownBlock=some g) (size:Nat):CmpLays prog F cp cells sz cf g 0 size w:=by
 intro m os dk hs x y;refine(h x y _ (by rw [hv];exact qCI w g m dk os)).mono ?_;rintro e w' ⟨he,q,os',hw⟩;exact⟨he,q,os',hw⟩
end
end
theorem qNh (v:Value) (x:qJ) (l:List qJ) (c:qJ→Int) (pos:Nat) (F:FuncId) (cp:Array Value) (w:World) (h:qI qJ.cells 2 w l v) (hl:l.length≤1000000) (hpos:pos≤l.length)
  (hmono:∀k (hk:k<l.length),(c l[k]<0↔k<pos)) (hF:∀(args:Array Value) (w:World),(callFunc F args).run prog w=.ok (.enter F args) w)
  (hcall:∀(y:qJ) (w':World),y∈l→Below w.heap.size w w'→Calls prog F (#[.agg ⟨qJ.cells y⟩,.agg ↑x]++cp) w' λe w''=>e=.returned (.int .i64 (c y))∧Below w'.heap.size w' w'') :
  Calls prog 176 #[v,.agg ↑x,.func (.func F) #[] cp] w
   λe w'=>e=.returned (.tuple #[.int .i64 pos,.bool (qFs c l pos)])∧Below w.heap.size w w':=by
 obtain⟨a,cap,rfl,hcap,hmax,hc⟩:=h;have hlen:l.length≤maxLen:=by omega
 unfold maxLen at hlen hmax;have HC:=mH (aI hcall hmono);clear hcall hmono;go_enter func176,ntmps176;go_wp2;have HBX:=mH (qC.new w ↑x 73);go_loopw [9,10] (λi j wr=>∃a b:Nat,a≤pos∧pos≤b∧b≤l.length∧i=.int .i64 a∧j=.int .i64 b∧Below (w.heap.size+1) (w.alloc (.cells ↑x 73)) wr) (λi j _=>(intOf j).toNat - (intOf i).toNat)
 case atStart=>exact⟨0,l.length,by omega,by omega,by omega,rfl,rfl,Below.refl _ _⟩
 case round =>
  obtain⟨lo,hi,h1,h2,h3,rfl,rfl,hB⟩:=hrel;have hsz:=hB.size;simp only [World.size_alloc] at hsz;have hBw:Below w.heap.size w wr:=qBD (qB bR _ lR) hB oM;have hbx:=HBX.o.below hB oM
  by_cases hlt:lo<hi
  ·obtain⟨m,hm0⟩:=eY ((lo+hi) / 2);have hmz:((lo:Int)+(hi:Int)) / 2=(m:Int):=by omega
   have hm:m<l.length:=by omega
   have hm1:lo≤m:=by omega
   have hm2:m<hi:=by omega
   have hmi:(m:Int)<(l.length:Int):=by omega
   obtain⟨b,off,rfl,hb,hcc⟩:=hc m hm;have hS:(∀j u,(qJ.cells l[m])[j]? = some u→wr.drew.cell? ⟨b,off+m*2+j,none⟩=some u)∧(∀j u,(qJ.cells x)[j]? = some u→wr.drew.cell? ⟨w.heap.size,j,none⟩=some u) :=
    ⟨λj u hu=>(hBw.cell (p:=⟨b,_,none⟩) hb).trans (hcc j u hu),λj u hu=>hbx.cell j u (by simpa [qJ.cells] using hu)⟩
   have hmo:=HC.o.2 m hm;have HM:Hx (l[m]∈l):=⟨List.getElem_mem _⟩;have HB:=mH (aI hB.drew hBw.drew);have hfz:w.heap.size+1≤wr.heap.size:=by omega
   clear hc hcc hBw hB hbx hm0;go_wp2_with fail;refine qA.start (λW=>(∀j u,(qJ.cells l[m])[j]? = some u→W.cell? ⟨b,off+m*2+j,none⟩=some u)∧(∀j u,(qJ.cells x)[j]? = some u→W.cell? ⟨w.heap.size,j,none⟩=some u)) [6] kR ?_;rw [show wr.heap.size=wr.drew.heap.size from rfl] at hfz;generalize wr.drew=wd at *;refine qA.q 0 ?_;refine qA.q 1 ?_;refine qA.q 2 ?_;refine qA.q 3 ?_;refine qA.take (i:=4) (v:=?_) rfl kR kR kR kR (λ_ _ _ h=>h) hS (Or.inl ⟨by rfl,?_⟩) ?_;rotate_left;(· (intro wS hSw;(try dsimp only at hSw);obtain⟨hA,hX⟩:=hSw;obtain⟨c0,c1⟩:=qDq hA;have t0:=hX 0 _ rfl;have t1:=hX 1 _ rfl;clear hA hX;go_simp;try with_reducible rfl));try simp only [Act.put,zL,zN,zH,zM,zK,zI]
   refine qA.take (i:=5) (v:=?_) rfl kR kR kR kR (λ_ _ _ h=>h) hS (Or.inl ⟨by rfl,?_⟩) ?_;rotate_left;(· (intro wS hSw;(try dsimp only at hSw);obtain⟨hA,hX⟩:=hSw;obtain⟨c0,c1⟩:=qDq hA;have t0:=hX 0 _ rfl;have t1:=hX 1 _ rfl;clear hA hX;go_simp;try with_reducible rfl));try simp only [Act.put,zL,zN,zH,zM,zK,zI]
   clear hS;refine qA.nx 6 λK hK=>?_;go_simp
   refine(HC.o.1 l[m] _ HM.o HB.o.2).mono ?_;rintro e w1 ⟨rfl,hb1⟩;refine qA.o hK ?_;clear hK K;refine qA.q 7 ?_;refine qA.done kR ?_;have hB:=HB.o.1
   by_cases hx:c l[m]<0
   ·have hp:m<pos:=hmo.1 hx;clear hmo;go_wp2;exact⟨⟨m+1,hi,by omega,by omega,by omega,by go_num,rfl,by exact qS⟩,by simp [intOf];omega⟩
   ·have hp:pos≤m:=by have:=λh=>hx (hmo.2 h);omega
    clear hmo;go_wp2;exact⟨⟨lo,m,by omega,by omega,by omega,by go_num,by go_num,by exact qS⟩,by simp [intOf];omega⟩
  ·obtain rfl:lo=pos:=by omega
   by_cases hin:lo<l.length
   ·obtain⟨b,off,rfl,hb,hcc⟩:=hc lo hin;have hini:(lo:Int)<(l.length:Int):=by omega
    have hS:(∀j u,(qJ.cells l[lo])[j]? = some u→wr.drew.cell? ⟨b,off+lo*2+j,none⟩=some u)∧(∀j u,(qJ.cells x)[j]? = some u→wr.drew.cell? ⟨w.heap.size,j,none⟩=some u) :=
     ⟨λj u hu=>(hBw.cell (p:=⟨b,_,none⟩) hb).trans (hcc j u hu),λj u hu=>hbx.cell j u (by simpa [qJ.cells] using hu)⟩
    have HM:Hx (l[lo]∈l):=⟨List.getElem_mem _⟩;have HG:=mH (qF7 (c:=c) hin);have HB:=mH hBw.drew;have hfz:w.heap.size+1≤wr.heap.size:=by omega
    clear hc hcc hBw hB hbx;go_wp2_with fail;refine qA.start (λW=>(∀j u,(qJ.cells l[lo])[j]? = some u→W.cell? ⟨b,off+lo*2+j,none⟩=some u)∧(∀j u,(qJ.cells x)[j]? = some u→W.cell? ⟨w.heap.size,j,none⟩=some u)) [11] kR ?_;rw [show wr.heap.size=wr.drew.heap.size from rfl] at hfz;generalize wr.drew=wd at *;refine qA.q 0 ?_;refine qA.q 1 ?_;refine qA.q 2 ?_;refine qA.q 3 ?_;refine qA.q 4 ?_;refine qA.qg 5 ?_;refine qA.qg 6 ?_;refine qA.qg 7 ?_;refine qA.qg 8 ?_;refine qA.take (i:=9) (v:=?_) rfl kR kR kR kR (λ_ _ _ h=>h) hS (Or.inl ⟨by go_simp,?_⟩) ?_;rotate_left;(· (intro wS hSw;(try dsimp only at hSw);obtain⟨hA,hX⟩:=hSw;obtain⟨c0,c1⟩:=qDq hA;have t0:=hX 0 _ rfl;have t1:=hX 1 _ rfl;clear hA hX;go_simp;try with_reducible rfl));try simp only [Act.put,zL,zN,zH,zM,zK,zI]
    refine qA.take (i:=10) (v:=?_) rfl kR kR kR kR (λ_ _ _ h=>h) hS (Or.inl ⟨by go_simp,?_⟩) ?_;rotate_left;(· (intro wS hSw;(try dsimp only at hSw);obtain⟨hA,hX⟩:=hSw;obtain⟨c0,c1⟩:=qDq hA;have t0:=hX 0 _ rfl;have t1:=hX 1 _ rfl;clear hA hX;go_simp;try with_reducible rfl));try simp only [Act.put,zL,zN,zH,zM,zK,zI]
    clear hS;refine qA.nx 11 λK hK=>?_;go_simp
    refine(HC.o.1 l[lo] _ HM.o HB.o).mono ?_;rintro e w1 ⟨rfl,hb1⟩;refine qA.o hK ?_;clear hK K;refine qA.qg 12 ?_;refine qA.q 13 ?_;refine qA.q 14 ?_;refine qA.q 15 ?_;refine qA.done kR ?_;have hB:=HB.o;go_wp2;go_ret2;exact⟨qGh rfl HG.o.symm,by exact qS⟩
   ·have HG:=mH (qFv (c:=c) (show l.length≤lo by omega));have hini:¬(lo:Int)<(l.length:Int):=by omega
    have HB:=mH hBw.drew;clear hc hBw hB hbx;go_wp2_with fail;refine qA.start (λ_=>True) [] kR ?_;generalize wr.drew=wd at *;refine qA.q 0 ?_;refine qA.q 1 ?_;refine qA.q 2 ?_;refine qA.q 3 ?_;refine qA.q 4 ?_;refine qA.qf 5 ?_;refine qA.qf 6 ?_;refine qA.qf 7 ?_;refine qA.qf 8 ?_;refine qA.qf 9 ?_;refine qA.qf 10 ?_;refine qA.qf 11 ?_;refine qA.qf 12 ?_;refine qA.q 13 ?_;refine qA.q 14 ?_;refine qA.q 15 ?_;refine qA.done kR ?_;go_wp2;go_ret2;exact⟨qGh rfl HG.o.symm,HB.o⟩
theorem qOs (F:FuncId) (cp:Array Value) (w:World):Calls prog 303 #[.slice none 0 0,.int .i64 0,.int .i64 0,.func (.func F) #[] cp] w λe w'=>e=.returned (.tuple #[])∧w'=w:=by
 go_enter func303,ntmps303;go_wp2;go_loopw [8] (λiv wr=>iv=.int .i64 1∧wr=w) (λ_ _=>0)
 case atStart=>exact⟨rfl,rfl⟩
 case round =>
  obtain⟨rfl,hw⟩:=hrel;have hw:=hw.symm;subst hw;go_wp2
  ((try simp only [Exit.inBlock,Exit.then]);refine bodyPost_end (results_none rfl _ _ _) rfl ?_)
  exact⟨rfl,rfl⟩
theorem qPU (v:Value) (l:List qJ) (cf:qJ→qJ→Int) (F:FuncId) (cp:Array Value) (base:Nat) (w:World) (hv:zG qJ.cells 2 base w v l) (hl:l.length≤100000) (hO:zU cf)
  (hF:∀(args:Array Value) (w:World),(callFunc F args).run prog w=.ok (.enter F args) w) (hcall:qDf F cp qJ.cells cf w v) :
  Calls prog 303 #[v,.int .i64 0,.int .i64 l.length,.func (.func F) #[] cp] w
  λe w'=>e=.returned (.tuple #[])∧∃L,L.Perm l∧Asc cf L∧zG qJ.cells 2 base w' v L∧w.grownBy w' v.ownBlock:=by
 rcases hv with⟨rfl,rfl⟩|⟨g,cap,rfl,hg,hc,hm,hr⟩
 ·refine(qOs F cp w).mono ?_;rintro e w' ⟨rfl,rfl⟩;exact⟨rfl,[],List.Perm.refl _,List.Pairwise.nil,.inl ⟨rfl,rfl⟩,qH _ bR⟩
 ·have h:=AnyQ.insertionSortCmpFunc Tryz.isortSit 2 Tryz.isAgg73 Tryz.sizeOf73 qJ.cells qJ.cells_len (qH1 qDJ) cf F cp g 0 cap 0 l.length l.toArray w hF (hcall.lays g rfl _) (hr.holdsK qJ.cells_len) hr.2.2 oM sI (by simp;omega);rw [show l.toArray.size=l.length from rfl] at h;refine h.mono ?_;rintro e w' ⟨rfl,n,os,rfl⟩;obtain⟨q1,q2,q3⟩:=qFE cf hO l;exact⟨rfl,_,q1,q2,.inr ⟨g,cap,by rw [q1.length_eq],hg,by rw [q1.length_eq];exact hc,hm,qFD qJ.cells_len hr q3⟩,qCI _ _ _ _ _⟩
theorem qR1 (v:Value) (l:List qJ) (cf:qJ→qJ→Int) (F:FuncId) (cp:Array Value) (base:Nat) (w:World) (hv:zG qJ.cells 2 base w v l) (hl:l.length<20) (hO:zU cf)
  (hF:∀(args:Array Value) (w:World),(callFunc F args).run prog w=.ok (.enter F args) w) (hcall:qDf F cp qJ.cells cf w v) :
  Calls prog 292 #[v,.int .i64 l.length,.func (.func F) #[] cp] w
  λe w'=>e=.returned (.tuple #[])∧∃L,L.Perm l∧Asc cf L∧zG qJ.cells 2 base w' v L∧w.grownBy w' v.ownBlock:=by
 have HV:=mH (aI hv (aI hF (aI hcall hO)));clear hv hF hcall hO;go_enter func292,ntmps292;go_wp2;go_loopw [7,8] (λav bv wr=>av=.int .i64 0∧bv=.int .i64 20∧wr=w) (λ_ _ _=>0)
 case atStart=>exact⟨rfl,rfl,rfl⟩
 case round =>
  obtain⟨rfl,rfl,hw⟩:=hrel;have hw:=hw.symm;subst hw;go_wp2_with fail;refine(qPU v l cf F cp base _ HV.o.1 oM HV.o.2.2.2 HV.o.2.1 HV.o.2.2.1).mono ?_;rintro e w1 ⟨rfl,L,hp,hs,hr,hg⟩;have HR:=mH (aI hp (aI hs (aI hr hg)));clear hp hs hr hg;go_wp2;go_loopw [6] (λkv wr=>kv=.int .i64 20∧wr=w1) (λ_ _=>0)
  case atStart=>exact⟨rfl,rfl⟩
  case round =>
   obtain⟨rfl,hw⟩:=hrel;have hw:=hw.symm;subst hw;go_wp2
   ((try simp only [Exit.inBlock,Exit.then]);refine bodyPost_end (results_none rfl _ _ _) rfl ?_)
   exact⟨rfl,L,HR.o.1,HR.o.2.1,HR.o.2.2.1,HR.o.2.2.2⟩
theorem qO8 (v:Value) (l:List qJ) (cf:qJ→qJ→Int) (F:FuncId) (cp:Array Value) (base:Nat) (w:World) (hv:zG qJ.cells 2 base w v l) (hl:l.length<20) (hO:zU cf)
  (hF:∀(args:Array Value) (w:World),(callFunc F args).run prog w=.ok (.enter F args) w) (hcall:qDf F cp qJ.cells cf w v) :
  Calls prog 266 #[v,.func (.func F) #[] cp] w
  λe w'=>e=.returned (.tuple #[])∧∃L,L.Perm l∧Asc cf L∧zG qJ.cells 2 base w' v L∧w.grownBy w' v.ownBlock:=by
 have HV:=mH (aI hv (aI hF (aI hcall hO)));obtain⟨a,cap,rfl⟩:=hv.slice;clear hv hF hcall hO;go_enter func266,ntmps266;go_wp2_with (refine(qR1 _ l cf F cp base _ HV.o.1 hl HV.o.2.2.2 HV.o.2.1 HV.o.2.2.1).mono ?_;rintro e w1 ⟨rfl,L,hp,hs,hr,hg⟩;have HR:=mH (aI hp (aI hs (aI hr hg)));clear hp hs hr hg)
 ((try simp only [Exit.inBlock,Exit.then]);refine bodyPost_end (results_none rfl _ _ _) rfl ?_)
 exact⟨rfl,L,HR.o.1,HR.o.2.1,HR.o.2.2.1,HR.o.2.2.2⟩
theorem qNe (v:Value) (x:qG) (l:List qG) (c:qG→Int) (pos:Nat) (F:FuncId) (cp:Array Value) (w:World) (h:qI qG.cells 5 w l v) (hl:l.length≤1000000) (hpos:pos≤l.length)
  (hmono:∀k (hk:k<l.length),(c l[k]<0↔k<pos)) (hF:∀(args:Array Value) (w:World),(callFunc F args).run prog w=.ok (.enter F args) w)
  (hcall:∀(y:qG) (w':World),y∈l→Below w.heap.size w w'→Calls prog F (#[.agg ⟨qG.cells y⟩,.agg ↑x]++cp) w' λe w''=>e=.returned (.int .i64 (c y))∧Below w'.heap.size w' w'') :
  Calls prog 180 #[v,.agg ↑x,.func (.func F) #[] cp] w
   λe w'=>e=.returned (.tuple #[.int .i64 pos,.bool (qFs c l pos)])∧Below w.heap.size w w':=by
 obtain⟨a,cap,rfl,hcap,hmax,hc⟩:=h;have hlen:l.length≤maxLen:=by omega
 unfold maxLen at hlen hmax;have HC:=mH (aI hcall hmono);clear hcall hmono;go_enter func180,ntmps180;go_wp2;have HBX:=mH (qC.new w ↑x 75);go_loopw [9,10] (λi j wr=>∃a b:Nat,a≤pos∧pos≤b∧b≤l.length∧i=.int .i64 a∧j=.int .i64 b∧Below (w.heap.size+1) (w.alloc (.cells ↑x 75)) wr) (λi j _=>(intOf j).toNat - (intOf i).toNat)
 case atStart=>exact⟨0,l.length,by omega,by omega,by omega,rfl,rfl,Below.refl _ _⟩
 case round =>
  obtain⟨lo,hi,h1,h2,h3,rfl,rfl,hB⟩:=hrel;have hsz:=hB.size;simp only [World.size_alloc] at hsz;have hBw:Below w.heap.size w wr:=qBD (qB bR _ lR) hB oM;have hbx:=HBX.o.below hB oM
  by_cases hlt:lo<hi
  ·obtain⟨m,hm0⟩:=eY ((lo+hi) / 2);have hmz:((lo:Int)+(hi:Int)) / 2=(m:Int):=by omega
   have hm:m<l.length:=by omega
   have hm1:lo≤m:=by omega
   have hm2:m<hi:=by omega
   have hmi:(m:Int)<(l.length:Int):=by omega
   obtain⟨b,off,rfl,hb,hcc⟩:=hc m hm;have hS:(∀j u,(qG.cells l[m])[j]? = some u→wr.drew.cell? ⟨b,off+m*5+j,none⟩=some u)∧(∀j u,(qG.cells x)[j]? = some u→wr.drew.cell? ⟨w.heap.size,j,none⟩=some u) :=
    ⟨λj u hu=>(hBw.cell (p:=⟨b,_,none⟩) hb).trans (hcc j u hu),λj u hu=>hbx.cell j u (by simpa [qG.cells] using hu)⟩
   have hmo:=HC.o.2 m hm;have HM:Hx (l[m]∈l):=⟨List.getElem_mem _⟩;have HB:=mH (aI hB.drew hBw.drew);have hfz:w.heap.size+1≤wr.heap.size:=by omega
   clear hc hcc hBw hB hbx hm0;go_wp2_with fail;refine qA.start (λW=>(∀j u,(qG.cells l[m])[j]? = some u→W.cell? ⟨b,off+m*5+j,none⟩=some u)∧(∀j u,(qG.cells x)[j]? = some u→W.cell? ⟨w.heap.size,j,none⟩=some u)) [6] kR ?_;rw [show wr.heap.size=wr.drew.heap.size from rfl] at hfz;generalize wr.drew=wd at *;refine qA.q 0 ?_;refine qA.q 1 ?_;refine qA.q 2 ?_;refine qA.q 3 ?_;refine qA.take (i:=4) (v:=?_) rfl kR kR kR kR (λ_ _ _ h=>h) hS (Or.inl ⟨by rfl,?_⟩) ?_;rotate_left;(· (intro wS hSw;(try dsimp only at hSw);obtain⟨hA,hX⟩:=hSw;obtain⟨c0,c1,c2,c3,c4⟩:=qCW hA;have t0:=hX 0 _ rfl;have t1:=hX 1 _ rfl;have t2:=hX 2 _ rfl;have t3:=hX 3 _ rfl;have t4:=hX 4 _ rfl;clear hA hX;go_simp;try with_reducible rfl));try simp only [Act.put,zL,zN,zH,zM,zK,zI]
   refine qA.take (i:=5) (v:=?_) rfl kR kR kR kR (λ_ _ _ h=>h) hS (Or.inl ⟨by rfl,?_⟩) ?_;rotate_left;(· (intro wS hSw;(try dsimp only at hSw);obtain⟨hA,hX⟩:=hSw;obtain⟨c0,c1,c2,c3,c4⟩:=qCW hA;have t0:=hX 0 _ rfl;have t1:=hX 1 _ rfl;have t2:=hX 2 _ rfl;have t3:=hX 3 _ rfl;have t4:=hX 4 _ rfl;clear hA hX;go_simp;try with_reducible rfl));try simp only [Act.put,zL,zN,zH,zM,zK,zI]
   clear hS;refine qA.nx 6 λK hK=>?_;go_simp
   refine(HC.o.1 l[m] _ HM.o HB.o.2).mono ?_;rintro e w1 ⟨rfl,hb1⟩;refine qA.o hK ?_;clear hK K;refine qA.q 7 ?_;refine qA.done kR ?_;have hB:=HB.o.1
   by_cases hx:c l[m]<0
   ·have hp:m<pos:=hmo.1 hx;clear hmo;go_wp2;exact⟨⟨m+1,hi,by omega,by omega,by omega,by go_num,rfl,by exact qS⟩,by simp [intOf];omega⟩
   ·have hp:pos≤m:=by have:=λh=>hx (hmo.2 h);omega
    clear hmo;go_wp2;exact⟨⟨lo,m,by omega,by omega,by omega,by go_num,by go_num,by exact qS⟩,by simp [intOf];omega⟩
  ·obtain rfl:lo=pos:=by omega
   by_cases hin:lo<l.length
   ·obtain⟨b,off,rfl,hb,hcc⟩:=hc lo hin;have hini:(lo:Int)<(l.length:Int):=by omega
    have hS:(∀j u,(qG.cells l[lo])[j]? = some u→wr.drew.cell? ⟨b,off+lo*5+j,none⟩=some u)∧(∀j u,(qG.cells x)[j]? = some u→wr.drew.cell? ⟨w.heap.size,j,none⟩=some u) :=
     ⟨λj u hu=>(hBw.cell (p:=⟨b,_,none⟩) hb).trans (hcc j u hu),λj u hu=>hbx.cell j u (by simpa [qG.cells] using hu)⟩
    have HM:Hx (l[lo]∈l):=⟨List.getElem_mem _⟩;have HG:=mH (qF7 (c:=c) hin);have HB:=mH hBw.drew;have hfz:w.heap.size+1≤wr.heap.size:=by omega
    clear hc hcc hBw hB hbx;go_wp2_with fail;refine qA.start (λW=>(∀j u,(qG.cells l[lo])[j]? = some u→W.cell? ⟨b,off+lo*5+j,none⟩=some u)∧(∀j u,(qG.cells x)[j]? = some u→W.cell? ⟨w.heap.size,j,none⟩=some u)) [11] kR ?_;rw [show wr.heap.size=wr.drew.heap.size from rfl] at hfz;generalize wr.drew=wd at *;refine qA.q 0 ?_;refine qA.q 1 ?_;refine qA.q 2 ?_;refine qA.q 3 ?_;refine qA.q 4 ?_;refine qA.qg 5 ?_;refine qA.qg 6 ?_;refine qA.qg 7 ?_;refine qA.qg 8 ?_;refine qA.take (i:=9) (v:=?_) rfl kR kR kR kR (λ_ _ _ h=>h) hS (Or.inl ⟨by go_simp,?_⟩) ?_;rotate_left;(· (intro wS hSw;(try dsimp only at hSw);obtain⟨hA,hX⟩:=hSw;obtain⟨c0,c1,c2,c3,c4⟩:=qCW hA;have t0:=hX 0 _ rfl;have t1:=hX 1 _ rfl;have t2:=hX 2 _ rfl;have t3:=hX 3 _ rfl;have t4:=hX 4 _ rfl;clear hA hX;go_simp;try with_reducible rfl));try simp only [Act.put,zL,zN,zH,zM,zK,zI]
    refine qA.take (i:=10) (v:=?_) rfl kR kR kR kR (λ_ _ _ h=>h) hS (Or.inl ⟨by go_simp,?_⟩) ?_;rotate_left;(· (intro wS hSw;(try dsimp only at hSw);obtain⟨hA,hX⟩:=hSw;obtain⟨c0,c1,c2,c3,c4⟩:=qCW hA;have t0:=hX 0 _ rfl;have t1:=hX 1 _ rfl;have t2:=hX 2 _ rfl;have t3:=hX 3 _ rfl;have t4:=hX 4 _ rfl;clear hA hX;go_simp;try with_reducible rfl));try simp only [Act.put,zL,zN,zH,zM,zK,zI]
    clear hS;refine qA.nx 11 λK hK=>?_;go_simp
    refine(HC.o.1 l[lo] _ HM.o HB.o).mono ?_;rintro e w1 ⟨rfl,hb1⟩;refine qA.o hK ?_;clear hK K;refine qA.qg 12 ?_;refine qA.q 13 ?_;refine qA.q 14 ?_;refine qA.q 15 ?_;refine qA.done kR ?_;have hB:=HB.o;go_wp2;go_ret2;exact⟨qGh rfl HG.o.symm,by exact qS⟩
   ·have HG:=mH (qFv (c:=c) (show l.length≤lo by omega));have hini:¬(lo:Int)<(l.length:Int):=by omega
    have HB:=mH hBw.drew;clear hc hBw hB hbx;go_wp2_with fail;refine qA.start (λ_=>True) [] kR ?_;generalize wr.drew=wd at *;refine qA.q 0 ?_;refine qA.q 1 ?_;refine qA.q 2 ?_;refine qA.q 3 ?_;refine qA.q 4 ?_;refine qA.qf 5 ?_;refine qA.qf 6 ?_;refine qA.qf 7 ?_;refine qA.qf 8 ?_;refine qA.qf 9 ?_;refine qA.qf 10 ?_;refine qA.qf 11 ?_;refine qA.qf 12 ?_;refine qA.q 13 ?_;refine qA.q 14 ?_;refine qA.q 15 ?_;refine qA.done kR ?_;go_wp2;go_ret2;exact⟨qGh rfl HG.o.symm,HB.o⟩
theorem qOa (F:FuncId) (cp:Array Value) (w:World):Calls prog 305 #[.slice none 0 0,.int .i64 0,.int .i64 0,.func (.func F) #[] cp] w λe w'=>e=.returned (.tuple #[])∧w'=w:=by
 go_enter func305,ntmps305;go_wp2;go_loopw [8] (λiv wr=>iv=.int .i64 1∧wr=w) (λ_ _=>0)
 case atStart=>exact⟨rfl,rfl⟩
 case round =>
  obtain⟨rfl,hw⟩:=hrel;have hw:=hw.symm;subst hw;go_wp2
  ((try simp only [Exit.inBlock,Exit.then]);refine bodyPost_end (results_none rfl _ _ _) rfl ?_)
  exact⟨rfl,rfl⟩
theorem qPM (v:Value) (l:List qG) (cf:qG→qG→Int) (F:FuncId) (cp:Array Value) (base:Nat) (w:World) (hv:zG qG.cells 5 base w v l) (hl:l.length≤100000) (hO:zU cf)
  (hF:∀(args:Array Value) (w:World),(callFunc F args).run prog w=.ok (.enter F args) w) (hcall:qDf F cp qG.cells cf w v) :
  Calls prog 305 #[v,.int .i64 0,.int .i64 l.length,.func (.func F) #[] cp] w
  λe w'=>e=.returned (.tuple #[])∧∃L,L.Perm l∧Asc cf L∧zG qG.cells 5 base w' v L∧w.grownBy w' v.ownBlock:=by
 rcases hv with⟨rfl,rfl⟩|⟨g,cap,rfl,hg,hc,hm,hr⟩
 ·refine(qOa F cp w).mono ?_;rintro e w' ⟨rfl,rfl⟩;exact⟨rfl,[],List.Perm.refl _,List.Pairwise.nil,.inl ⟨rfl,rfl⟩,qH _ bR⟩
 ·have h:=AnyQ.insertionSortCmpFunc Tryz.isortCab 5 Tryz.isAgg75 Tryz.sizeOf75 qG.cells qG.cells_len (qH1 qDK) cf F cp g 0 cap 0 l.length l.toArray w hF (hcall.lays g rfl _) (hr.holdsK qG.cells_len) hr.2.2 oM sI (by simp;omega);rw [show l.toArray.size=l.length from rfl] at h;refine h.mono ?_;rintro e w' ⟨rfl,n,os,rfl⟩;obtain⟨q1,q2,q3⟩:=qFE cf hO l;exact⟨rfl,_,q1,q2,.inr ⟨g,cap,by rw [q1.length_eq],hg,by rw [q1.length_eq];exact hc,hm,qFD qG.cells_len hr q3⟩,qCI _ _ _ _ _⟩
theorem qR3 (v:Value) (l:List qG) (cf:qG→qG→Int) (F:FuncId) (cp:Array Value) (base:Nat) (w:World) (hv:zG qG.cells 5 base w v l) (hl:l.length<20) (hO:zU cf)
  (hF:∀(args:Array Value) (w:World),(callFunc F args).run prog w=.ok (.enter F args) w) (hcall:qDf F cp qG.cells cf w v) :
  Calls prog 293 #[v,.int .i64 l.length,.func (.func F) #[] cp] w
  λe w'=>e=.returned (.tuple #[])∧∃L,L.Perm l∧Asc cf L∧zG qG.cells 5 base w' v L∧w.grownBy w' v.ownBlock:=by
 have HV:=mH (aI hv (aI hF (aI hcall hO)));clear hv hF hcall hO;go_enter func293,ntmps293;go_wp2;go_loopw [7,8] (λav bv wr=>av=.int .i64 0∧bv=.int .i64 20∧wr=w) (λ_ _ _=>0)
 case atStart=>exact⟨rfl,rfl,rfl⟩
 case round =>
  obtain⟨rfl,rfl,hw⟩:=hrel;have hw:=hw.symm;subst hw;go_wp2_with fail;refine(qPM v l cf F cp base _ HV.o.1 oM HV.o.2.2.2 HV.o.2.1 HV.o.2.2.1).mono ?_;rintro e w1 ⟨rfl,L,hp,hs,hr,hg⟩;have HR:=mH (aI hp (aI hs (aI hr hg)));clear hp hs hr hg;go_wp2;go_loopw [6] (λkv wr=>kv=.int .i64 20∧wr=w1) (λ_ _=>0)
  case atStart=>exact⟨rfl,rfl⟩
  case round =>
   obtain⟨rfl,hw⟩:=hrel;have hw:=hw.symm;subst hw;go_wp2
   ((try simp only [Exit.inBlock,Exit.then]);refine bodyPost_end (results_none rfl _ _ _) rfl ?_)
   exact⟨rfl,L,HR.o.1,HR.o.2.1,HR.o.2.2.1,HR.o.2.2.2⟩
theorem qOO (v:Value) (l:List qG) (cf:qG→qG→Int) (F:FuncId) (cp:Array Value) (base:Nat) (w:World) (hv:zG qG.cells 5 base w v l) (hl:l.length<20) (hO:zU cf)
  (hF:∀(args:Array Value) (w:World),(callFunc F args).run prog w=.ok (.enter F args) w) (hcall:qDf F cp qG.cells cf w v) :
  Calls prog 268 #[v,.func (.func F) #[] cp] w
  λe w'=>e=.returned (.tuple #[])∧∃L,L.Perm l∧Asc cf L∧zG qG.cells 5 base w' v L∧w.grownBy w' v.ownBlock:=by
 have HV:=mH (aI hv (aI hF (aI hcall hO)));obtain⟨a,cap,rfl⟩:=hv.slice;clear hv hF hcall hO;go_enter func268,ntmps268;go_wp2_with (refine(qR3 _ l cf F cp base _ HV.o.1 hl HV.o.2.2.2 HV.o.2.1 HV.o.2.2.1).mono ?_;rintro e w1 ⟨rfl,L,hp,hs,hr,hg⟩;have HR:=mH (aI hp (aI hs (aI hr hg)));clear hp hs hr hg)
 ((try simp only [Exit.inBlock,Exit.then]);refine bodyPost_end (results_none rfl _ _ _) rfl ?_)
 exact⟨rfl,L,HR.o.1,HR.o.2.1,HR.o.2.2.1,HR.o.2.2.2⟩
theorem qIf (v:Value) (x:qE) (l:List qE) (c:qE→Int) (pos:Nat) (F:FuncId) (cp:Array Value) (w:World) (h:qI qE.cells 6 w l v) (hl:l.length≤1000000) (hpos:pos≤l.length)
  (hmono:∀k (hk:k<l.length),(c l[k]<0↔k<pos)) (hF:∀(args:Array Value) (w:World),(callFunc F args).run prog w=.ok (.enter F args) w)
  (hcall:∀(y:qE) (w':World),y∈l→Below w.heap.size w w'→Calls prog F (#[.agg ⟨qE.cells y⟩,.agg ↑x]++cp) w' λe w''=>e=.returned (.int .i64 (c y))∧Below w'.heap.size w' w'') :
  Calls prog 184 #[v,.agg ↑x,.func (.func F) #[] cp] w
   λe w'=>e=.returned (.tuple #[.int .i64 pos,.bool (qFs c l pos)])∧Below w.heap.size w w':=by
 obtain⟨a,cap,rfl,hcap,hmax,hc⟩:=h;have hlen:l.length≤maxLen:=by omega
 unfold maxLen at hlen hmax;have HC:=mH (aI hcall hmono);clear hcall hmono;go_enter func184,ntmps184;go_wp2;have HBX:=mH (qC.new w ↑x 79);go_loopw [9,10] (λi j wr=>∃a b:Nat,a≤pos∧pos≤b∧b≤l.length∧i=.int .i64 a∧j=.int .i64 b∧Below (w.heap.size+1) (w.alloc (.cells ↑x 79)) wr) (λi j _=>(intOf j).toNat - (intOf i).toNat)
 case atStart=>exact⟨0,l.length,by omega,by omega,by omega,rfl,rfl,Below.refl _ _⟩
 case round =>
  obtain⟨lo,hi,h1,h2,h3,rfl,rfl,hB⟩:=hrel;have hsz:=hB.size;simp only [World.size_alloc] at hsz;have hBw:Below w.heap.size w wr:=qBD (qB bR _ lR) hB oM;have hbx:=HBX.o.below hB oM
  by_cases hlt:lo<hi
  ·obtain⟨m,hm0⟩:=eY ((lo+hi) / 2);have hmz:((lo:Int)+(hi:Int)) / 2=(m:Int):=by omega
   have hm:m<l.length:=by omega
   have hm1:lo≤m:=by omega
   have hm2:m<hi:=by omega
   have hmi:(m:Int)<(l.length:Int):=by omega
   obtain⟨b,off,rfl,hb,hcc⟩:=hc m hm;have hS:(∀j u,(qE.cells l[m])[j]? = some u→wr.drew.cell? ⟨b,off+m*6+j,none⟩=some u)∧(∀j u,(qE.cells x)[j]? = some u→wr.drew.cell? ⟨w.heap.size,j,none⟩=some u) :=
    ⟨λj u hu=>(hBw.cell (p:=⟨b,_,none⟩) hb).trans (hcc j u hu),λj u hu=>hbx.cell j u (by simpa [qE.cells] using hu)⟩
   have hmo:=HC.o.2 m hm;have HM:Hx (l[m]∈l):=⟨List.getElem_mem _⟩;have HB:=mH (aI hB.drew hBw.drew);have hfz:w.heap.size+1≤wr.heap.size:=by omega
   clear hc hcc hBw hB hbx hm0;go_wp2_with fail;refine qA.start (λW=>(∀j u,(qE.cells l[m])[j]? = some u→W.cell? ⟨b,off+m*6+j,none⟩=some u)∧(∀j u,(qE.cells x)[j]? = some u→W.cell? ⟨w.heap.size,j,none⟩=some u)) [6] kR ?_;rw [show wr.heap.size=wr.drew.heap.size from rfl] at hfz;generalize wr.drew=wd at *;refine qA.q 0 ?_;refine qA.q 1 ?_;refine qA.q 2 ?_;refine qA.q 3 ?_;refine qA.take (i:=4) (v:=?_) rfl kR kR kR kR (λ_ _ _ h=>h) hS (Or.inl ⟨by rfl,?_⟩) ?_;rotate_left;(· (intro wS hSw;(try dsimp only at hSw);obtain⟨hA,hX⟩:=hSw;obtain⟨c0,c1,c2,c3,c4,c5⟩:=qBo hA;have t0:=hX 0 _ rfl;have t1:=hX 1 _ rfl;have t2:=hX 2 _ rfl;have t3:=hX 3 _ rfl;have t4:=hX 4 _ rfl;have t5:=hX 5 _ rfl;clear hA hX;go_simp;try with_reducible rfl));try simp only [Act.put,zL,zN,zH,zM,zK,zI]
   refine qA.take (i:=5) (v:=?_) rfl kR kR kR kR (λ_ _ _ h=>h) hS (Or.inl ⟨by rfl,?_⟩) ?_;rotate_left;(· (intro wS hSw;(try dsimp only at hSw);obtain⟨hA,hX⟩:=hSw;obtain⟨c0,c1,c2,c3,c4,c5⟩:=qBo hA;have t0:=hX 0 _ rfl;have t1:=hX 1 _ rfl;have t2:=hX 2 _ rfl;have t3:=hX 3 _ rfl;have t4:=hX 4 _ rfl;have t5:=hX 5 _ rfl;clear hA hX;go_simp;try with_reducible rfl));try simp only [Act.put,zL,zN,zH,zM,zK,zI]
   clear hS;refine qA.nx 6 λK hK=>?_;go_simp
   refine(HC.o.1 l[m] _ HM.o HB.o.2).mono ?_;rintro e w1 ⟨rfl,hb1⟩;refine qA.o hK ?_;clear hK K;refine qA.q 7 ?_;refine qA.done kR ?_;have hB:=HB.o.1
   by_cases hx:c l[m]<0
   ·have hp:m<pos:=hmo.1 hx;clear hmo;go_wp2;exact⟨⟨m+1,hi,by omega,by omega,by omega,by go_num,rfl,by exact qS⟩,by simp [intOf];omega⟩
   ·have hp:pos≤m:=by have:=λh=>hx (hmo.2 h);omega
    clear hmo;go_wp2;exact⟨⟨lo,m,by omega,by omega,by omega,by go_num,by go_num,by exact qS⟩,by simp [intOf];omega⟩
  ·obtain rfl:lo=pos:=by omega
   by_cases hin:lo<l.length
   ·obtain⟨b,off,rfl,hb,hcc⟩:=hc lo hin;have hini:(lo:Int)<(l.length:Int):=by omega
    have hS:(∀j u,(qE.cells l[lo])[j]? = some u→wr.drew.cell? ⟨b,off+lo*6+j,none⟩=some u)∧(∀j u,(qE.cells x)[j]? = some u→wr.drew.cell? ⟨w.heap.size,j,none⟩=some u) :=
     ⟨λj u hu=>(hBw.cell (p:=⟨b,_,none⟩) hb).trans (hcc j u hu),λj u hu=>hbx.cell j u (by simpa [qE.cells] using hu)⟩
    have HM:Hx (l[lo]∈l):=⟨List.getElem_mem _⟩;have HG:=mH (qF7 (c:=c) hin);have HB:=mH hBw.drew;have hfz:w.heap.size+1≤wr.heap.size:=by omega
    clear hc hcc hBw hB hbx;go_wp2_with fail;refine qA.start (λW=>(∀j u,(qE.cells l[lo])[j]? = some u→W.cell? ⟨b,off+lo*6+j,none⟩=some u)∧(∀j u,(qE.cells x)[j]? = some u→W.cell? ⟨w.heap.size,j,none⟩=some u)) [11] kR ?_;rw [show wr.heap.size=wr.drew.heap.size from rfl] at hfz;generalize wr.drew=wd at *;refine qA.q 0 ?_;refine qA.q 1 ?_;refine qA.q 2 ?_;refine qA.q 3 ?_;refine qA.q 4 ?_;refine qA.qg 5 ?_;refine qA.qg 6 ?_;refine qA.qg 7 ?_;refine qA.qg 8 ?_;refine qA.take (i:=9) (v:=?_) rfl kR kR kR kR (λ_ _ _ h=>h) hS (Or.inl ⟨by go_simp,?_⟩) ?_;rotate_left;(· (intro wS hSw;(try dsimp only at hSw);obtain⟨hA,hX⟩:=hSw;obtain⟨c0,c1,c2,c3,c4,c5⟩:=qBo hA;have t0:=hX 0 _ rfl;have t1:=hX 1 _ rfl;have t2:=hX 2 _ rfl;have t3:=hX 3 _ rfl;have t4:=hX 4 _ rfl;have t5:=hX 5 _ rfl;clear hA hX;go_simp;try with_reducible rfl));try simp only [Act.put,zL,zN,zH,zM,zK,zI]
    refine qA.take (i:=10) (v:=?_) rfl kR kR kR kR (λ_ _ _ h=>h) hS (Or.inl ⟨by go_simp,?_⟩) ?_;rotate_left;(· (intro wS hSw;(try dsimp only at hSw);obtain⟨hA,hX⟩:=hSw;obtain⟨c0,c1,c2,c3,c4,c5⟩:=qBo hA;have t0:=hX 0 _ rfl;have t1:=hX 1 _ rfl;have t2:=hX 2 _ rfl;have t3:=hX 3 _ rfl;have t4:=hX 4 _ rfl;have t5:=hX 5 _ rfl;clear hA hX;go_simp;try with_reducible rfl));try simp only [Act.put,zL,zN,zH,zM,zK,zI]
    clear hS;refine qA.nx 11 λK hK=>?_;go_simp
    refine(HC.o.1 l[lo] _ HM.o HB.o).mono ?_;rintro e w1 ⟨rfl,hb1⟩;refine qA.o hK ?_;clear hK K;refine qA.qg 12 ?_;refine qA.q 13 ?_;refine qA.q 14 ?_;refine qA.q 15 ?_;refine qA.done kR ?_;have hB:=HB.o;go_wp2;go_ret2;exact⟨qGh rfl HG.o.symm,by exact qS⟩
   ·have HG:=mH (qFv (c:=c) (show l.length≤lo by omega));have hini:¬(lo:Int)<(l.length:Int):=by omega
    have HB:=mH hBw.drew;clear hc hBw hB hbx;go_wp2_with fail;refine qA.start (λ_=>True) [] kR ?_;generalize wr.drew=wd at *;refine qA.q 0 ?_;refine qA.q 1 ?_;refine qA.q 2 ?_;refine qA.q 3 ?_;refine qA.q 4 ?_;refine qA.qf 5 ?_;refine qA.qf 6 ?_;refine qA.qf 7 ?_;refine qA.qf 8 ?_;refine qA.qf 9 ?_;refine qA.qf 10 ?_;refine qA.qf 11 ?_;refine qA.qf 12 ?_;refine qA.q 13 ?_;refine qA.q 14 ?_;refine qA.q 15 ?_;refine qA.done kR ?_;go_wp2;go_ret2;exact⟨qGh rfl HG.o.symm,HB.o⟩
theorem qPV (F:FuncId) (cp:Array Value) (w:World):Calls prog 307 #[.slice none 0 0,.int .i64 0,.int .i64 0,.func (.func F) #[] cp] w λe w'=>e=.returned (.tuple #[])∧w'=w:=by
 go_enter func307,ntmps307;go_wp2;go_loopw [8] (λiv wr=>iv=.int .i64 1∧wr=w) (λ_ _=>0)
 case atStart=>exact⟨rfl,rfl⟩
 case round =>
  obtain⟨rfl,hw⟩:=hrel;have hw:=hw.symm;subst hw;go_wp2
  ((try simp only [Exit.inBlock,Exit.then]);refine bodyPost_end (results_none rfl _ _ _) rfl ?_)
  exact⟨rfl,rfl⟩
theorem qPI (F:FuncId) (cp:Array Value) (w:World):Calls prog 249 #[.slice none 0 0,.int .i64 0,.int .i64 0,.func (.func F) #[] cp] w λe w'=>e=.returned (.tuple #[])∧w'=w:=by
 go_enter func249,ntmps249;go_wp2;go_loopw [8] (λiv wr=>iv=.int .i64 1∧wr=w) (λ_ _=>0)
 case atStart=>exact⟨rfl,rfl⟩
 case round =>
  obtain⟨rfl,hw⟩:=hrel;have hw:=hw.symm;subst hw;go_wp2
  ((try simp only [Exit.inBlock,Exit.then]);refine bodyPost_end (results_none rfl _ _ _) rfl ?_)
  exact⟨rfl,rfl⟩
theorem qOg (v:Value) (l:List qD) (cf:qD→qD→Int) (F:FuncId) (cp:Array Value) (base:Nat) (w:World) (hv:zG qD.cells 17 base w v l) (hl:l.length≤100000) (hO:zU cf)
  (hF:∀(args:Array Value) (w:World),(callFunc F args).run prog w=.ok (.enter F args) w) (hcall:qDf F cp qD.cells cf w v) :
  Calls prog 249 #[v,.int .i64 0,.int .i64 l.length,.func (.func F) #[] cp] w
  λe w'=>e=.returned (.tuple #[])∧∃L,L.Perm l∧Asc cf L∧zG qD.cells 17 base w' v L∧w.grownBy w' v.ownBlock:=by
 rcases hv with⟨rfl,rfl⟩|⟨g,cap,rfl,hg,hc,hm,hr⟩
 ·refine(qPI F cp w).mono ?_;rintro e w' ⟨rfl,rfl⟩;exact⟨rfl,[],List.Perm.refl _,List.Pairwise.nil,.inl ⟨rfl,rfl⟩,qH _ bR⟩
 ·have h:=AnyQ.insertionSortCmpFunc Tryz.isortEnt 17 Tryz.isAgg81 Tryz.sizeOf81 qD.cells qD.cells_len (qH1 qKI) cf F cp g 0 cap 0 l.length l.toArray w hF (hcall.lays g rfl _) (hr.holdsK qD.cells_len) hr.2.2 oM sI (by simp;omega);rw [show l.toArray.size=l.length from rfl] at h;refine h.mono ?_;rintro e w' ⟨rfl,n,os,rfl⟩;obtain⟨q1,q2,q3⟩:=qFE cf hO l;exact⟨rfl,_,q1,q2,.inr ⟨g,cap,by rw [q1.length_eq],hg,by rw [q1.length_eq];exact hc,hm,qFD qD.cells_len hr q3⟩,qCI _ _ _ _ _⟩
theorem qRk (v:Value) (l:List qD) (cf:qD→qD→Int) (F:FuncId) (cp:Array Value) (base:Nat) (w:World) (hv:zG qD.cells 17 base w v l) (hl:l.length<20) (hO:zU cf)
  (hF:∀(args:Array Value) (w:World),(callFunc F args).run prog w=.ok (.enter F args) w) (hcall:qDf F cp qD.cells cf w v) :
  Calls prog 204 #[v,.int .i64 l.length,.func (.func F) #[] cp] w
  λe w'=>e=.returned (.tuple #[])∧∃L,L.Perm l∧Asc cf L∧zG qD.cells 17 base w' v L∧w.grownBy w' v.ownBlock:=by
 have HV:=mH (aI hv (aI hF (aI hcall hO)));clear hv hF hcall hO;go_enter func204,ntmps204;go_wp2;go_loopw [7,8] (λav bv wr=>av=.int .i64 0∧bv=.int .i64 20∧wr=w) (λ_ _ _=>0)
 case atStart=>exact⟨rfl,rfl,rfl⟩
 case round =>
  obtain⟨rfl,rfl,hw⟩:=hrel;have hw:=hw.symm;subst hw;go_wp2_with fail;refine(qOg v l cf F cp base _ HV.o.1 oM HV.o.2.2.2 HV.o.2.1 HV.o.2.2.1).mono ?_;rintro e w1 ⟨rfl,L,hp,hs,hr,hg⟩;have HR:=mH (aI hp (aI hs (aI hr hg)));clear hp hs hr hg;go_wp2;go_loopw [6] (λkv wr=>kv=.int .i64 20∧wr=w1) (λ_ _=>0)
  case atStart=>exact⟨rfl,rfl⟩
  case round =>
   obtain⟨rfl,hw⟩:=hrel;have hw:=hw.symm;subst hw;go_wp2
   ((try simp only [Exit.inBlock,Exit.then]);refine bodyPost_end (results_none rfl _ _ _) rfl ?_)
   exact⟨rfl,L,HR.o.1,HR.o.2.1,HR.o.2.2.1,HR.o.2.2.2⟩
theorem qPS (v:Value) (l:List qD) (cf:qD→qD→Int) (F:FuncId) (cp:Array Value) (base:Nat) (w:World) (hv:zG qD.cells 17 base w v l) (hl:l.length<20) (hO:zU cf)
  (hF:∀(args:Array Value) (w:World),(callFunc F args).run prog w=.ok (.enter F args) w) (hcall:qDf F cp qD.cells cf w v) :
  Calls prog 144 #[v,.func (.func F) #[] cp] w
  λe w'=>e=.returned (.tuple #[])∧∃L,L.Perm l∧Asc cf L∧zG qD.cells 17 base w' v L∧w.grownBy w' v.ownBlock:=by
 have HV:=mH (aI hv (aI hF (aI hcall hO)));obtain⟨a,cap,rfl⟩:=hv.slice;clear hv hF hcall hO;go_enter func144,ntmps144;go_wp2_with (refine(qRk _ l cf F cp base _ HV.o.1 hl HV.o.2.2.2 HV.o.2.1 HV.o.2.2.1).mono ?_;rintro e w1 ⟨rfl,L,hp,hs,hr,hg⟩;have HR:=mH (aI hp (aI hs (aI hr hg)));clear hp hs hr hg)
 ((try simp only [Exit.inBlock,Exit.then]);refine bodyPost_end (results_none rfl _ _ _) rfl ?_)
 exact⟨rfl,L,HR.o.1,HR.o.2.1,HR.o.2.2.1,HR.o.2.2.2⟩
section
open Go.Sort (HoldsK putRowK flatK size_flatK get_flatK Holds)
def qE2 {α:Type} (P:α→Prop) (F:FuncId) (cp:Array Value) (enc:α→Value) (cf:α→α→Int) (w:World) (v:Value):Prop :=
 ∀(x y:α) (w':World),P x→P y→w.grownBy w' v.ownBlock→Calls prog F (#[enc x,enc y]++cp) w' λe w''=>e=.returned (.int .i64 (cf x y))∧Gr w' w''
theorem qFd {α β:Type} {cells:β→List Value} {f:α→β} {sz:Nat} {w:World} {g:Nat} {l:List α}:Row (λx=>cells (f x)) sz w g l↔Row cells sz w g (l.map f):=by
 unfold Row;simp
section
variable {α : Type} {P : α → Prop}
def qBi (l:List α) (hP:∀x∈l,P x):List {x // P x}:=l.attachWith P hP
theorem qEh {l:List α} (hP:∀x∈l,P x):(qBi l hP).map Subtype.val=l:=by simp [qBi]
theorem qIt {l:List α} (hP:∀x∈l,P x):(qBi l hP).length=l.length:=by simp [qBi]
abbrev qRY {l:List α} (h:0<l.length) (hP:∀x∈l,P x):Inhabited {x // P x}:=⟨⟨l[0],hP _ (List.getElem_mem h)⟩⟩
end
theorem qPN (a:Option Addr) (cap:Nat) (F:FuncId) (cp:Array Value) (w:World):Calls prog 307 #[.slice a 0 cap,.int .i64 0,.int .i64 0,.func (.func F) #[] cp] w λe w'=>e=.returned (.tuple #[])∧w'=w:=by
 go_enter func307,ntmps307;go_wp2;go_loopw [8] (λiv wr=>iv=.int .i64 1∧wr=w) (λ_ _=>0)
 case atStart=>exact⟨rfl,rfl⟩
 case round =>
  obtain⟨rfl,hw⟩:=hrel;have hw:=hw.symm;subst hw;go_wp2
  ((try simp only [Exit.inBlock,Exit.then]);refine bodyPost_end (results_none rfl _ _ _) rfl ?_)
  exact⟨rfl,rfl⟩
theorem qPY (P:qE→Prop) (v:Value) (l:List qE) (hP:∀x∈l,P x) (cf:qE→qE→Int) (F:FuncId) (cp:Array Value) (base:Nat) (w:World) (hv:zG qE.cells 6 base w v l) (hl:l.length≤100000) (hO:zU cf)
  (hF:∀(args:Array Value) (w:World),(callFunc F args).run prog w=.ok (.enter F args) w) (hcall:qE2 P F cp (λx=>.agg ⟨qE.cells x⟩) cf w v) :
  Calls prog 307 #[v,.int .i64 0,.int .i64 l.length,.func (.func F) #[] cp] w
  λe w'=>e=.returned (.tuple #[])∧∃L,L.Perm l∧Asc cf L∧zG qE.cells 6 base w' v L∧w.grownBy w' v.ownBlock:=by
 rcases hv with⟨rfl,rfl⟩|⟨g,cap,rfl,hg,hc,hm,hr⟩
 ·refine(qPV F cp w).mono ?_;rintro e w' ⟨rfl,rfl⟩;exact⟨rfl,[],List.Perm.refl _,List.Pairwise.nil,.inl ⟨rfl,rfl⟩,qH _ bR⟩
 ·rcases Nat.eq_zero_or_pos l.length with h0|h0
  ·obtain rfl:=List.length_eq_zero_iff.1 h0;refine(qPN _ cap F cp w).mono ?_;rintro e w' ⟨rfl,rfl⟩;exact⟨rfl,[],List.Perm.refl _,List.Pairwise.nil,.inr ⟨g,cap,rfl,hg,hc,hm,hr⟩,qH _ bR⟩
  ·letI:=qRY h0 hP
   have hO':zU (λx y:{x // P x}=>cf x.1 y.1):=qCY hO Subtype.val;have hl':=qIt hP;have hr':Row (λx:{x // P x}=>qE.cells x.1) 6 w g (qBi l hP):=(qFd (cells:=qE.cells) (f:=Subtype.val)).2 (by rw [qEh];exact hr);have hlays:CmpLays prog F cp (λx:{x // P x}=>qE.cells x.1) 6 (λx y:{x // P x}=>cf x.1 y.1) g 0 (qBi l hP).toArray.size w:=by
    intro m os dk hs x y;refine(hcall x.1 y.1 _ x.2 y.2 (qCI w g m dk os)).mono ?_;rintro e w' ⟨he,q,os',hw⟩;exact⟨he,q,os',hw⟩
   have h:=AnyQ.insertionSortCmpFunc Tryz.isortSpc 6 Tryz.isAgg79 Tryz.sizeOf79 (λx:{x // P x}=>qE.cells x.1) (λx=>qE.cells_len x.1) (λx=>qH1 qCn x.1) (λx y:{x // P x}=>cf x.1 y.1) F cp g 0 cap 0 (qBi l hP).length (qBi l hP).toArray w hF hlays (hr'.holdsK (λx=>qE.cells_len x.1)) hr'.2.2 oM sI (by simp;omega);rw [show(qBi l hP).toArray.size=(qBi l hP).length from rfl,hl'] at h;refine h.mono ?_;rintro e w' ⟨rfl,n,os,rfl⟩;obtain⟨q1,q2,q3⟩:=qFE (λx y:{x // P x}=>cf x.1 y.1) hO' (qBi l hP);rw [hl'] at q1 q2 q3;have hp:((Sort.insertionSort (ltOf λx y:{x // P x}=>cf x.1 y.1) (qBi l hP).toArray 0 l.length).toList.map Subtype.val).Perm l:=by
    have:=q1.map Subtype.val
    rwa [qEh] at this
   refine⟨rfl,_,hp,?_,.inr ⟨g,cap,by rw [hp.length_eq],hg,by rw [hp.length_eq];exact hc,hm,(qFd (cells:=qE.cells) (f:=Subtype.val)).1 (qFD (λx:{x // P x}=>qE.cells_len x.1) hr' (by rw [hl'];exact q3))⟩,qCI _ _ _ _ _⟩;unfold Asc;rw [List.pairwise_map];exact q2
theorem qRR (P:qE→Prop) (v:Value) (l:List qE) (hP:∀x∈l,P x) (cf:qE→qE→Int) (F:FuncId) (cp:Array Value) (base:Nat) (w:World) (hv:zG qE.cells 6 base w v l) (hl:l.length<20) (hO:zU cf)
  (hF:∀(args:Array Value) (w:World),(callFunc F args).run prog w=.ok (.enter F args) w) (hcall:qE2 P F cp (λx=>.agg ⟨qE.cells x⟩) cf w v) :
  Calls prog 294 #[v,.int .i64 l.length,.func (.func F) #[] cp] w
  λe w'=>e=.returned (.tuple #[])∧∃L,L.Perm l∧Asc cf L∧zG qE.cells 6 base w' v L∧w.grownBy w' v.ownBlock:=by
 have HV:=mH (aI hv (aI hF (aI hcall (aI hO hP))));clear hv hF hcall hO hP;go_enter func294,ntmps294;go_wp2;go_loopw [7,8] (λav bv wr=>av=.int .i64 0∧bv=.int .i64 20∧wr=w) (λ_ _ _=>0)
 case atStart=>exact⟨rfl,rfl,rfl⟩
 case round =>
  obtain⟨rfl,rfl,hw⟩:=hrel;have hw:=hw.symm;subst hw;go_wp2_with fail;refine(qPY P v l HV.o.2.2.2.2 cf F cp base _ HV.o.1 oM HV.o.2.2.2.1 HV.o.2.1 HV.o.2.2.1).mono ?_;rintro e w1 ⟨rfl,L,hp,hs,hr,hg⟩;have HR:=mH (aI hp (aI hs (aI hr hg)));clear hp hs hr hg;go_wp2;go_loopw [6] (λkv wr=>kv=.int .i64 20∧wr=w1) (λ_ _=>0)
  case atStart=>exact⟨rfl,rfl⟩
  case round =>
   obtain⟨rfl,hw⟩:=hrel;have hw:=hw.symm;subst hw;go_wp2
   ((try simp only [Exit.inBlock,Exit.then]);refine bodyPost_end (results_none rfl _ _ _) rfl ?_)
   exact⟨rfl,L,HR.o.1,HR.o.2.1,HR.o.2.2.1,HR.o.2.2.2⟩
theorem qNj (P:qE→Prop) (v:Value) (l:List qE) (hP:∀x∈l,P x) (cf:qE→qE→Int) (F:FuncId) (cp:Array Value) (base:Nat) (w:World) (hv:zG qE.cells 6 base w v l) (hl:l.length<20) (hO:zU cf)
  (hF:∀(args:Array Value) (w:World),(callFunc F args).run prog w=.ok (.enter F args) w) (hcall:qE2 P F cp (λx=>.agg ⟨qE.cells x⟩) cf w v) :
  Calls prog 269 #[v,.func (.func F) #[] cp] w
  λe w'=>e=.returned (.tuple #[])∧∃L,L.Perm l∧Asc cf L∧zG qE.cells 6 base w' v L∧w.grownBy w' v.ownBlock:=by
 have HV:=mH (aI hv (aI hF (aI hcall (aI hO hP))));obtain⟨a,cap,rfl⟩:=hv.slice;clear hv hF hcall hO hP;go_enter func269,ntmps269;go_wp2_with (refine(qRR P _ l HV.o.2.2.2.2 cf F cp base _ HV.o.1 hl HV.o.2.2.2.1 HV.o.2.1 HV.o.2.2.1).mono ?_;rintro e w1 ⟨rfl,L,hp,hs,hr,hg⟩;have HR:=mH (aI hp (aI hs (aI hr hg)));clear hp hs hr hg)
 ((try simp only [Exit.inBlock,Exit.then]);refine bodyPost_end (results_none rfl _ _ _) rfl ?_)
 exact⟨rfl,L,HR.o.1,HR.o.2.1,HR.o.2.2.1,HR.o.2.2.2⟩
theorem qMb (g cap base:Nat) (l:List qD) (cf:qD→qD→Int) (F:FuncId) (cp:Array Value) (w:World) (hr:Row qD.cells 17 w g l) (hg:base≤g) (hc:l.length≤cap) (hm:cap≤maxLen) (hl:l.length≤100000) (hO:zU cf)
  (hF:∀(args:Array Value) (w:World),(callFunc F args).run prog w=.ok (.enter F args) w) (hcall:qDf F cp qD.cells cf w (.slice (some ⟨g,0,none⟩) l.length cap)) :
  Calls prog 160 #[.slice (some ⟨g,0,none⟩) l.length cap,.func (.func F) #[] cp] w
  λe w'=>e=.returned (.tuple #[])∧∃L,L.Perm l∧Asc cf L∧zG qD.cells 17 base w' (.slice (some ⟨g,0,none⟩) l.length cap) L∧w.grownBy w' (some g):=by
 have h:=AnyQ.slices_SortFunc Tryz.sortEnt 17 Tryz.isAgg81 Tryz.sizeOf81 qD.cells qD.cells_len (qH1 qKI) cf (qMO hO) F cp g 0 cap l.toArray w hF (hcall.lays g rfl _) (hr.holdsK qD.cells_len) hr.2.2 (by simp;omega);rw [show l.toArray.size=l.length from rfl] at h;refine h.mono ?_;rintro e w' ⟨rfl,d',n,os,hp,hs,rfl⟩;obtain⟨q1,q2,q3⟩:=qGn hO hp hs;exact⟨rfl,_,q1,q2,.inr ⟨g,cap,by rw [q1.length_eq],hg,by rw [q1.length_eq];exact hc,hm,qFD qD.cells_len hr q3⟩,qCI _ _ _ _ _⟩
def qD9 (i:Nat):Value:=.int .i64 (i:Int)
def qAP (i:Nat):List Value:=[qD9 i]
section
variable {α : Type} [Inhabited α] {enc : α → Value}
theorem Row.holds1 {w:World} {g:Nat} {l:List α} (h:Row (λx=>[enc x]) 1 w g l):Holds enc w g 0 l.toArray:=by
 intro j hj;have hj':j<l.length:=hj;have h1:=h.1 j hj' 0 (enc l[j]) rfl;rw [Nat.mul_one,Nat.add_zero] at h1;have e:l.toArray[j]! = l[j]:=by simp [hj']
 rw [e];exact⟨h1,h.2.1 _⟩
theorem qDk (w:World) (g m:Nat) (dk:Array α) (os:Array Obj):w.grownBy (sortWorld enc w g 0 m dk os) (some g):=by
 unfold sortWorld Sort.putRow;have h1:w.grownBy (Sort.ahead w m) (some g):=⟨rfl,rfl,rfl,Nat.le_refl _,λ_ _ _=>rfl⟩;have h2:=qGe (Sort.ahead w m) g (Sort.putCells enc 0 dk);refine qK (qK h1 h2) ?_;exact qH _ (show Below _ _ _ from Gr.below ⟨0,os,by rfl⟩)
theorem qKp {w:World} {g:Nat} {l:List α} (h:Row (λx=>[enc x]) 1 w g l) {m:Nat} {dk:Array α} {os:Array Obj} (hs:dk.size=l.length):Row (λx=>[enc x]) 1 (sortWorld enc w g 0 m dk os) g dk.toList:=by
 have hg:=qDk (enc:=enc) w g m dk os;have hH:=holds_sortWorld enc w g 0 m l.toArray dk os h.2.2 h.holds1 (by simpa using hs);refine⟨λk hk j u hu=>?_,λo=>?_,Nat.lt_of_lt_of_le h.2.2 hg.size⟩
 ·have hk':k<dk.size:=by simpa using hk
  have h1:=(hH k hk').1;rw [getElem!_pos dk k hk'] at h1
  cases j with
  | succ j=>simp at hu
  | zero =>
   simp only [List.getElem?_cons_zero,Option.some.injEq] at hu;subst hu;rw [Nat.mul_one,Nat.add_zero]
   simpa using h1
 ·have hlt:=h.2.2;unfold sortWorld;have h1:Gr (Sort.putRow enc (Sort.ahead w m) g 0 dk) (Sort.grow (Sort.putRow enc (Sort.ahead w m) g 0 dk) os):=⟨0,os,by rfl⟩;rw [h1.below.frozen (p:=⟨g,o,none⟩) (by simp [Sort.putRow,Sort.mapBlock];exact hlt),Sort.frozen?_putRow];exact h.2.1 o
end
theorem qRN {α:Type} [Inhabited α] {enc:α→Value} {w:World} {g:Nat} {cs:Array Value} {t:TypeId} (h:qC w g cs t) (m:Nat) (dk:Array α) (os:Array Obj):∃cs',qC (sortWorld enc w g 0 m dk os) g cs' t:=by
 have h1:qC (Sort.putRow enc (Sort.ahead w m) g 0 dk) g (Sort.putCells enc 0 dk cs) t:=by
  have h0:(Sort.ahead w m).heap[g]? = some (.cells cs t):=h;unfold qC Sort.putRow Sort.mapBlock;simp only [Array.getElem?_modify,h0,if_true,Option.map_some]
  rfl
 have h2:Gr (Sort.putRow enc (Sort.ahead w m) g 0 dk) (Sort.grow (Sort.putRow enc (Sort.ahead w m) g 0 dk) os):=⟨0,os,by rfl⟩;exact⟨_,h1.below h2.below h1.lt⟩
theorem qLl (P:Nat→Prop) (g cap base:Nat) (l:List Nat) (hP:∀x∈l,P x) (h0:0<l.length) (cf:Nat→Nat→Int) (F:FuncId) (cp:Array Value) (w:World) (hr:Row qAP 1 w g l) (hg:base≤g) (hc:l.length≤cap) (hm:cap≤maxLen) (hl:l.length≤100000) (hO:zU cf)
  (hF:∀(args:Array Value) (w:World),(callFunc F args).run prog w=.ok (.enter F args) w) (hcall:qE2 P F cp qD9 cf w (.slice (some ⟨g,0,none⟩) l.length cap)) :
  Calls prog 118 #[.slice (some ⟨g,0,none⟩) l.length cap,.func (.func F) #[] cp] w
  λe w'=>e=.returned (.tuple #[])∧∃L,L.Perm l∧Asc cf L∧zG qAP 1 base w' (.slice (some ⟨g,0,none⟩) l.length cap) L∧w.grownBy w' (some g)∧∀cs t,qC w g cs t→∃cs',qC w' g cs' t:=by
 letI:=qRY h0 hP
 have hO':zU (λx y:{x // P x}=>cf x.1 y.1):=qCY hO Subtype.val;have hl':=qIt hP;have hr':Row (λx:{x // P x}=>[qD9 x.1]) 1 w g (qBi l hP):=(qFd (cells:=qAP) (f:=Subtype.val)).2 (by rw [qEh];exact hr);have hlays:CmpLays1 prog F cp (λx:{x // P x}=>qD9 x.1) (λx y:{x // P x}=>cf x.1 y.1) g 0 (qBi l hP).toArray.size w:=by
  intro m os dk hs x y;refine(hcall x.1 y.1 _ x.2 y.2 (qDk w g m dk os)).mono ?_;rintro e w' ⟨he,q,os',hw⟩;exact⟨he,q,os',hw⟩
 have h:=Any.slices_SortFunc Tryz.sortInt (λx:{x // P x}=>qD9 x.1) (λ_=>rfl) (λx y:{x // P x}=>cf x.1 y.1) (qMO hO') F cp g 0 cap (qBi l hP).toArray w hF hlays hr'.holds1 hr'.2.2 (by simp;omega);rw [show(qBi l hP).toArray.size=(qBi l hP).length from rfl,hl'] at h;refine h.mono ?_;rintro e w' ⟨rfl,d',n,os,hp,hs,rfl⟩;rw [←hl'] at hp hs;obtain⟨q1,q2,q3⟩:=qGn hO' hp hs;have hp':(d'.toList.map Subtype.val).Perm l:=by
  have:=q1.map Subtype.val
  rwa [qEh] at this
 refine⟨rfl,_,hp',?_,.inr ⟨g,cap,by rw [hp'.length_eq],hg,by rw [hp'.length_eq];exact hc,hm,(qFd (cells:=qAP) (f:=Subtype.val)).1 (qKp hr' q3)⟩,qDk _ _ _ _ _,λcs t hb=>qRN hb _ _ _⟩;unfold Asc;rw [List.pairwise_map];exact q2
theorem qHO (a:Option Addr) (cap:Nat) (F:FuncId) (cp:Array Value) (w:World):Calls prog 230 #[.slice a 0 cap,.int .i64 0,.int .i64 0,.func (.func F) #[] cp] w λe w'=>e=.returned (.tuple #[])∧w'=w:=by
 go_enter func230,ntmps230;go_wp2;go_loopw [8] (λiv wr=>iv=.int .i64 1∧wr=w) (λ_ _=>0)
 case atStart=>exact⟨rfl,rfl⟩
 case round =>
  obtain⟨rfl,hw⟩:=hrel;have hw:=hw.symm;subst hw;go_wp2
  ((try simp only [Exit.inBlock,Exit.then]);refine bodyPost_end (results_none rfl _ _ _) rfl ?_)
  exact⟨rfl,rfl⟩
theorem qP2 (P:Nat→Prop) (v:Value) (l:List Nat) (hP:∀x∈l,P x) (cf:Nat→Nat→Int) (F:FuncId) (cp:Array Value) (base:Nat) (w:World) (hv:zG qAP 1 base w v l) (hl:l.length≤100000) (hO:zU cf)
  (hF:∀(args:Array Value) (w:World),(callFunc F args).run prog w=.ok (.enter F args) w) (hcall:qE2 P F cp qD9 cf w v) :
  Calls prog 230 #[v,.int .i64 0,.int .i64 l.length,.func (.func F) #[] cp] w
  λe w'=>e=.returned (.tuple #[])∧∃L,L.Perm l∧Asc cf L∧zG qAP 1 base w' v L∧w.grownBy w' v.ownBlock:=by
 rcases hv with⟨rfl,rfl⟩|⟨g,cap,rfl,hg,hc,hm,hr⟩
 ·refine(qHO none 0 F cp w).mono ?_;rintro e w' ⟨rfl,rfl⟩;exact⟨rfl,[],List.Perm.refl _,List.Pairwise.nil,.inl ⟨rfl,rfl⟩,qH _ bR⟩
 ·rcases Nat.eq_zero_or_pos l.length with h0|h0
  ·obtain rfl:=List.length_eq_zero_iff.1 h0;refine(qHO _ cap F cp w).mono ?_;rintro e w' ⟨rfl,rfl⟩;exact⟨rfl,[],List.Perm.refl _,List.Pairwise.nil,.inr ⟨g,cap,rfl,hg,hc,hm,hr⟩,qH _ bR⟩
  ·letI:=qRY h0 hP
   have hO':zU (λx y:{x // P x}=>cf x.1 y.1):=qCY hO Subtype.val;have hl':=qIt hP;have hr':Row (λx:{x // P x}=>[qD9 x.1]) 1 w g (qBi l hP):=(qFd (cells:=qAP) (f:=Subtype.val)).2 (by rw [qEh];exact hr);have hlays:CmpLays1 prog F cp (λx:{x // P x}=>qD9 x.1) (λx y:{x // P x}=>cf x.1 y.1) g 0 (qBi l hP).toArray.size w:=by
    intro m os dk hs x y;refine(hcall x.1 y.1 _ x.2 y.2 (qDk w g m dk os)).mono ?_;rintro e w' ⟨he,q,os',hw⟩;exact⟨he,q,os',hw⟩
   have hR:Row1 (λx:{x // P x}=>qD9 x.1) w g 0 (qBi l hP).toArray:=⟨λ_=>rfl,hr'.holds1,hr'.2.2⟩;have h:=Any.insertionSortCmpFunc_s Tryz.isortInt (λx:{x // P x}=>qD9 x.1) (λx y:{x // P x}=>cf x.1 y.1) F cp g 0 cap 0 (qBi l hP).length (qBi l hP).toArray (qBi l hP).toArray w w hF hlays hR rfl (SW.start hr'.holds1) oM sI (by simp;omega);rw [show(qBi l hP).toArray.size=(qBi l hP).length from rfl,hl'] at h;refine h.mono ?_;rintro e w' ⟨rfl,n,os,rfl⟩;obtain⟨q1,q2,q3⟩:=qFE (λx y:{x // P x}=>cf x.1 y.1) hO' (qBi l hP);rw [hl'] at q1 q2 q3;have hp:((Sort.insertionSort (ltOf λx y:{x // P x}=>cf x.1 y.1) (qBi l hP).toArray 0 l.length).toList.map Subtype.val).Perm l:=by
    have:=q1.map Subtype.val
    rwa [qEh] at this
   refine⟨rfl,_,hp,?_,.inr ⟨g,cap,by rw [hp.length_eq],hg,by rw [hp.length_eq];exact hc,hm,(qFd (cells:=qAP) (f:=Subtype.val)).1 (qKp hr' (by rw [hl'];exact q3))⟩,qDk _ _ _ _ _⟩;unfold Asc;rw [List.pairwise_map];exact q2
theorem qQZ (P:Nat→Prop) (v:Value) (l:List Nat) (hP:∀x∈l,P x) (cf:Nat→Nat→Int) (F:FuncId) (cp:Array Value) (base:Nat) (w:World) (hv:zG qAP 1 base w v l) (hl:l.length<20) (hO:zU cf)
  (hF:∀(args:Array Value) (w:World),(callFunc F args).run prog w=.ok (.enter F args) w) (hcall:qE2 P F cp qD9 cf w v) :
  Calls prog 219 #[v,.int .i64 l.length,.func (.func F) #[] cp] w
  λe w'=>e=.returned (.tuple #[])∧∃L,L.Perm l∧Asc cf L∧zG qAP 1 base w' v L∧w.grownBy w' v.ownBlock:=by
 have HV:=mH (aI hv (aI hF (aI hcall (aI hO hP))));clear hv hF hcall hO hP;go_enter func219,ntmps219;go_wp2;go_loopw [7,8] (λav bv wr=>av=.int .i64 0∧bv=.int .i64 20∧wr=w) (λ_ _ _=>0)
 case atStart=>exact⟨rfl,rfl,rfl⟩
 case round =>
  obtain⟨rfl,rfl,hw⟩:=hrel;have hw:=hw.symm;subst hw;go_wp2_with fail;refine(qP2 P v l HV.o.2.2.2.2 cf F cp base _ HV.o.1 oM HV.o.2.2.2.1 HV.o.2.1 HV.o.2.2.1).mono ?_;rintro e w1 ⟨rfl,L,hp,hs,hr,hg⟩;have HR:=mH (aI hp (aI hs (aI hr hg)));clear hp hs hr hg;go_wp2;go_loopw [6] (λkv wr=>kv=.int .i64 20∧wr=w1) (λ_ _=>0)
  case atStart=>exact⟨rfl,rfl⟩
  case round =>
   obtain⟨rfl,hw⟩:=hrel;have hw:=hw.symm;subst hw;go_wp2
   ((try simp only [Exit.inBlock,Exit.then]);refine bodyPost_end (results_none rfl _ _ _) rfl ?_)
   exact⟨rfl,L,HR.o.1,HR.o.2.1,HR.o.2.2.1,HR.o.2.2.2⟩
theorem qNM (P:Nat→Prop) (v:Value) (l:List Nat) (hP:∀x∈l,P x) (cf:Nat→Nat→Int) (F:FuncId) (cp:Array Value) (base:Nat) (w:World) (hv:zG qAP 1 base w v l) (hl:l.length<20) (hO:zU cf)
  (hF:∀(args:Array Value) (w:World),(callFunc F args).run prog w=.ok (.enter F args) w) (hcall:qE2 P F cp qD9 cf w v) :
  Calls prog 169 #[v,.func (.func F) #[] cp] w
  λe w'=>e=.returned (.tuple #[])∧∃L,L.Perm l∧Asc cf L∧zG qAP 1 base w' v L∧w.grownBy w' v.ownBlock:=by
 have HV:=mH (aI hv (aI hF (aI hcall (aI hO hP))));obtain⟨a,cap,rfl⟩:=hv.slice;clear hv hF hcall hO hP;go_enter func169,ntmps169;go_wp2_with (refine(qQZ P _ l HV.o.2.2.2.2 cf F cp base _ HV.o.1 hl HV.o.2.2.2.1 HV.o.2.1 HV.o.2.2.1).mono ?_;rintro e w1 ⟨rfl,L,hp,hs,hr,hg⟩;have HR:=mH (aI hp (aI hs (aI hr hg)));clear hp hs hr hg)
 ((try simp only [Exit.inBlock,Exit.then]);refine bodyPost_end (results_none rfl _ _ _) rfl ?_)
 exact⟨rfl,L,HR.o.1,HR.o.2.1,HR.o.2.2.1,HR.o.2.2.2⟩
end
end Go.Proofs.YtbgnlfgkgklkdaaGreatDoor
