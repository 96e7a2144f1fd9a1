/- Parts of the proof of ScriptsAnswered: SnG, SnI, KeysR, TreeA. No condition. -/
import Derived.Test.YtbgnlfgkgklkdaaGreatDoorZ14
import Derived.Test.YtbgnlfgkgklkdaaGreatDoorZ3
import Derived.Test.YtbgnlfgkgklkdaaGreatDoorZ7
set_option linter.unusedVariables false
set_option linter.unusedSimpArgs false
set_option maxHeartbeats 8000000
set_option maxRecDepth 100000
namespace Go.Proofs.YtbgnlfgkgklkdaaGreatDoor
open Go Go.RowKit Tryz
def Gr (w w':World):Prop:=∃(q:Nat) (os:Array Obj),w'=Sort.grow (w.drewN q) os
theorem Gr.refl (w:World):Gr w w:=⟨0,#[],by rw [Sort.grow_empty];rfl⟩
theorem Gr.trans {a b c:World} (h:Gr a b) (k:Gr b c):Gr a c:=by
 obtain⟨q,os,rfl⟩:=h;obtain⟨q',os',rfl⟩:=k;refine⟨q+q',os++os',?_⟩;rw [←Sort.grow_grow]
 congr 1
 unfold World.drewN Sort.grow;simp [Nat.add_assoc]
theorem Gr.alloc {a b:World} (h:Gr a b) (o:Obj):Gr a (b.alloc o):=h.trans ⟨0,#[o],by rw [Sort.alloc_eq_grow];rfl⟩
theorem Gr.drewN {a b:World} (h:Gr a b) (n:Nat):Gr a (b.drewN n):=h.trans ⟨n,#[],by rw [Sort.grow_empty]⟩
theorem Gr.drew {a b:World} (h:Gr a b):Gr a b.drew:=h.drewN 1
theorem Gr.below {a b:World} (h:Gr a b):Below a.heap.size a b:=by
 obtain⟨q,os,rfl⟩:=h;exact⟨rfl,rfl,rfl,by simp [Sort.grow,World.drewN],λk hk=>by
  show(a.heap++os)[k]? = _
  rw [Array.getElem?_append_left hk]⟩
theorem Gr.cell {a b:World} (h:Gr a b) {k o:Nat} (hk:k<a.heap.size):b.cell? ⟨k,o,none⟩=a.cell? ⟨k,o,none⟩:=h.below.cell (p:=⟨k,o,none⟩) hk
theorem qFl (a b:Int) (w:World):Calls prog 121 #[.int .i64 a,.int .i64 b] w
  λe w'=>e=.returned (.int .i64 (qBt a b))∧w=w':=by
 by_cases h1:a<b
 ·go_enter func121,ntmps121;go_wp2;go_ret;exact⟨qN (by simp [qBt,h1]),rfl⟩
 ·by_cases h2:b<a
  ·go_enter func121,ntmps121;go_wp2;go_ret;exact⟨qN (by simp [qBt,h1,h2]),rfl⟩
  ·go_enter func121,ntmps121;go_wp2;go_ret;exact⟨qN (by unfold qBt;rw [if_neg oM,if_neg oM]),rfl⟩
theorem qF5 (v:Value) (l:List Int) (w:World) (h:qI qA6 1 w l v):Calls prog 120 #[v] w
  λe w'=>e=.returned (.int .i64 (qAY l))∧w=w':=by
 obtain⟨a,cap,rfl,hcap,hmax,hc⟩:=h;have hlen:l.length≤maxLen:=by omega
 unfold maxLen at hlen hmax;go_enter func120,ntmps120;go_wp2;go_loop [8] (λi=>∃k:Nat,k≤l.length∧i=.int .i64 k∧qAY (l.take k)=0) (λi=>l.length - (intOf i).toNat)
 case atStart=>exact⟨0,by omega,rfl,rfl⟩
 case round =>
  obtain⟨k,hk,rfl,hz⟩:=hrel;have HZ:=mH hz;clear hz
  by_cases hlt:k<l.length
  ·obtain⟨b,off,rfl,hb,hcc⟩:=hc k hlt;have h0:=hcc 0 _ rfl;simp only [Nat.mul_one,Nat.add_zero] at h0;clear hc hcc
   by_cases hx:l[k]=0
   ·have hx':(l[k] != 0)=false:=by simp [hx]
    have HX:=mH hx;clear hx;go_wp2;go_round
    case rel=>exact⟨k+1,by omega,by go_num,by rw [qDx l k hlt HZ.o];exact HX.o⟩
    case measure=>simp [intOf];omega
   ·have hx':(l[k] != 0)=true:=by simp [hx]
    have HX:=mH hx;clear hx;go_wp2;go_ret;exact⟨qN (by rw [qGr l k hlt HZ.o HX.o]),rfl⟩
  ·go_wp2;go_ret;exact⟨qN (by have:=HZ.o;rw [List.take_of_length_le oM] at this;rw [this]),rfl⟩
theorem qFa (a b:Int):qAY [a,b]=if a≠0 then a else b:=by
 simp only [qAY]
 by_cases h:a=0
 ·simp [h];by_cases h2:b=0 <;> simp [h2]
 ·simp [h]
theorem qTV (a b c:Int):qAY [a,b,c]=if a≠0 then a else if b≠0 then b else c:=by
 simp only [qAY]
 by_cases h:a=0
 ·simp [h];by_cases h2:b=0
  ·simp [h2];by_cases h3:c=0 <;> simp [h3]
  ·simp [h2]
 ·simp [h]
theorem qGS {w:World} {A B:Array Value} {t:TypeId}:Gr w ((w.alloc (.cells A t)).alloc (.cells B t)).drew∧qC ((w.alloc (.cells A t)).alloc (.cells B t)).drew w.heap.size A t∧qC ((w.alloc (.cells A t)).alloc (.cells B t)).drew (w.heap.size+1) B t :=
 ⟨(((Gr.refl w).alloc _).alloc _).drew,((qC.new w _ _).alloc _).drew,(qC.newAt sI).drew⟩
theorem qGt (x y:qQ) (w:World):Calls prog 243 #[.agg ↑x,.agg ↑y] w λe w'=>e=.returned (.int .i64 (jN x y))∧Gr w w':=by
 go_enter func243,ntmps243;go_wp2_with fail;refine qA.start (λW=>W.cell? ⟨w.heap.size,0,none⟩=some (.string x.cable)∧W.cell? ⟨w.heap.size,1,none⟩=some (.int .i64 x.no)∧W.cell? ⟨w.heap.size+1,0,none⟩=some (.string y.cable)∧W.cell? ⟨w.heap.size+1,1,none⟩=some (.int .i64 y.no)) [9,10,11] kR ?_;obtain⟨hg,hx,hy⟩:=qGS (w:=w) (A:=↑x) (B:=↑y) (t:=77);generalize ((w.alloc (.cells ↑x 77)).alloc (.cells ↑y 77)).drew=W at *;have c0:=hx.cell 0 _ rfl;have c1:=hx.cell 1 _ rfl;have d0:=hy.cell 0 _ rfl;have d1:=hy.cell 1 _ rfl;have HG:=mH hg;clear hx hy hg;refine qA.q 0 ?_;refine qA.t 1 (⟨c0,c1,d0,d1⟩) ?_;refine qA.q 2 ?_;refine qA.t 3 (⟨c0,c1,d0,d1⟩) ?_;refine qA.q 5 ?_;refine qA.t 6 (⟨c0,c1,d0,d1⟩) ?_;refine qA.q 7 ?_;refine qA.t 8 (⟨c0,c1,d0,d1⟩) ?_;clear c0 c1 d0 d1;refine qA.nx 4 λK hK=>?_;go_simp
 (refine(Tryz.strings_Compare _ _ _).mono ?_;rintro e wc ⟨rfl,rfl⟩)
 refine qA.on hK (λ_ h=>h) ?_;clear hK K;refine qA.nx 9 λK hK=>?_;go_simp
 refine(qFl _ _ _).mono ?_;rintro e w1 ⟨rfl,rfl⟩;refine qA.o hK ?_;clear hK K;refine qA.nx 10 λK hK=>?_;go_simp
 refine qA.o hK ?_;clear hK K;refine qA.nx 11 λK hK=>?_;go_simp
 refine(qF5 _ [qAS x.cable y.cable,qBt x.no y.no] _ (by(try refine qI.drew ?_);exact qI.litAt (cells:=qA6) (sz:=1) (λ_=>rfl) (by first|rfl|simp) rF rF (by simp [maxLen]))).mono ?_;rintro e w1 ⟨rfl,rfl⟩;refine qA.o hK ?_;clear hK K;refine qA.q 12 ?_;refine qA.done kR ?_;go_wp2;go_ret;exact⟨qN (by rw [qFa];exact(qHt x y).symm),HG.o.alloc _⟩
theorem qFV (x y:qD) (w:World):Calls prog 116 #[.agg ↑x,.agg ↑y] w λe w'=>e=.returned (.int .i64 (qP x y))∧Gr w w':=by
 go_enter func116,ntmps116;go_wp2_with fail;refine qA.start (λW=>W.cell? ⟨w.heap.size,0,none⟩=some (.string x.team)∧W.cell? ⟨w.heap.size,1,none⟩=some (.int .i64 x.no)∧W.cell? ⟨w.heap.size+1,0,none⟩=some (.string y.team)∧W.cell? ⟨w.heap.size+1,1,none⟩=some (.int .i64 y.no)) [9,10,11] kR ?_;obtain⟨hg,hx,hy⟩:=qGS (w:=w) (A:=↑x) (B:=↑y) (t:=81);generalize ((w.alloc (.cells ↑x 81)).alloc (.cells ↑y 81)).drew=W at *;have c0:=hx.cell 0 _ rfl;have c1:=hx.cell 1 _ rfl;have d0:=hy.cell 0 _ rfl;have d1:=hy.cell 1 _ rfl;have HG:=mH hg;clear hx hy hg;refine qA.q 0 ?_;refine qA.t 1 (⟨c0,c1,d0,d1⟩) ?_;refine qA.q 2 ?_;refine qA.t 3 (⟨c0,c1,d0,d1⟩) ?_;refine qA.q 5 ?_;refine qA.t 6 (⟨c0,c1,d0,d1⟩) ?_;refine qA.q 7 ?_;refine qA.t 8 (⟨c0,c1,d0,d1⟩) ?_;clear c0 c1 d0 d1;refine qA.nx 4 λK hK=>?_;go_simp
 (refine(Tryz.strings_Compare _ _ _).mono ?_;rintro e wc ⟨rfl,rfl⟩)
 refine qA.on hK (λ_ h=>h) ?_;clear hK K;refine qA.nx 9 λK hK=>?_;go_simp
 refine(qFl _ _ _).mono ?_;rintro e w1 ⟨rfl,rfl⟩;refine qA.o hK ?_;clear hK K;refine qA.nx 10 λK hK=>?_;go_simp
 refine qA.o hK ?_;clear hK K;refine qA.nx 11 λK hK=>?_;go_simp
 refine(qF5 _ [qAS x.team y.team,qBt x.no y.no] _ (by(try refine qI.drew ?_);exact qI.litAt (cells:=qA6) (sz:=1) (λ_=>rfl) (by first|rfl|simp) rF rF (by simp [maxLen]))).mono ?_;rintro e w1 ⟨rfl,rfl⟩;refine qA.o hK ?_;clear hK K;refine qA.q 12 ?_;refine qA.done kR ?_;go_wp2;go_ret;exact⟨qN (by rw [qFa];rfl),HG.o.alloc _⟩
theorem qDl (x y:qD) (w:World):Calls prog 105 #[.agg ↑x,.agg ↑y] w λe w'=>e=.returned (.int .i64 (qP x y))∧Gr w w':=by
 go_enter func105,ntmps105;go_wp2_with fail;refine qA.start (λW=>W.cell? ⟨w.heap.size,0,none⟩=some (.string x.team)∧W.cell? ⟨w.heap.size,1,none⟩=some (.int .i64 x.no)∧W.cell? ⟨w.heap.size+1,0,none⟩=some (.string y.team)∧W.cell? ⟨w.heap.size+1,1,none⟩=some (.int .i64 y.no)) [9,10,11] kR ?_;obtain⟨hg,hx,hy⟩:=qGS (w:=w) (A:=↑x) (B:=↑y) (t:=81);generalize ((w.alloc (.cells ↑x 81)).alloc (.cells ↑y 81)).drew=W at *;have c0:=hx.cell 0 _ rfl;have c1:=hx.cell 1 _ rfl;have d0:=hy.cell 0 _ rfl;have d1:=hy.cell 1 _ rfl;have HG:=mH hg;clear hx hy hg;refine qA.q 0 ?_;refine qA.t 1 (⟨c0,c1,d0,d1⟩) ?_;refine qA.q 2 ?_;refine qA.t 3 (⟨c0,c1,d0,d1⟩) ?_;refine qA.q 5 ?_;refine qA.t 6 (⟨c0,c1,d0,d1⟩) ?_;refine qA.q 7 ?_;refine qA.t 8 (⟨c0,c1,d0,d1⟩) ?_;clear c0 c1 d0 d1;refine qA.nx 4 λK hK=>?_;go_simp
 (refine(Tryz.strings_Compare _ _ _).mono ?_;rintro e wc ⟨rfl,rfl⟩)
 refine qA.on hK (λ_ h=>h) ?_;clear hK K;refine qA.nx 9 λK hK=>?_;go_simp
 refine(qFl _ _ _).mono ?_;rintro e w1 ⟨rfl,rfl⟩;refine qA.o hK ?_;clear hK K;refine qA.nx 10 λK hK=>?_;go_simp
 refine qA.o hK ?_;clear hK K;refine qA.nx 11 λK hK=>?_;go_simp
 refine(qF5 _ [qAS x.team y.team,qBt x.no y.no] _ (by(try refine qI.drew ?_);exact qI.litAt (cells:=qA6) (sz:=1) (λ_=>rfl) (by first|rfl|simp) rF rF (by simp [maxLen]))).mono ?_;rintro e w1 ⟨rfl,rfl⟩;refine qA.o hK ?_;clear hK K;refine qA.q 12 ?_;refine qA.done kR ?_;go_wp2;go_ret;exact⟨qN (by rw [qFa];rfl),HG.o.alloc _⟩
def qHr (x y:qE) (b:Nat) (W:World):Prop :=
 W.cell? ⟨b,0,none⟩=some (.string x.site)∧W.cell? ⟨b,1,none⟩=some (.string x.x.cable)∧W.cell? ⟨b,2,none⟩=some (.int .i64 x.x.no)∧W.cell? ⟨b,3,none⟩=some (.string x.y.cable)∧W.cell? ⟨b,4,none⟩=some (.int .i64 x.y.no) ∧
 W.cell? ⟨b+1,0,none⟩=some (.string y.site)∧W.cell? ⟨b+1,1,none⟩=some (.string y.x.cable)∧W.cell? ⟨b+1,2,none⟩=some (.int .i64 y.x.no)∧W.cell? ⟨b+1,3,none⟩=some (.string y.y.cable)∧W.cell? ⟨b+1,4,none⟩=some (.int .i64 y.y.no)
theorem qHr.gr {x y:qE} {b:Nat} {W W':World} (h:qHr x y b W) (hg:Gr W W') (hb:b+1<W.heap.size):qHr x y b W':=by
 obtain⟨s0,s1,s2,s3,s4,s5,s6,s7,s8,s9⟩:=h;have hb0:b<W.heap.size:=by omega
 exact⟨(hg.cell hb0).trans s0,(hg.cell hb0).trans s1,(hg.cell hb0).trans s2,(hg.cell hb0).trans s3,(hg.cell hb0).trans s4,(hg.cell hb).trans s5,(hg.cell hb).trans s6,(hg.cell hb).trans s7,(hg.cell hb).trans s8,(hg.cell hb).trans s9⟩
theorem qFq (x y:qE) (w:World):Calls prog 185 #[.agg ↑x,.agg ↑y] w λe w'=>e=.returned (.int .i64 (zF x y))∧Gr w w':=by
 go_enter func185,ntmps185;go_wp2_with fail;refine qA.start (λW=>qHr x y w.heap.size W∧w.heap.size+1<W.heap.size) [14,15,16] kR ?_;obtain⟨hg,hx,hy⟩:=qGS (w:=w) (A:=↑x) (B:=↑y) (t:=79);generalize ((w.alloc (.cells ↑x 79)).alloc (.cells ↑y 79)).drew=W at *;have hS:qHr x y w.heap.size W∧w.heap.size+1<W.heap.size:=⟨⟨hx.cell 0 _ rfl,hx.cell 1 _ rfl,hx.cell 2 _ rfl,hx.cell 3 _ rfl,hx.cell 4 _ rfl,hy.cell 0 _ rfl,hy.cell 1 _ rfl,hy.cell 2 _ rfl,hy.cell 3 _ rfl,hy.cell 4 _ rfl⟩,hy.lt⟩;have HG:=mH hg;clear hx hy hg;refine qA.q 0 ?_;refine qA.take (i:=1) (v:=?_) rfl kR kR kR kR (λ_ _ _ h=>h) hS (Or.inl ⟨by rfl,?_⟩) ?_;rotate_left;(· (intro wS hSw;(try dsimp only at hSw);obtain⟨⟨s0,s1,s2,s3,s4,s5,s6,s7,s8,s9⟩,s10⟩:=hSw;go_simp;try with_reducible rfl));try simp only [Act.put,zL,zN,zH,zM,zK,zI]
 refine qA.q 2 ?_;refine qA.take (i:=3) (v:=?_) rfl kR kR kR kR (λ_ _ _ h=>h) hS (Or.inl ⟨by rfl,?_⟩) ?_;rotate_left;(· (intro wS hSw;(try dsimp only at hSw);obtain⟨⟨s0,s1,s2,s3,s4,s5,s6,s7,s8,s9⟩,s10⟩:=hSw;go_simp;try with_reducible rfl));try simp only [Act.put,zL,zN,zH,zM,zK,zI]
 refine qA.q 5 ?_;refine qA.take (i:=6) (v:=?_) rfl kR kR kR kR (λ_ _ _ h=>h) hS (Or.inl ⟨by rfl,?_⟩) ?_;rotate_left;(· (intro wS hSw;(try dsimp only at hSw);obtain⟨⟨s0,s1,s2,s3,s4,s5,s6,s7,s8,s9⟩,s10⟩:=hSw;go_simp;try with_reducible rfl));try simp only [Act.put,zL,zN,zH,zM,zK,zI]
 refine qA.q 7 ?_;refine qA.take (i:=8) (v:=?_) rfl kR kR kR kR (λ_ _ _ h=>h) hS (Or.inl ⟨by rfl,?_⟩) ?_;rotate_left;(· (intro wS hSw;(try dsimp only at hSw);obtain⟨⟨s0,s1,s2,s3,s4,s5,s6,s7,s8,s9⟩,s10⟩:=hSw;go_simp;try with_reducible rfl));try simp only [Act.put,zL,zN,zH,zM,zK,zI]
 refine qA.q 10 ?_;refine qA.take (i:=11) (v:=?_) rfl kR kR kR kR (λ_ _ _ h=>h) hS (Or.inl ⟨by rfl,?_⟩) ?_;rotate_left;(· (intro wS hSw;(try dsimp only at hSw);obtain⟨⟨s0,s1,s2,s3,s4,s5,s6,s7,s8,s9⟩,s10⟩:=hSw;go_simp;try with_reducible rfl));try simp only [Act.put,zL,zN,zH,zM,zK,zI]
 refine qA.q 12 ?_;refine qA.take (i:=13) (v:=?_) rfl kR kR kR kR (λ_ _ _ h=>h) hS (Or.inl ⟨by rfl,?_⟩) ?_;rotate_left;(· (intro wS hSw;(try dsimp only at hSw);obtain⟨⟨s0,s1,s2,s3,s4,s5,s6,s7,s8,s9⟩,s10⟩:=hSw;go_simp;try with_reducible rfl));try simp only [Act.put,zL,zN,zH,zM,zK,zI]
 clear hS;refine qA.nx 4 λK hK=>?_;go_simp
 (refine(Tryz.strings_Compare _ _ _).mono ?_;rintro e wc ⟨rfl,rfl⟩)
 refine qA.on hK (λ_ h=>h) ?_;clear hK K;refine qA.nx 9 λK hK=>?_;go_simp
 refine(qGt x.x y.x _).mono ?_;rintro e w1 ⟨rfl,hg1⟩;refine hK.out _ _ (λ_ h=>⟨h.1.gr hg1 h.2,Nat.lt_of_lt_of_le h.2 hg1.below.size⟩) ?_;clear hK K;try simp only [Act.put,zL,zN,zH,zM,zK,zI]
 refine qA.nx 14 λK hK=>?_;go_simp
 refine(qGt x.y y.y _).mono ?_;rintro e w2 ⟨rfl,hg2⟩;refine qA.o hK ?_;clear hK K;refine qA.nx 15 λK hK=>?_;go_simp
 refine qA.o hK ?_;clear hK K;refine qA.nx 16 λK hK=>?_;go_simp
 refine(qF5 _ [qAS x.site y.site,jN x.x y.x,jN x.y y.y] _ (by(try refine qI.drew ?_);exact qI.litAt (cells:=qA6) (sz:=1) (λ_=>rfl) (by first|rfl|simp) rF rF (by simp [maxLen]))).mono ?_;rintro e w3 ⟨rfl,rfl⟩;refine qA.o hK ?_;clear hK K;refine qA.q 17 ?_;refine qA.done kR ?_;go_wp2;go_ret;exact⟨qN (by rw [qTV];exact(qH5 x y).symm),((HG.o.trans hg1).trans hg2).alloc _⟩
theorem qAZ {a b:ByteArray} (h:¬a=b):(a.toList==b.toList)=false:=by
 rw [beq_eq_false_iff_ne];intro r;rw [ByteArray.toList_eq,ByteArray.toList_eq] at r;exact h (by have:=congrArg bA r;rwa [qIT,qIT] at this)
theorem qS9 (n:Int) (w:World):Calls prog 295 #[.int .i64 n] w λe w'=>e=.returned (.int .i64 (qGQ n))∧w=w':=by
 by_cases h1:n<0
 ·go_enter func295,ntmps295;go_wp2;go_ret;exact⟨qN (by simp [qGQ,h1]),rfl⟩
 ·by_cases h2:0<n
  ·go_enter func295,ntmps295;go_wp2;go_ret;exact⟨qN (by simp [qGQ,h1,h2]),rfl⟩
  ·go_enter func295,ntmps295;go_wp2;go_ret;exact⟨qN (by unfold qGQ;rw [if_neg oM,if_neg oM]),rfl⟩
def qJV (f:qQ):Prop := -1000000000000≤f.no∧f.no≤1000000000000
theorem qEt (x y:qQ) (w:World) (hx:qJV x) (hy:qJV y):Calls prog 270 #[.agg ↑x,.agg ↑y] w λe w'=>e=.returned (.int .i64 (jN x y))∧Gr w w':=by
 obtain⟨a1,a2⟩:=hx;obtain⟨b1,b2⟩:=hy
 by_cases h:x.cable=y.cable
 ·have he:(x.cable.toList==y.cable.toList)=true:=by rw [h];simp
  have hO:jN x y=qGQ (x.no - y.no):=by unfold jN;rw [if_neg (by simp [h])]
  have HO:=mH hO;have hw:IntKind.i64.wrap (x.no - y.no)=x.no - y.no:=IntWalk.i64_in _ oM;clear h hO;go_enter func270,ntmps270;go_wp2_with (go_at_call 295;refine(qS9 _ _).mono ?_;rintro e w' ⟨rfl,rfl⟩);go_ret;exact⟨qN HO.o.symm,by(repeat (first|exact Gr.refl _|assumption|refine Gr.drewN ?_ _|refine Gr.drew ?_|refine Gr.alloc ?_ _|refine Gr.trans ?_ (by assumption)))⟩
 ·have he:=qAZ h;have hO:jN x y=qAS x.cable y.cable:=by unfold jN;rw [if_pos h]
  have HO:=mH hO;clear h hO;go_enter func270,ntmps270;go_wp2_with (go_at_call 161;(refine(Tryz.strings_Compare _ _ _).mono ?_;rintro e wc ⟨rfl,rfl⟩));go_ret;exact⟨qN HO.o.symm,by(repeat (first|exact Gr.refl _|assumption|refine Gr.drewN ?_ _|refine Gr.drew ?_|refine Gr.alloc ?_ _|refine Gr.trans ?_ (by assumption)))⟩
def jF (s:qE):Prop:=qJV s.x∧qJV s.y
theorem qGW (x y:qE) (w:World) (hx:jF x) (hy:jF y):Calls prog 225 #[.agg ↑x,.agg ↑y] w λe w'=>e=.returned (.int .i64 (zF x y))∧Gr w w':=by
 have HX:=mH (aI hx hy);clear hx hy
 by_cases h:x.site=y.site
 ·have he:(x.site.toList==y.site.toList)=true:=by rw [h];simp
  by_cases h2:x.x=y.x
  ·have hO:zF x y=jN x.y y.y:=by unfold zF;rw [if_neg (by simp [h]),if_neg (by simp [h2])]
   have HO:=mH hO;clear hO;go_enter func225,ntmps225;go_wp2_with fail;refine(qEt x.y y.y _ HX.o.1.2 HX.o.2.2).mono ?_;rintro e w1 ⟨rfl,hg1⟩;go_wp2;go_ret;exact⟨qN HO.o.symm,by(repeat (first|exact Gr.refl _|assumption|refine Gr.drewN ?_ _|refine Gr.drew ?_|refine Gr.alloc ?_ _|refine Gr.trans ?_ (by assumption)))⟩
  ·have hO:zF x y=jN x.x y.x:=by unfold zF;rw [if_neg (by simp [h]),if_pos h2]
   have HO:=mH hO;clear hO
   by_cases q:x.x.cable=y.x.cable
   ·have hc:(x.x.cable.toList==y.x.cable.toList)=true:=by rw [q];simp
    have hno:¬x.x.no=y.x.no:=λr=>h2 (by cases hx:x.x;cases hy:y.x;rw [hx,hy] at q r;simp only at q r;rw [q,r])
    clear h2 q
    (go_enter func225,ntmps225;go_wp2_with fail;refine(qEt x.x y.x _ HX.o.1.1 HX.o.2.1).mono ?_;rintro e w1 ⟨rfl,hg1⟩;go_wp2;go_ret;exact⟨qN HO.o.symm,by(repeat (first|exact Gr.refl _|assumption|refine Gr.drewN ?_ _|refine Gr.drew ?_|refine Gr.alloc ?_ _|refine Gr.trans ?_ (by assumption)))⟩)
   ·have hc:=qAZ q;clear h2 q
    (go_enter func225,ntmps225;go_wp2_with fail;refine(qEt x.x y.x _ HX.o.1.1 HX.o.2.1).mono ?_;rintro e w1 ⟨rfl,hg1⟩;go_wp2;go_ret;exact⟨qN HO.o.symm,by(repeat (first|exact Gr.refl _|assumption|refine Gr.drewN ?_ _|refine Gr.drew ?_|refine Gr.alloc ?_ _|refine Gr.trans ?_ (by assumption)))⟩)
 ·have he:=qAZ h;have hO:zF x y=qAS x.site y.site:=by unfold zF;rw [if_pos h]
  have HO:=mH hO;clear h hO;go_enter func225,ntmps225;go_wp2_with (go_at_call 161;(refine(Tryz.strings_Compare _ _ _).mono ?_;rintro e wc ⟨rfl,rfl⟩));go_ret;exact⟨qN HO.o.symm,by(repeat (first|exact Gr.refl _|assumption|refine Gr.drewN ?_ _|refine Gr.drew ?_|refine Gr.alloc ?_ _|refine Gr.trans ?_ (by assumption)))⟩
theorem qOr (x y:qJ) (w:World):Calls prog 221 #[.agg ↑x,.agg ↑y] w λe w'=>e=.returned (.int .i64 (cS x y))∧Gr w w':=by
 go_enter func221,ntmps221;go_wp2_with (go_at_call 161;(refine(Tryz.strings_Compare _ _ _).mono ?_;rintro e wc ⟨rfl,rfl⟩));go_ret;exact⟨rfl,by(repeat (first|exact Gr.refl _|assumption|refine Gr.drewN ?_ _|refine Gr.drew ?_|refine Gr.alloc ?_ _|refine Gr.trans ?_ (by assumption)))⟩
theorem qNd (x y:qG) (w:World):Calls prog 223 #[.agg ↑x,.agg ↑y] w λe w'=>e=.returned (.int .i64 (cC x y))∧Gr w w':=by
 go_enter func223,ntmps223;go_wp2_with (go_at_call 161;(refine(Tryz.strings_Compare _ _ _).mono ?_;rintro e wc ⟨rfl,rfl⟩));go_ret;exact⟨rfl,by(repeat (first|exact Gr.refl _|assumption|refine Gr.drewN ?_ _|refine Gr.drew ?_|refine Gr.alloc ?_ _|refine Gr.trans ?_ (by assumption)))⟩
theorem qNZ (x y:qJ) (w:World):Calls prog 177 #[.agg ↑x,.agg ↑y] w λe w'=>e=.returned (.int .i64 (cS x y))∧Gr w w':=by
 go_enter func177,ntmps177;go_wp2_with (go_at_call 161;(refine(Tryz.strings_Compare _ _ _).mono ?_;rintro e wc ⟨rfl,rfl⟩));go_ret;exact⟨rfl,by(repeat (first|exact Gr.refl _|assumption|refine Gr.drewN ?_ _|refine Gr.drew ?_|refine Gr.alloc ?_ _|refine Gr.trans ?_ (by assumption)))⟩
theorem qLq (x y:qG) (w:World):Calls prog 181 #[.agg ↑x,.agg ↑y] w λe w'=>e=.returned (.int .i64 (cC x y))∧Gr w w':=by
 go_enter func181,ntmps181;go_wp2_with (go_at_call 161;(refine(Tryz.strings_Compare _ _ _).mono ?_;rintro e wc ⟨rfl,rfl⟩));go_ret;exact⟨rfl,by(repeat (first|exact Gr.refl _|assumption|refine Gr.drewN ?_ _|refine Gr.drew ?_|refine Gr.alloc ?_ _|refine Gr.trans ?_ (by assumption)))⟩
theorem qDy (n lo hi:Int) (w:World):Calls prog 96 #[.int .i64 n,.int .i64 lo,.int .i64 hi] w
  λe w'=>e=.returned (.bool (!zC n lo hi))∧w=w':=by
 by_cases h1:lo≤n
 ·by_cases h2:n≤hi
  ·go_enter func96,ntmps96;go_wp2;go_ret;exact⟨qU (by simp [zC];omega),rfl⟩
  ·go_enter func96,ntmps96;go_wp2;go_ret;exact⟨qU (by simp [zC];omega),rfl⟩
 ·go_enter func96,ntmps96;go_wp2;go_ret;exact⟨qU (by simp [zC];omega),rfl⟩
def qHS (s:ByteArray) (q:UInt8→Bool):Bool:=s.data.toList.all q
theorem qFk (s t:ByteArray) (q:UInt8→Bool) (w:World) (hs:s.size≤1000000) (hq:∀c,(Lib.indexByte t.data.toList c<0)↔q c=false):Calls prog 95 #[.string s,.string t] w
  λe w'=>e=.returned (.bool (qHS s q))∧w=w':=by
 have HQ:=mH hq;clear hq;go_enter func95,ntmps95;go_wp2;go_loop [8] (λi=>∃k:Nat,k≤s.size∧i=.int .i64 k∧(s.data.toList.take k).all q=true) (λi=>s.size - (intOf i).toNat)
 case atStart=>exact⟨0,by omega,rfl,by simp⟩
 case round =>
  obtain⟨k,hk,rfl,hz⟩:=hrel;have HZ:=mH hz;clear hz
  by_cases hlt:k<s.size
  ·have hc8:((s[k].toNat:Int)).toNat.toUInt8=s[k]:=by simp
   cases hx:q s[k]
   ·have HX:=mH (qJz s q k hlt hx);have hi:=(HQ.o s[k]).2 hx;have HC:=mH hc8;clear hx hc8;generalize hI:Lib.indexByte t.data.toList s[k]=I at hi;have HI:=mH hI;clear hI;go_wp2_with (go_at_call 154;refine(Tryz.strings_IndexByte t _ _).mono ?_;rw [HC.o,HI.o];rintro e w' ⟨rfl,rfl⟩);go_ret;exact⟨qU (by unfold qHS;rw [HX.o]),rfl⟩
   ·have HT:=mH (qFO s q k hlt HZ.o);have hi:¬Lib.indexByte t.data.toList s[k]<0:=λh=>by rw [(HQ.o s[k]).1 h] at hx;cases hx
    have HX:=mH hx;have HC:=mH hc8;clear hx hc8;generalize hI:Lib.indexByte t.data.toList s[k]=I at hi;have HI:=mH hI;clear hI;go_wp2_with (go_at_call 154;refine(Tryz.strings_IndexByte t _ _).mono ?_;rw [HC.o,HI.o];rintro e w' ⟨rfl,rfl⟩);exact⟨⟨k+1,by omega,by go_num,by rw [HT.o];exact HX.o⟩,by simp [intOf];omega⟩
  ·go_wp2;go_ret;exact⟨qU (by have:=HZ.o;rw [List.take_of_length_le (by simp;omega)] at this;unfold qHS;exact this.symm),rfl⟩
def qJw:List UInt8:=[97,98,99,100,101,102,103,104,105,106,107,108,109,110,111,112,113,114,115,116,117,118,119,120,121,122]
def qSv:List UInt8:=qJw++[48,49,50,51,52,53,54,55,56,57,45,95]
theorem qKU (P:UInt8→Prop) (h:∀n,n<256→P (UInt8.ofNat n)) (c:UInt8):P c:=by
 have:=h c.toNat c.toNat_lt
 rwa [UInt8.ofNat_toNat] at this
theorem qKz (c:UInt8):(Lib.indexByte qJw c<0)↔qDB c.toNat=false :=
 qKU (λc=>(Lib.indexByte qJw c<0)↔qDB c.toNat=false) (by decide +kernel) c
theorem qTN (c:UInt8):(Lib.indexByte qSv c<0)↔qFu c.toNat=false :=
 qKU (λc=>(Lib.indexByte qSv c<0)↔qFu c.toNat=false) (by decide +kernel) c
theorem qPu (s:ByteArray) (h:1≤s.size∧s.size≤40):qL s=(qHS (s.extract 0 1) (λc=>qDB c.toNat) && qHS s λc=>qFu c.toNat):=by
 obtain⟨r,hr⟩:=qG7 s oM;have e:(s.extract 0 1).data.toList=[s[0]]:=by rw [Lib.extract_data,hr];rfl
 unfold qL qHS;rw [e,hr,decide_eq_true h];simp
theorem qAj (s:ByteArray) (w:World):Calls prog 97 #[.string s] w
  λe w'=>e=.returned (.bool (qL s))∧w=w':=by
 by_cases h:1≤s.size∧s.size≤40
 ·have ho:zC s.size 1 40=false:=by rw [qAU];omega
  have HK:=mH (qPu s h);obtain⟨h1,h2⟩:=h;have h3:1≤s.size:=h1;have hsz:(s.extract 0 1).size≤1000000:=by simp;omega
  have HS:=mH hsz;clear hsz
  cases hs:qHS (s.extract 0 1) (λc=>qDB c.toNat)
  ·have H2:=mH hs;go_enter func97,ntmps97;go_wp2_with (go_at_call 96;refine(qDy _ _ _ _).mono ?_;rintro e w' ⟨rfl,rfl⟩);refine(qFk (s.extract 0 1) _ (λc=>qDB c.toNat) _ HS.o qKz).mono ?_;rintro e w' ⟨rfl,rfl⟩;go_wp2;go_ret;exact⟨qU (by rw [HK.o,hs];simp),rfl⟩
  ·have H2:=mH hs;go_enter func97,ntmps97;go_wp2_with (go_at_call 96;refine(qDy _ _ _ _).mono ?_;rintro e w' ⟨rfl,rfl⟩);refine(qFk (s.extract 0 1) _ (λc=>qDB c.toNat) _ HS.o qKz).mono ?_;rintro e w' ⟨rfl,rfl⟩;go_wp2_with fail;refine(qFk s _ (λc=>qFu c.toNat) _ oM qTN).mono ?_;rintro e w' ⟨rfl,rfl⟩;go_wp2;go_ret;exact⟨qU (by rw [HK.o,hs];simp),rfl⟩
 ·have ho:zC s.size 1 40=true:=by rw [qQL];omega
  have hk:qL s=false:=by unfold qL;rw [decide_eq_false h];simp
  have HK:=mH hk;clear hk h;go_enter func97,ntmps97;go_wp2_with (go_at_call 96;refine(qDy _ _ _ _).mono ?_;rintro e w' ⟨rfl,rfl⟩);go_ret;exact⟨qU (by rw [HK.o]),rfl⟩

end Go.Proofs.YtbgnlfgkgklkdaaGreatDoor
