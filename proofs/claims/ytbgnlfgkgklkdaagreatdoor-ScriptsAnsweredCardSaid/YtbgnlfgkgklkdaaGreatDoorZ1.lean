/- Parts of the proof of ScriptsAnswered: Base, PlainB. No condition. -/
import Derived.WalkLawsBesides
import Derived.WalkSpells
import Derived.BigQuiet
import Derived.Deep.RegionHeld3
import Derived.Lib.Hide
set_option linter.unusedVariables false
set_option linter.unusedSimpArgs false
set_option maxHeartbeats 8000000
set_option maxRecDepth 100000
namespace Go.Proofs.YtbgnlfgkgklkdaaGreatDoor
open Go Go.RowKit
theorem qN {k:IntKind} {a b:Int} (h:a=b):Ending.returned (.int k a)=.returned (.int k b):=by rw [h]
theorem qU {a b:Bool} (h:a=b):Ending.returned (.bool a)=.returned (.bool b):=by rw [h]
theorem qDg {B:Nat} {W w1:World} (hb:Below B W w1) (b:Nat) (h:b<B):∀o,w1.cell? ⟨b,o,none⟩=W.cell? ⟨b,o,none⟩:=fun o=>hb.cell (p:=⟨b,o,none⟩) h
theorem qBD {B B':Nat} {a w w':World} (h:Below B a w) (k:Below B' w w') (hB:B≤B'):Below B a w':=h.trans (k.mono hB)
def qC (w:World) (b:Nat) (cs:Array Value) (t:TypeId):Prop:=w.heap[b]? = some (.cells cs t (0,0))
theorem qC.lt {w:World} {b:Nat} {cs:Array Value} {t:TypeId} (h:qC w b cs t):b<w.heap.size:=by
 unfold qC at h
 exact(Array.getElem?_eq_some_iff.1 h).1
theorem qC.below {B:Nat} {w w':World} {b:Nat} {cs:Array Value} {t:TypeId} (h:qC w b cs t) (hB:Below B w w') (hb:b<B):qC w' b cs t:=by
 unfold qC at *;rw [hB.block b hb];exact h
theorem qC.new (w:World) (cs:Array Value) (t:TypeId):qC (w.alloc (.cells cs t)) w.heap.size cs t:=heap_alloc_new w _
theorem qC.newAt {w:World} {b:Nat} {cs:Array Value} {t:TypeId} (hb:b=w.heap.size):qC (w.alloc (.cells cs t)) b cs t:=by subst hb;exact qC.new w cs t
theorem qC.drew {w:World} {b:Nat} {cs:Array Value} {t:TypeId} (h:qC w b cs t):qC w.drew b cs t:=h
theorem qC.alloc {w:World} {b:Nat} {cs:Array Value} {t:TypeId} (h:qC w b cs t) (o:Obj):qC (w.alloc o) b cs t:=by
 have:=h.lt
 unfold qC at *;rw [Below.heap_alloc _ _ _ this];exact h
theorem qC.grown {w w':World} {b:Nat} {cs:Array Value} {t:TypeId} {row:Option Nat} (h:qC w b cs t) (hg:w.grownBy w' row) (hne:some b≠row):qC w' b cs t:=by
 have:=h.lt
 unfold qC at *;rw [hg.block b this hne];exact h
theorem qC.cell {w:World} {b:Nat} {cs:Array Value} {t:TypeId} (h:qC w b cs t) (j:Nat) (v:Value) (hv:cs[j]? = some v):w.cell? ⟨b,j,none⟩=some v:=by
 unfold qC at h;simp [World.cell?,h,hv]
theorem qC.free {w:World} {b:Nat} {cs:Array Value} {t:TypeId} (h:qC w b cs t) (j:Nat):w.frozen? ⟨b,j,none⟩=false:=by
 unfold qC at h;simp [World.frozen?,h]
theorem qC.set {w:World} {b:Nat} {cs:Array Value} {t:TypeId} (h:qC w b cs t) (j:Nat) (v:Value):qC (w.setCell ⟨b,j,none⟩ v) b (cs.setIfInBounds j v) t:=by
 unfold qC at *
 simp [World.setCell,Array.getElem?_modify,h]
theorem qC.setOther {w:World} {b:Nat} {cs:Array Value} {t:TypeId} (h:qC w b cs t) {c:Nat} (hc:b≠c) (j:Nat) (v:Value):qC (w.setCell ⟨c,j,none⟩ v) b cs t:=by
 unfold qC at *;rw [Below.heap_setCell _ _ _ _ hc];exact h
def qI {α:Type} (cells:α→List Value) (sz:Nat) (w:World) (l:List α) (v:Value):Prop :=
 ∃a cap,v=.slice a l.length cap∧l.length≤cap∧cap≤maxLen ∧
  ∀k (hk:k<l.length),∃b off,a=some ⟨b,off,none⟩∧b<w.heap.size∧∀j u,(cells l[k])[j]? = some u→w.cell? ⟨b,off+k*sz+j,none⟩=some u
theorem qI.below {α:Type} {cells:α→List Value} {sz:Nat} {w w':World} {l:List α} {v:Value} (h:qI cells sz w l v) (hB:Below w.heap.size w w'):qI cells sz w' l v:=by
 obtain⟨a,cap,h1,h2,h3,h4⟩:=h
 refine⟨a,cap,h1,h2,h3,fun k hk=>?_⟩
 obtain⟨b,off,ha,hb,hc⟩:=h4 k hk
 exact⟨b,off,ha,Nat.lt_of_lt_of_le hb hB.size,fun j u hu=>(hB.cell (p:=⟨b,_,none⟩) hb).trans (hc j u hu)⟩
theorem qI.nil {α:Type} (cells:α→List Value) (sz:Nat) (w:World):qI cells sz w [] (.slice none 0 0) :=
 ⟨none,0,rfl,Nat.le_refl _,by simp [maxLen],fun k hk=>by simp at hk⟩
theorem qF9 {α:Type} {cells:α→List Value} {sz:Nat} (h:∀x,(cells x).length=sz):∀(l:List α) (k:Nat) (hk:k<l.length) (j:Nat),j<sz→(l.flatMap cells)[k*sz+j]? = (cells l[k])[j]?
 | x::l,0,_,j,hj=>by simp [List.flatMap_cons,List.getElem?_append_left,h x,hj]
 | x::l,k+1,hk,j,hj=>by
  have e:(k+1)*sz+j=sz+(k*sz+j):=by rw [Nat.succ_mul];omega
  rw [List.flatMap_cons,e,List.getElem?_append_right (by rw [h x];omega),h x,Nat.add_sub_cancel_left,qF9 h l k (by simpa using hk) j hj]
  simp
theorem jJ {α:Type} {cells:α→List Value} {sz:Nat} (h:∀x,(cells x).length=sz):∀(l:List α),(l.flatMap cells).length=l.length*sz
 | []=>by simp
 | x::l=>by rw [List.flatMap_cons,List.length_append,jJ h l,h x,List.length_cons,Nat.succ_mul,Nat.add_comm]
theorem qI.of_own {α:Type} {cells:α→List Value} {sz:Nat} (h:∀x,(cells x).length=sz) {w:World} {base:Nat} {e:TypeId} {l:List α} {v:Value}
  (ho:w.ownsRow base e sz v l.length (l.flatMap cells)):qI cells sz w l v:=by
 have hcs:=fun(g:Nat) (hg:v.ownBlock=some g)=>ho.cells hg
 have hlt:=ho.lt
 obtain⟨_,h2⟩:=ho
 rcases h2 with⟨rfl,hn⟩|⟨g,cap,cur,rfl,hg,hh,hc,hm,hs,ht⟩
 ·obtain rfl:l=[]:=List.length_eq_zero_iff.1 hn
  exact qI.nil _ _ _
 ·refine⟨_,cap,rfl,hc,hm,fun k hk=>⟨g,0,rfl,(hlt g rfl).2,fun j u hu=>?_⟩⟩
  have hj:j<sz:=by rw [←h l[k]];exact(List.getElem?_eq_some_iff.1 hu).1
  have:=hcs g rfl (k*sz+j) u (by rw [qF9 h l k hk j hj];exact hu)
  have e:((⟨g,0,none⟩:Addr).add (k*sz+j))=⟨g,0+k*sz+j,none⟩:=by
   unfold Addr.add
   split
   ·rename_i h0;simp [h0,Nat.add_assoc]
   ·simp [Nat.add_assoc]
  rwa [e] at this
def qA6 (n:Int):List Value:=[.int .i64 n]
def strCells (s:ByteArray):List Value:=[.string s]
theorem qI.len {α:Type} {cells:α→List Value} {sz:Nat} {w:World} {l:List α} {v:Value} (h:qI cells sz w l v):l.length≤maxLen:=by
 obtain⟨a,cap,_,h2,h3,_⟩:=h;omega
theorem qEB {α:Type} (f:α→Value) (l:List α):l.flatMap (fun x=>[f x])=l.map f:=by
 induction l with
 | nil=>rfl
 | cons x l ih=>simp [List.flatMap_cons,ih]
theorem qI.lit {α:Type} {cells:α→List Value} {sz:Nat} (h:∀x,(cells x).length=sz) (w:World) (l:List α) (cs:Array Value) (t:TypeId) (n:Nat)
  (hcs:cs.toList=l.flatMap cells) (hn:n=l.length) (hm:n≤maxLen):qI cells sz (w.alloc (.cells cs t)) l (.slice (some ⟨w.heap.size,0,none⟩) n n):=by
 subst hn
 refine⟨_,_,rfl,Nat.le_refl _,hm,fun k hk=>⟨_,0,rfl,by simp,fun j u hu=>?_⟩⟩
 have hj:j<sz:=by rw [←h l[k]];exact(List.getElem?_eq_some_iff.1 hu).1
 have:=qF9 h l k hk j hj
 rw [←hcs,Array.getElem?_toList] at this
 have hb:=qC.new w cs t
 rw [Nat.zero_add]
 exact hb.cell _ _ (by rw [this];exact hu)
theorem qI.litAt {α:Type} {cells:α→List Value} {sz:Nat} (h:∀x,(cells x).length=sz) {w:World} {l:List α} {cs:Array Value} {t:TypeId} {n b:Nat}
  (hb:b=w.heap.size) (hcs:cs.toList=l.flatMap cells) (hn:n=l.length) (hm:n≤maxLen):qI cells sz (w.alloc (.cells cs t)) l (.slice (some ⟨b,0,none⟩) n n):=by
 subst hb;exact qI.lit h w l cs t n hcs hn hm
theorem qI.drew {α:Type} {cells:α→List Value} {sz:Nat} {w:World} {l:List α} {v:Value} (h:qI cells sz w l v):qI cells sz w.drew l v:=h
theorem qAv {w w':World} {base:Nat} {e:TypeId} {size:Nat} {v:Value} {n:Nat} {xs:List Value} (h:w.ownsRow base e size v n xs) (hB:Below w.heap.size w w'):w'.ownsRow base e size v n xs:=by
 refine h.kept (row:=none) ⟨hB.os,hB.tape,hB.output,hB.size,fun k hk _=>hB.block k hk⟩ ?_
 cases hv:v.ownBlock with
 | none=>exact .inl rfl
 | some k=>exact .inr (by simp)
theorem qR9 (w:World) (cs:Array Value) (t:TypeId):∀j u,cs.toList[j]? = some u→(w.alloc (.cells cs t)).cell? ((⟨w.heap.size,0,none⟩:Addr).add j)=some u:=by
 intro j u hu
 have hb:=qC.new w cs t
 have e:((⟨w.heap.size,0,none⟩:Addr).add j)=⟨w.heap.size,j,none⟩:=by
  unfold Addr.add
  split
  ·rename_i h0;simp [h0]
  ·simp
 rw [e]
 exact hb.cell j u (by simpa using hu)
theorem qBC {w:World} {b:Nat} {cs:Array Value} {news:List Value} {t:TypeId} (hb:b=w.heap.size) (hcs:cs.toList=news):∀j u,news[j]? = some u→(w.alloc (.cells cs t)).cell? ((⟨b,0,none⟩:Addr).add j)=some u:=by
 subst hb hcs;exact qR9 w cs t
theorem jG {B base:Nat} {a w w':World} {e:TypeId} {size:Nat} {v:Value} {n:Nat} {xs:List Value} (h:Below B a w) (ho:w.ownsRow base e size v n xs) (hg:w.grownBy w' v.ownBlock) (hB:B≤base) (hb:base≤w.heap.size):Below B a w' :=
 h.grown hg (by omega) fun k hk=>by have:=(ho.lt k hk).1;omega
theorem qI.of_ints {w:World} {base:Nat} {e:TypeId} {l:List Int} {v:Value} {n:Nat} (ho:w.ownsRow base e 1 v n (l.map (Value.int .i64))):qI qA6 1 w l v:=by
 have hn:n=l.length:=by have:=ho.1;simp at this;omega
 subst hn
 refine qI.of_own (cells:=qA6) (fun _=>rfl) (base:=base) (e:=e) ?_
 show w.ownsRow _ _ _ _ _ (l.flatMap fun n=>[Value.int .i64 n])
 rw [qEB];exact ho
def Ret (P:Value→World→Prop) (w:World) (e:Ending) (w':World):Prop:=∃v,e=.returned v∧P v w'∧Below w.heap.size w w'
def qAu {α:Type} (p:α→Bool):List α→Int
 | [] => -1
 | x::l=>if p x then 0 else if qAu p l<0 then -1 else qAu p l+1
theorem qBY {α:Type} {p:α→Bool}:∀{l:List α},l.any p=false→qAu p l = -1
 | [],_=>rfl
 | x::l,h=>by
  simp only [List.any_cons,Bool.or_eq_false_iff] at h
  have:=qBY h.2
  simp [qAu,h.1,this]
theorem qD0 {α:Type} {p:α→Bool}:∀{l:List α} {k:Nat} (h:k<l.length),(l.take k).any p=false→p l[k]=true→qAu p l=k
 | x::l,0,_,_,h1=>by simp at h1;simp [qAu,h1]
 | x::l,k+1,h,h0,h1=>by
  simp only [List.take_succ_cons,List.any_cons,Bool.or_eq_false_iff] at h0
  have:=qD0 (l:=l) (k:=k) (by simpa using h) h0.2 (by simpa using h1)
  simp only [qAu,h0.1,this]
  simp;omega
theorem qE1 {α:Type} (p:α→Bool):∀(l:List α),-1≤qAu p l∧qAu p l<l.length
 | []=>by simp [qAu]
 | x::l=>by
  have:=qE1 p l
  simp only [qAu,List.length_cons]
  split
  ·omega
  ·split <;> omega
theorem qDn {α:Type} (p:α→Bool):∀(l:List α),(0≤qAu p l↔l.any p=true)
 | []=>by simp [qAu]
 | x::l=>by
  have h1:=qDn p l
  have h2:=qE1 p l
  simp only [qAu,List.any_cons,Bool.or_eq_true]
  by_cases hx:p x=true
  ·simp [hx]
  ·rw [if_neg hx]
   constructor
   ·intro h
    split at h
    ·omega
    ·exact .inr (h1.1 (by omega))
   ·rintro (h|h)
    ·exact absurd h hx
    ·have:=h1.2 h
     rw [if_neg (by omega)];omega
theorem qBO {α:Type} (p:α→Bool) (l:List α) (k:Nat) (h:k<l.length) (h0:(l.take k).any p=false):(l.take (k+1)).any p=p l[k]:=by
 rw [List.take_succ_eq_append_getElem h,List.any_append,h0];simp
theorem qCO {α:Type} {p:α→Bool} {l:List α} {k:Nat} (h:l.length≤k) (h0:(l.take k).any p=false):l.any p=false:=by rwa [List.take_of_length_le h] at h0
theorem qB {B:Nat} {a w:World} (h:Below B a w) (o:Obj) (hB:B≤w.heap.size):Below B a (w.alloc o):=h.alloc hB o
theorem qNX {B:Nat} {a w:World} (h:Below B a w) (n:Nat):Below B a (w.drewN n):=below_drewN h n
theorem szq {p:Prop} (h:p:=by first|omega|(simp;done)|(simp;omega)):p:=h
theorem qS {B:Nat} {a w:World} (h:Below B a w:=by(repeat (first|exact Below.refl _ _|assumption|refine qNX ?_ _|refine Below.drew ?_|refine qB ?_ _ (by first|omega|(simp;done)|(simp;omega))|refine Below.setCell ?_ (by first|omega|(simp;done)|(simp;omega)) _|refine qBD ?_ (by assumption) (by first|omega|(simp;done)|(simp;omega))))):Below B a w:=h
def zC (n lo hi:Int):Bool:=decide (n<lo∨hi<n)
theorem qAU {n lo hi:Int}:zC n lo hi=false↔lo≤n∧n≤hi:=by unfold zC;simp
theorem qQL {n lo hi:Int}:zC n lo hi=true↔n<lo∨hi<n:=by unfold zC;simp
def dbl (n:Int):Int:=if n=1 then 0 else if n=2 then 1 else if n=4 then 2 else if n=8 then 3 else if n=16 then 4 else if n=32 then 5 else if n=64 then 6 else if n=128 then 7 else -1
def qUV (n:Int):Bool:=decide (1≤dbl n)
def qAY:List Int→Int
 | []=>0
 | e::l=>if e=0 then qAY l else e
structure qGy where
 kind:Int
 amt:Int
deriving DecidableEq
instance : Inhabited qGy := ⟨⟨0, 0⟩⟩
def qGy.cells (p:qGy):List Value:=[.int .i64 p.kind,.int .i64 p.amt]
structure qHm where
 perKm:Int
 conn:Int
 dblg:Int
 exc:Int
structure qQX where
 launch:Int
 least:Int
 most:Int
structure qPF where
 key:ByteArray
 min:Int
 max:Int
def qPF.cells (c:qPF):List Value:=[.string c.key,.int .i64 c.min,.int .i64 c.max]
structure qRt where
 at_:Int
 by_:qGy
 price:Int
def qRt.cells (s:qRt):List Value:=[.int .i64 s.at_,.int .i64 s.by_.kind,.int .i64 s.by_.amt,.int .i64 s.price]
def qTc (p:qGy) (x:qHm):Int :=
 if p.kind=1 then (x.perKm*p.amt+999) / 1000
 else if p.kind=2 then p.amt
 else if p.kind=3 then x.conn*p.amt
 else x.dblg*dbl p.amt+x.exc
def qUt (l:List qGy) (x:qHm):Int:=(l.map (qTc · x)).sum
theorem qFK (l m:List Int):qAY (l++m)=if qAY l=0 then qAY m else qAY l:=by
 induction l with
 | nil=>simp [qAY]
 | cons e l ih=>simp only [List.cons_append,qAY];split <;> simp_all
theorem qN3 {l:List Int}:qAY l=0↔∀e∈l,e=0:=by
 induction l with
 | nil=>simp [qAY]
 | cons e l ih=>simp only [qAY,List.mem_cons,forall_eq_or_imp];split <;> simp_all
theorem qDx (l:List Int) (k:Nat) (h:k<l.length) (h0:qAY (l.take k)=0):qAY (l.take (k+1))=l[k]:=by
 rw [List.take_succ_eq_append_getElem h,qFK,if_pos h0]
 simp only [qAY];split <;> simp_all
theorem qGr (l:List Int) (k:Nat) (h:k<l.length) (h0:qAY (l.take k)=0) (h1:l[k]≠0):qAY l=l[k]:=by
 have e:qAY l=qAY (l.take (k+1)++l.drop (k+1)):=by rw [List.take_append_drop]
 rw [e,qFK,qDx l k h h0,if_neg h1]
def qHm.Ok (x:qHm):Prop:=0≤x.perKm∧x.perKm≤1000∧0≤x.conn∧x.conn≤1000∧0≤x.dblg∧x.dblg≤1000∧0≤x.exc∧x.exc≤1000
def qQX.Ok (o:qQX):Prop := -10000≤o.launch∧o.launch≤10000 ∧ -10000≤o.least∧o.least≤o.most∧o.most≤10000
def qGy.Ok (p:qGy):Prop:=(p.kind=1∧1≤p.amt∧p.amt≤200000)∨(p.kind=2∧0≤p.amt∧p.amt≤10000)∨(p.kind=3∧1≤p.amt∧p.amt≤100)∨(p.kind=4∧1≤dbl p.amt)
end Go.Proofs.YtbgnlfgkgklkdaaGreatDoor
