/- Parts of the proof of ScriptsAnswered: PlainC, WalkB1, WalkB2, RefB1, RefB2, RefB3, RefB4, RefB5, Funcs, LibB, OwnL, Group, Stream, Stream2, StreamL, RowPut, Stream6, Offer, PlainO, PlainP, BuyR, SwapF, PlainW, Memb, SetB, SetC, PlainX, WalkB3, Swd, IndexS, Stream3, KeepA, None, RelyS. No condition. -/
import Derived.Test.YtbgnlfgkgklkdaaGreatDoorZ2
import Derived.Test.YtbgnlfgkgklkdaaGreatDoorZ8
import Derived.Test.YtbgnlfgkgklkdaaGreatDoorZ12
set_option linter.unusedVariables false
set_option linter.unusedSimpArgs false
set_option maxHeartbeats 8000000
set_option maxRecDepth 100000
namespace Go.Proofs.YtbgnlfgkgklkdaaGreatDoor
open Go Go.RowKit Tryz
def qDO (a b:ByteArray):Bool:=a.toList==b.toList
theorem qR8 {a b:ByteArray}:qDO a b=true↔a=b:=by
 unfold qDO;simp only [beq_iff_eq,ByteArray.toList_eq]
 constructor
 ·intro h;obtain⟨a⟩:=a;obtain⟨b⟩:=b
  congr 1
  exact Array.toList_inj.1 h
 ·intro h;rw [h]
instance : Inhabited qPF := ⟨⟨ByteArray.empty, 0, 0⟩⟩
theorem qCm (n lo hi:Int) (w:World):Calls prog 117 #[.int .i64 n,.int .i64 lo,.int .i64 hi] w
  λe w'=>e=.returned (.bool (zC n lo hi))∧w=w':=by
 by_cases h1:n<lo
 ·go_enter func117,ntmps117;go_wp2;go_ret;exact⟨qU (by simp [zC];omega),rfl⟩
 ·go_enter func117,ntmps117;go_wp2;go_ret;exact⟨qU (by simp [zC];omega),rfl⟩
theorem qRO (v:Value) (l:List Int) (w:World) (h:qI qA6 1 w l v):Calls prog 142 #[v] w
  λe w'=>e=.returned (.int .i64 (qAY l))∧w=w':=by
 obtain⟨a,cap,rfl,hcap,hmax,hc⟩:=h;have hlen:l.length≤maxLen:=by omega
 unfold maxLen at hlen hmax;go_enter func142,ntmps142;go_wp2;go_loop [7] (λi=>∃k:Nat,k≤l.length∧i=.int .i64 k∧qAY (l.take k)=0) (λi=>l.length - (intOf i).toNat)
 case atStart=>exact⟨0,by omega,rfl,rfl⟩
 case round =>
  obtain⟨k,hk,rfl,hz⟩:=hrel;have HZ:=mH hz;clear hz
  by_cases hlt:k<l.length
  ·obtain⟨b,off,rfl,hb,hcc⟩:=hc k hlt;have h0:=hcc 0 _ rfl;simp only [Nat.mul_one,Nat.add_zero] at h0;clear hc hcc
   by_cases hx:l[k]=0
   ·have hx':(l[k] != 0)=false:=by simp [hx]
    have HX:=mH hx;clear hx;go_wp2;go_round
    case rel=>exact⟨k+1,by omega,by go_num,by rw [qDx l k hlt HZ.o];exact HX.o⟩
    case measure=>simp [intOf];omega
   ·have hx':(l[k] != 0)=true:=by simp [hx]
    have HX:=mH hx;clear hx;go_wp2;go_ret;exact⟨qN (by rw [qGr l k hlt HZ.o HX.o]),rfl⟩
  ·go_wp2;go_ret;exact⟨qN (by have:=HZ.o;rw [List.take_of_length_le oM] at this;rw [this]),rfl⟩





def qUn (l:List qGy) (x:qHm):Prop:=(∀p∈l,p.Ok)∧l.length≤1000∧x.Ok
theorem qGh {a a':Int} {b b':Bool} (h1:a=a') (h2:b=b'):Ending.returned (.tuple #[.int .i64 a,.bool b])=.returned (.tuple #[.int .i64 a',.bool b']):=by rw [h1,h2]
theorem qAB {f:FuncId} {fn:Func} {c:Code} (hf:prog.funcs[f]? = some fn) (hname:(fn.name == "runtime.NumGoroutine")=false) (hb:fn.body=some c) :
  ∀(args:Array Value) (w:World),(callFunc f args).run prog w=.ok (.enter f args) w:=λargs w=>by
 have h1:fn.name ≠ "runtime.NumGoroutine" := by simpa using hname
 simp [callFunc,hf,h1,hb]
theorem qI.take {α:Type} {cells:α→List Value} {sz:Nat} {w:World} {l:List α} {a:Option Addr} {n cap:Nat} (h:qI cells sz w l (.slice a n cap)) (k:Nat) (hk:k≤n):qI cells sz w (l.take k) (.slice a k cap):=by
 obtain⟨a',cap',he,h2,h3,h4⟩:=h;simp only [Value.slice.injEq] at he;obtain⟨rfl,rfl,rfl⟩:=he;have hl:(l.take k).length=k:=by rw [List.length_take];omega
 refine⟨a,cap,by rw [hl],by omega,h3,λj hj=>?_⟩;obtain⟨b,off,ha,hb,hc⟩:=h4 j oM;refine⟨b,off,ha,hb,λi u hu=>hc i u ?_⟩;rw [List.getElem_take] at hu;exact hu
def qJP {α:Type} (cells:α→List Value) (sz:Nat) (e:TypeId) (B:Nat) (l:List α) (v:Value) (w':World):Prop :=
 w'.ownsRow B e sz v l.length (l.flatMap cells)∧((v=.slice none 0 0∧l=[])∨∃g cap,v=.slice (some ⟨g,0,none⟩) l.length cap)
theorem qHL {w:World} {base:Nat} {e:TypeId} {size:Nat} {v:Value} {n:Nat} {xs:List Value} (h:w.ownsRow base e size v (0+n) xs) (hne:v≠.slice none 0 0):∃g cap,v=.slice (some ⟨g,0,none⟩) n cap:=by
 obtain⟨_,h2⟩:=h
 rcases h2 with⟨rfl,_⟩|⟨g,cap,cur,rfl,_⟩
 ·exact absurd rfl hne
 ·exact⟨g,cap,by rw [Nat.zero_add]⟩
structure Del {α:Type} (cells:α→List Value) (sz:Nat) (p:α→Bool) (l:List α) (w0 wr:World) (g i j:Nat) (cur:List α):Prop where
 len:cur.length=l.length
 ij:i<j
 jn:j≤l.length
 kept:cur.take i=(l.take j).filter λx=>!p x
 rest:cur.drop j=l.drop j
 row:Row cells sz wr g cur
 grown:w0.grownBy wr (some g)
theorem Del.at {α:Type} {cells:α→List Value} {sz:Nat} {p:α→Bool} {l:List α} {w0 wr:World} {g i j:Nat} {cur:List α} (h:Del cells sz p l w0 wr g i j cur) (hj:j<l.length) (hj':j<cur.length):cur[j]=l[j]:=by
 have:=congrArg (λz=>z[0]?) h.rest;simp only [List.getElem?_drop,Nat.add_zero] at this;rw [List.getElem?_eq_getElem hj',List.getElem?_eq_getElem hj] at this;exact Option.some.inj this
theorem Del.skip {α:Type} {cells:α→List Value} {sz:Nat} {p:α→Bool} {l:List α} {w0 wr w1:World} {g i j:Nat} {cur:List α} (h:Del cells sz p l w0 wr g i j cur) (hj:j<l.length) (hp:p l[j]=true)
  (hb:Below wr.heap.size wr w1):Del cells sz p l w0 w1 g i (j+1) cur where
 len:=h.len
 ij:=by have:=h.ij;omega
 jn:=by omega
 kept:=by rw [h.kept,List.take_succ_eq_append_getElem hj,List.filter_append];simp [hp]
 rest:=by rw [←List.drop_drop,←List.drop_drop,h.rest]
 row:=h.row.below hb h.row.2.2
 grown:=qK h.grown (qH _ hb)
theorem Del.keep {α:Type} {cells:α→List Value} {sz:Nat} (hlen:∀x,(cells x).length=sz) {p:α→Bool} {l:List α} {w0 wr w1:World} {g i j:Nat} {cur:List α} (h:Del cells sz p l w0 wr g i j cur) (hj:j<l.length) (hp:p l[j]=false)
  (hb:Below wr.heap.size wr w1):Del cells sz p l w0 (w1.setCells g (i*sz) (cells l[j])) g (i+1) (j+1) (cur.set i l[j]) where
 len:=by rw [List.length_set];exact h.len
 ij:=by have:=h.ij;omega
 jn:=by omega
 kept:=by
  have h1:=h.ij;have h2:=h.len;rw [List.take_succ_eq_append_getElem (by rw [List.length_set];omega),List.getElem_set_self,List.take_set_of_le oM,h.kept,List.take_succ_eq_append_getElem hj,List.filter_append];simp [hp]
 rest:=by
  have h1:=h.ij;rw [List.drop_set_of_lt oM,←List.drop_drop,←List.drop_drop,h.rest]
 row:=(h.row.below hb h.row.2.2).set hlen i (by rw [h.len];have:=h.ij;omega) l[j]
 grown:=qK (qK h.grown (qH _ hb)) (qO g _ _ _)
theorem qFI {α:Type} {p:α→Bool}:∀{l:List α},l.any p=true→∃(k:Nat) (hk:k<l.length),qAu p l=k∧(l.take k).any p=false∧p l[k]=true
 | x::l,h=>by
  cases hx:p x
  ·simp only [List.any_cons,hx,Bool.false_or] at h;obtain⟨k,hk,h1,h2,h3⟩:=qFI h;refine⟨k+1,by simpa using hk,?_,?_,by simpa using h3⟩
   ·simp only [qAu,hx,h1];simp;omega
   ·simp only [List.take_succ_cons,List.any_cons,hx,h2,Bool.or_false]
  ·exact⟨0,by simp,by simp [qAu,hx],by simp,by simpa using hx⟩
theorem Del.first {α:Type} {cells:α→List Value} {sz:Nat} {p:α→Bool} {l:List α} {w0 wr:World} {g k:Nat} (hk:k<l.length) (h1:(l.take k).any p=false) (h2:p l[k]=true) (hr:Row cells sz wr g l) (hg:w0.grownBy wr (some g)):Del cells sz p l w0 wr g k (k+1) l where
 len:=rfl
 ij:=by omega
 jn:=by omega
 kept:=by
  rw [List.take_succ_eq_append_getElem hk,List.filter_append];have:(l.take k).filter (λx=>!p x)=l.take k:=by
   rw [List.filter_eq_self];intro x hx;have:=List.any_eq_false.1 h1 x hx
   simpa using this
  simp [this,h2]
 rest:=rfl
 row:=hr
 grown:=hg
theorem Del.done {α:Type} {cells:α→List Value} {sz:Nat} {p:α→Bool} {l:List α} {w0 wr:World} {g i:Nat} {cur:List α} (h:Del cells sz p l w0 wr g i l.length cur):cur.take i=l.filter (λx=>!p x)∧i=(l.filter λx=>!p x).length:=by
 have h1:=h.kept;rw [List.take_length] at h1;refine⟨h1,?_⟩;rw [←h1,List.length_take,h.len];have:=h.ij;omega
def qAr {α:Type} (cells:α→List Value) (sz:Nat) (t:TypeId) (cap:Nat) (w:World) (g:Nat) (l:List α):Prop :=
 ∃cur,qC w g cur t∧cur.size=cap*sz∧l.length≤cap∧cur.toList.take (l.length*sz)=l.flatMap cells
section
variable {α : Type} {cells : α → List Value} {sz cap g : Nat} {t : TypeId} {w w' : World} {l : List α}
theorem qAr.of_own {base n:Nat} (h:w.ownsRow base t sz (.slice (some ⟨g,0,none⟩) n cap) n (l.flatMap cells)) (hn:n=l.length):qAr cells sz t cap w g l:=by
 subst hn;obtain⟨_,⟨hv,_⟩|⟨g2,cap2,cur,hv,_,hh,hc,_,hs,ht⟩⟩:=h
 ·cases hv
 ·simp only [Value.slice.injEq,Option.some.injEq,Addr.mk.injEq,and_true,true_and] at hv;obtain⟨rfl,rfl⟩:=hv;exact⟨cur,hh,hs,hc,ht⟩
theorem qAr.own {base:Nat} (hlen:∀x,(cells x).length=sz) (h:qAr cells sz t cap w g l) (hb:base≤g) (hm:cap≤maxLen):w.ownsRow base t sz (.slice (some ⟨g,0,none⟩) l.length cap) l.length (l.flatMap cells):=by
 obtain⟨cur,h1,h2,h3,h4⟩:=h;exact⟨jJ hlen l,.inr ⟨g,cap,cur,rfl,hb,h1,h3,hm,h2,h4⟩⟩
theorem qAr.row (hlen:∀x,(cells x).length=sz) (h:qAr cells sz t cap w g l) (hm:cap≤maxLen):Row cells sz w g l:=Row.of_own hlen (h.own hlen (Nat.zero_le _) hm) rfl
theorem qAr.kept (h:qAr cells sz t cap w g l) (hb:w'.heap[g]? = w.heap[g]?):qAr cells sz t cap w' g l:=by
 obtain⟨cur,h1,h2,h3,h4⟩:=h;exact⟨cur,by unfold qC at *;rw [hb];exact h1,h2,h3,h4⟩
theorem qAr.lt (h:qAr cells sz t cap w g l):g<w.heap.size:=by obtain⟨_,h1,_⟩:=h;exact h1.lt
theorem qAr.below {B:Nat} (h:qAr cells sz t cap w g l) (hB:Below B w w') (hg:g<B):qAr cells sz t cap w' g l:=h.kept (hB.block g hg)
theorem qMJ (hlen:∀x,(cells x).length=sz):∀(l:List α) (i:Nat) (x:α),i<l.length→(l.flatMap cells).take (i*sz)++cells x++(l.flatMap cells).drop (i*sz+(cells x).length)=(l.set i x).flatMap cells
 | y::l,0,x,_=>by
  rw [Nat.zero_mul,Nat.zero_add,List.take_zero,List.nil_append,List.set_cons_zero,List.flatMap_cons,List.flatMap_cons,List.drop_left' (by rw [hlen,hlen])]
 | y::l,i+1,x,h=>by
  have ih:=qMJ hlen l i x (by simpa using h);rw [List.set_cons_succ,List.flatMap_cons,List.flatMap_cons,←ih,Nat.succ_mul];have e1:(cells y++l.flatMap cells).take (i*sz+sz)=cells y++(l.flatMap cells).take (i*sz):=by
   rw [List.take_append,hlen,List.take_of_length_le (by rw [hlen];omega)];congr 2;omega
  have e2:(cells y++l.flatMap cells).drop (i*sz+sz+(cells x).length)=(l.flatMap cells).drop (i*sz+(cells x).length):=by
   rw [List.drop_append,List.drop_eq_nil_of_le (by rw [hlen];omega),List.nil_append,hlen y];congr 1;omega
  rw [e1,e2];simp [List.append_assoc]
theorem qAr.put (hlen:∀x,(cells x).length=sz) (h:qAr cells sz t cap w g l) (i:Nat) (hi:i<l.length) (x:α):qAr cells sz t cap (w.setCells g (i*sz) (cells x)) g (l.set i x):=by
 obtain⟨cur,h1,h2,h3,h4⟩:=h;have hx:=hlen x;have hle:(i+1)*sz≤l.length*sz:=Nat.mul_le_mul_right _ hi;have hlc:l.length*sz≤cap*sz:=Nat.mul_le_mul_right _ h3;rw [Nat.succ_mul] at hle;have hfit:i*sz+(cells x).length≤cur.size:=by omega
 refine⟨_,qAK h1 _ _ hfit,by rw [qAc hfit,h2],by rw [List.length_set];exact h3,?_⟩;have hct:cur.toList.length=cur.size:=rfl;rw [List.length_set,←qMJ hlen l i x hi,←h4];unfold qC1;rw [show ∀L:List Value,L.toArray.toList=L from λL=>rfl];have e0:(cur.toList.take (i*sz)).length=i*sz:=by rw [List.length_take];omega
 rw [List.append_assoc,List.take_append,e0,List.take_of_length_le (l:=cur.toList.take (i*sz)) oM,List.take_append,List.take_of_length_le (l:=cells x) oM,List.take_take,Nat.min_eq_left oM,List.drop_take,List.append_assoc]
 congr 3
 omega
theorem qAr.cut (hlen:∀x,(cells x).length=sz) (h:qAr cells sz t cap w g l) (i:Nat) (hi:i≤l.length) (vs:List Value) (hv:vs.length=(l.length - i)*sz):qAr cells sz t cap (w.setCells g (i*sz) vs) g (l.take i):=by
 obtain⟨cur,h1,h2,h3,h4⟩:=h;have hct:cur.toList.length=cur.size:=rfl;have hle:l.length*sz≤cap*sz:=Nat.mul_le_mul_right _ h3;have hil:i*sz≤l.length*sz:=Nat.mul_le_mul_right _ hi;have hfit:i*sz+vs.length≤cur.size:=by rw [hv,Nat.sub_mul];omega
 refine⟨_,qAK h1 _ _ hfit,by rw [qAc hfit,h2],by rw [List.length_take];omega,?_⟩;have e0:(cur.toList.take (i*sz)).length=i*sz:=by rw [List.length_take];omega
 unfold qC1;rw [show ∀L:List Value,L.toArray.toList=L from λL=>rfl,List.length_take,Nat.min_eq_left hi,List.append_assoc,List.take_left' e0];have:=flat_take2 hlen l i hi;rw [this,←h4,List.take_take,Nat.min_eq_left hil]
where
 flat_take2 {α:Type} {cells:α→List Value} {sz:Nat} (hlen:∀x,(cells x).length=sz) (l:List α) (i:Nat) (hi:i≤l.length):(l.take i).flatMap cells=(l.flatMap cells).take (i*sz):=by
  have h:=congrArg (List.flatMap cells) (List.take_append_drop i l);rw [List.flatMap_append] at h;rw [←h,List.take_left' (by rw [jJ hlen,List.length_take];rw [Nat.min_eq_left hi])]
end
structure qC6 {α:Type} (cells:α→List Value) (sz:Nat) (t:TypeId) (cap:Nat) (p:α→Bool) (l:List α) (w0 wr:World) (g i j:Nat) (cur:List α):Prop where
 d:Del cells sz p l w0 wr g i j cur
 o:qAr cells sz t cap wr g cur
section
variable {α : Type} {cells : α → List Value} {sz cap g i j : Nat} {t : TypeId} {p : α → Bool} {w0 wr w1 : World} {l cur : List α}
theorem qC6.skip (h:qC6 cells sz t cap p l w0 wr g i j cur) (hj:j<l.length) (hp:p l[j]=true) (hb:Below wr.heap.size wr w1):qC6 cells sz t cap p l w0 w1 g i (j+1) cur :=
 ⟨h.d.skip hj hp hb,h.o.below hb h.o.lt⟩
theorem qC6.keep (hlen:∀x,(cells x).length=sz) (h:qC6 cells sz t cap p l w0 wr g i j cur) (hj:j<l.length) (hp:p l[j]=false) (hb:Below wr.heap.size wr w1):qC6 cells sz t cap p l w0 (w1.setCells g (i*sz) (cells l[j])) g (i+1) (j+1) (cur.set i l[j]) :=
 ⟨h.d.keep hlen hj hp hb,(h.o.below hb h.o.lt).put hlen i (by rw [h.d.len];have:=h.d.ij;omega) l[j]⟩
end
section
open Go.Maps (Keyed)
section
variable {α : Type} {P : Program} {ops : Array Oper} {o : Oper} {a : Act} {w : World} {K' : Act → World → Prop} {Q : Exit → Act → World → Prop} {E : Prop}
theorem qC2 [DecidableEq α] (hgd:o.guard=none) (mo x v:Operand) (t:TypeId) (hop:o.op=Op.mapUpdate t mo x v) {k e:TypeId} (K:Keyed P k) (ht:P.underlying t=some (.map k e))
  {kv:α→Value} (hinj:∀a a',kv a=kv a'→a=a') {b n:Nat} {m:α→Option Value} (hown:zA P k kv w b n m) (hn:n<maxLen) (hm:a.eval mo=.map (some b)) (q:α) {kl:Lit} (hkey:keyOf P k (kv q)=some kl) (hx:a.eval x=kv q) (val:Value) (hv:a.eval v=val)
  (h:∀w',zA P k kv w' b (n+1) (qB0 m q val)→w.grownBy w' (some b)→K' (a.put o.dst undef) w'):if Region.wanted o (yielded ops a.tmps)=true then Oper.wp P o a w K' Q else E:=by
 have hw:Region.wanted o (yielded ops a.tmps)=true:=by simp [Region.wanted,hgd]
 rw [if_pos hw];obtain⟨w',hrun,r1,r2⟩:=hown.store K hinj ht hn q hkey val;unfold Oper.wp;simp [execOp,hop,hm,hx,hv,hrun,Result.andThen];exact h _ r1 r2
end
theorem qAO:Keyed prog 9:=Maps.string_keyed underlying9
theorem qBy (s:ByteArray) (h:s.size≤maxLen):∃kl,keyOf prog 9 (Value.string s)=some kl:=⟨_,WideMaps.keyOf_string_mk underlying9 h⟩
theorem qEk:∀a a':ByteArray,Value.string a=Value.string a'→a=a':=λa a' h=>by cases h;rfl
def qUy (w:World) (b n base:Nat) (G:ByteArray→List ByteArray):Prop :=
 ∃m:ByteArray→Option Value,zA prog 9 Value.string w b n m∧(∀k,w.ownsRow base 9 1 ((m k).getD (.slice none 0 0)) (G k).length ((G k).map Value.string)) ∧
  (∀k k',k≠k'→∀g,((m k).getD (.slice none 0 0)).ownBlock=some g→((m k').getD (.slice none 0 0)).ownBlock≠some g)∧b<base
end
def jT (w:World) (s m:Nat):Prop :=
 ∃(a:Option Addr) (n cap c:Nat),qC w s #[.slice a n cap,.int .i64 c] 25∧c≤m∧n≤maxLen ∧
  ∀i,i<n→∃b off z,a=some ⟨b,off,none⟩∧b<s∧w.cell? ⟨b,off+i,none⟩=some (.int .i64 z) ∧ -9223372036854775808≤z∧z≤9223372036854775807
theorem jT.lt {w:World} {s m:Nat} (h:jT w s m):s<w.heap.size:=by obtain⟨_,_,_,_,h,_⟩:=h;exact h.lt
theorem jT.below {B:Nat} {w w':World} {s m:Nat} (h:jT w s m) (hB:Below B w w') (hb:w.heap.size≤B):jT w' s m:=by
 obtain⟨a,n,cap,c,h1,h2,h3,h4⟩:=h;have hl:=h1.lt;refine⟨a,n,cap,c,h1.below hB oM,h2,h3,λi hi=>?_⟩;obtain⟨b,off,z,e,hne,hc,hz⟩:=h4 i hi;exact⟨b,off,z,e,hne,(hB.cell (p:=⟨b,_,none⟩) (show b<B by omega)).trans hc,hz⟩
theorem jT.mono {w:World} {s m m':Nat} (h:jT w s m) (hm:m≤m'):jT w s m':=by
 obtain⟨a,n,cap,c,h1,h2,h3,h4⟩:=h;exact⟨a,n,cap,c,h1,by omega,h3,h4⟩
def qIw (P:Value→World→Prop) (s m d:Nat) (w:World) (e:Ending) (w':World):Prop:=∃v,e=.returned v∧P v w'∧jT w' s (m+d)∧w.grownBy w' (some s)
def qFh (x n:Int):Int:=if n<1 then 0 else x % n
theorem qFx (x n:Int) (h:1≤n):0≤qFh x n∧qFh x n<n:=by
 unfold qFh;rw [if_neg oM];exact⟨Int.emod_nonneg _ oM,Int.emod_lt_of_pos _ oM⟩
theorem qJH (x n:Int) (w:World) (hx : -9223372036854775808≤x∧x≤9223372036854775807) (hn:n≤4611686018427387904):Calls prog 24 #[.int .i64 x,.int .i64 n] w
  λe w'=>e=.returned (.int .i64 (qFh x n))∧w=w':=by
 obtain⟨x1,x2⟩:=hx
 by_cases h:n<1
 ·go_enter func24,ntmps24;go_wp2;go_ret;exact⟨qN (by unfold qFh;rw [if_pos h]),rfl⟩
 ·have hB:qFh x n=x % n:=by unfold qFh;rw [if_neg h]
  have hn1:1≤n:=by omega
  have HB:=Lib.hid hB;have ht:=Int.tmod_lt_of_pos x (show 0<n by omega);have ht2 : -n<x.tmod n:=Int.lt_tmod_of_pos x oM;have he:=Int.tmod_eq_emod_of_nonneg (a:=x) (b:=n)
  by_cases h0:x.tmod n<0
  ·have hr:x.tmod n+n=x % n:=by
    have h1:=Int.tmod_add_mul_tdiv x n;have h2:=Int.emod_nonneg x (show n≠0 by omega);have h3:=Int.emod_lt_of_pos x (show 0<n by omega);have h4:(x.tmod n+n) % n=x % n:=by
     rw [Int.add_emod_right]
     conv=>rhs;rw [←h1]
     rw [Int.add_mul_emod_self_left]
    rw [←h4,Int.emod_eq_of_lt oM oM]
   have HR:=Lib.hid hr;have hneg:x<0:=by
    rcases (show x<0∨0≤x from by omega) with h|h
    ·exact h
    ·have:=he h;have:=Int.emod_nonneg x (show n≠0 by omega);omega
   have hneg':¬0≤x:=by omega
   clear he hB hr h hneg;go_enter func24,ntmps24;go_wp2;go_ret;exact⟨qN (by rw [HB.out,HR.out]),rfl⟩
  ·have hr:x.tmod n=x % n:=by
    have h1:=Int.tmod_add_mul_tdiv x n;have h4:(x.tmod n) % n=x % n:=by
     conv=>rhs;rw [←h1]
     rw [Int.add_mul_emod_self_left]
    rw [←h4,Int.emod_eq_of_lt oM oM]
   have HR:=Lib.hid hr;clear he hB h
   by_cases hx0:0≤x
   ·have h0':¬x % n<0:=by omega
    clear hr h0 ht ht2;go_enter func24,ntmps24;go_wp2;go_ret;exact⟨qN (by rw [HB.out]),rfl⟩
   ·clear hr;go_enter func24,ntmps24;go_wp2;go_ret;exact⟨qN (by rw [HB.out,HR.out]),rfl⟩
theorem qQo (n:Int) : -9223372036854775808≤wrap64 n∧wrap64 n≤9223372036854775807:=by unfold wrap64;omega
theorem qOb {w:World} {b:Nat} {v0 v1 v:Value} {t:TypeId} (h:qC w b #[v0,v1] t):qC (w.setCell ⟨b,1,none⟩ v) b #[v0,v] t:=h.set 1 v
theorem qDD (w:World) (g o:Nat) (v:Value):w.grownBy (w.setCell ⟨g,o,none⟩ v) (some g):=qO g [v] o w
theorem qN7 {a b:World} {row:Option Nat} (h:a.grownBy b row) (n:Nat):a.grownBy (b.drewN n) row:=⟨h.os,h.tape,h.output,h.size,h.block⟩
theorem qBz {a b:World} {row:Option Nat} (h:a.grownBy b row):a.grownBy b.drew row:=⟨h.os,h.tape,h.output,h.size,h.block⟩
theorem jT.drewN {w:World} {s m:Nat} (h:jT w s m) (n:Nat):jT (w.drewN n) s m:=h
theorem jT.drew {w:World} {s m:Nat} (h:jT w s m):jT w.drew s m:=h
theorem jT.alloc {w:World} {s m:Nat} (h:jT w s m) (o:Obj):jT (w.alloc o) s m:=h.below (qB (Below.refl w.heap.size w) o lR) lR
def qTS (n:Int) (v:Value) (_:World):Prop:=∃r:Int,v=.int .i64 r∧0≤r∧r<n
theorem qD5 (s m:Nat) (n:Int) (w:World) (h:jT w s m) (hm:m≤1000000000) (hn:1≤n) (hn2:n≤4611686018427387904):Calls prog 10 #[.pointer (some ⟨s,0,none⟩),.int .i64 n] w
  (qIw (qTS n) s m 1 w):=by
 obtain⟨a,len,cap,c,hb,hc,hlen,hcell⟩:=h;have hl:=hb.lt;have c0:=hb.cell 0 _ rfl;have c1:=hb.cell 1 _ rfl;have f1:=hb.free 1;unfold maxLen at hlen;have HS:Hid (∀(w':World) (c':Nat),c'≤m+1→qC w' s #[.slice a len cap,.int .i64 c'] 25→w.grownBy w' (some s)→jT w' s (m+1)):=λw' c' h1 h2 h3 =>
  ⟨a,len,cap,c',h2,h1,by unfold maxLen;omega,λi hi=>by
   obtain⟨b,off,z,e,hne,hcc,hz⟩:=hcell i hi;exact⟨b,off,z,e,hne,h3.cell hcc (by simp;omega),hz⟩⟩
 have HB:=Lib.hid (qOb (v:=.int .i64 (c+1:Nat)) hb);clear hb
 by_cases h0:len=0
 ·subst h0;clear hcell;have hr:=qFx (((c:Int)+1)*7919) n hn;have HR:=Lib.hid hr;clear hr;go_enter func10,ntmps10;go_wp2_with (go_at_call 24;refine(qJH _ _ _ oM hn2).mono ?_;rintro e w' ⟨rfl,rfl⟩);go_ret;exact⟨_,rfl,⟨_,rfl,HR.out⟩,HS.out _ (c+1) oM HB.out (qDD _ _ _ _),qDD _ _ _ _⟩
 ·have hlt:c % len<len:=Nat.mod_lt _ oM;obtain⟨b,off,z,rfl,hbs,hcc,hz1,hz2⟩:=hcell (c % len) hlt;have hne:b≠s:=by omega
  have hlen0:((len:Int)==0)=false:=by simp;omega
  have hlen1:1≤(len:Int):=by omega
  have hi0:0≤(c:Int) % len:=Int.emod_nonneg _ oM;have hi1:(c:Int) % len<len:=Int.emod_lt_of_pos _ oM;have hr0:0≤(c:Int) / len:=Int.ediv_nonneg oM oM;have hr1:(c:Int) / len≤1000000000:=by
   have h1:c / len≤c:=Nat.div_le_self _ _;have h2:((c / len:Nat):Int)=(c:Int) / len:=by push_cast;rfl
   omega
  have hb1:=qFx z 1073741824 oM;obtain⟨q1,q2⟩:=hb1;clear hcell h0;go_enter func10,ntmps10;go_wp2;go_quiet (fail);go_wp2;go_quiet (fail);go_wp2_with (go_at_call 24;refine(qJH _ _ _ (by first|omega|exact qQo _) oM).mono ?_;rintro e w' ⟨rfl,rfl⟩);go_ret;exact⟨_,rfl,⟨_,rfl,qFx _ n hn⟩,(HS.out _ (c+1) oM HB.out (qDD _ _ _ _)).drewN _,qN7 (qDD _ _ _ _) _⟩
def qTt (lo hi:Int) (v:Value) (_:World):Prop:=∃r:Int,v=.int .i64 r∧lo≤r∧r≤hi
def qSO (v:Value) (_:World):Prop:=∃b:Bool,v=.bool b
theorem qK1 (s m:Nat) (lo hi:Int) (w:World) (h:jT w s m) (hm:m≤1000000000) (h1:lo≤hi) (h2 : -1000000000000000≤lo) (h3:hi≤1000000000000000):Calls prog 4 #[.pointer (some ⟨s,0,none⟩),.int .i64 lo,.int .i64 hi] w
  (qIw (qTt lo hi) s m 1 w):=by
 go_enter func4,ntmps4;go_wp2_with (go_at_call 10;refine(qD5 s m _ _ h hm oM oM).mono ?_;rintro e w1 ⟨v,rfl,⟨r,rfl,r0,r1⟩,hs,hg⟩);go_ret;exact⟨_,rfl,⟨_,rfl,by omega,by omega⟩,hs,hg⟩
theorem qMz (s m:Nat) (n:Int) (w:World) (h:jT w s m) (hm:m≤1000000000) (h1:1≤n) (h2:n≤1000000):Calls prog 8 #[.pointer (some ⟨s,0,none⟩),.int .i64 n] w
  (qIw qSO s m 1 w):=by
 go_enter func8,ntmps8;go_wp2_with (go_at_call 10;refine(qD5 s m _ _ h hm oM oM).mono ?_;rintro e w1 ⟨v,rfl,⟨r,rfl,r0,r1⟩,hs,hg⟩);go_ret;exact⟨_,rfl,⟨_,rfl⟩,hs,hg⟩
def qU0 (l:List Int) (v:Value) (_:World):Prop:=∃r:Int,v=.int .i64 r∧r∈l
def qUK (l:List ByteArray) (v:Value) (_:World):Prop:=∃r:ByteArray,v=.string r∧r∈l
theorem qST (s m:Nat) (v:Value) (l:List Int) (w:World) (h:jT w s m) (hm:m≤1000000000) (hv:qI qA6 1 w l v) (h1:1≤l.length) (h2:l.length≤1000000) (hne:∀n cap off,v≠.slice (some ⟨s,off,none⟩) n cap):Calls prog 16 #[.pointer (some ⟨s,0,none⟩),v] w
  (qIw (qU0 l) s m 1 w):=by
 obtain⟨a,cap,rfl,hcap,hmax,hc⟩:=hv;go_enter func16,ntmps16;go_wp2_with fail;refine(qD5 s m _ _ h hm oM oM).mono ?_;rintro e w1 ⟨v,rfl,⟨r,rfl,r0,r1⟩,hs,hg⟩;obtain⟨k,rfl⟩:=Int.eq_ofNat_of_zero_le r0;obtain⟨b,off,rfl,hb,hcc⟩:=hc k oM;have hbs:b≠s:=λe=>hne _ _ off (by rw [e])
 have c0:=hcc 0 _ rfl;simp only [Nat.mul_one,Nat.add_zero] at c0;replace c0:=hg.cell c0 (by simp;exact hbs);clear hc hcc hne;go_wp2;go_ret;exact⟨_,rfl,⟨_,rfl,List.getElem_mem _⟩,hs,hg⟩
theorem qM0 (s m:Nat) (v:Value) (l:List ByteArray) (w:World) (h:jT w s m) (hm:m≤1000000000) (hv:qI strCells 1 w l v) (h1:1≤l.length) (h2:l.length≤1000000) (hne:∀n cap off,v≠.slice (some ⟨s,off,none⟩) n cap):Calls prog 7 #[.pointer (some ⟨s,0,none⟩),v] w
  (qIw (qUK l) s m 1 w):=by
 obtain⟨a,cap,rfl,hcap,hmax,hc⟩:=hv;go_enter func7,ntmps7;go_wp2_with fail;refine(qD5 s m _ _ h hm oM oM).mono ?_;rintro e w1 ⟨v,rfl,⟨r,rfl,r0,r1⟩,hs,hg⟩;obtain⟨k,rfl⟩:=Int.eq_ofNat_of_zero_le r0;obtain⟨b,off,rfl,hb,hcc⟩:=hc k oM;have hbs:b≠s:=λe=>hne _ _ off (by rw [e])
 have c0:=hcc 0 _ rfl;simp only [Nat.mul_one,Nat.add_zero] at c0;replace c0:=hg.cell c0 (by simp;exact hbs);clear hc hcc hne;go_wp2;go_ret;exact⟨_,rfl,⟨_,rfl,List.getElem_mem _⟩,hs,hg⟩
theorem qI.grown {α:Type} {cells:α→List Value} {sz:Nat} {w w':World} {l:List α} {b off n cap s:Nat} (h:qI cells sz w l (.slice (some ⟨b,off,none⟩) n cap)) (hg:w.grownBy w' (some s)) (hne:b≠s):qI cells sz w' l (.slice (some ⟨b,off,none⟩) n cap):=by
 obtain⟨a,cap',he,h2,h3,h4⟩:=h;refine⟨a,cap',he,h2,h3,λk hk=>?_⟩;obtain⟨b',off',ha,hb,hc⟩:=h4 k hk;simp only [Value.slice.injEq] at he;obtain⟨he,_,_⟩:=he;rw [ha] at he;simp only [Option.some.injEq,Addr.mk.injEq,and_true] at he;obtain⟨rfl,rfl⟩:=he;exact⟨_,_,ha,Nat.lt_of_lt_of_le hb hg.size,λj u hu=>hg.cell (hc j u hu) (by simp;exact hne)⟩
theorem qBA (a:World) (row:Option Nat):a.grownBy a row:=⟨rfl,rfl,rfl,Nat.le_refl _,λ_ _ _=>rfl⟩
theorem jT.grown {w w':World} {s m:Nat} {row:Option Nat} (h:jT w s m) (hg:w.grownBy w' row) (hr:∀k,row=some k→s<k):jT w' s m:=by
 obtain⟨a,n,cap,c,h1,h2,h3,h4⟩:=h;have hl:=h1.lt;refine⟨a,n,cap,c,h1.grown hg (by intro e;have:=hr s e.symm;omega),h2,h3,λi hi=>?_⟩;obtain⟨b,off,z,e,hne,hc,hz⟩:=h4 i hi;exact⟨b,off,z,e,hne,hg.cell hc (by intro e';have:=hr _ e'.symm;simp only at this;omega),hz⟩
theorem qI.grownBy {α:Type} {cells:α→List Value} {sz:Nat} {w w':World} {l:List α} {v:Value} {s:Nat} (h:qI cells sz w l v) (hg:w.grownBy w' (some s)) (hne:∀b off n cap,v=.slice (some ⟨b,off,none⟩) n cap→s<b):qI cells sz w' l v:=by
 obtain⟨a,cap',rfl,h2,h3,h4⟩:=h;refine⟨a,cap',rfl,h2,h3,λk hk=>?_⟩;obtain⟨b',off',ha,hb,hc⟩:=h4 k hk;have:=hne b' off' l.length cap' (by rw [ha]);exact⟨_,_,ha,Nat.lt_of_lt_of_le hb hg.size,λj u hu=>hg.cell (hc j u hu) (by simp;omega)⟩
theorem qDa {w w':World} {base:Nat} {e:TypeId} {size:Nat} {v:Value} {n s:Nat} {xs:List Value} (h:w.ownsRow base e size v n xs) (hg:w.grownBy w' (some s)) (hs:s<base):w'.ownsRow base e size v n xs:=by
 refine h.kept hg ?_
 cases hv:v.ownBlock with
 | none=>exact .inl rfl
 | some k=>right;have:=(h.lt k hv).1;simp;omega
theorem qRQ {w w' w'':World} {base:Nat} {e:TypeId} {size:Nat} {v:Value} {n s:Nat} {xs:List Value} (h:w.grownBy w' (some s)) (ho:w'.ownsRow base e size v n xs) (hg:w'.grownBy w'' v.ownBlock) (hb:w.heap.size≤base):w.grownBy w'' (some s):=by
 refine⟨hg.os.trans h.os,hg.tape.trans h.tape,hg.output.trans h.output,Nat.le_trans h.size hg.size,λk hk hr=>(hg.block k (Nat.lt_of_lt_of_le hk h.size) ?_).trans (h.block k hk hr)⟩;intro e';have:=(ho.lt k e'.symm).1;omega
theorem qRr {w' w'':World} {base:Nat} {e:TypeId} {size:Nat} {v:Value} {n s m:Nat} {xs:List Value} (h:jT w' s m) (ho:w'.ownsRow base e size v n xs) (hg:w'.grownBy w'' v.ownBlock) (hb:s<base):jT w'' s m :=
 h.grown hg λk hk=>by have:=(ho.lt k hk).1;omega
structure qUo {α:Type} (cells:α→List Value) (sz s m:Nat) (w:World) (g:Nat) (W:World) (l:List α):Prop where
 st:jT W s m
 gr:w.grownBy W (some s)
 row:Row cells sz W g l
 l1:s<w.heap.size
 l2:w.heap.size≤g

structure qFU where
 ways:Int
 price:Int
deriving DecidableEq,Inhabited
def qFU.cells (o:qFU):List Value:=[.int .i64 o.ways,.int .i64 o.price]
def qFU.d (o:qFU):Nat:=(o.ways - 1).toNat
def inf:Int:=1152921504606846976
def qLe:List qFU→Nat→Int
 | [],m=>if m=0 then 0 else inf
 | o::os,m=>if h:m=0∨o.d=0 then (if m=0 then 0 else qLe os m) else min (qLe os m) (qLe (o::os) (m - o.d)+o.price)
termination_by os m=>(os.length,m)
decreasing_by
 ·exact Prod.Lex.left _ _ sI
 ·exact Prod.Lex.left _ _ sI
 ·exact Prod.Lex.right _ oM
def qO7 (o:qFU) (os:List qFU) (m:Nat):Nat:=if qLe os m=qLe (o::os) m then 0 else if h:m=0∨o.d=0 then 0 else qO7 o os (m - o.d)+1
termination_by m
decreasing_by omega
def qUq (os:List qFU):Prop:=∀o∈os,0<o.d∧1≤o.price∧o.price≤1000000
def qUE:List qFU→Nat→List Int
 | [],_=>[]
 | o::os,m=>(qO7 o os m:Int)::qUE os (m - qO7 o os m*o.d)
theorem qGv:(prog.info? 3).map (λi=>(i.zero,i.size,i.bytes))=some (some (.int .i64 0),1,8):=by kernel_rfl
instance : Inhabited qRt := ⟨⟨0, ⟨0, 0⟩, 0⟩⟩






section
open Go.Maps (Keyed)
open Go.Maps
theorem qEl:Keyed prog 3:=int_keyed underlying3
def qFQ (n:Int):Value:=.int .i64 n
theorem qLy (a b:Int) (h:qFQ a=qFQ b):a=b:=by simpa [qFQ] using h
theorem qJQ (n:Int) (h:(Lit.int .i64 n).wf=true):∃kl,keyOf prog 3 (qFQ n)=some kl:=⟨_,keyOf_int_mk underlying3 h⟩
end
theorem qLS (v:Value) (l:List ByteArray) (y:ByteArray) (w:World) (h:qI strCells 1 w l v):Calls prog 54 #[v,.string y] w
  λe w'=>e=.returned (.int .i64 (qAu (λx=>qDO y x) l))∧w=w':=by
 obtain⟨a,cap,rfl,hcap,hmax,hc⟩:=h;have hlen:l.length≤maxLen:=by omega
 unfold maxLen at hlen hmax;go_enter func54,ntmps54;go_wp2;go_loop [8] (λi=>∃k:Nat,k≤l.length∧i=.int .i64 k∧(l.take k).any (λx=>qDO y x)=false) (λi=>l.length - (intOf i).toNat)
 case atStart=>exact⟨0,by omega,rfl,rfl⟩
 case round =>
  obtain⟨k,hk,rfl,hz⟩:=hrel;have HZ:=Lib.hid hz;clear hz
  by_cases hlt:k<l.length
  ·obtain⟨b,off,rfl,hb,hcc⟩:=hc k hlt;have h0:=hcc 0 _ rfl;simp only [Nat.mul_one,Nat.add_zero] at h0;clear hc hcc
   cases hx:qDO y l[k]
   ·have hx':(y.toList==l[k].toList)=false:=hx;have HT:Hid ((l.take (k+1)).any (λx=>qDO y x)=false):=by rw [qBO _ l k hlt HZ.out];exact hx
    clear hx;go_wp2;go_round
    case rel=>exact⟨k+1,by omega,by go_num,HT.out⟩
    case measure=>simp [intOf];omega
   ·have hx':(y.toList==l[k].toList)=true:=hx;have HT:Hid (qAu (λx=>qDO y x) l=k):=qD0 hlt HZ.out hx;clear hx;go_wp2;go_ret;exact⟨qN HT.out.symm,rfl⟩
  ·have HT:Hid (qAu (λx=>qDO y x) l = -1):=qBY (qCO oM HZ.out);go_wp2;go_ret;exact⟨qN HT.out.symm,rfl⟩



def qSt (md:Region.Mode) (ops:Array Oper) (D:List (List Nat)):Bool :=
 (List.range ops.size).all λi=>(D.getD i []).all λj=>((ops[i]?).map λo=>o.after.any λe=>Region.binds md e && e.on==j).getD false
def qKG (md:Region.Mode) (ops:Array Oper) (listed:Array Bool):Bool :=
 (List.range ops.size).all λj=>!listed.getD j false || ((ops[j]?).map λo=>o.after.all λe=>!Region.binds md e || listed.getD e.on false).getD true
theorem qRL {md:Region.Mode} {ops:Array Oper} {listed:Array Bool} (h:qKG md ops listed=true):qFF md ops listed:=by
 intro j oj hj hl e he hb;have hjs:j<ops.size:=(Array.getElem?_eq_some_iff.1 hj).1;have h1:=List.all_eq_true.1 h j (by simpa using hjs);rw [hj,hl] at h1;simp only [Bool.not_true,Bool.false_or,Option.map_some,Option.getD_some] at h1;have h2:=Array.all_eq_true'.1 h1 e he;rw [hb] at h2
 simpa using h2
section
variable {P : Program} {ops : Array Oper} {Q : Exit → Act → World → Prop}
def qW (P:Program) (ops:Array Oper) (Q:Exit→Act→World→Prop) (F:Nat→Value→World→Prop) (D:List (List Nat)) (T:List Nat) (s top:Nat) (w0:World) (a0:Act) (i:Nat) (o:Oper):Prop :=
 T.contains i=false→∀u w M,jT w s M→M+60≤top→w0.grownBy w (some s)→(∀j∈D.getD i [],F j (u j) w) →
  ∀K:Act→World→Prop,(∀a' v w' M',jT w' s M'→M'≤M+60→w.grownBy w' (some s)→F i v w'→a'=(zY ops.toList 0 u a0).put o.dst v→K a' w') →
   if Region.wanted o (yielded ops (zY ops.toList 0 u a0).tmps)=true then Oper.wp P o (zY ops.toList 0 u a0) w K Q else K ((zY ops.toList 0 u a0).put o.dst undef) w
theorem qQf (n:Nat) (l:Array Bool):qCj n l≤n:=by
 unfold qCj;have:=List.length_filter_le (λi=>!l.getD i true) (List.range n)
 simpa using this
theorem qKS {id:Nat} {a0:Act} {w:World} (hm:P.follows .mixedOrders=true) (F:Nat→Value→World→Prop) (D:List (List Nat)) (T:List Nat) (k s M0:Nat)
  (hris:qGd .any ops=true) (hlast:qLW .any ops T=true) (hnd:(qAk ops.toList).Nodup) (hk:qCj ops.size (qCP ops T)=k) (hD:qSt .any ops D=true) (hcl:qKG .any ops (qCP ops T)=true)
  (hF:∀i v w w',w.grownBy w' (some s)→F i v w→F i v w') (hS:jT w s M0)
  (hop:qM (qW P ops Q F D T s (M0+60*ops.size) w.drew a0) 0 ops.toList)
  (hend:∀u w' M,jT w' s M→M≤M0+60*ops.size→w.drew.grownBy w' (some s)→(∀i,i<ops.size→T.contains i=false→F i (u i) w')→qA P .any ops Q (λ_=>True) [] k (qCP ops T) (zY ops.toList 0 u a0) w') :
  (Code.region id ops true).wp P Q a0 w:=by
 refine qKT hm T k (λlisted w'=>∃M,jT w' s M∧M+60*qCj ops.size listed≤M0+60*ops.size∧w.drew.grownBy w' (some s)) (λa b=>a.grownBy b (some s)) F hris hlast hnd hk hF
  ⟨M0,hS.drew,by have:=qQf ops.size (Array.replicate ops.size false);omega,qBA _ _⟩ ?_ ?_
 ·have hall:∀(l:List Oper) (k:Nat),(∀i o,l[i]? = some o→ops[k+i]? = some o)→qM (qW P ops Q F D T s (M0+60*ops.size) w.drew a0) k l→qM (qTi P ops Q .any (λlisted w'=>∃M,jT w' s M∧M+60*qCj ops.size listed≤M0+60*ops.size∧w.drew.grownBy w' (some s)) (λa b=>a.grownBy b (some s)) F T a0) k l:=by
   intro l
   induction l with
   | nil=>intro _ _ _;trivial
   | cons o r ih =>
    intro k hlk h;refine⟨?_,ih (k+1) (λi o' hi=>by have:=hlk (i+1) o' (by simpa using hi);rwa [show k+(i+1)=k+1+i by omega] at this) h.2⟩;intro hT u listed w' hun hI hf K hK;obtain⟨M,hs,hM,hg⟩:=hI;have hko:=hlk 0 o sI;rw [Nat.add_zero] at hko;have hkl:k<ops.size:=(Array.getElem?_eq_some_iff.1 hko).1;have hlt:=qGz hkl hun;refine h.1 hT u w' M hs oM hg (λj hj=>?_) K (λa' v w'' M' hs' hM' hg' hF' ha=>by subst ha;exact hK v w'' hg' ⟨M',hs',by omega,qK hg hg'⟩ hF');have h1:=List.all_eq_true.1 hD k (by simpa using hkl);have h2:=List.all_eq_true.1 h1 j hj;rw [hko] at h2;simp only [Option.map_some,Option.getD_some] at h2;obtain⟨e,he,hb⟩:=Array.any_eq_true'.1 h2;simp only [Bool.and_eq_true,beq_iff_eq] at hb;have:=hf e he hb.1
    rwa [hb.2] at this
  exact hall ops.toList 0 (λi o hi=>by rw [Nat.zero_add];simpa using hi) hop
 ·intro u w' hI hFu;obtain⟨M,hs,hM,hg⟩:=hI;exact qHN _ _ _ _ (hend u w' M hs oM hg hFu (qRL hcl))
end
end Go.Proofs.YtbgnlfgkgklkdaaGreatDoor
