/- Parts of the proof of ScriptsAnswered: PlainT, PlainS, PnA, SnA, Cz, SortP, SnB, SnC, SnD, SnE, SkSit, SkCab, PlainU, PlainV, PlainR. No condition. -/
import Derived.Lib.Bytealg
import Derived.Test.YtbgnlfgkgklkdaaGreatDoorZ13
set_option linter.unusedVariables false
set_option linter.unusedSimpArgs false
set_option maxHeartbeats 8000000
set_option maxRecDepth 100000
namespace Go.Proofs.YtbgnlfgkgklkdaaGreatDoor
open Go Go.RowKit Tryz
structure qBJ where
 key:ByteArray
 ways:Int
 par:ByteArray
 port:Int
deriving DecidableEq,Inhabited
def qBJ.cells (s:qBJ):List Value:=[.string s.key,.int .i64 s.ways,.string s.par,.int .i64 s.port]
structure Drp where
 cust:ByteArray
 spl:ByteArray
 port:Int
deriving DecidableEq,Inhabited
def Drp.cells (s:Drp):List Value:=[.string s.cust,.string s.spl,.int .i64 s.port]
def qAS (a b:ByteArray):Int:=Lib.compareBytes a.data.toList b.data.toList
def qCD (a b:ByteArray):Bool:=Op.bytesLess a.toList b.toList
def leB (a b:ByteArray):Bool:=Op.bytesLess a.toList b.toList || a.toList==b.toList
theorem qNA:∀a b:List UInt8,(Lib.compareBytes a b<0↔Op.bytesLess a b=true)
 | [],[]=>by simp [Lib.compareBytes,Op.bytesLess]
 | [],_::_=>by simp [Lib.compareBytes,Op.bytesLess]
 | _::_,[]=>by simp [Lib.compareBytes,Op.bytesLess]
 | a::x,b::y=>by
  have ih:=qNA x y;simp only [Lib.compareBytes,Op.bytesLess]
  by_cases h:a<b
  ·simp [h]
  ·by_cases h2:b<a
   ·have hne:a≠b:=λe=>by subst e;exact h h2
    simp [h,h2,hne]
   ·have he:a=b:=UInt8.le_antisymm (UInt8.not_lt.1 h2) (UInt8.not_lt.1 h);subst he;simp [h,ih]
theorem qNn:∀a b:List UInt8,(Lib.compareBytes a b=0↔a=b)
 | [],[]=>by simp [Lib.compareBytes]
 | [],_::_=>by simp [Lib.compareBytes]
 | _::_,[]=>by simp [Lib.compareBytes]
 | a::x,b::y=>by
  have ih:=qNn x y;simp only [Lib.compareBytes]
  by_cases h:a<b
  ·have hne:a≠b:=λe=>by subst e;exact UInt8.lt_irrefl _ h
   simp [h,hne]
  ·by_cases h2:b<a
   ·have hne:a≠b:=λe=>by subst e;exact h h2
    simp [h,h2,hne]
   ·have he:a=b:=UInt8.le_antisymm (UInt8.not_lt.1 h2) (UInt8.not_lt.1 h);subst he;simp [h,ih]
theorem qDT:∀{a b c:List UInt8},Op.bytesLess a b=true→Op.bytesLess b c=true→Op.bytesLess a c=true
 | [],_::_,_::_,_,_=>rfl
 | [],[],_,h,_=>by cases h
 | _,_::_,[],_,h=>by cases h
 | _::_,[],_,h,_=>by cases h
 | a::x,b::y,c::z,h1,h2=>by
  simp only [Op.bytesLess,Bool.or_eq_true,decide_eq_true_eq,Bool.and_eq_true,beq_iff_eq] at *
  rcases h1 with h1|⟨rfl,h1⟩
  ·rcases h2 with h2|⟨rfl,h2⟩
   ·exact .inl (UInt8.lt_trans h1 h2)
   ·exact .inl h1
  ·rcases h2 with h2|⟨rfl,h2⟩
   ·exact .inl h2
   ·exact .inr ⟨rfl,qDT h1 h2⟩
theorem qBf:∀a:List UInt8,Op.bytesLess a a=false
 | []=>rfl
 | a::x=>by simp [Op.bytesLess,qBf x,UInt8.lt_irrefl]
theorem qEP:∀a b:List UInt8,Op.bytesLess a b=true∨a=b∨Op.bytesLess b a=true
 | [],[]=>.inr (.inl rfl)
 | [],_::_=>.inl rfl
 | _::_,[]=>.inr (.inr rfl)
 | a::x,b::y=>by
  simp only [Op.bytesLess,Bool.or_eq_true,decide_eq_true_eq,Bool.and_eq_true,beq_iff_eq,List.cons.injEq]
  by_cases h:a<b
  ·exact .inl (.inl h)
  ·by_cases h2:b<a
   ·exact .inr (.inr (.inl h2))
   ·have he:a=b:=UInt8.le_antisymm (UInt8.not_lt.1 h2) (UInt8.not_lt.1 h);subst he
    rcases qEP x y with h3|h3|h3
    ·exact .inl (.inr ⟨rfl,h3⟩)
    ·exact .inr (.inl ⟨rfl,h3⟩)
    ·exact .inr (.inr (.inr ⟨rfl,h3⟩))
theorem qEE (a b:ByteArray):qAS a b<0↔qCD a b=true:=by unfold qAS qCD;rw [ByteArray.toList_eq,ByteArray.toList_eq];exact qNA _ _
theorem qMY {a b:ByteArray} (h:a.data.toList=b.data.toList):a=b:=by
 cases a;cases b;simp only [ByteArray.mk.injEq];exact Array.toList_inj.1 h
theorem qA5 (a b:ByteArray):qAS a b=0↔a=b:=by unfold qAS;rw [qNn];exact⟨qMY,λh=>by rw [h]⟩
theorem qIb {a b c:ByteArray} (h1:qCD a b=true) (h2:qCD b c=true):qCD a c=true:=qDT h1 h2
theorem qHg (a:ByteArray):qCD a a=false:=qBf _
theorem qNO (a b:ByteArray):qCD a b=true∨a=b∨qCD b a=true:=by
 unfold qCD;rw [ByteArray.toList_eq,ByteArray.toList_eq]
 rcases qEP a.data.toList b.data.toList with h|h|h
 ·exact .inl h
 ·exact .inr (.inl (qMY h))
 ·exact .inr (.inr h)
theorem qTY (a b:ByteArray):leB a b=!qCD b a:=by
 unfold leB qCD
 rcases qEP a.toList b.toList with h|h|h
 ·have h2:Op.bytesLess b.toList a.toList=false:=by
   cases h3:Op.bytesLess b.toList a.toList
   ·rfl
   ·have:=qDT h h3;rw [qBf] at this;cases this
  simp [h,h2]
 ·simp [h,qBf]
 ·have h2:Op.bytesLess a.toList b.toList=false:=by
   cases h3:Op.bytesLess a.toList b.toList
   ·rfl
   ·have:=qDT h h3;rw [qBf] at this;cases this
  have h3:a.toList≠b.toList:=λe=>by rw [e,qBf] at h;cases h
  simp [h,h2,h3]
def qTb (l:List ByteArray):Prop:=l.Pairwise (λa b=>qCD a b=true)
def qZ (f:Nat→Int) (n:Nat):Int:=qAY ((List.range n).map f)
theorem qAf {f:Nat→Int} {n:Nat}:qZ f n=0↔∀k,k<n→f k=0:=by
 unfold qZ;rw [qN3];simp
theorem qKJ (f:Nat→Int) (n k:Nat) (h:k≤n):((List.range n).map f).take k=(List.range k).map f:=by
 rw [←List.map_take,List.take_range];congr 2;omega
theorem qCM {f:Nat→Int} {k:Nat} (h:qZ f k=0):qZ f (k+1)=f k:=by
 unfold qZ at *;rw [List.range_succ,List.map_append,qFK,if_pos h];simp only [List.map_cons,List.map_nil,qAY];split <;> simp_all
theorem qBL {f:Nat→Int} {n k:Nat} (hk:k<n) (h:qZ f k=0) (h1:f k≠0):qZ f n=f k:=by
 unfold qZ at *;have hl:k<((List.range n).map f).length:=by simpa using hk
 rw [qGr _ k hl (by rw [qKJ f n k oM];exact h) (by simpa using h1)];simp
def qUx (l:List qBJ) (k:ByteArray):Int:=qAu (λs=>decide (s.key=k)) l
def qKE (l:List qBJ) (k:ByteArray):Option qBJ:=l.find? (λs=>decide (s.key=k))
def qSG (l:List qBJ) (k:Nat):Int :=
 match l[k]? with
 | none=>0
 | some s=>if s.par.size=0 then 0 else match qKE l s.par with
  | none=>8
  | some x=>if zC s.port 1 x.ways then 1 else 0
abbrev qSq:Type:=ByteArray × Int
def qSn (l:List qBJ) (k:Nat) (q:qSq):Bool:=(l.take k).any λs=>decide (s.par.size≠0) && decide ((s.par,s.port)=q)
def qUP (l:List qBJ) (k:Nat):Bool:=match l[k]? with|some s=>decide (s.par.size≠0) && qSn l k (s.par,s.port)|none=>false
def qTq (l:List qBJ) (n:Nat):Bool:=(List.range n).any (qUP l)
def upS (l:List qBJ) (s:qBJ):qBJ:=if s.par.size=0 then s else (qKE l s.par).getD s
def upN (l:List qBJ):Nat→qBJ→qBJ
 | 0,s=>s
 | n+1,s=>upS l (upN l n s)
def qTn (l:List qBJ) (s:qBJ):Bool:=decide ((upN l l.length s).par.size≠0)
def qUw (l:List qBJ):Prop:=∀s∈l,s.par.size≠0→∃x∈l,qKE l s.par=some x
def qKt (l:List qBJ) (d:List Drp) (k:Nat):Int :=
 match d[k]? with
 | none=>0
 | some x=>if qL x.cust=false then 5 else match qKE l x.spl with
  | none=>8
  | some s=>if zC x.port 1 s.ways then 1 else if 0<k∧leB x.cust (d[k - 1]?.getD default).cust=true then 7 else 0
def qUT (l:List qBJ) (d:List Drp) (k:Nat) (q:qSq):Bool:=qSn l l.length q || (d.take k).any λx=>decide ((x.spl,x.port)=q)
def qUa (l:List qBJ) (d:List Drp) (k:Nat):Bool:=match d[k]? with|some x=>qUT l d k (x.spl,x.port)|none=>false
def qTm (l:List qBJ) (d:List Drp) (n:Nat):Bool:=(List.range n).any (qUa l d)
def qTh (l:List qBJ) (d:List Drp):Int:=if 5000<d.length then 2 else if qZ (qKt l d) d.length≠0 then qZ (qKt l d) d.length else if qTm l d d.length then 6 else 0
structure SOk (l:List qBJ):Prop where
 len:l.length≤500
 rise:qTb (l.map (·.key))
 keys:∀s∈l,qL s.key=true∧qUV s.ways=true
theorem qFG {s:ByteArray} (h:qL s=true):1≤s.size∧s.size≤40:=by
 unfold qL at h;simp only [Bool.and_eq_true,decide_eq_true_eq] at h;exact h.1.1
structure TOk (l:List qBJ) (d:List Drp):Prop where
 s:SOk l
 par:qZ (qSG l) l.length=0
 tw:qTq l l.length=false
 lp:l.any (qTn l)=false
 dr:qTh l d=0
structure qQ where
 cable:ByteArray
 no:Int
deriving DecidableEq,Inhabited
structure Job where
 kind:Int
 site:ByteArray
 x:qQ
 y:qQ
 loss:Int
 mins:Int
deriving DecidableEq,Inhabited
def Job.cells (j:Job):List Value:=[.int .i64 j.kind,.string j.site,.string j.x.cable,.int .i64 j.x.no,.string j.y.cable,.int .i64 j.y.no,.int .i64 j.loss,.int .i64 j.mins]
structure qJ where
 key:ByteArray
 kind:Int
deriving DecidableEq,Inhabited
def qJ.cells (x:qJ):List Value:=[.string x.key,.int .i64 x.kind]
theorem qJ.cells_len (x:qJ):x.cells.length=2:=rfl
structure qG where
 key:ByteArray
 a:ByteArray
 b:ByteArray
 long:Int
 fibs:Int
deriving DecidableEq,Inhabited
def qG.cells (x:qG):List Value:=[.string x.key,.string x.a,.string x.b,.int .i64 x.long,.int .i64 x.fibs]
theorem qG.cells_len (x:qG):x.cells.length=5:=rfl
def qQ.cells (x:qQ):List Value:=[.string x.cable,.int .i64 x.no]
theorem qQ.cells_len (x:qQ):x.cells.length=2:=rfl
structure qE where
 site:ByteArray
 x:qQ
 y:qQ
 loss:Int
deriving DecidableEq,Inhabited
def qE.cells (s:qE):List Value:=[.string s.site,.string s.x.cable,.int .i64 s.x.no,.string s.y.cable,.int .i64 s.y.no,.int .i64 s.loss]
theorem qE.cells_len (x:qE):x.cells.length=6:=rfl
structure Hop where
 fib:qQ
 fr:ByteArray
 tw:ByteArray
deriving DecidableEq,Inhabited
def Hop.cells (h:Hop):List Value:=[.string h.fib.cable,.int .i64 h.fib.no,.string h.fr,.string h.tw]
theorem Hop.cells_len (x:Hop):x.cells.length=4:=rfl
def eS:ByteArray:=⟨#[]⟩
def qAG (S:List qJ) (k:ByteArray):Int:=match S.find? (fun s=>decide (s.key=k)) with|some s=>s.kind|none=>0
def qAQ (S:List qJ) (k:ByteArray):Bool:=decide (0<qAG S k)
def qY (C:List qG) (k:ByteArray):Option qG:=C.find? fun c=>decide (c.key=k)
def qAH:qG:=⟨eS,eS,eS,0,0⟩
def qAi:qE:=⟨eS,⟨eS,0⟩,⟨eS,0⟩,0⟩
def jX (C:List qG) (f:qQ):Bool:=match qY C f.cable with|some c=>decide (1≤f.no∧f.no≤c.fibs)|none=>false
def qAA (C:List qG) (f:qQ) (site:ByteArray):Bool:=match qY C f.cable with|some c=>decide (c.a=site∨c.b=site)|none=>false
def qGQ (n:Int):Int:=if n<0 then -1 else if 0<n then 1 else 0
def jN (a b:qQ):Int:=if a.cable≠b.cable then qAS a.cable b.cable else qGQ (a.no - b.no)
def zF (a b:qE):Int:=if a.site≠b.site then qAS a.site b.site else if a.x≠b.x then jN a.x b.x else jN a.y b.y
def zD (X:List qE) (f:qQ) (site:ByteArray):Option qE:=X.find? fun s=>decide (s.site=site∧(s.x=f∨s.y=f))
def zW (C:List qG) (f:qQ) (site:ByteArray):ByteArray:=match qY C f.cable with|some c=>if c.a=site then c.b else c.a|none=>eS
def qD3 (S:List qJ) (k:Nat):Int:=match S[k]? with
 | none=>0
 | some s=>if qL s.key=false then 5 else if zC s.kind 1 4 then 4 else if 0<k∧leB s.key (S[k - 1]?.getD default).key=true then 7 else 0
def qEm (S:List qJ) (C:List qG) (k:Nat):Int:=match C[k]? with
 | none=>0
 | some c=>if qL c.key=false then 5 else if qAQ S c.a=false∨qAQ S c.b=false then 8 else if c.a=c.b then 6 else if zC c.long 1 200000=true∨zC c.fibs 1 144=true then 1 else if 0<k∧leB c.key (C[k - 1]?.getD default).key=true then 7 else 0
def jA (S:List qJ) (C:List qG) (s:qE):Int :=
 if qAQ S s.site=false∨jX C s.x=false∨jX C s.y=false then 8 else if qAG S s.site=4 then 4
 else if qAA C s.x s.site=false∨qAA C s.y s.site=false∨0≤jN s.x s.y then 3 else if zC s.loss 0 10000 then 1 else 0
def qBd (S:List qJ) (C:List qG) (X:List qE) (k:Nat):Int:=match X[k]? with
 | none=>0
 | some s=>if jA S C s≠0 then jA S C s else if 0<k∧0≤zF (X[k - 1]?.getD default) s then 7 else 0
def qA8 (S:List qJ) (C:List qG):Int :=
 if 200<S.length then 2 else if qZ (qD3 S) S.length≠0 then qZ (qD3 S) S.length else if 300<C.length then 2 else qZ (qEm S C) C.length
def jC (o s:qE):Bool:=decide (o.site=s.site∧(o.x=s.x∨o.x=s.y∨o.y=s.x∨o.y=s.y))
def qCC (X:List qE) (k:Nat):Int:=match X[k]? with|none=>0|some s=>if (X.take k).any (fun o=>jC o s) then 6 else 0
def qAg (S:List qJ) (C:List qG) (X:List qE):Int :=
 if qA8 S C≠0 then qA8 S C else if 5000<X.length then 2 else if qZ (qBd S C X) X.length≠0 then qZ (qBd S C X) X.length else qZ (qCC X) X.length
structure qD where
 team:ByteArray
 no:Int
 at_:Int
 kind:Int
 site:qJ
 cab:qG
 spc:qE
deriving DecidableEq,Inhabited
def qD.cells (e:qD):List Value:=[.string e.team,.int .i64 e.no,.int .i64 e.at_,.int .i64 e.kind,.string e.site.key,.int .i64 e.site.kind,
 .string e.cab.key,.string e.cab.a,.string e.cab.b,.int .i64 e.cab.long,.int .i64 e.cab.fibs,
 .string e.spc.site,.string e.spc.x.cable,.int .i64 e.spc.x.no,.string e.spc.y.cable,.int .i64 e.spc.y.no,.int .i64 e.spc.loss]
theorem qD.cells_len (x:qD):x.cells.length=17:=rfl
def qED:qJ:=⟨eS,0⟩
def qAx:qD:=⟨eS,0,0,0,qED,qAH,qAi⟩
def qCq (e:qD):Bool :=
 if e.kind=1 then decide (e.cab=qAH∧e.spc=qAi)
 else if e.kind=2 then decide (e.site=qED∧e.spc=qAi)
 else if e.kind=3 then decide (e.site=qED∧e.cab=qAH)
 else if e.kind=4 then decide (e.site=qED∧e.cab=qAH∧e.spc.loss=0)
 else decide (e.site=qED∧e.spc=qAi∧e.cab={ qAH with key:=e.cab.key }) && qL e.cab.key
def qCl (n:Int):Bool:=!zC n 0 345686399999
def qBm (e:qD):Int:=if qL e.team=false then 5 else if zC e.no 1 2000=true∨qCl e.at_=false then 1 else if zC e.kind 1 5=true then 4 else if qCq e=false then 3 else 0
def qBt (a b:Int):Int:=if a<b then -1 else if b<a then 1 else 0
def qP (a b:qD):Int:=if qAS a.team b.team≠0 then qAS a.team b.team else qBt a.no b.no
structure Pl where
 S:List qJ
 C:List qG
 X:List qE
deriving Inhabited
def Pl.nil:Pl:=⟨[],[],[]⟩
def qA4 (s:qJ):Int:=if qL s.key=false then 5 else if zC s.kind 1 4=true then 4 else 0
def jP (S:List qJ) (c:qG):Int:=if qL c.key=false then 5 else if qAQ S c.a=false∨qAQ S c.b=false then 8 else if c.a=c.b then 6 else if zC c.long 1 200000=true∨zC c.fibs 1 144=true then 1 else 0
def zP (a b:qE):Bool:=decide (a.site=b.site∧a.x=b.x∧a.y=b.y)
def qG4 {α:Type} (lt:α→Bool) (x:α) (l:List α):List α:=l.takeWhile lt++x::l.dropWhile lt
def jV {α:Type} (c:α→α→Int) (x:α) (l:List α):List α:=qG4 (fun y=>decide (c y x<0)) x l
def cS (a b:qJ):Int:=qAS a.key b.key
def cC (a b:qG):Int:=qAS a.key b.key
def qHx (S:List qJ) (s:qJ):List qJ:=jV cS s S
def qH2 (C:List qG) (s:qG):List qG:=jV cC s C
def qG1 (X:List qE) (s:qE):List qE:=jV zF s X
def qAL (k:ByteArray) (s:qE):Bool:=decide (s.x.cable=k∨s.y.cable=k)
def zV (p:Pl) (e:qD):Int × Pl :=
 if e.kind=1 then (if p.S.any (fun y=>decide (y.key=e.site.key)) then (6,p) else if qA4 e.site≠0 then (qA4 e.site,p) else (0,{ p with S:=qHx p.S e.site }))
 else if e.kind=2 then (if p.C.any (fun y=>decide (y.key=e.cab.key)) then (6,p) else if jP p.S e.cab≠0 then (jP p.S e.cab,p) else (0,{ p with C:=qH2 p.C e.cab }))
 else if e.kind=3 then (if jA p.S p.C e.spc≠0 then (jA p.S p.C e.spc,p) else if p.X.any (zP e.spc) then (7,p) else if p.X.any (fun o=>jC o e.spc) then (6,p) else (0,{ p with X:=qG1 p.X e.spc }))
 else if e.kind=4 then (if p.X.any (zP e.spc) then (0,{ p with X:=p.X.filter fun y=>!zP e.spc y }) else (8,p))
 else (if p.C.any (fun y=>decide (y.key=e.cab.key)) then (0,{ p with C:=p.C.filter (fun y=>!decide (y.key=e.cab.key)),X:=p.X.filter fun y=>!qAL e.cab.key y }) else (8,p))
def qFJ (l:List qD):Pl:=l.foldl (fun p e=>(zV p e).2) Pl.nil
structure ZeT where
 n:Nat
structure ZxT where
 n:Nat
def zE:ZeT:=⟨0⟩
def zX:ZxT:=⟨0⟩
instance : CoeOut ZeT (Array Value) := ⟨fun _ => #[.string ⟨#[]⟩, .int .i64 0, .int .i64 0, .int .i64 0, .string ⟨#[]⟩, .int .i64 0, .string ⟨#[]⟩, .string ⟨#[]⟩, .string ⟨#[]⟩, .int .i64 0, .int .i64 0, .string ⟨#[]⟩, .string ⟨#[]⟩, .int .i64 0, .string ⟨#[]⟩, .int .i64 0, .int .i64 0]⟩
instance : CoeOut ZxT (Array Value) := ⟨fun _ => #[.string ⟨#[]⟩, .string ⟨#[]⟩, .int .i64 0, .string ⟨#[]⟩, .int .i64 0, .int .i64 0]⟩
instance : CoeOut qD (Array Value) := ⟨fun x => #[.string (x).team, .int .i64 (x).no, .int .i64 (x).at_, .int .i64 (x).kind, .string (x).site.key, .int .i64 (x).site.kind, .string (x).cab.key, .string (x).cab.a, .string (x).cab.b, .int .i64 (x).cab.long, .int .i64 (x).cab.fibs, .string (x).spc.site, .string (x).spc.x.cable, .int .i64 (x).spc.x.no, .string (x).spc.y.cable, .int .i64 (x).spc.y.no, .int .i64 (x).spc.loss]⟩
instance : CoeOut qD (List Value) := ⟨fun x => [.string (x).team, .int .i64 (x).no, .int .i64 (x).at_, .int .i64 (x).kind, .string (x).site.key, .int .i64 (x).site.kind, .string (x).cab.key, .string (x).cab.a, .string (x).cab.b, .int .i64 (x).cab.long, .int .i64 (x).cab.fibs, .string (x).spc.site, .string (x).spc.x.cable, .int .i64 (x).spc.x.no, .string (x).spc.y.cable, .int .i64 (x).spc.y.no, .int .i64 (x).spc.loss]⟩
instance : CoeOut qE (Array Value) := ⟨fun x => #[.string (x).site, .string (x).x.cable, .int .i64 (x).x.no, .string (x).y.cable, .int .i64 (x).y.no, .int .i64 (x).loss]⟩
instance : CoeOut qG (Array Value) := ⟨fun x => #[.string (x).key, .string (x).a, .string (x).b, .int .i64 (x).long, .int .i64 (x).fibs]⟩
instance : CoeOut qJ (Array Value) := ⟨fun x => #[.string (x).key, .int .i64 (x).kind]⟩
instance : CoeOut qQ (Array Value) := ⟨fun x => #[.string (x).cable, .int .i64 (x).no]⟩
instance : CoeOut Hop (Array Value) := ⟨fun x => #[.string (x).fib.cable, .int .i64 (x).fib.no, .string (x).fr, .string (x).tw]⟩
section
variable {α : Type} (key : α → ByteArray)
def qUs (L:List α) (j:Nat) (h:j+1<L.length):List α:=(L.set (j+1) L[j]).set j L[j+1]
def qUd (L:List α) (n:Nat):Prop:=∀p q (_:p<q) (_:q<n) (h:n≤L.length),qCD (key L[q]) (key L[p])=false
structure qUv (L0 L:List α) (i j:Nat):Prop where
 perm:L.Perm L0
 ji:j≤i
 il:i<L.length
 part:∀p q (hp:p<q) (hq:q≤i),q≠j→qCD (key L[q]) (key L[p])=false
variable {key}
theorem qJR {a b:ByteArray} (h:qCD a b=true):qCD b a=false:=by
 cases hb:qCD b a
 ·rfl
 ·have:=qIb h hb;rw [qHg] at this;cases this
end
structure zU {α:Type} (c:α→α→Int):Prop where
 flip:∀a b,c a b<0↔0<c b a
 trans:∀a b d,c a b≤0→c b d≤0→c a d≤0
section
variable {α : Type} {c : α → α → Int}
theorem zU.zero (h:zU c) {a b:α} (e:c a b=0):c b a=0:=by
 have h1:=h.flip a b;have h2:=h.flip b a;omega
theorem zU.refl (h:zU c) (a:α):c a a=0:=by
 have:=h.flip a a;omega
theorem zU.le (h:zU c) {a b:α}:c a b≤0↔0≤c b a:=by
 have:=h.flip b a;omega
theorem zU.lt_le (h:zU c) {a b d:α} (h1:c a b<0) (h2:c b d≤0):c a d<0:=by
 have h3:=h.trans a b d oM h2
 rcases Int.lt_or_eq_of_le h3 with h4|h4
 ·exact h4
 ·have h5:=h.trans b d a h2 (by have:=h.zero h4;omega);have:=h.flip a b;omega
theorem zU.le_lt (h:zU c) {a b d:α} (h1:c a b≤0) (h2:c b d<0):c a d<0:=by
 have h3:=h.trans a b d h1 oM
 rcases Int.lt_or_eq_of_le h3 with h4|h4
 ·exact h4
 ·have h5:=h.trans d a b (by have:=h.zero h4;omega) h1;have:=h.flip b d;omega
theorem zU.lt_trans (h:zU c) {a b d:α} (h1:c a b<0) (h2:c b d<0):c a d<0:=h.lt_le h1 oM
def Asc (c:α→α→Int) (l:List α):Prop:=l.Pairwise λa b=>c a b≤0
def qAD (c:α→α→Int) (l:List α):Prop:=l.Pairwise λa b=>c a b<0
theorem qAD.asc {l:List α} (h:qAD c l):Asc c l:=h.imp λh=>by omega
theorem qMX (hc:zU c):∀{L M:List α},L.Perm M→Asc c L→Asc c M→(∀x∈M,∀y∈M,c x y=0→x=y)→L=M
 | [],M,hp,_,_,_=>by rw [List.nil_perm.1 hp]
 | x::L,[],hp,_,_,_=>by have:=hp.length_eq;simp at this
 | x::L,y::M,hp,h1,h2,h3=>by
  unfold Asc at h1 h2;rw [List.pairwise_cons] at h1 h2;have hx:x∈y::M:=hp.mem_iff.1 List.mem_cons_self;have hy:y∈x::L:=hp.mem_iff.2 List.mem_cons_self;have hxy:x=y:=by
   rcases List.mem_cons.1 hx with e|hx'
   ·exact e
   rcases List.mem_cons.1 hy with e|hy'
   ·exact e.symm
   have e1:=h1.1 y hy';have e2:=h2.1 x hx';have:=hc.flip x y;have:=hc.flip y x;exact h3 x hx y List.mem_cons_self oM
  subst hxy;rw [qMX hc (List.perm_cons _ |>.1 hp) h1.2 h2.2 (λa ha b hb=>h3 a (List.mem_cons_of_mem _ ha) b (List.mem_cons_of_mem _ hb))]
theorem qEJ (hc:zU c) {L M:List α} (hp:L.Perm M) (h1:Asc c L) (h2:qAD c M):L=M:=by
 refine qMX hc hp h1 h2.asc λx hx y hy e=>?_
 obtain⟨i,hi,rfl⟩:=List.mem_iff_getElem.1 hx;obtain⟨j,hj,rfl⟩:=List.mem_iff_getElem.1 hy;have hpw:=List.pairwise_iff_getElem.1 h2
 rcases Nat.lt_trichotomy i j with h|h|h
 ·have:=hpw i j hi hj h;omega
 ·subst h;rfl
 ·have:=hpw j i hj hi h;have:=hc.zero e;omega
theorem qQT (hc:zU c) {L X:List α} {x:α} (hp:L.Perm (X++[x])) (h1:Asc c L) (h2:qAD c X):∃A B,L=A++x::B∧X=A++B:=by
 have hx:x∈L:=hp.mem_iff.2 sI;obtain⟨A,B,rfl⟩:=List.append_of_mem hx;refine⟨A,B,rfl,?_⟩;have h3:(A++B).Perm X:=by
  have h4:(x::(A++B)).Perm (x::X):=(List.perm_middle.symm.trans hp).trans sI;exact(List.perm_cons _).1 h4
 have h5:Asc c (A++B):=List.Pairwise.sublist sI h1;exact(qEJ hc h3 h5 h2).symm
theorem qBW (lt:α→Bool) (x:α) (l:List α):(qG4 lt x l).Perm (l++[x]):=by
 unfold qG4;refine List.perm_middle.trans ?_;rw [List.takeWhile_append_dropWhile]
 simpa using (List.perm_append_comm (l₁:=[x]) (l₂:=l))
theorem qQE (q:α→Bool):∀(l:List α),∀y∈l.takeWhile q,q y=true
 | [],_,h=>by simp at h
 | a::l,y,h=>by
  rw [List.takeWhile_cons] at h
  split at h
  ·rename_i ha
   rcases List.mem_cons.1 h with rfl|h
   ·exact ha
   ·exact qQE q l y h
  ·cases h
theorem qOM (q:α→Bool):∀(l:List α) (b:α) (B:List α),l.dropWhile q=b::B→q b=false
 | [],_,_,h=>by simp at h
 | a::l,b,B,h=>by
  rw [List.dropWhile_cons] at h
  split at h
  ·exact qOM q l b B h
  ·rename_i ha
   injection h with h1 h2
   subst h1;simpa using ha
theorem qCz (hc:zU c) {x:α} {l:List α} (hl:qAD c l) (hx:∀y∈l,c y x≠0):qAD c (jV c x l)∧∃i,i≤l.length∧jV c x l=l.take i++x::l.drop i:=by
 unfold jV;have hs:=List.takeWhile_append_dropWhile (p:=λy=>decide (c y x<0)) (l:=l);have h1:∀y∈l.takeWhile (λy=>decide (c y x<0)),c y x<0:=λy hy=>by simpa using qQE _ l y hy
 have h2:∀y∈l.dropWhile (λy=>decide (c y x<0)),c x y<0:=by
  intro y hy
  cases hd:l.dropWhile (λy=>decide (c y x<0)) with
  | nil=>rw [hd] at hy;cases hy
  | cons b B =>
   have hb:¬c b x<0:=by
    simpa using qOM _ l b B hd
   have hbl:b∈l:=by rw [←hs,hd];simp
   have hbx:c x b<0:=by have:=hx b hbl;have:=hc.flip x b;omega
   rw [hd] at hy
   rcases List.mem_cons.1 hy with rfl|hy
   ·exact hbx
   ·have hp:qAD c (b::B):=by rw [←hd];exact List.Pairwise.sublist (List.dropWhile_sublist _) hl
    unfold qAD at hp;rw [List.pairwise_cons] at hp;exact hc.lt_trans hbx (hp.1 y hy)
 refine⟨?_,(l.takeWhile λy=>decide (c y x<0)).length,?_,?_⟩
 ·unfold qAD qG4;rw [List.pairwise_append];refine⟨List.Pairwise.sublist (List.takeWhile_sublist _) hl,?_,?_⟩
  ·rw [List.pairwise_cons];exact⟨h2,List.Pairwise.sublist (List.dropWhile_sublist _) hl⟩
  ·intro a ha b hb
   rcases List.mem_cons.1 hb with rfl|hb
   ·exact h1 a ha
   ·exact hc.lt_trans (h1 a ha) (h2 b hb)
 ·have:=congrArg List.length hs;rw [List.length_append] at this;omega
 ·unfold qG4;generalize ht:l.takeWhile (λy=>decide (c y x<0))=A at *;generalize hd:l.dropWhile (λy=>decide (c y x<0))=B at *;rw [←hs,List.take_left,List.drop_left]
end
theorem qQz (a b:ByteArray):qAS a b<0↔0<qAS b a:=by
 have h1:=qEE a b;have h2:=qEE b a;have h3:=qA5 b a
 rcases qNO a b with h|h|h
 ·have h4:qCD b a=false:=qJR h;have h5:b≠a:=λe=>by rw [e,qHg] at h;cases h
  have h6:qAS a b<0:=h1.2 h;have h7:¬qAS b a<0:=λe=>by rw [h2.1 e] at h4;cases h4
  have h8:qAS b a≠0:=λe=>h5 (h3.1 e)
  omega
 ·subst h;have:qAS a a=0:=h3.2 rfl;omega
 ·have h4:qCD a b=false:=qJR h;have h6:qAS b a<0:=h2.2 h;have h7:¬qAS a b<0:=λe=>by rw [h1.1 e] at h4;cases h4
  omega
theorem qO3 (a b d:ByteArray) (h1:qAS a b≤0) (h2:qAS b d≤0):qAS a d≤0:=by
 rcases Int.lt_or_eq_of_le h1 with h3|h3
 ·rcases Int.lt_or_eq_of_le h2 with h4|h4
  ·have:=(qEE a d).2 (qIb ((qEE a b).1 h3) ((qEE b d).1 h4));omega
  ·rw [qA5] at h4;subst h4;exact h1
 ·rw [qA5] at h3;subst h3;exact h2
theorem qEd:zU qAS:=⟨qQz,qO3⟩
theorem qKZ:zU qBt:=by
 constructor
 ·intro a b;unfold qBt;split <;> split <;> (try split) <;> omega
 ·intro a b d h1 h2;unfold qBt at *;split at h1 <;> split at h2 <;> split <;> (try split at h1) <;> (try split at h2) <;> (try split) <;> omega
theorem qIB {α:Type} {c1 c2:α→α→Int} (h1:zU c1) (h2:zU c2):zU λa b=>if c1 a b≠0 then c1 a b else c2 a b:=by
 constructor
 ·intro a b;have f1:=h1.flip a b;have f2:=h1.flip b a;have f3:=h2.flip a b
  try dsimp only
  by_cases e:c1 a b=0
  ·have e2:c1 b a=0:=h1.zero e;rw [if_neg oM,if_neg oM];exact f3
  ·have e2:c1 b a≠0:=λq=>e (h1.zero q)
   rw [if_pos e,if_pos e2];exact f1
 ·intro a b d q1 q2
  try dsimp only at *
  have le1:c1 a b≤0:=by split at q1 <;> omega
  have le2:c1 b d≤0:=by split at q2 <;> omega
  by_cases e1:c1 a b=0
  ·by_cases e2:c1 b d=0
   ·rw [if_neg oM] at q1 q2;have e3:c1 a d=0:=by
     have:=h1.trans a b d oM oM;have:=h1.trans d b a (by have:=h1.zero e2;omega) (by have:=h1.zero e1;omega);have:=h1.flip a d;have:=h1.flip d a;omega
    rw [if_neg oM];exact h2.trans a b d q1 q2
   ·have:=h1.le_lt le1 (show c1 b d<0 by omega);rw [if_pos oM];omega
  ·have:=h1.lt_le (show c1 a b<0 by omega) le2;rw [if_pos oM];omega
theorem qCY {α β:Type} {c:β→β→Int} (h:zU c) (f:α→β):zU λa b=>c (f a) (f b):=⟨λa b=>h.flip _ _,λa b d=>h.trans _ _ _⟩
theorem qB6:zU qP:=qIB (qCY qEd qD.team) (qCY qKZ qD.no)
theorem qPa (a b:Int):qGQ (a - b)=qBt a b:=by unfold qGQ qBt;split <;> split <;> (try split) <;> (try split) <;> omega
theorem qHt (a b:qQ):jN a b=if qAS a.cable b.cable≠0 then qAS a.cable b.cable else qBt a.no b.no:=by
 unfold jN;rw [qPa]
 by_cases h:a.cable=b.cable
 ·rw [if_neg (by simp [h]),if_neg (by simp [(qA5 _ _).2 h])]
 ·rw [if_pos h,if_pos (λe=>h ((qA5 _ _).1 e))]
theorem qIE:zU jN:=by
 have h:=qIB (qCY qEd qQ.cable) (qCY qKZ qQ.no);have e:jN=λa b=>if qAS a.cable b.cable≠0 then qAS a.cable b.cable else qBt a.no b.no:=by funext a b;exact qHt a b
 rw [e];exact h
theorem qGG {a b:Int}:qBt a b=0↔a=b:=by unfold qBt;split <;> (try split) <;> omega
theorem qC5 {a b:qQ}:jN a b=0↔a=b:=by
 rw [qHt]
 constructor
 ·intro h
  by_cases h1:qAS a.cable b.cable=0
  ·rw [if_neg oM] at h
   cases a;cases b
   simp only [qQ.mk.injEq];exact⟨(qA5 _ _).1 h1,qGG.1 h⟩
  ·rw [if_pos h1] at h;exact absurd h h1
 ·rintro rfl;have h1:qAS a.cable a.cable=0:=(qA5 _ _).2 rfl;rw [if_neg oM];exact qGG.2 rfl
theorem qH5 (a b:qE):zF a b=if qAS a.site b.site≠0 then qAS a.site b.site else if jN a.x b.x≠0 then jN a.x b.x else jN a.y b.y:=by
 unfold zF
 by_cases h:a.site=b.site
 ·have h1:qAS a.site b.site=0:=(qA5 _ _).2 h;rw [if_neg (show ¬a.site≠b.site by simp [h]),if_neg (show ¬qAS a.site b.site≠0 by omega)]
  by_cases h2:a.x=b.x
  ·have h3:jN a.x b.x=0:=qC5.2 h2;rw [if_neg (show ¬a.x≠b.x by simp [h2]),if_neg (show ¬jN a.x b.x≠0 by omega)]
  ·rw [if_pos h2,if_pos (show jN a.x b.x≠0 from λe=>h2 (qC5.1 e))]
 ·rw [if_pos h,if_pos (show qAS a.site b.site≠0 from λe=>h ((qA5 _ _).1 e))]
theorem qAh:zU zF:=by
 have h:=qIB (qCY qEd qE.site) (qIB (qCY qIE qE.x) (qCY qIE qE.y));have e:zF=λa b=>if qAS a.site b.site≠0 then qAS a.site b.site else if jN a.x b.x≠0 then jN a.x b.x else jN a.y b.y:=by funext a b;exact qH5 a b
 rw [e];exact h
theorem qC8 {a b:qE}:zF a b=0↔zP a b=true:=by
 rw [qH5];unfold zP;rw [decide_eq_true_eq]
 constructor
 ·intro h
  by_cases h1:qAS a.site b.site=0
  ·rw [if_neg oM] at h
   by_cases h2:jN a.x b.x=0
   ·rw [if_neg oM] at h;exact⟨(qA5 _ _).1 h1,qC5.1 h2,qC5.1 h⟩
   ·rw [if_pos h2] at h;exact absurd h h2
  ·rw [if_pos h1] at h;exact absurd h h1
 ·rintro⟨h1,h2,h3⟩;rw [if_neg (by simp [(qA5 _ _).2 h1]),if_neg (by simp [qC5.2 h2])];exact qC5.2 h3
theorem qGK:zU cS:=qCY qEd qJ.key
theorem qGH:zU cC:=qCY qEd qG.key
structure jS (p:Pl):Prop where
 s1:qAD cS p.S
 s2:∀s∈p.S,qA4 s=0
 c1:qAD cC p.C
 c2:∀c∈p.C,jP p.S c=0
 x1:qAD zF p.X
 x2:∀x∈p.X,jA p.S p.C x=0
 x3:p.X.Pairwise λa b=>jC a b=false
theorem qOA:jS Pl.nil:=by constructor <;> simp [Pl.nil,qAD]
theorem qI5 {f:Nat→Int} {n k:Nat} (hk:k<n) (h:∀j,j<n→j≠k→f j=0):qZ f n=f k:=by
 by_cases h0:f k=0
 ·rw [h0,qAf];intro j hj
  by_cases e:j=k
  ·rw [e];exact h0
  ·exact h j hj e
 ·exact qBL hk (qAf.2 λj hj=>h j oM oM) h0
theorem qKR {α:Type} {c:α→α→Int} {l:List α} (h:qAD c l) {k:Nat} (hk:k<l.length) (h0:0<k) [Inhabited α]:c (l[k - 1]?.getD default) l[k]<0:=by
 rw [List.getElem?_eq_getElem oM];exact List.pairwise_iff_getElem.1 h (k - 1) k oM hk oM
theorem qIJ {a b:ByteArray} (h:qAS a b<0):leB b a=false:=by
 rw [qTY,(qEE a b).1 h];rfl
theorem qHC {S:List qJ} (h:qAD cS S) {k:Nat} (hk:k<S.length):qD3 S k=qA4 S[k]:=by
 unfold qD3 qA4;rw [List.getElem?_eq_getElem hk];dsimp only
 split
 ·rfl
 ·split
  ·rfl
  ·rw [if_neg];rintro⟨h0,h1⟩;rw [qIJ (qKR h hk h0)] at h1;cases h1
theorem qIv {S:List qJ} {C:List qG} (h:qAD cC C) {k:Nat} (hk:k<C.length):qEm S C k=jP S C[k]:=by
 unfold qEm jP;rw [List.getElem?_eq_getElem hk];dsimp only
 split
 ·rfl
 ·split
  ·rfl
  ·split
   ·rfl
   ·split
    ·rfl
    ·rw [if_neg];rintro⟨h0,h1⟩;rw [qIJ (qKR h hk h0)] at h1;cases h1
theorem qJE {S:List qJ} {C:List qG} {X:List qE} (h:qAD zF X) {k:Nat} (hk:k<X.length):qBd S C X k=jA S C X[k]:=by
 unfold qBd;rw [List.getElem?_eq_getElem hk];dsimp only
 split
 ·rfl
 ·rename_i h1
  rw [if_neg]
  ·omega
  ·rintro⟨h0,h2⟩;have:=qKR h hk h0;omega
theorem qGp (a b:qE):jC a b=jC b a:=by
 unfold jC;rw [Bool.eq_iff_iff,decide_eq_true_eq,decide_eq_true_eq]
 constructor
 ·rintro⟨h1,h2|h2|h2|h2⟩
  ·exact⟨h1.symm,.inl h2.symm⟩
  ·exact⟨h1.symm,.inr (.inr (.inl h2.symm))⟩
  ·exact⟨h1.symm,.inr (.inl h2.symm)⟩
  ·exact⟨h1.symm,.inr (.inr (.inr h2.symm))⟩
 ·rintro⟨h1,h2|h2|h2|h2⟩
  ·exact⟨h1.symm,.inl h2.symm⟩
  ·exact⟨h1.symm,.inr (.inr (.inl h2.symm))⟩
  ·exact⟨h1.symm,.inr (.inl h2.symm)⟩
  ·exact⟨h1.symm,.inr (.inr (.inr h2.symm))⟩
theorem qHI {X:List qE}:qZ (qCC X) X.length=0↔X.Pairwise λa b=>jC a b=false:=by
 rw [qAf,List.pairwise_iff_getElem]
 constructor
 ·intro h i j hi hj hij;have:=h j hj;unfold qCC at this;rw [List.getElem?_eq_getElem hj] at this;dsimp only at this
  cases hm:jC X[i] X[j]
  ·rfl
  ·rw [if_pos] at this
   ·omega
   ·rw [List.any_eq_true];exact⟨X[i],List.mem_take_iff_getElem.2 ⟨i,by omega,rfl⟩,hm⟩
 ·intro h k hk;unfold qCC;rw [List.getElem?_eq_getElem hk];dsimp only;rw [if_neg];intro h1;obtain⟨o,ho,h2⟩:=List.any_eq_true.1 h1;obtain⟨i,hi,rfl⟩:=List.mem_take_iff_getElem.1 ho;rw [h i k oM hk oM] at h2;cases h2
theorem qKn {X:List qE} (h:qZ (qCC X) X.length≠0):qZ (qCC X) X.length=6:=by
 have h1:∀n,qZ (qCC X) n=0∨qZ (qCC X) n=6:=by
  intro n
  induction n with
  | zero=>exact .inl (qAf.2 λk hk=>by omega)
  | succ n ih =>
   rcases ih with ih|ih
   ·rw [qCM ih];unfold qCC
    split
    ·exact .inl rfl
    ·split
     ·exact .inr rfl
     ·exact .inl rfl
   ·refine .inr ?_;have:∃k,k<n∧qZ (qCC X) k=0∧qCC X k≠0:=first_hit oM;obtain⟨k,hk,h2,h3⟩:=this;rw [qBL (n:=n+1) oM h2 h3,←qBL hk h2 h3];exact ih
 exact(h1 _).resolve_left h
where
 first_hit {f:Nat→Int}:∀{n:Nat},qZ f n≠0→∃k,k<n∧qZ f k=0∧f k≠0
 | 0,h=>absurd (qAf.2 λk hk=>by omega) h
 | n+1,h=>by
  by_cases h0:qZ f n=0
  ·rw [qCM h0] at h;exact⟨n,by omega,h0,h⟩
  ·obtain⟨k,hk,h1,h2⟩:=first_hit h0;exact⟨k,by omega,h1,h2⟩
theorem qFW {p:Pl} (h:jS p) (hs:p.S.length≤200) (hc:p.C.length≤300) (hx:p.X.length≤5000):qA8 p.S p.C=0∧qAg p.S p.C p.X=0:=by
 have e1:qZ (qD3 p.S) p.S.length=0:=qAf.2 λk hk=>by rw [qHC h.s1 hk];exact h.s2 _ (List.getElem_mem _)
 have e2:qZ (qEm p.S p.C) p.C.length=0:=qAf.2 λk hk=>by rw [qIv h.c1 hk];exact h.c2 _ (List.getElem_mem _)
 have e3:qZ (qBd p.S p.C p.X) p.X.length=0:=qAf.2 λk hk=>by rw [qJE h.x1 hk];exact h.x2 _ (List.getElem_mem _)
 have e4:=qHI.2 h.x3;have e5:qA8 p.S p.C=0:=by unfold qA8;rw [if_neg oM,e1,e2];simp;omega
 refine⟨e5,?_⟩;unfold qAg;rw [e5,e3,e4];simp;omega
theorem qHA {α:Type} {key:α→ByteArray} {k:ByteArray} {x:α} {A B:List α} (h:key x≠k):(A++x::B).find? (λs=>decide (key s=k))=(A++B).find? (λs=>decide (key s=k)):=by
 simp [List.find?_append,List.find?_cons,h]
theorem qQY {A B:List qJ} {s:qJ} {k:ByteArray} (h:s.key≠k):qAG (A++s::B) k=qAG (A++B) k:=by
 unfold qAG;rw [qHA (key:=qJ.key) h]
theorem qRs {A B:List qG} {s:qG} {k:ByteArray} (h:s.key≠k):qY (A++s::B) k=qY (A++B) k:=by
 unfold qY;rw [qHA (key:=qG.key) h]
theorem qJb {S:List qJ} {k:ByteArray} (h:S.any (λy=>decide (y.key=k))=false):qAG S k=0:=by
 unfold qAG;have:S.find? (λs=>decide (s.key=k))=none:=by
  rw [List.find?_eq_none];intro x hx;have:=List.any_eq_false.1 h x hx;simpa using this
 rw [this]
theorem qEI {S:List qG} {k:ByteArray}:qY S k=none↔S.any (λy=>decide (y.key=k))=false:=by
 unfold qY;rw [List.find?_eq_none,List.any_eq_false]
theorem qIz {p:Pl} (h:jS p) (k:ByteArray):qAQ p.S k=p.S.any λy=>decide (y.key=k):=by
 unfold qAQ qAG
 cases hf:p.S.find? (λs=>decide (s.key=k)) with
 | none =>
  have:p.S.any (λy=>decide (y.key=k))=false:=by
   rw [List.any_eq_false];intro x hx;have:=List.find?_eq_none.1 hf x hx;exact this
  rw [this];rfl
 | some s =>
  have h1:=List.find?_some hf;have h2:=List.mem_of_find?_eq_some hf;have h3:=h.s2 s h2;have:p.S.any (λy=>decide (y.key=k))=true:=List.any_eq_true.2 ⟨s,h2,h1⟩;rw [this];unfold qA4 at h3
  split at h3
  ·omega
  ·split at h3
   ·omega
   ·rename_i h4
    have h5:zC s.kind 1 4=false:=by cases hq:zC s.kind 1 4 <;> simp_all
    have:=qAU.1 h5;simp;omega
theorem qEa {S:List qJ} {c:qG} (h:jP S c=0):qAQ S c.a=true∧qAQ S c.b=true∧c.a≠c.b:=by
 unfold jP at h
 split at h
 ·omega
 ·split at h
  ·omega
  ·rename_i h1
   split at h
   ·omega
   ·rename_i h2
    refine⟨?_,?_,h2⟩
    ·cases hq:qAQ S c.a
     ·exact absurd (Or.inl hq) h1
     ·rfl
    ·cases hq:qAQ S c.b
     ·exact absurd (Or.inr hq) h1
     ·rfl
theorem qP1 {S S':List qJ} {c:qG} (h1:qAQ S' c.a=qAQ S c.a) (h2:qAQ S' c.b=qAQ S c.b):jP S' c=jP S c:=by unfold jP;rw [h1,h2]
theorem qDY {S:List qJ} {C:List qG} {x:qE} (h:jA S C x=0):qAQ S x.site=true∧jX C x.x=true∧jX C x.y=true∧qAA C x.x x.site=true∧qAA C x.y x.site=true∧jN x.x x.y<0:=by
 unfold jA at h
 split at h
 ·omega
 ·rename_i h1
  split at h
  ·omega
  ·split at h
   ·omega
   ·rename_i h2
    refine⟨?_,?_,?_,?_,?_,?_⟩
    ·cases hq:qAQ S x.site
     ·exact absurd (Or.inl hq) h1
     ·rfl
    ·cases hq:jX C x.x
     ·exact absurd (Or.inr (Or.inl hq)) h1
     ·rfl
    ·cases hq:jX C x.y
     ·exact absurd (Or.inr (Or.inr hq)) h1
     ·rfl
    ·cases hq:qAA C x.x x.site
     ·exact absurd (Or.inl hq) h2
     ·rfl
    ·cases hq:qAA C x.y x.site
     ·exact absurd (Or.inr (Or.inl hq)) h2
     ·rfl
    ·have:¬0≤jN x.x x.y:=λq=>h2 (Or.inr (Or.inr q))
     omega
theorem qM8 {S:List qJ} {k:ByteArray} (h:qAQ S k=true):S.any (λy=>decide (y.key=k))=true:=by
 cases hq:S.any (λy=>decide (y.key=k))
 ·unfold qAQ at h;rw [qJb hq] at h;simp at h
 ·rfl
theorem qMj {S S':List qJ} {C:List qG} {x:qE} (h:qAG S' x.site=qAG S x.site):jA S' C x=jA S C x:=by unfold jA qAQ;rw [h]
theorem qHn {C C':List qG} {f:qQ} (h:qY C' f.cable=qY C f.cable):jX C' f=jX C f:=by unfold jX;rw [h]
theorem qIe {C C':List qG} {f:qQ} {k:ByteArray} (h:qY C' f.cable=qY C f.cable):qAA C' f k=qAA C f k:=by unfold qAA;rw [h]
theorem qHl {S:List qJ} {C C':List qG} {x:qE} (h:qY C' x.x.cable=qY C x.x.cable) (h2:qY C' x.y.cable=qY C x.y.cable):jA S C' x=jA S C x:=by
 unfold jA;rw [qHn h,qHn h2,qIe h,qIe h2]
theorem qCG {C:List qG} {f:qQ} (h:jX C f=true):∃c,qY C f.cable=some c:=by
 unfold jX at h
 cases hg:qY C f.cable with
 | none=>rw [hg] at h;cases h
 | some c=>exact⟨c,rfl⟩
theorem qDw {C:List qG} {k:ByteArray} {c:qG} (h:qY C k=some c):c∈C∧c.key=k:=by
 unfold qY at h;exact⟨List.mem_of_find?_eq_some h,by simpa using List.find?_some h⟩
section
variable {p : Pl} (h : jS p)
include h
theorem qLu {s:qJ} {S':List qJ} (hn:p.S.any (λy=>decide (y.key=s.key))=false) (hp:S'.Perm (p.S++[s])) (ha:Asc cS S') (hs:p.S.length<200) (hc:p.C.length≤300) (hx:p.X.length≤5000) :
  S'=qHx p.S s∧qAg S' p.C p.X=qA4 s∧(qA4 s=0→jS { p with S:=S' }):=by
 have hnk:∀y∈p.S,y.key≠s.key:=λy hy e=>by have:=List.any_eq_false.1 hn y hy;simp [e] at this
 have hlow:=qCz qGK (x:=s) h.s1 λy hy e=>hnk y hy ((qA5 _ _).1 e)
 have e0:S'=qHx p.S s:=qEJ qGK (hp.trans (qBW _ _ _).symm) ha hlow.1;obtain⟨i,hi,e1⟩:=hlow.2;have hasc:qAD cS S':=by rw [e0];exact hlow.1
 have hlen:S'.length=p.S.length+1:=by rw [hp.length_eq];simp
 have e2:S'=p.S.take i++s::p.S.drop i:=by rw [e0];exact e1
 have hsite:∀k,qAQ p.S k=true→qAG S' k=qAG p.S k:=by
  intro k hk;have h1:=qM8 hk;obtain⟨y,hy,hyk⟩:=List.any_eq_true.1 h1;simp only [decide_eq_true_eq] at hyk;have:s.key≠k:=λe=>hnk y hy (hyk.trans e.symm)
  rw [e2,qQY this,List.take_append_drop]
 have hhas:∀k,qAQ p.S k=true→qAQ S' k=qAQ p.S k:=λk hk=>by unfold qAQ;rw [hsite k hk]
 have hall:∀j (hj:j<S'.length),j≠i→qA4 S'[j]=0:=by
  intro j hj hne;have hm:S'[j]∈p.S.take i++s::p.S.drop i:=e2 ▸ List.getElem_mem hj
  rcases List.mem_append.1 hm with h1|h1
  ·exact h.s2 _ (List.mem_of_mem_take h1)
  ·rcases List.mem_cons.1 h1 with h1|h1
   ·exfalso
    have hi':i<S'.length:=by omega
    have hsi:S'[i]=s:=by simp [e2,List.getElem_append,Nat.min_eq_left hi]
    have hcc:cS S'[j] S'[i]=0:=by rw [hsi,h1];exact qGK.refl _
    rcases Nat.lt_or_gt_of_ne hne with q|q
    ·have:=List.pairwise_iff_getElem.1 hasc j i hj hi' q;omega
    ·have:=List.pairwise_iff_getElem.1 hasc i j hi' hj q;have:=qGK.zero hcc;omega
   ·exact h.s2 _ (List.mem_of_mem_drop h1)
 have hsi:∃hi':i<S'.length,S'[i]=s:=⟨by omega,by simp [e2,List.getElem_append,Nat.min_eq_left hi]⟩;obtain⟨hi',hsi⟩:=hsi;have e3:qZ (qD3 S') S'.length=qA4 s:=by
  rw [qI5 (k:=i) oM (λj hj hne=>by rw [qHC hasc hj];exact hall j hj hne),qHC hasc hi',hsi]
 have hR:qA4 s=0→jS { p with S:=S' }:=by
  intro hz;refine⟨hasc,λy hy=>?_,h.c1,λc hcm=>?_,h.x1,λx hxm=>?_,h.x3⟩
  ·obtain⟨j,hj,rfl⟩:=List.mem_iff_getElem.1 hy
   by_cases e:j=i
   ·subst e;rw [hsi];exact hz
   ·exact hall j hj e
  ·have h1:=qEa (h.c2 c hcm)
   show jP S' c=0
   rw [qP1 (hhas _ h1.1) (hhas _ h1.2.1)];exact h.c2 c hcm
  ·have h1:=qDY (h.x2 x hxm)
   show jA S' p.C x=0
   rw [qMj (hsite _ h1.1)];exact h.x2 x hxm
 refine⟨e0,?_,hR⟩
 by_cases hz:qA4 s=0
 ·rw [hz];exact(qFW (hR hz) (by rw [show({ p with S:=S' }:Pl).S=S' from rfl];omega) hc hx).2
 ·have:qA8 S' p.C=qA4 s:=by unfold qA8;rw [if_neg oM,e3,if_pos hz]
  unfold qAg;rw [this,if_pos hz]
theorem qK6 {s:qG} {C':List qG} (hn:p.C.any (λy=>decide (y.key=s.key))=false) (hp:C'.Perm (p.C++[s])) (ha:Asc cC C') (hs:p.S.length≤200) (hc:p.C.length<300) (hx:p.X.length≤5000) :
  C'=qH2 p.C s∧qAg p.S C' p.X=jP p.S s∧(jP p.S s=0→jS { p with C:=C' }):=by
 have hnk:∀y∈p.C,y.key≠s.key:=λy hy e=>by have:=List.any_eq_false.1 hn y hy;simp [e] at this
 have hlow:=qCz qGH (x:=s) h.c1 λy hy e=>hnk y hy ((qA5 _ _).1 e)
 have e0:C'=qH2 p.C s:=qEJ qGH (hp.trans (qBW _ _ _).symm) ha hlow.1;obtain⟨i,hi,e1⟩:=hlow.2;have hasc:qAD cC C':=by rw [e0];exact hlow.1
 have hlen:C'.length=p.C.length+1:=by rw [hp.length_eq];simp
 have e2:C'=p.C.take i++s::p.C.drop i:=by rw [e0];exact e1
 have hcab:∀k c,qY p.C k=some c→qY C' k=qY p.C k:=by
  intro k c hk;have h1:=qDw hk;have:s.key≠k:=λe=>hnk c h1.1 (h1.2.trans e.symm)
  rw [e2,qRs this,List.take_append_drop]
 obtain⟨hi',hsi⟩:∃hi':i<C'.length,C'[i]=s:=⟨by omega,by simp [e2,List.getElem_append,Nat.min_eq_left hi]⟩;have hall:∀j (hj:j<C'.length),j≠i→jP p.S C'[j]=0:=by
  intro j hj hne;have hm:C'[j]∈p.C.take i++s::p.C.drop i:=e2 ▸ List.getElem_mem hj
  rcases List.mem_append.1 hm with h1|h1
  ·exact h.c2 _ (List.mem_of_mem_take h1)
  ·rcases List.mem_cons.1 h1 with h1|h1
   ·exfalso
    have hcc:cC C'[j] C'[i]=0:=by rw [hsi,h1];exact qGH.refl _
    rcases Nat.lt_or_gt_of_ne hne with q|q
    ·have:=List.pairwise_iff_getElem.1 hasc j i hj hi' q;omega
    ·have:=List.pairwise_iff_getElem.1 hasc i j hi' hj q;have:=qGH.zero hcc;omega
   ·exact h.c2 _ (List.mem_of_mem_drop h1)
 have e3:qZ (qEm p.S C') C'.length=jP p.S s:=by
  rw [qI5 (k:=i) oM (λj hj hne=>by rw [qIv hasc hj];exact hall j hj hne),qIv hasc hi',hsi]
 have e4:qZ (qD3 p.S) p.S.length=0:=qAf.2 λk hk=>by rw [qHC h.s1 hk];exact h.s2 _ (List.getElem_mem _)
 have hR:jP p.S s=0→jS { p with C:=C' }:=by
  intro hz;refine⟨h.s1,h.s2,hasc,λy hy=>?_,h.x1,λx hxm=>?_,h.x3⟩
  ·obtain⟨j,hj,rfl⟩:=List.mem_iff_getElem.1 hy
   show jP p.S C'[j]=0
   by_cases e:j=i
   ·subst e;rw [hsi];exact hz
   ·exact hall j hj e
  ·have h1:=qDY (h.x2 x hxm);obtain⟨c1,g1⟩:=qCG h1.2.1;obtain⟨c2,g2⟩:=qCG h1.2.2.1
   show jA p.S C' x=0
   rw [qHl (hcab _ _ g1) (hcab _ _ g2)];exact h.x2 x hxm
 refine⟨e0,?_,hR⟩
 by_cases hz:jP p.S s=0
 ·rw [hz];exact(qFW (hR hz) hs (by rw [show({ p with C:=C' }:Pl).C=C' from rfl];omega) hx).2
 ·have:qA8 p.S C'=jP p.S s:=by unfold qA8;rw [if_neg oM,if_neg oM,if_neg oM,e3]
  unfold qAg;rw [this,if_pos hz]
theorem qLs {s:qE} {X':List qE} (hp:X'.Perm (p.X++[s])) (ha:Asc zF X') (hs:p.S.length≤200) (hc:p.C.length≤300) (hx:p.X.length<5000) :
  qAg p.S p.C X'=(if jA p.S p.C s≠0 then jA p.S p.C s else if p.X.any (zP s) then 7 else if p.X.any (λo=>jC o s) then 6 else 0) ∧
  (qAg p.S p.C X'=0→X'=qG1 p.X s∧jS { p with X:=X' }):=by
 have hlen:X'.length=p.X.length+1:=by rw [hp.length_eq];simp
 obtain⟨A,B,rfl,hAB⟩:=qQT qAh hp ha h.x1;have hpl:qA8 p.S p.C=0:=(qFW h hs hc oM).1;have hbase:qAg p.S p.C (A++s::B)=if qZ (qBd p.S p.C (A++s::B)) (A++s::B).length≠0 then qZ (qBd p.S p.C (A++s::B)) (A++s::B).length else qZ (qCC (A++s::B)) (A++s::B).length:=by
  unfold qAg;rw [hpl,if_neg oM,if_neg oM]
 have hA:∀y∈A,jA p.S p.C y=0:=λy hy=>h.x2 y (by rw [hAB];exact List.mem_append_left _ hy)
 have hB:∀y∈B,jA p.S p.C y=0:=λy hy=>h.x2 y (by rw [hAB];exact List.mem_append_right _ hy)
 have hAsc:qAD zF A:=by have:=h.x1;rw [hAB] at this;exact(List.pairwise_append.1 this).1
 have hlow:∀k (hk:k<A.length),qBd p.S p.C (A++s::B) k=0:=by
  intro k hk;have h1:=qJE (S:=p.S) (C:=p.C) hAsc hk;rw [hA _ (List.getElem_mem _)] at h1;rw [←h1];unfold qBd;rw [List.getElem?_append_left hk]
  by_cases h0:0<k
  ·rw [List.getElem?_append_left oM]
  ·simp [h0]
 have hat:(A++s::B)[A.length]? = some s:=by simp
 by_cases hz:jA p.S p.C s=0
 ·rw [if_neg oM];have hsp:∀k,qBd p.S p.C (A++s::B) k=0∨qBd p.S p.C (A++s::B) k=7:=by
   intro k;unfold qBd
   split
   ·exact .inl rfl
   ·rename_i x hxk
    have:jA p.S p.C x=0:=by
     have hm:=List.mem_of_getElem? hxk
     rcases List.mem_append.1 hm with q|q
     ·exact hA _ q
     ·rcases List.mem_cons.1 q with rfl|q
      ·exact hz
      ·exact hB _ q
    rw [if_neg oM]
    split
    ·exact .inr rfl
    ·exact .inl rfl
  by_cases hpb:p.X.any (zP s)=true
  ·rw [if_pos hpb];have hne:qZ (qBd p.S p.C (A++s::B)) (A++s::B).length≠0:=by
    intro hzero;have hst:qAD zF (A++s::B):=by
     have hall:=qAf.1 hzero;unfold qAD;refine asc_of_steps qAh ha λk hk=>?_
     have h1:=hall (k+1) hk;unfold qBd at h1;rw [List.getElem?_eq_getElem hk] at h1;dsimp only at h1
     split at h1
     ·omega
     ·split at h1
      ·omega
      ·rename_i h2
       have h3:(A++s::B)[k+1 - 1]?.getD default=(A++s::B)[k]:=by
        rw [Nat.add_sub_cancel,List.getElem?_eq_getElem oM];rfl
       rw [h3] at h2;have:¬0≤zF (A++s::B)[k] (A++s::B)[k+1]:=λq=>h2 ⟨by omega,q⟩
       omega
    obtain⟨y,hy,hyp⟩:=List.any_eq_true.1 hpb;have h0:=qC8.2 hyp;unfold qAD at hst;rw [List.pairwise_append,List.pairwise_cons] at hst;rw [hAB] at hy
    rcases List.mem_append.1 hy with q|q
    ·have:=hst.2.2 y q s List.mem_cons_self;have:=qAh.zero h0;omega
    ·have:=hst.2.1.1 y q;omega
   obtain⟨k,hk,h1,h2⟩:=qKn.first_hit hne;have h7:=(hsp k).resolve_left h2;have:qAg p.S p.C (A++s::B)=7:=by rw [hbase,if_pos hne,qBL hk h1 h2];exact h7
   exact⟨this,λq=>by omega⟩
  ·rw [if_neg hpb];have hpn:∀y∈p.X,zF y s≠0:=by
    intro y hy e;have:=List.any_eq_false.1 (Bool.not_eq_true _ ▸ hpb) y hy;exact this (qC8.1 (qAh.zero e))
   have hl2:=qCz qAh (x:=s) h.x1 hpn;have e0:A++s::B=qG1 p.X s:=qEJ qAh (hp.trans (qBW _ _ _).symm) ha hl2.1;have hasc:qAD zF (A++s::B):=by rw [e0];exact hl2.1
   have hspz:qZ (qBd p.S p.C (A++s::B)) (A++s::B).length=0:=by
    rw [qAf];intro k hk;rw [qJE hasc hk];have hm:=List.getElem_mem hk
    rcases List.mem_append.1 hm with q|q
    ·exact hA _ q
    ·rcases List.mem_cons.1 q with q|q
     ·rw [q];exact hz
     ·exact hB _ q
   rw [hbase,if_neg oM];have hpw:(A++s::B).Pairwise (λa b=>jC a b=false)↔∀o∈p.X,jC o s=false:=by
    rw [hp.pairwise_iff (λhab=>by rw [qGp];exact hab),List.pairwise_append]
    constructor
    ·intro q o ho;exact q.2.2 o ho s sI
    ·intro q;exact⟨h.x3,by simp,λa ha b hb=>by rw [List.mem_singleton.1 hb];exact q a ha⟩
   by_cases hm:p.X.any (λo=>jC o s)=true
   ·rw [if_pos hm];have hne:qZ (qCC (A++s::B)) (A++s::B).length≠0:=by
     intro q;obtain⟨o,ho,h1⟩:=List.any_eq_true.1 hm;rw [hpw.1 (qHI.1 q) o ho] at h1;cases h1
    have:=qKn hne;exact⟨this,λq=>by omega⟩
   ·rw [if_neg hm];have hno:∀o∈p.X,jC o s=false:=λo ho=>by
     have:=List.any_eq_false.1 (Bool.not_eq_true _ ▸ hm) o ho;simpa using this
    have hz2:=qHI.2 (hpw.2 hno);refine⟨hz2,λ_=>⟨e0,h.s1,h.s2,h.c1,h.c2,hasc,λx hxm=>?_,hpw.2 hno⟩⟩
    rcases List.mem_append.1 hxm with q|q
    ·exact hA _ q
    ·rcases List.mem_cons.1 q with q|q
     ·rw [q];exact hz
     ·exact hB _ q
 ·have h1:qBd p.S p.C (A++s::B) A.length=jA p.S p.C s:=by unfold qBd;rw [hat];dsimp only;rw [if_pos hz]
  have h2:qZ (qBd p.S p.C (A++s::B)) (A++s::B).length=jA p.S p.C s:=by
   rw [qBL (k:=A.length) sI (qAf.2 hlow) (by rw [h1];exact hz),h1]
  have h3:qAg p.S p.C (A++s::B)=jA p.S p.C s:=by rw [hbase,h2,if_pos hz]
  rw [if_pos hz,h3];exact⟨rfl,λq=>absurd q hz⟩
where
 asc_of_steps {α:Type} {c:α→α→Int} (hc:zU c):∀{l:List α},Asc c l→(∀k (hk:k+1<l.length),c l[k] l[k+1]<0)→l.Pairwise λa b=>c a b<0
 | [],_,_=>List.Pairwise.nil
 | x::l,h1,h2=>by
  unfold Asc at h1;rw [List.pairwise_cons] at h1 ⊢;have ih:=asc_of_steps hc (l:=l) h1.2 λk hk=>by have:=h2 (k+1) (by simpa using hk);simpa using this
  refine⟨λy hy=>?_,ih⟩
  cases l with
  | nil=>cases hy
  | cons z l =>
   have h3:=h2 0 sI;simp only [List.getElem_cons_zero,List.getElem_cons_succ] at h3
   rcases List.mem_cons.1 hy with rfl|hy
   ·exact h3
   ·rw [List.pairwise_cons] at ih;exact hc.lt_trans h3 (ih.1 y hy)
theorem qNy (q:qE→Bool):jS { p with X:=p.X.filter q } :=
 ⟨h.s1,h.s2,h.c1,h.c2,List.Pairwise.sublist List.filter_sublist h.x1,λx hx=>h.x2 x ((List.mem_filter.1 hx).1),List.Pairwise.sublist List.filter_sublist h.x3⟩
theorem qJr (k:ByteArray):jS { p with C:=p.C.filter (λy=>!decide (y.key=k)),X:=p.X.filter λy=>!qAL k y }:=by
 refine⟨h.s1,h.s2,List.Pairwise.sublist List.filter_sublist h.c1,λc hc=>h.c2 c ((List.mem_filter.1 hc).1),List.Pairwise.sublist List.filter_sublist h.x1,λx hx=>?_,List.Pairwise.sublist List.filter_sublist h.x3⟩;obtain⟨hx1,hx2⟩:=List.mem_filter.1 hx;have hg:∀k',k'≠k→qY (p.C.filter λy=>!decide (y.key=k)) k'=qY p.C k':=by
  intro k' hne;unfold qY;rw [List.find?_filter]
  congr 1
  funext c
  by_cases e:c.key=k'
  ·simp [e,hne]
  ·simp [e]
 have hk:x.x.cable≠k∧x.y.cable≠k:=by
  unfold qAL at hx2;simp only [Bool.not_eq_true',decide_eq_false_iff_not] at hx2;exact⟨λe=>hx2 (Or.inl e),λe=>hx2 (Or.inr e)⟩
 show jA p.S (p.C.filter λy=>!decide (y.key=k)) x=0
 rw [qHl (hg _ hk.1) (hg _ hk.2)];exact h.x2 x hx1
end
theorem qJJ {p:Pl} (h:jS p) (e:qD) (hs:p.S.length<200) (hc:p.C.length<300) (hx:p.X.length<5000):jS (zV p e).2∧(zV p e).2.S.length≤p.S.length+1∧(zV p e).2.C.length≤p.C.length+1∧(zV p e).2.X.length≤p.X.length+1:=by
 have hfl:=λ(q:qE→Bool)=>List.length_filter_le q p.X
 have hflc:=λ(q:qG→Bool)=>List.length_filter_le q p.C
 have hins:=fun {α:Type} (c:α→α→Int) (x:α) (l:List α)=>(qBW (λy=>decide (c y x<0)) x l).length_eq
 unfold zV
 split
 ·split
  ·exact⟨h,by simp,by simp,by simp⟩
  ·rename_i hn
   have hlow:=qCz qGK (x:=e.site) h.s1 λy hy e'=>by
    have:=List.any_eq_false.1 (Bool.not_eq_true _ ▸ hn) y hy;exact this (by simpa using (qA5 _ _).1 e')
   have hq:=qLu h (s:=e.site) (Bool.not_eq_true _ ▸ hn) (qBW _ _ _) hlow.1.asc hs oM oM
   split
   ·exact⟨h,by simp,by simp,by simp⟩
   ·rename_i hz
    have:=hins cS e.site p.S;exact⟨hq.2.2 oM,by unfold qHx jV;simp at this ⊢;omega,by simp,by simp⟩
 ·split
  ·split
   ·exact⟨h,by simp,by simp,by simp⟩
   ·rename_i hn
    have hlow:=qCz qGH (x:=e.cab) h.c1 λy hy e'=>by
     have:=List.any_eq_false.1 (Bool.not_eq_true _ ▸ hn) y hy;exact this (by simpa using (qA5 _ _).1 e')
    have hq:=qK6 h (s:=e.cab) (Bool.not_eq_true _ ▸ hn) (qBW _ _ _) hlow.1.asc oM hc oM
    split
    ·exact⟨h,by simp,by simp,by simp⟩
    ·rename_i hz
     have:=hins cC e.cab p.C;exact⟨hq.2.2 oM,by simp,by unfold qH2 jV;simp at this ⊢;omega,by simp⟩
  ·split
   ·split
    ·exact⟨h,by simp,by simp,by simp⟩
    ·rename_i hz
     split
     ·exact⟨h,by simp,by simp,by simp⟩
     ·rename_i hn
      split
      ·exact⟨h,by simp,by simp,by simp⟩
      ·rename_i hm
       have hlow:=qCz qAh (x:=e.spc) h.x1 λy hy e'=>by
        have:=List.any_eq_false.1 (Bool.not_eq_true _ ▸ hn) y hy;exact this (qC8.1 (qAh.zero e'))
       have hq:=qLs h (s:=e.spc) (qBW _ _ _) hlow.1.asc oM oM hx;have:=hins zF e.spc p.X;have hz0:=hq.1;rw [if_neg hz,if_neg hn,if_neg hm] at hz0;exact⟨(hq.2 hz0).2,by simp,by simp,by unfold qG1 jV;simp at this ⊢;omega⟩
   ·split
    ·split
     ·exact⟨qNy h _,by simp,by simp,by have:=hfl (λy=>!zP e.spc y);simp;omega⟩
     ·exact⟨h,by simp,by simp,by simp⟩
    ·split
     ·exact⟨qJr h _,by simp,by have:=hflc (λy=>!decide (y.key=e.cab.key));simp;omega,by have:=hfl (λy=>!qAL e.cab.key y);simp;omega⟩
     ·exact⟨h,by simp,by simp,by simp⟩
theorem qMp (l:List qD) (e:qD):qFJ (l++[e])=(zV (qFJ l) e).2:=by unfold qFJ;rw [List.foldl_append];rfl
theorem qRS:∀(l:List qD),l.length≤150→jS (qFJ l)∧(qFJ l).S.length≤l.length∧(qFJ l).C.length≤l.length∧(qFJ l).X.length≤l.length:=by
 intro l
 induction hn:l.length generalizing l with
 | zero=>obtain rfl:=List.length_eq_zero_iff.1 hn;intro _;exact⟨qOA,by simp [qFJ,Pl.nil],by simp [qFJ,Pl.nil],by simp [qFJ,Pl.nil]⟩
 | succ n ih =>
  intro hl;have hne:l≠[]:=by intro e;rw [e] at hn;simp at hn
  have hd:(l.dropLast).length=n:=by rw [List.length_dropLast];omega
  obtain⟨h1,h2,h3,h4⟩:=ih l.dropLast hd oM;have e:=List.dropLast_concat_getLast hne;rw [←e,qMp];have h5:=qJJ h1 (l.getLast hne) oM oM oM;exact⟨h5.1,by omega,by omega,by omega⟩
def atE (a b:qD):Int:=if qBt a.at_ b.at_≠0 then qBt a.at_ b.at_ else qP a b
theorem qTf:zU atE:=qIB (qCY qKZ qD.at_) qB6
def zZ (l:List qD) (i:Nat):qD:=l[i]?.getD default
theorem qBV {l:List qD} {i:Nat} (h:i<l.length):zZ l i=l[i]:=by unfold zZ;rw [List.getElem?_eq_getElem h];rfl
def cIx (l:List qD) (i j:Nat):Int:=atE (zZ l i) (zZ l j)
theorem qJL (l:List qD):zU (cIx l):=qCY qTf (zZ l)
def qJZ {α:Type} (c:α→α→Int) (l:List α):List α:=l.foldl (λacc x=>jV c x acc) []
theorem qPL {α:Type} {c:α→α→Int} (hc:zU c) {l:List α} (h:l.Pairwise λa b=>c a b≠0):(qJZ c l).Perm l∧qAD c (qJZ c l):=by
 have hgo:∀(l acc:List α),qAD c acc→l.Pairwise (λa b=>c a b≠0)→(∀a∈acc,∀b∈l,c a b≠0)→(l.foldl (λacc x=>jV c x acc) acc).Perm (acc++l)∧qAD c (l.foldl (λacc x=>jV c x acc) acc):=by
  intro l
  induction l with
  | nil=>intro acc h1 _ _;simpa using h1
  | cons x l ih =>
   intro acc h1 h2 h3;rw [List.pairwise_cons] at h2;have hlow:=qCz hc (x:=x) h1 λy hy=>h3 y hy x List.mem_cons_self
   have hp:=qBW (λy=>decide (c y x<0)) x acc;rw [List.foldl_cons];obtain⟨q1,q2⟩:=ih (jV c x acc) hlow.1 h2.2 (λa ha b hb=>by
    rcases List.mem_append.1 (hp.mem_iff.1 ha) with q|q
    ·exact h3 a q b (List.mem_cons_of_mem _ hb)
    ·rw [List.mem_singleton.1 q];exact h2.1 b hb)
   refine⟨q1.trans ?_,q2⟩;have:=hp.append_right l;rw [List.append_assoc] at this;rw [show qG4 (λy=>decide (c y x<0)) x acc=jV c x acc from rfl] at this
   simpa using this
 simpa [qJZ] using hgo l [] List.Pairwise.nil h sI
theorem qSi {a b:qD} (h:atE a b=0):qP a b=0:=by
 unfold atE at h
 split at h
 ·rename_i q;exact absurd h q
 ·exact h
theorem qSg {l:List qD} (hl:qAD qP l) {i j:Nat} (hi:i<l.length) (hj:j<l.length) (h:cIx l i j=0):i=j:=by
 have h1:=qSi h;rw [qBV hi,qBV hj] at h1;have hpw:=List.pairwise_iff_getElem.1 hl
 rcases Nat.lt_trichotomy i j with q|q|q
 ·have:=hpw i j hi hj q;omega
 ·exact q
 ·have:=hpw j i hj hi q;have:=qB6.zero h1;omega
def qFY (l:List qD) (at_:Int):List Nat:=(List.range l.length).filter λi=>decide ((zZ l i).at_≤at_)
def ixL (l:List qD) (at_:Int):List Nat:=qJZ (cIx l) (qFY l at_)
theorem qH0 {l:List qD} {at_:Int} {i:Nat}:i∈qFY l at_↔i<l.length∧(zZ l i).at_≤at_:=by
 unfold qFY;rw [List.mem_filter,List.mem_range,decide_eq_true_eq]
theorem qJB {l:List qD} (hl:qAD qP l) (at_:Int):(ixL l at_).Perm (qFY l at_)∧qAD (cIx l) (ixL l at_):=by
 refine qPL (qJL l) ?_;have hn:(qFY l at_).Pairwise λa b=>a≠b:=(List.nodup_range.sublist List.filter_sublist)
 refine hn.imp_of_mem fun {a b} ha hb hne h=>hne ?_
 exact qSg hl (qH0.1 ha).1 (qH0.1 hb).1 h
theorem qOK {l:List qD} (hl:qAD qP l) {at_:Int} {L:List Nat} (hp:L.Perm (qFY l at_)) (ha:Asc (cIx l) L):L=ixL l at_:=by
 have h:=qJB hl at_;exact qEJ (qJL l) (hp.trans h.1.symm) ha h.2
theorem qSH {a b:qD} (h:atE a b≤0):a.at_≤b.at_:=by
 by_cases q:a.at_≤b.at_
 ·exact q
 ·exfalso
  have h1:qBt a.at_ b.at_=1:=by unfold qBt;rw [if_neg oM,if_pos oM]
  unfold atE at h;rw [if_pos oM,h1] at h;omega
theorem qNq {l:List qD} (hl:qAD qP l) {at_:Int} {L:List Nat} (hp:L.Perm (List.range l.length)) (ha:Asc (cIx l) L) {k:Nat} (hk:k≤L.length) (h1:∀j (hj:j<L.length),j<k→(zZ l L[j]).at_≤at_) (h2:∀h:k<L.length,at_<(zZ l L[k]).at_):L.take k=ixL l at_:=by
 refine qOK hl ?_ (List.Pairwise.sublist (List.take_sublist _ _) ha);have e:L.take k=L.filter λi=>decide ((zZ l i).at_≤at_):=by
  have hs:=List.take_append_drop k L
  conv=>rhs;rw [←hs,List.filter_append]
  have f1:(L.take k).filter (λi=>decide ((zZ l i).at_≤at_))=L.take k:=by
   rw [List.filter_eq_self];intro x hx;obtain⟨j,hj,rfl⟩:=List.mem_take_iff_getElem.1 hx
   simpa using h1 j oM oM
  have f2:(L.drop k).filter (λi=>decide ((zZ l i).at_≤at_))=[]:=by
   rw [List.filter_eq_nil_iff];intro x hx;obtain⟨j,hj,rfl⟩:=List.mem_drop_iff_getElem.1 hx;have hkl:k<L.length:=by omega
   have h3:=h2 hkl;have h4:(zZ l L[k]).at_≤(zZ l L[j+k]).at_:=by
    rcases Nat.eq_zero_or_pos j with q|q
    ·subst q;simp
    ·exact qSH (List.pairwise_iff_getElem.1 ha k (j+k) hkl oM oM)
   simp only [decide_eq_true_eq];have e2:k+j=j+k:=by omega
   simp only [e2];omega
  rw [f1,f2,List.append_nil]
 rw [e];exact hp.filter _
def jU (l:List qD) (L:List Nat):Pl × List (Nat × Int) :=
 L.foldl (λs i=>((zV s.1 (zZ l i)).2,if (zV s.1 (zZ l i)).1≠0 then s.2++[(i,(zV s.1 (zZ l i)).1)] else s.2)) (Pl.nil,[])
theorem qEY (l:List qD) (L:List Nat) (i:Nat):jU l (L++[i])=((zV (jU l L).1 (zZ l i)).2,if (zV (jU l L).1 (zZ l i)).1≠0 then (jU l L).2++[(i,(zV (jU l L).1 (zZ l i)).1)] else (jU l L).2):=by
 unfold jU;rw [List.foldl_append];rfl
theorem qKf (l:List qD):jU l []=(Pl.nil,[]):=rfl
theorem qJj {l:List qD} {L:List Nat} {k:Nat} (h:k<L.length):jU l (L.take (k+1))=((zV (jU l (L.take k)).1 (zZ l L[k])).2,if (zV (jU l (L.take k)).1 (zZ l L[k])).1≠0 then (jU l (L.take k)).2++[(L[k],(zV (jU l (L.take k)).1 (zZ l L[k])).1)] else (jU l (L.take k)).2):=by
 rw [List.take_succ_eq_append_getElem h,qEY]
theorem qEK {α:Type} {motive:List α→Prop} (h0:motive []) (h1:∀l x,motive l→motive (l++[x])):∀l,motive l:=by
 intro l
 induction hn:l.length generalizing l with
 | zero=>obtain rfl:=List.length_eq_zero_iff.1 hn;exact h0
 | succ n ih =>
  have hne:l≠[]:=by intro e;rw [e] at hn;simp at hn
  rw [←List.dropLast_concat_getLast hne];exact h1 _ _ (ih _ (by rw [List.length_dropLast];omega))
theorem qLL (l:List qD):∀L:List Nat,(jU l L).1=qFJ (L.map (zZ l)):=by
 refine qEK rfl λL x ih=>?_
 rw [qEY,List.map_append,List.map_cons,List.map_nil,qMp,ih]
theorem qQu (l:List qD):∀L:List Nat,∀q∈(jU l L).2,q.1∈L∧q.2≠0:=by
 refine qEK (λq h=>by cases h) λL x ih q hq=>?_
 rw [qEY] at hq
 by_cases h:(zV (jU l L).1 (zZ l x)).1≠0
 ·rw [if_pos h] at hq
  rcases List.mem_append.1 hq with r|r
  ·exact⟨List.mem_append_left _ (ih q r).1,(ih q r).2⟩
  ·rw [List.mem_singleton.1 r];exact⟨by simp,h⟩
 ·rw [if_neg h] at hq;exact⟨List.mem_append_left _ (ih q hq).1,(ih q hq).2⟩
theorem qJY (l:List qD) (L:List Nat) (hl:L.length≤150):jS (jU l L).1∧(jU l L).1.S.length≤L.length∧(jU l L).1.C.length≤L.length∧(jU l L).1.X.length≤L.length:=by
 have h:=qRS (L.map (zZ l)) (by simpa using hl);rw [←qLL,List.length_map] at h;exact h
def qBl (R:List (Nat × Int)) (i:Nat):Option Int:=(R.find? λq=>decide (q.1=i)).map (·.2)
theorem qPp {R:List (Nat × Int)} {i:Nat} {n:Int} (h:∀q∈R,q.1≠i) (j:Nat):qBl (R++[(i,n)]) j=if j=i then some n else qBl R j:=by
 unfold qBl;rw [List.find?_append]
 by_cases hj:j=i
 ·subst hj;have:R.find? (λq=>decide (q.1=j))=none:=by
   rw [List.find?_eq_none];intro q hq;simpa using h q hq
  rw [this,if_pos rfl];simp
 ·rw [if_neg hj];have:List.find? (λq:Nat × Int=>decide (q.1=j)) [(i,n)]=none:=by
   rw [List.find?_eq_none];intro q hq;rw [List.mem_singleton.1 hq];simpa using λe=>hj e.symm
  rw [this];cases R.find? λq=>decide (q.1=j) <;> rfl
def zB (l:List qD) (at_:Int):Pl:=(jU l (ixL l at_)).1
def qBw (l:List qD):List (Nat × Int):=(jU l (ixL l 345686400000)).2
structure qBg (E:List qD):Prop where
 asc:qAD qP E
 ok:∀e∈E,qBm e=0
 time:∀a∈E,∀b∈E,a.team=b.team→a.no<b.no→a.at_≤b.at_
theorem qS2:qBg []:=⟨List.Pairwise.nil,(λ_ h=>by cases h),(λ_ h=>by cases h)⟩
theorem qI9 {a b:qD} (h:a.team=b.team):qP a b=qBt a.no b.no:=by
 unfold qP;rw [if_neg (by rw [(qA5 _ _).2 h];simp)]
theorem qLp {a b:qD} (h:qP a b<0) (ht:a.team=b.team):a.no<b.no:=by
 rw [qI9 ht] at h;unfold qBt at h;split at h
 ·assumption
 ·split at h <;> omega
def mxN (l:List qD) (team:ByteArray):Int:=l.foldl (λn y=>if y.team=team then max n y.no else n) 0
theorem qIr (l:List qD) (team:ByteArray) (y:qD):mxN (l++[y]) team=if y.team=team then max (mxN l team) y.no else mxN l team:=by
 unfold mxN;rw [List.foldl_append];rfl
theorem qL8 {l:List qD} {team:ByteArray} {k:Nat} (h:k<l.length):mxN (l.take (k+1)) team=if l[k].team=team then max (mxN (l.take k) team) l[k].no else mxN (l.take k) team:=by
 rw [List.take_succ_eq_append_getElem h,qIr]
theorem qJc (team:ByteArray):∀l:List qD,0≤mxN l team∧∀y∈l,y.team=team→y.no≤mxN l team:=by
 refine qEK ⟨Int.le_refl _,λy h=>by cases h⟩ λl x ih=>?_
 rw [qIr]
 split
 ·refine⟨by omega,λy hy ht=>?_⟩
  rcases List.mem_append.1 hy with q|q
  ·have:=ih.2 y q ht;omega
  ·rw [List.mem_singleton.1 q];omega
 ·rename_i hx
  refine⟨ih.1,λy hy ht=>?_⟩
  rcases List.mem_append.1 hy with q|q
  ·exact ih.2 y q ht
  ·rw [List.mem_singleton.1 q] at ht;exact absurd ht hx
theorem qMH (team:ByteArray) (n:Int) (hn:0≤n):∀l:List qD,(∀y∈l,y.no≤n)→mxN l team≤n:=by
 refine qEK (λ_=>hn) λl x ih h=>?_
 rw [qIr];have h1:=ih λy hy=>h y (List.mem_append_left _ hy)
 have h2:=h x sI
 split <;> omega
def qA7 (E:List qD) (at_:Int) (team:ByteArray) (e:qD):qD:={ e with team:=team,no:=mxN E team+1,at_:=at_ }
theorem qHB {E:List qD} {at_:Int} {team:ByteArray} {e:qD}:∀y∈E,qP y (qA7 E at_ team e)≠0:=by
 intro y hy h;unfold qP at h
 split at h
 ·rename_i q;exact q h
 ·rename_i q
  have ht:y.team=team:=(qA5 _ _).1 (Classical.not_not.1 q);have h1:=(qJc team E).2 y hy ht;have h2:=qGG.1 h;have h3:(qA7 E at_ team e).no=mxN E team+1:=rfl;omega
theorem qKV {E:List qD} {at_:Int} {team:ByteArray} {e:qD} (h:qBg E) (hat:∀y∈E,y.at_≤at_) (hx:qBm (qA7 E at_ team e)=0):qBg (jV qP (qA7 E at_ team e) E):=by
 have hlow:=qCz qB6 (x:=qA7 E at_ team e) h.asc qHB;have hp:=qBW (λy=>decide (qP y (qA7 E at_ team e)<0)) (qA7 E at_ team e) E;have hm:∀y,y∈jV qP (qA7 E at_ team e) E↔y∈E∨y=qA7 E at_ team e:=λy=>by
  rw [show(y∈jV qP (qA7 E at_ team e) E)=(y∈qG4 (λy=>decide (qP y (qA7 E at_ team e)<0)) (qA7 E at_ team e) E) from rfl,hp.mem_iff];simp
 refine⟨hlow.1,λy hy=>?_,λa ha b hb ht hn=>?_⟩
 ·rcases (hm y).1 hy with q|q
  ·exact h.ok y q
  ·rw [q];exact hx
 ·rcases (hm a).1 ha with q|q
  ·rcases (hm b).1 hb with r|r
   ·exact h.time a q b r ht hn
   ·rw [r];exact hat a q
  ·rcases (hm b).1 hb with r|r
   ·have h1:=(qJc team E).2 b r (by rw [←ht,q];rfl);rw [q] at hn;have h3:(qA7 E at_ team e).no=mxN E team+1:=rfl;omega
   ·rw [q,r];exact Int.le_refl _
def qAC (E:List qD) (at_:Int) (team:ByteArray) (e:qD):Int × List qD :=
 if qBm (qA7 E at_ team e)≠0 then (qBm (qA7 E at_ team e),E) else
 match qBl (qBw (jV qP (qA7 E at_ team e) E)) ((jV qP (qA7 E at_ team e) E).idxOf (qA7 E at_ team e)) with
 | some v=>(v,E)
 | none=>(0,jV qP (qA7 E at_ team e) E)
structure qBR (E:List qD) (at_:Int):Prop where
 ent:qBg E
 at1:qCl at_=true
 at2:∀y∈E,y.at_≤at_
 no:∀y∈E,y.no≤E.length
theorem qGA (x:qD) (E:List qD):(jV qP x E).length=E.length+1:=by
 have:=(qBW (λy=>decide (qP y x<0)) x E).length_eq;rw [show jV qP x E=qG4 (λy=>decide (qP y x<0)) x E from rfl,this];simp
theorem qN9 {E:List qD} {at_:Int} {team:ByteArray} {e:qD} (h:qBR E at_):qBR (qAC E at_ team e).2 at_∧(qAC E at_ team e).2.length≤E.length+1:=by
 unfold qAC
 split
 ·exact⟨h,by simp⟩
 ·rename_i hz
  split
  ·exact⟨h,by simp⟩
  ·have hz':qBm (qA7 E at_ team e)=0:=Classical.not_not.1 hz;have hp:=qBW (λy=>decide (qP y (qA7 E at_ team e)<0)) (qA7 E at_ team e) E;refine⟨⟨qKV h.ent h.at2 hz',h.at1,λy hy=>?_,λy hy=>?_⟩,by rw [qGA];omega⟩
   ·rcases List.mem_append.1 (hp.mem_iff.1 hy) with q|q
    ·exact h.at2 y q
    ·rw [List.mem_singleton.1 q];exact Int.le_refl _
   ·rw [qGA]
    rcases List.mem_append.1 (hp.mem_iff.1 hy) with q|q
    ·have:=h.no y q;omega
    ·rw [List.mem_singleton.1 q];have:=qMH team E.length oM E h.no;have h3:(qA7 E at_ team e).no=mxN E team+1:=rfl;omega
theorem qLC {α:Type} [DecidableEq α]:∀{L M:List α},L.Nodup→(∀x∈L,x∈M)→L.length≤M.length
 | [],_,_,_=>Nat.zero_le _
 | x::L,M,h,hs=>by
  rw [List.nodup_cons] at h;have h1:=qLC (M:=M.erase x) h.2 λy hy=>(List.mem_erase_of_ne (λe=>h.1 (by rw [←e];exact hy))).2 (hs y (List.mem_cons_of_mem _ hy))
  have hx:=hs x List.mem_cons_self;rw [List.length_erase_of_mem hx] at h1;have:=List.length_pos_of_mem hx;simp only [List.length_cons];omega
theorem qOk {E S:Type} {n:Nat} {e a:Nat→E} {s:Nat→S} {isE:E→S→Prop} {hop:E→E} (h0:∀x,¬isE (e 0) x) (ha:∀j,j<n→a (j+1)=hop (e j)) (hh:∀j,j≤n→hop (hop (e j))=e j∧hop (e j)≠e j)
  (hs:∀j,1≤j→j≤n→isE (a j) (s j)∧isE (e j) (s j)∧a j≠e j) (hu:∀x p q,isE x p→isE x q→p=q) (hb:∀j x,1≤j→j≤n→isE x (s j)→x=a j∨x=e j) :
  ∀j i,1≤i→i<j→j≤n→s i≠s j:=by
 intro j
 induction j using Nat.strongRecOn with
 | ind j ih =>
  intro i hi hij hj he;obtain⟨a1,e1,_⟩:=hs j oM hj;obtain⟨j',rfl⟩:∃j',j=j'+1:=⟨j - 1,by omega⟩;obtain⟨i',rfl⟩:∃i',i=i'+1:=⟨i - 1,by omega⟩;have haj:=ha j' oM;have hai:=ha i' oM;rw [←he] at a1;have hej:=(hs j' · oM)
  rcases hb (i'+1) _ oM oM a1 with h1|h1
  ·have h2:e j'=e i':=by
    rw [←(hh j' oM).1,←(hh i' oM).1,←haj,←hai,h1]
   rcases Nat.eq_zero_or_pos i' with hz|hz
   ·subst hz;exact h0 _ (h2 ▸ (hej oM).2.1)
   ·have h3:=(hs i' oM oM).2.1;rw [←h2] at h3;exact ih j' oM i' oM oM oM (hu _ _ _ h3 (hej oM).2.1)
  ·by_cases hq:j'=i'+1
   ·subst hq;rw [haj] at h1;exact(hh (i'+1) oM).2 h1
   ·have h2:e j'=a (i'+1+1):=by
     rw [ha (i'+1) oM,←h1,haj,(hh j' oM).1]
    have h3:=(hs (i'+1+1) oM oM).1;rw [←h2] at h3;have h4:=hu _ _ _ h3 (hej oM).2.1
    by_cases hq2:j'=i'+1+1
    ·subst hq2;exact(hs (i'+1+1) oM oM).2.2 h2.symm
    ·exact ih j' oM (i'+1+1) oM oM oM h4
def qD7 (C:List qG) (X:List qE) (e:qQ × ByteArray):Option (qQ × ByteArray) :=
 (zD X e.1 (zW C e.1 e.2)).map λs=>(if s.x=e.1 then s.y else s.x,zW C e.1 e.2)
def qBr (C:List qG) (X:List qE) (e:qQ × ByteArray):Nat→Option (qQ × ByteArray)
 | 0=>some e
 | k+1=>(qBr C X e k).bind (qD7 C X)
def qB8 (C:List qG) (e:qQ × ByteArray):Hop:=⟨e.1,e.2,zW C e.1 e.2⟩
def qEw (C:List qG) (X:List qE):Nat→qQ × ByteArray→List Hop
 | 0,_=>[]
 | n+1,e=>qB8 C e::match qD7 C X e with
  | none=>[]
  | some e'=>qEw C X n e'
def qB9 (C:List qG) (X:List qE) (e:qQ × ByteArray):List Hop:=qEw C X (X.length+1) e
theorem qGo {X:List qE} {f:qQ} {k:ByteArray} {s:qE} (h:zD X f k=some s):s∈X∧s.site=k∧(s.x=f∨s.y=f):=by
 unfold zD at h;exact⟨List.mem_of_find?_eq_some h,by simpa using List.find?_some h⟩
theorem qSX {p:Pl} (h:jS p) {s t:qE} (hs:s∈p.X) (ht:t∈p.X) {f:qQ} {k:ByteArray} (h1:s.site=k∧(s.x=f∨s.y=f)) (h2:t.site=k∧(t.x=f∨t.y=f)):s=t:=by
 obtain⟨i,hi,rfl⟩:=List.mem_iff_getElem.1 hs;obtain⟨j,hj,rfl⟩:=List.mem_iff_getElem.1 ht;have hpw:=List.pairwise_iff_getElem.1 h.x3;have hm:∀a b:qE,a.site=k∧(a.x=f∨a.y=f)→b.site=k∧(b.x=f∨b.y=f)→jC a b=true:=by
  intro a b ⟨ha,ha2⟩ ⟨hb,hb2⟩;unfold jC;rw [decide_eq_true_eq];refine⟨ha.trans hb.symm,?_⟩
  rcases ha2 with q|q <;> rcases hb2 with r|r
  ·exact .inl (q.trans r.symm)
  ·exact .inr (.inl (q.trans r.symm))
  ·exact .inr (.inr (.inl (q.trans r.symm)))
  ·exact .inr (.inr (.inr (q.trans r.symm)))
 rcases Nat.lt_trichotomy i j with q|q|q
 ·have:=hpw i j hi hj q;rw [hm _ _ h1 h2] at this;cases this
 ·subst q;rfl
 ·have:=hpw j i hj hi q;rw [hm _ _ h2 h1] at this;cases this
theorem qJK {C:List qG} {f:qQ} {k:ByteArray} (h:qAA C f k=true):∃c,qY C f.cable=some c∧(c.a=k∨c.b=k):=by
 unfold qAA at h
 cases hg:qY C f.cable with
 | none=>rw [hg] at h;cases h
 | some c=>rw [hg] at h;exact⟨c,rfl,by simpa using h⟩
theorem qRn {p:Pl} (h:jS p) {e:qQ × ByteArray} (ht:qAA p.C e.1 e.2=true):(e.1,zW p.C e.1 (zW p.C e.1 e.2))=e∧zW p.C e.1 e.2≠e.2∧qAA p.C e.1 (zW p.C e.1 e.2)=true:=by
 obtain⟨f,k⟩:=e;obtain⟨c,hc,hk⟩:=qJK ht;have hne:=(qEa (h.c2 c (qDw hc).1)).2.2;unfold zW qAA;simp only [hc]
 by_cases q:c.a=k
 ·rw [show(if c.a=k then c.b else c.a)=c.b from if_pos q,show(if c.a=c.b then c.b else c.a)=c.a from if_neg hne];exact⟨by rw [q],λe=>hne (q.trans e.symm),by simp⟩
 ·have hb:c.b=k:=hk.resolve_left q;rw [show(if c.a=k then c.b else c.a)=c.a from if_neg q,show(if c.a=c.a then c.b else c.a)=c.b from if_pos rfl];exact⟨by rw [hb],q,by simp⟩
theorem qIl {p:Pl} (h:jS p) {s:qE} (hs:s∈p.X):qAA p.C s.x s.site=true∧qAA p.C s.y s.site=true∧s.x≠s.y:=by
 have h1:=qDY (h.x2 s hs);refine⟨h1.2.2.2.1,h1.2.2.2.2.1,λe=>?_⟩;have:=h1.2.2.2.2.2;rw [e,qC5.2 rfl] at this;omega
theorem qEM {p:Pl} (h:jS p) {e e':qQ × ByteArray} (hg:qD7 p.C p.X e=some e'):∃s,zD p.X e.1 (zW p.C e.1 e.2)=some s∧s∈p.X∧s.site=zW p.C e.1 e.2∧e'.2=s.site∧(s.x=e.1∧e'.1=s.y∨s.y=e.1∧e'.1=s.x)∧e'.1≠e.1∧qAA p.C e'.1 e'.2=true:=by
 unfold qD7 at hg
 cases hs:zD p.X e.1 (zW p.C e.1 e.2) with
 | none=>rw [hs] at hg;cases hg
 | some s =>
  rw [hs] at hg;simp only [Option.map_some,Option.some.injEq] at hg;obtain⟨h1,h2,h3⟩:=qGo hs;obtain⟨q1,q2,q3⟩:=qIl h h1;refine⟨s,rfl,h1,h2,by rw [←hg,h2],?_⟩
  by_cases hx:s.x=e.1
  ·rw [if_pos hx] at hg;subst hg;exact⟨.inl ⟨hx,rfl⟩,λq=>q3 (hx.trans q.symm),by rw [←h2];exact q2⟩
  ·rw [if_neg hx] at hg;subst hg;have hy:=h3.resolve_left hx;exact⟨.inr ⟨hy,rfl⟩,hx,by rw [←h2];exact q1⟩
theorem qOn {C:List qG} {X:List qE} {e:qQ × ByteArray} {n:Nat} (h:(qBr C X e n).isSome=true):∀k,k≤n→(qBr C X e k).isSome=true:=by
 induction n with
 | zero =>
  intro k hk;obtain rfl:k=0:=by omega
  exact h
 | succ n ih =>
  intro k hk
  by_cases q:k=n+1
  ·rw [q];exact h
  ·refine ih ?_ k oM;unfold qBr at h
   cases hq:qBr C X e n with
   | none=>rw [hq] at h;cases h
   | some x=>rfl
theorem qQj {p:Pl} (h:jS p) {e:qQ × ByteArray} (ht:qAA p.C e.1 e.2=true) (h0:zD p.X e.1 e.2=none):qBr p.C p.X e (p.X.length+1)=none:=by
 cases hz:qBr p.C p.X e (p.X.length+1) with
 | none=>rfl
 | some z =>
  exfalso
  have hall:=qOn (n:=p.X.length+1) (by rw [hz];rfl);have hE:∀k,k≤p.X.length+1→qBr p.C p.X e k=some ((qBr p.C p.X e k).getD e):=λk hk=>by
   cases hq:qBr p.C p.X e k with
   | none=>have:=hall k hk;rw [hq] at this;cases this
   | some x=>rfl
  have hstep:∀k,k<p.X.length+1→qD7 p.C p.X ((qBr p.C p.X e k).getD e)=some ((qBr p.C p.X e (k+1)).getD e):=λk hk=>by
   have h1:=hE (k+1) oM;rw [show qBr p.C p.X e (k+1)=(qBr p.C p.X e k).bind (qD7 p.C p.X) from rfl,hE k oM] at h1;simp only [Option.bind_some] at h1;rw [h1];have h2:=hE (k+1) oM;rw [show qBr p.C p.X e (k+1)=(qBr p.C p.X e k).bind (qD7 p.C p.X) from rfl,hE k oM];simp only [Option.bind_some,Option.getD_some]
  generalize hee:(λk=>(qBr p.C p.X e k).getD e)=ee;have hstep':∀k,k<p.X.length+1→qD7 p.C p.X (ee k)=some (ee (k+1)):=by rw [←hee];exact hstep
  have he0:ee 0=e:=by rw [←hee];rfl
  let hop:qQ × ByteArray→qQ × ByteArray:=λx=>(x.1,zW p.C x.1 x.2)
  let sp:Nat→qE:=λj=>(zD p.X (ee (j - 1)).1 (zW p.C (ee (j - 1)).1 (ee (j - 1)).2)).getD default
  let isE:qQ × ByteArray→qE→Prop:=λx s=>s∈p.X∧s.site=x.2∧(s.x=x.1∨s.y=x.1)
  have htouch:∀k,k≤p.X.length+1→qAA p.C (ee k).1 (ee k).2=true:=by
   intro k hk
   cases k with
   | zero=>rw [he0];exact ht
   | succ k=>obtain⟨s,_,_,_,_,_,_,q⟩:=qEM h (hstep' k oM);exact q
  have hap:=qOk (n:=p.X.length+1) (e:=ee) (a:=λj=>hop (ee (j - 1))) (s:=sp) (isE:=isE) (hop:=hop)
   (λx hx=>by
    rw [he0] at hx;obtain⟨q1,q2,q3⟩:=hx;unfold zD at h0;have:=List.find?_eq_none.1 h0 x q1;exact this (by simpa using ⟨q2,q3⟩))
   (λj _=>rfl)
   (λj hj=>by
    obtain⟨q1,q2,_⟩:=qRn h (htouch j hj);exact⟨q1,λq=>q2 (congrArg Prod.snd q)⟩)
   (λj hj1 hj=>by
    obtain⟨k,rfl⟩:∃k,j=k+1:=⟨j - 1,by omega⟩;obtain⟨s,q1,q2,q3,q4,q5,q6,_⟩:=qEM h (hstep' k oM);have hsp:sp (k+1)=s:=by
     show(zD p.X (ee k).1 (zW p.C (ee k).1 (ee k).2)).getD default=s
     rw [q1];rfl
    rw [hsp];refine⟨⟨q2,q3,?_⟩,⟨q2,q4.symm,?_⟩,λq=>q6 (congrArg Prod.fst q).symm⟩
    ·rcases q5 with⟨q,_⟩|⟨q,_⟩
     ·exact .inl q
     ·exact .inr q
    ·rcases q5 with⟨_,q⟩|⟨_,q⟩
     ·exact .inr q.symm
     ·exact .inl q.symm)
   (λx s t hs' ht'=>qSX h hs'.1 ht'.1 (f:=x.1) (k:=x.2) hs'.2 ht'.2)
   (λj x hj1 hj hx=>by
    obtain⟨k,rfl⟩:∃k,j=k+1:=⟨j - 1,by omega⟩;obtain⟨s,q1,q2,q3,q4,q5,q6,_⟩:=qEM h (hstep' k oM);have hsp:sp (k+1)=s:=by
     show(zD p.X (ee k).1 (zW p.C (ee k).1 (ee k).2)).getD default=s
     rw [q1];rfl
    rw [hsp] at hx;obtain⟨_,r2,r3⟩:=hx
    rcases q5 with⟨q,q'⟩|⟨q,q'⟩
    ·rcases r3 with r|r
     ·exact .inl (Prod.ext (r.symm.trans q) (r2.symm.trans q3))
     ·exact .inr (Prod.ext (r.symm.trans q'.symm) (r2.symm.trans q4.symm))
    ·rcases r3 with r|r
     ·exact .inr (Prod.ext (r.symm.trans q'.symm) (r2.symm.trans q4.symm))
     ·exact .inl (Prod.ext (r.symm.trans q) (r2.symm.trans q3)))
  have hnd:((List.range (p.X.length+1)).map λj=>sp (j+1)).Nodup:=by
   rw [List.nodup_iff_pairwise_ne,List.pairwise_map];refine List.Pairwise.imp_of_mem ?_ List.pairwise_lt_range;intro i j hi hj hij;rw [List.mem_range] at hi hj;exact hap (j+1) (i+1) oM oM oM
  have hle:=qLC (M:=p.X) hnd (by
   intro x hx;obtain⟨k,hk,rfl⟩:=List.mem_map.1 hx;rw [List.mem_range] at hk;obtain⟨s,q1,q2,_⟩:=qEM h (hstep' k hk);have hsp:sp (k+1)=s:=by
    show(zD p.X (ee k).1 (zW p.C (ee k).1 (ee k).2)).getD default=s
    rw [q1];rfl
   rw [hsp];exact q2)
  rw [List.length_map,List.length_range] at hle;omega
theorem qDq {w:World} {b off k:Nat} {p:qJ} (h:∀j u,p.cells[j]? = some u→w.cell? ⟨b,off+k*2+j,none⟩=some u) :
  w.cell? ⟨b,off+k*2,none⟩=some (.string p.key)∧w.cell? ⟨b,off+k*2+1,none⟩=some (.int .i64 p.kind) :=
 ⟨h 0 _ rfl,h 1 _ rfl⟩
theorem qIV:(prog.info? 73).map (λi=>(i.zero,i.size,i.bytes))=some (some (.agg #[.string ⟨#[]⟩,.int .i64 0]),2,24):=by kernel_rfl
theorem qDJ (l:List qJ):∀u∈l.flatMap qJ.cells,u.oneCell'=true:=by
 intro u hu;obtain⟨c,_,hc⟩:=List.mem_flatMap.1 hu;simp [qJ.cells] at hc
 rcases hc with rfl|rfl <;> rfl
theorem qLN (v:Value) (l:List qJ) (p:qJ→Bool) (F:FuncId) (cp:Array Value) (w:World) (h:qI qJ.cells 2 w l v) (hF:∀(args:Array Value) (w:World),(callFunc F args).run prog w=.ok (.enter F args) w)
  (hcall:∀(x:qJ) (w':World),x∈l→Below w.heap.size w w'→Calls prog F (#[.agg ⟨qJ.cells x⟩]++cp) w' λe w''=>e=.returned (.bool (p x))∧Below w'.heap.size w' w'') :
  Calls prog 287 #[v,.func (.func F) #[] cp] w λe w'=>e=.returned (.int .i64 (qAu p l))∧Below w.heap.size w w':=by
 obtain⟨a,cap,rfl,hcap,hmax,hc⟩:=h;have hlen:l.length≤maxLen:=by omega
 unfold maxLen at hlen hmax;have HC:=mH hcall;clear hcall;go_enter func287,ntmps287;go_wp2;go_loopw [8] (λi wr=>∃k:Nat,k≤l.length∧i=.int .i64 k∧(l.take k).any p=false∧Below w.heap.size w wr) (λi _=>l.length - (intOf i).toNat)
 case atStart=>exact⟨0,by omega,rfl,rfl,Below.refl _ _⟩
 case round =>
  obtain⟨k,hk,rfl,hz,hB⟩:=hrel;have HZ:=mH hz;clear hz;have hsz:=hB.size
  by_cases hlt:k<l.length
  ·obtain⟨b,off,rfl,hb,hcc⟩:=hc k hlt;obtain⟨c0,c1⟩:=qDq hcc;replace c0:=(hB.cell (p:=⟨b,_,none⟩) hb).trans c0;replace c1:=(hB.cell (p:=⟨b,_,none⟩) hb).trans c1;clear hc hcc
   cases hx:p l[k]
   ·have HT:=mH (qBO _ l k hlt HZ.o);have HX:=mH hx;clear hx;go_wp2_with fail;refine(HC.o l[k] _ (List.getElem_mem _) ?_).mono ?_
    ·exact qS
    rintro e w1 ⟨rfl,hb1⟩;have hx:=HX.o;go_wp2;exact⟨⟨k+1,by omega,by go_num,by rw [HT.o];exact HX.o,by exact qS⟩,by simp [intOf];omega⟩
   ·have HX:=mH (qD0 hlt HZ.o hx);go_wp2_with fail;refine(HC.o l[k] _ (List.getElem_mem _) ?_).mono ?_
    ·exact qS
    rintro e w1 ⟨rfl,hb1⟩;go_wp2;go_ret;exact⟨qN (by rw [HX.o]),by exact qS⟩
  ·go_wp2;go_ret;exact⟨qN (by rw [qBY (qCO oM HZ.o)]),hB⟩
theorem qIj (v:Value) (l:List qJ) (p:qJ→Bool) (F:FuncId) (cp:Array Value) (w:World) (h:qI qJ.cells 2 w l v) (hF:∀(args:Array Value) (w:World),(callFunc F args).run prog w=.ok (.enter F args) w)
  (hcall:∀(x:qJ) (w':World),x∈l→Below w.heap.size w w'→Calls prog F (#[.agg ⟨qJ.cells x⟩]++cp) w' λe w''=>e=.returned (.bool (p x))∧Below w'.heap.size w' w'') :
  Calls prog 251 #[v,.func (.func F) #[] cp] w λe w'=>e=.returned (.bool (l.any p))∧Below w.heap.size w w':=by
 have HC:=mH (aI hF hcall);clear hF hcall;have HI:=mH (qDn p l);go_enter func251,ntmps251;go_wp2_with (go_at_call 287;refine(qLN v l p F cp _ h HC.o.1 HC.o.2).mono ?_;rintro e w1 ⟨rfl,hb1⟩);go_ret;exact⟨qU (by rw [Bool.eq_iff_iff];simp only [decide_eq_true_eq];exact HI.o),by exact qS⟩
theorem qHy (v:Value) (l:List qJ) (w:World) (h:qI qJ.cells 2 w l v) (hl:l.length≤100000000):Calls prog 265 #[v] w
  (Ret (λv' w'=>qJP qJ.cells 2 73 w.heap.size l v' w') w):=by
 have h':=h;obtain⟨a,cap,rfl,hcap,hmax,hc⟩:=h;obtain⟨i0,hi,hz0,hz1,hz2⟩:=info_parts qIV;have heq:=λ(w:World) (a:Option Addr) (n c n' c':Nat)=>Lib.run_eql_slice_nil (P:=prog) w 65 73 a n c n' c' underlying65
 cases a with
 | none =>
  have h0:l=[]:=by
   rcases Nat.eq_zero_or_pos l.length with h|h
   ·exact List.length_eq_zero_iff.1 h
   ·obtain⟨_,_,e,_⟩:=hc 0 h;cases e
  subst h0;go_enter func265,ntmps265;go_wp2;go_ret;exact⟨_,rfl,⟨World.ownsRow_nil _ _ _ _,.inl ⟨rfl,rfl⟩⟩,by exact qS⟩
 | some ad =>
  have hnews:=h'.news qJ.cells_len;have HN:=mH hnews;clear hnews hc h';have hsl:(l.flatMap qJ.cells).length=l.length*2:=jJ qJ.cells_len l;have HSL:=mH hsl;clear hsl;go_enter func265,ntmps265;go_wp2_with (at_builtin;go_must (refine wpList_append_own _ rfl _ _ 65 rfl w.heap.size 73 _ _ 2 24 underlying65 hi hz0 hz1 hz2 rfl dE _ 0 [] rfl (World.ownsRow_lit w #[] 0 lR (by simp [maxLen]) rfl) ad l.length cap (l.flatMap qJ.cells) rfl HSL.o (λj u hu=>Lib.cell?_alloc_some _ (HN.o j u hu)) (qDJ l) (by unfold maxLen;omega) oM szq ?_);intro v' w1 hown1 hgrow hnil);go_ret;refine⟨_,rfl,⟨?_,.inr ?_⟩,?_⟩
  ·have:=hown1;rw [Nat.zero_add,List.nil_append] at this;exact this
  ·exact qHL hown1 (λe=>by have:=(hnil.1 e).1;cases this)
  ·exact jG (by exact qS) (World.ownsRow_lit (e:=73) (size:=2) w #[] 0 lR (by simp [maxLen]) rfl) hgrow lR szq
theorem qCW {w:World} {b off k:Nat} {p:qG} (h:∀j u,p.cells[j]? = some u→w.cell? ⟨b,off+k*5+j,none⟩=some u) :
  w.cell? ⟨b,off+k*5,none⟩=some (.string p.key)∧w.cell? ⟨b,off+k*5+1,none⟩=some (.string p.a)∧w.cell? ⟨b,off+k*5+2,none⟩=some (.string p.b)∧w.cell? ⟨b,off+k*5+3,none⟩=some (.int .i64 p.long)∧w.cell? ⟨b,off+k*5+4,none⟩=some (.int .i64 p.fibs) :=
 ⟨h 0 _ rfl,h 1 _ rfl,h 2 _ rfl,h 3 _ rfl,h 4 _ rfl⟩
theorem qIK:(prog.info? 75).map (λi=>(i.zero,i.size,i.bytes))=some (some (.agg #[.string ⟨#[]⟩,.string ⟨#[]⟩,.string ⟨#[]⟩,.int .i64 0,.int .i64 0]),5,64):=by kernel_rfl
theorem qKL (w:World):(zeroValue 75).run prog w=.ok (.agg #[.string ⟨#[]⟩,.string ⟨#[]⟩,.string ⟨#[]⟩,.int .i64 0,.int .i64 0]) w:=by kernel_rfl
theorem qDK (l:List qG):∀u∈l.flatMap qG.cells,u.oneCell'=true:=by
 intro u hu;obtain⟨c,_,hc⟩:=List.mem_flatMap.1 hu;simp [qG.cells] at hc
 rcases hc with rfl|rfl|rfl|rfl|rfl <;> rfl
theorem qTI (x:qG):(Value.agg ⟨qG.cells x⟩)=.agg #[.string x.key,.string x.a,.string x.b,.int .i64 x.long,.int .i64 x.fibs]:=rfl
theorem qDA (v:Value) (l:List qG) (p:qG→Bool) (F:FuncId) (cp:Array Value) (w:World) (h:qI qG.cells 5 w l v) (hF:∀(args:Array Value) (w:World),(callFunc F args).run prog w=.ok (.enter F args) w)
  (hcall:∀(x:qG) (w':World),x∈l→Below w.heap.size w w'→Calls prog F (#[.agg ⟨qG.cells x⟩]++cp) w' λe w''=>e=.returned (.bool (p x))∧Below w'.heap.size w' w'') :
  Calls prog 211 #[v,.func (.func F) #[] cp] w λe w'=>e=.returned (.int .i64 (qAu p l))∧Below w.heap.size w w':=by
 obtain⟨a,cap,rfl,hcap,hmax,hc⟩:=h;have hlen:l.length≤maxLen:=by omega
 unfold maxLen at hlen hmax;have HC:=mH hcall;clear hcall;go_enter func211,ntmps211;go_wp2;go_loopw [8] (λi wr=>∃k:Nat,k≤l.length∧i=.int .i64 k∧(l.take k).any p=false∧Below w.heap.size w wr) (λi _=>l.length - (intOf i).toNat)
 case atStart=>exact⟨0,by omega,rfl,rfl,Below.refl _ _⟩
 case round =>
  obtain⟨k,hk,rfl,hz,hB⟩:=hrel;have HZ:=mH hz;clear hz;have hsz:=hB.size
  by_cases hlt:k<l.length
  ·obtain⟨b,off,rfl,hb,hcc⟩:=hc k hlt;obtain⟨c0,c1,c2,c3,c4⟩:=qCW hcc;replace c0:=(hB.cell (p:=⟨b,_,none⟩) hb).trans c0;replace c1:=(hB.cell (p:=⟨b,_,none⟩) hb).trans c1;replace c2:=(hB.cell (p:=⟨b,_,none⟩) hb).trans c2;replace c3:=(hB.cell (p:=⟨b,_,none⟩) hb).trans c3;replace c4:=(hB.cell (p:=⟨b,_,none⟩) hb).trans c4;clear hc hcc
   cases hx:p l[k]
   ·have HT:=mH (qBO _ l k hlt HZ.o);have HX:=mH hx;clear hx;go_wp2_with fail;refine(HC.o l[k] _ (List.getElem_mem _) ?_).mono ?_
    ·exact qS
    rintro e w1 ⟨rfl,hb1⟩;have hx:=HX.o;go_wp2;exact⟨⟨k+1,by omega,by go_num,by rw [HT.o];exact HX.o,by exact qS⟩,by simp [intOf];omega⟩
   ·have HX:=mH (qD0 hlt HZ.o hx);go_wp2_with fail;refine(HC.o l[k] _ (List.getElem_mem _) ?_).mono ?_
    ·exact qS
    rintro e w1 ⟨rfl,hb1⟩;go_wp2;go_ret;exact⟨qN (by rw [HX.o]),by exact qS⟩
  ·go_wp2;go_ret;exact⟨qN (by rw [qBY (qCO oM HZ.o)]),hB⟩
theorem qHe (v:Value) (l:List qG) (w:World) (h:qI qG.cells 5 w l v) (hl:l.length≤100000000):Calls prog 267 #[v] w
  (Ret (λv' w'=>qJP qG.cells 5 75 w.heap.size l v' w') w):=by
 have h':=h;obtain⟨a,cap,rfl,hcap,hmax,hc⟩:=h;obtain⟨i0,hi,hz0,hz1,hz2⟩:=info_parts qIK;have heq:=λ(w:World) (a:Option Addr) (n c n' c':Nat)=>Lib.run_eql_slice_nil (P:=prog) w 66 75 a n c n' c' underlying66
 cases a with
 | none =>
  have h0:l=[]:=by
   rcases Nat.eq_zero_or_pos l.length with h|h
   ·exact List.length_eq_zero_iff.1 h
   ·obtain⟨_,_,e,_⟩:=hc 0 h;cases e
  subst h0;go_enter func267,ntmps267;go_wp2;go_ret;exact⟨_,rfl,⟨World.ownsRow_nil _ _ _ _,.inl ⟨rfl,rfl⟩⟩,by exact qS⟩
 | some ad =>
  have hnews:=h'.news qG.cells_len;have HN:=mH hnews;clear hnews hc h';have hsl:(l.flatMap qG.cells).length=l.length*5:=jJ qG.cells_len l;have HSL:=mH hsl;clear hsl;go_enter func267,ntmps267;go_wp2_with (at_builtin;go_must (refine wpList_append_own _ rfl _ _ 66 rfl w.heap.size 75 _ _ 5 64 underlying66 hi hz0 hz1 hz2 rfl dE _ 0 [] rfl (World.ownsRow_lit w #[] 0 lR (by simp [maxLen]) rfl) ad l.length cap (l.flatMap qG.cells) rfl HSL.o (λj u hu=>Lib.cell?_alloc_some _ (HN.o j u hu)) (qDK l) (by unfold maxLen;omega) oM szq ?_);intro v' w1 hown1 hgrow hnil);go_ret;refine⟨_,rfl,⟨?_,.inr ?_⟩,?_⟩
  ·have:=hown1;rw [Nat.zero_add,List.nil_append] at this;exact this
  ·exact qHL hown1 (λe=>by have:=(hnil.1 e).1;cases this)
  ·exact jG (by exact qS) (World.ownsRow_lit (e:=75) (size:=5) w #[] 0 lR (by simp [maxLen]) rfl) hgrow lR szq
def qO4 (base:Nat) (l:List qG) (p:qG→Bool) (v:Value) (w:World) (e:Ending) (w':World):Prop :=
 ∃v',e=.returned v'∧w'.ownsRow base 75 5 v' (l.filter λx=>!p x).length ((l.filter λx=>!p x).flatMap qG.cells)∧w.grownBy w' v.ownBlock
theorem qGc (v:Value) (l:List qG) (p:qG→Bool) (F:FuncId) (cp:Array Value) (base:Nat) (w:World) (ho:w.ownsRow base 75 5 v l.length (l.flatMap qG.cells)) (hlen:l.length≤100000000)
  (hF:∀(args:Array Value) (w:World),(callFunc F args).run prog w=.ok (.enter F args) w)
  (hcall:∀(x:qG) (w':World),x∈l→w.grownBy w' v.ownBlock→Calls prog F (#[.agg ⟨qG.cells x⟩]++cp) w' λe w''=>e=.returned (.bool (p x))∧Below w'.heap.size w' w'') :
  Calls prog 188 #[v,.func (.func F) #[] cp] w (qO4 base l p v w):=by
 have HC:=mH (aI hF hcall);clear hF hcall
 rcases ho.2 with⟨hv,h0⟩|⟨g,cap,_,hv,hbg,_,hcap,hmax,_,_⟩
 ·subst hv;obtain rfl:l=[]:=List.length_eq_zero_iff.1 h0;go_enter func188,ntmps188;go_wp2_with (go_at_call 211;refine(qDA _ [] (λ_=>false) F cp _ (qI.nil _ _ _) HC.o.1 (λx w' hx hB=>by cases hx)).mono ?_;rintro e w1 ⟨rfl,hb1⟩);go_ret;exact⟨_,rfl,World.ownsRow_nil _ _ _ _,qH _ hb1⟩
 subst hv;have hO:qAr qG.cells 5 75 cap w g l:=qAr.of_own ho rfl;have hrow:=hO.row qG.cells_len hmax;have hA:qI qG.cells 5 w l (.slice (some ⟨g,0,none⟩) l.length cap):=hrow.arr rfl hcap hmax;have hir:=qE1 p l;have HM:Hx (cap≤maxLen):=⟨hmax⟩;unfold maxLen at hmax
 by_cases hnone:l.any p=false
 ·have HI:=mH (qBY hnone);have hfl:(l.filter λx=>!p x)=l:=by
   rw [List.filter_eq_self];intro x hx;have:=List.any_eq_false.1 hnone x hx
   simpa using this
  have HFL:=mH hfl;have HO:=mH ho;clear hnone hfl hir ho hO hrow;go_enter func188,ntmps188;go_wp2_with (go_at_call 211;refine(qDA _ l p F cp _ hA HC.o.1 (λx w' hx hB=>HC.o.2 x w' hx (qH _ hB))).mono ?_;rw [HI.o];rintro e w1 ⟨rfl,hb1⟩);go_ret;exact⟨_,rfl,by rw [HFL.o];exact qAv HO.o hb1,qH _ hb1⟩
 ·obtain⟨k,hk,hi0,ht0,hp0⟩:=qFI (Bool.not_eq_false _ ▸ hnone);have HI:=mH hi0;have HD:Hx (∀w1,Below w.heap.size w w1→qC6 qG.cells 5 75 cap p l w w1 g k (k+1) l):=⟨λw1 hb=>⟨Del.first hk ht0 hp0 (hrow.below hb hrow.2.2) (qH _ hb),hO.below hb hO.lt⟩⟩;have hkn:((k:Int) == -1)=false:=by simp
  clear hnone hir ht0 hp0 hi0 ho hO;go_enter func188,ntmps188;go_wp2_with (go_at_call 211;refine(qDA _ l p F cp _ hA HC.o.1 (λx w' hx hB=>HC.o.2 x w' hx (qH _ hB))).mono ?_;rw [HI.o];rintro e w1 ⟨rfl,hb1⟩);go_loopw [5,6] (λa b wr=>∃i j:Nat,a=.int .i64 i∧b=.int .i64 j∧∃cur,qC6 qG.cells 5 75 cap p l w wr g i j cur) (λ_ b _=>l.length - (intOf b).toNat)
  case atStart=>exact⟨k,k+1,rfl,by go_num,l,HD.o _ hb1⟩
  case round =>
   obtain⟨i,j,rfl,rfl,cur,hdo⟩:=hrel;have hd:=hdo.d;have hij:=hd.ij;have hjn:=hd.jn;have HDel:=mH hdo;have hgl:=hd.row.2.2;clear hdo
   by_cases hlt:j<l.length
   ·have hcj:j<cur.length:=by rw [hd.len];exact hlt
    have hci:i<cur.length:=by rw [hd.len];omega
    obtain⟨c0,c1,c2,c3,c4⟩:=qCW (hd.row.1 j hcj);rw [hd.at hlt hcj] at c0 c1 c2 c3 c4;obtain⟨d0,d1,d2,d3,d4⟩:=qCW (hd.row.1 i hci);have hfz:=hd.row.2.1;simp only [Nat.zero_add] at c0 c1 c2 c3 c4 d0 d1 d2 d3 d4;have hin:l[j]∈l:=List.getElem_mem _
    cases hp:p l[j]
    ·have HP:=mH hp;have hF:=HC.o.1;clear hd;go_wp2_with fail;refine(HC.o.2 l[j] _ hin ?_).mono ?_
     ·exact qK HDel.o.d.grown (qH _ (by exact qS))
     rw [HP.o];rintro e w2 ⟨rfl,hb2⟩;have hs2:wr.heap.size<w2.heap.size:=by have:=hb2.size;simp at this;omega
     have hcg:=qDg hb2 g szq;have hct:=qDg hb2 wr.heap.size szq;have hfg:∀o,w2.frozen? ⟨g,o,none⟩=false:=λo=>(hb2.frozen (p:=⟨g,o,none⟩) szq).trans ((((Below.refl wr.heap.size wr).alloc lR _).frozen (p:=⟨g,o,none⟩) hgl).trans (hfz o))
     go_wp2;exact⟨⟨i+1,j+1,by go_num,by go_num,cur.set i l[j],HDel.o.keep qG.cells_len hlt HP.o (by exact qS)⟩,by simp [intOf];omega⟩
    ·have HP:=mH hp;have hF:=HC.o.1;clear hd;go_wp2_with fail;refine(HC.o.2 l[j] _ hin ?_).mono ?_
     ·exact qK HDel.o.d.grown (qH _ (by exact qS))
     rw [HP.o];rintro e w2 ⟨rfl,hb2⟩;go_wp2;exact⟨⟨i,j+1,rfl,by go_num,cur,HDel.o.skip hlt HP.o (by exact qS)⟩,by simp [intOf];omega⟩
   ·obtain rfl:j=l.length:=by omega
    obtain⟨hd1,hd2⟩:=hd.done;have HE:=mH (aI hd1 hd2);have hlc:=hd.len;have hrl:∀j,j<(l.length - i)*5→(wr.cell? ⟨g,i*5+j,none⟩).isSome=true:=by
     intro q hq;have hk2:(i*5+q) / 5<cur.length:=by rw [hd.len];omega
     have:=hd.row.1 ((i*5+q) / 5) hk2 ((i*5+q) % 5) _ (List.getElem?_eq_getElem (by rw [qG.cells_len];omega));rw [show 0+(i*5+q) / 5*5+(i*5+q) % 5=i*5+q by omega] at this;rw [this];rfl
    have hcl:=λty=>qCo (P:=prog) wr 66 75 ty _ underlying66 qKL (by simp [Value.cells,Value.oneCell']) g (i*5) (l.length - i) (cap - i) oM hrl hd.row.2.1
    have hzl:(Builtin.zeroCells (Value.agg #[.string ⟨#[]⟩,.string ⟨#[]⟩,.string ⟨#[]⟩,.int .i64 0,.int .i64 0]).cells (l.length - i)).toList.length=(l.length - i)*5:=by simp [Builtin.zeroCells,Value.cells]
    generalize (Builtin.zeroCells (Value.agg #[.string ⟨#[]⟩,.string ⟨#[]⟩,.string ⟨#[]⟩,.int .i64 0,.int .i64 0]).cells (l.length - i)).toList=zs at hcl hzl;have HZ:=mH (aI hzl hlc);have hcap1:¬cap=i:=by omega
    have hcap2:¬i=cap:=by omega
    have hcap3:i≤cap:=by omega
    clear hd hrl hd1 hd2 hzl hlc;go_wp2;go_ret;have h3:=(HDel.o.o.cut qG.cells_len i (by rw [HZ.o.2];omega) zs (by rw [HZ.o.2];exact HZ.o.1)).own (base:=base) qG.cells_len hbg HM.o;rw [HE.o.1] at h3;exact⟨_,rfl,by rw [←HE.o.2] at h3 ⊢;exact h3,qK HDel.o.d.grown (qO _ _ _ _)⟩
def upC (l:List qBJ):Nat→ByteArray→List qBJ
 | 0,_=>[]
 | n+1,k=>if k.size=0 then [] else match qKE l k with
  | none=>[]
  | some s=>s::upC l n s.par
def qU1 (l:List qBJ):Nat→ByteArray→Bool
 | 0,k=>decide (k.size=0)
 | n+1,k=>decide (k.size=0) || (match qKE l k with|none=>false|some s=>qU1 l n s.par)


end Go.Proofs.YtbgnlfgkgklkdaaGreatDoor
