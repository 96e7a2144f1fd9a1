/- Parts of the proof of ScriptsAnswered: Mem, Copy, MapB, Own, RowV, SpZ. No condition. -/
import Derived.Test.YtbgnlfgkgklkdaaGreatDoorZ1
import Derived.Test.YtbgnlfgkgklkdaaGreatDoorZ0
set_option linter.unusedVariables false
set_option linter.unusedSimpArgs false
set_option maxHeartbeats 8000000
set_option maxRecDepth 100000
namespace Go.Proofs.YtbgnlfgkgklkdaaGreatDoor
open Go Go.RowKit
def Row {α:Type} (cells:α→List Value) (sz:Nat) (w:World) (g:Nat) (l:List α):Prop :=
 (∀k (hk:k<l.length),∀j u,(cells l[k])[j]? = some u→w.cell? ⟨g,0+k*sz+j,none⟩=some u)∧(∀o,w.frozen? ⟨g,o,none⟩=false)∧g<w.heap.size
theorem Row.kept {α:Type} {cells:α→List Value} {sz:Nat} {w w':World} {g:Nat} {l:List α} (h:Row cells sz w g l) (hb:w'.heap[g]? = w.heap[g]?) (hs:w.heap.size≤w'.heap.size):Row cells sz w' g l :=
 ⟨λk hk j u hu=>(World.cell?_of_block (w:=w) (a:=⟨g,_,none⟩) hb).trans (h.1 k hk j u hu),λo=>(World.frozen?_of_block (w:=w) (a:=⟨g,o,none⟩) hb).trans (h.2.1 o),Nat.lt_of_lt_of_le h.2.2 hs⟩
theorem Row.below {α:Type} {cells:α→List Value} {sz:Nat} {w w':World} {g B:Nat} {l:List α} (h:Row cells sz w g l) (hB:Below B w w') (hg:g<B):Row cells sz w' g l:=h.kept (hB.block g hg) hB.size
theorem qFS (b:Nat):∀(vs:List Value) (o:Nat) (w:World),(w.setCells b o vs).heap.size=w.heap.size
 | [],_,_=>rfl
 | v::r,o,w=>by rw [World.setCells,qFS b r];simp [World.setCell]
theorem Row.set {α:Type} {cells:α→List Value} {sz:Nat} (hlen:∀x,(cells x).length=sz) {w:World} {g:Nat} {l:List α} (h:Row cells sz w g l) (i:Nat) (hi:i<l.length) (x:α):Row cells sz (w.setCells g (i*sz) (cells x)) g (l.set i x):=by
 obtain⟨h1,h2,h3⟩:=h;refine⟨λk hk j u hu=>?_,λo=>by rw [World.frozen?_setCells];exact h2 o,by rw [qFS];exact h3⟩;have hk':k<l.length:=by simpa using hk
 by_cases hki:k=i
 ·subst hki;simp only [List.getElem_set_self] at hu;have hj:j<(cells x).length:=(List.getElem?_eq_some_iff.1 hu).1;have:=World.cell?_setCells_in g (cells x) (k*sz) w (λj' hj'=>by
   have hj2:j'<(cells l[k]).length:=by rw [hlen] at hj' ⊢;exact hj'
   have:=h1 k hk' j' _ (List.getElem?_eq_getElem hj2);rw [Nat.zero_add] at this;rw [this];rfl) j hj
  rw [Nat.zero_add,this];rw [←hu,List.getElem?_eq_getElem hj]
 ·rw [List.getElem_set_ne (Ne.symm hki)] at hu;have hj:j<sz:=by rw [←hlen l[k]];exact(List.getElem?_eq_some_iff.1 hu).1
  rw [World.cell?_setCells_out g (cells x) (i*sz) w _ (λ_ _=>?_)]
  ·exact h1 k hk' j u hu
  ·rw [hlen];simp only [Nat.zero_add]
   rcases Nat.lt_or_ge k i with hlt|hge
   ·left
    have:(k+1)*sz≤i*sz:=Nat.mul_le_mul_right _ hlt;rw [Nat.succ_mul] at this;omega
   ·right
    have:(i+1)*sz≤k*sz:=Nat.mul_le_mul_right _ oM;rw [Nat.succ_mul] at this;omega
theorem Row.arr {α:Type} {cells:α→List Value} {sz:Nat} {w:World} {g:Nat} {l:List α} (h:Row cells sz w g l) {n cap:Nat} (hn:l.length=n) (hc:n≤cap) (hm:cap≤maxLen):qI cells sz w l (.slice (some ⟨g,0,none⟩) n cap) :=
 ⟨_,cap,by rw [hn],by omega,hm,λk hk=>⟨g,0,rfl,h.2.2,h.1 k hk⟩⟩
theorem Row.of_own {α:Type} {cells:α→List Value} {sz:Nat} (hlen:∀x,(cells x).length=sz) {w:World} {base:Nat} {e:TypeId} {l:List α} {g n cap:Nat} (ho:w.ownsRow base e sz (.slice (some ⟨g,0,none⟩) n cap) n (l.flatMap cells)) (hn:n=l.length):Row cells sz w g l:=by
 subst hn;have hlt:=(ho.lt g rfl).2;refine⟨λk hk j u hu=>?_,λo=>ho.frozenAt o,hlt⟩;have hj:j<sz:=by rw [←hlen l[k]];exact(List.getElem?_eq_some_iff.1 hu).1
 have h1:=qF9 hlen l k hk j hj;have hb:k*sz+j<l.length*sz:=by
  have:(k+1)*sz≤l.length*sz:=Nat.mul_le_mul_right _ hk;rw [Nat.succ_mul] at this;omega
 rw [Nat.zero_add,ho.cellAt _ hb,h1,hu]
theorem qO (g:Nat):∀(vs:List Value) (o:Nat) (w:World),w.grownBy (w.setCells g o vs) (some g)
 | [],_,w=>⟨rfl,rfl,rfl,Nat.le_refl _,λ_ _ _=>rfl⟩
 | v::r,o,w=>by
  have h:=qO g r (o+1) (w.setCell ⟨g,o,none⟩ v);refine⟨h.os,h.tape,h.output,by rw [qFS];exact Nat.le_refl _,λk hk hne=>?_⟩;rw [World.setCells,h.block k (by simpa [World.setCell] using hk) hne];exact Below.heap_setCell _ _ _ _ (λe=>hne (by rw [e]))
theorem qK {a b c:World} {row:Option Nat} (h:a.grownBy b row) (k:b.grownBy c row):a.grownBy c row :=
 ⟨k.os.trans h.os,k.tape.trans h.tape,k.output.trans h.output,Nat.le_trans h.size k.size,λi hi hne=>(k.block i (Nat.lt_of_lt_of_le hi h.size) hne).trans (h.block i hi hne)⟩
theorem qH {a b:World} (row:Option Nat) (h:Below a.heap.size a b):a.grownBy b row:=⟨h.os,h.tape,h.output,h.size,λk hk _=>h.block k hk⟩
theorem jE {a b:World} {g:Nat} (h:a.grownBy b (some g)) {B:Nat} (hB:B≤g) (hs:B≤a.heap.size):Below B a b:=⟨h.os,h.tape,h.output,h.size,λk hk=>h.block k oM (by simp;omega)⟩
theorem qI.news {α:Type} {cells:α→List Value} {sz:Nat} (hlen:∀x,(cells x).length=sz) {w:World} {l:List α} {ad:Addr} {n cap:Nat} (h:qI cells sz w l (.slice (some ad) n cap)):∀j u,(l.flatMap cells)[j]? = some u→w.cell? (ad.add j)=some u:=by
 intro j u hu;obtain⟨a,c,he,_,_,h4⟩:=h;simp only [Value.slice.injEq] at he;obtain⟨rfl,rfl,rfl⟩:=he;have hj:j<(l.flatMap cells).length:=(List.getElem?_eq_some_iff.1 hu).1;rw [jJ hlen] at hj;have hs:0<sz:=by
  rcases Nat.eq_zero_or_pos sz with h0|h0
  ·subst h0;simp at hj
  ·exact h0
 have hk:j / sz<l.length:=(Nat.div_lt_iff_lt_mul hs).2 hj;have hm:j % sz<sz:=Nat.mod_lt _ hs;have e:j=j / sz*sz+j % sz:=by rw [Nat.mul_comm];exact(Nat.div_add_mod j sz).symm
 obtain⟨b,off,ha,hb,hcc⟩:=h4 (j / sz) hk;obtain rfl:ad=⟨b,off,none⟩:=by simpa using ha
 have h1:=qF9 hlen l (j / sz) hk (j % sz) hm;rw [←e] at h1;have:=hcc (j % sz) u (by rw [←h1];exact hu);rw [Nat.add_assoc,←e] at this;unfold Addr.add
 split
 ·rename_i h0;subst h0;simpa using this
 ·exact this
section
variable {P : Program}
theorem qCo (w:World) (t e ty:TypeId) (z:Value) (ht:P.underlying t=some (.slice e)) (hv:∀w,(zeroValue e).run P w=.ok z w) (h1:∀v∈z.cells.toList,v.oneCell'=true) (b o n c:Nat) (hn:0<n)
  (hc:∀j,j<n*z.cells.size→(w.cell? ⟨b,o+j,none⟩).isSome=true) (hf:∀j,w.frozen? ⟨b,j,none⟩=false) :
  (Builtin.clear_ #[t] ty #[.slice (some ⟨b,o,none⟩) n c]).run P w=.ok (.tuple #[]) (w.setCells b o (Builtin.zeroCells z.cells n).toList):=by
 have hsz:=size_zeroCells z.cells n;have h2:∀v∈(Builtin.zeroCells z.cells n).toList,v.oneCell'=true:=by
  intro v hv';simp only [Builtin.zeroCells,Array.toList_map,List.mem_map] at hv';obtain⟨i,hi,rfl⟩:=hv'
  rcases Nat.eq_zero_or_pos z.cells.size with h0|h0
  ·simp [h0] at hi
  ·have hlt:i % z.cells.size<z.cells.size:=Nat.mod_lt _ h0;have:z.cells.getD (i % z.cells.size) undef=z.cells[i % z.cells.size]:=by simp [Array.getD,hlt]
   first
    | (rw [this];exact h1 _ (Array.getElem_mem_toList hlt))
    | (simp [hlt];exact h1 _ (Array.getElem_mem_toList hlt))
 have hst:=run_storeCells_cells (P:=P) b o (Builtin.zeroCells z.cells n).toList 0 w (by simpa [hsz] using hc) (λj _=>by simpa using hf (o+0+j)) h2;simp only [Nat.add_zero] at hst;obtain⟨m,rfl⟩:∃m,n=m+1:=⟨n - 1,by omega⟩;simp [Builtin.clear_,run_underlying ht,hv,hst]
end
section
variable {P : Program}
theorem qAw (w:World) (dT sT ty elem:TypeId) (b o dLen dCap:Nat) (a:Addr) (sLen sCap n sz:Nat) (cs:List Value)
  (hu:P.underlying dT=some (.slice elem)) (hs:(P.info? elem).map (·.size)=some sz) (hn:Nat.min sLen dLen=n) (hcs:cs.length=n*sz)
  (hsrc:∀j v,cs[j]? = some v→w.cell? (a.add j)=some v) (hc:∀j,j<cs.length→(w.cell? ⟨b,o+j,none⟩).isSome=true) (hf:∀j,j<cs.length→w.frozen? ⟨b,o+j,none⟩=false) (h1:∀v∈cs,v.oneCell'=true) :
  (Builtin.copy_ #[dT,sT] ty #[.slice (some ⟨b,o,none⟩) dLen dCap,.slice (some a) sLen sCap]).run P w=.ok (goInt n) (w.setCells b o cs):=by
 have hl:=run_loadCells_list (P:=P) w a cs hsrc;have hst:=run_storeCells_cells (P:=P) b o cs 0 w (by simpa using hc) (by simpa using hf) h1
 cases hq:P.info? elem with
 | none=>simp [hq] at hs
 | some i =>
  have hi:i.size=sz:=by simpa [hq] using hs
  simp [Builtin.copy_,run_underlying hu,Builtin.lenOf,Builtin.firstCells,sizeOf,typeInfo,hq,hi,hn,←hcs,hl,hst]
end
theorem qAa (b off i:Nat):((⟨b,off,none⟩:Addr).add i)=⟨b,off+i,none⟩:=by
 unfold Addr.add
 split
 ·rename_i h;simp [h]
 ·rfl
theorem qI2 (g:Nat):∀(vs:List Value) (o:Nat) (w:World) (cs:Array Value) (t:TypeId),qC w g cs t→o+vs.length≤cs.size→∃cs',qC (w.setCells g o vs) g cs' t∧cs'.size=cs.size∧∀j,cs'[j]? = if o≤j∧j<o+vs.length then vs[j - o]? else cs[j]? := by
 intro vs
 induction vs with
 | nil =>
  intro o w cs t h _;exact⟨cs,h,rfl,λj=>by rw [if_neg sI]⟩
 | cons v vs ih =>
  intro o w cs t h hs;simp only [List.length_cons] at hs;have h1:=h.set o v;obtain⟨cs',h2,h3,h4⟩:=ih (o+1) (w.setCell ⟨g,o,none⟩ v) _ t h1 (by simp;omega);refine⟨cs',h2,by simpa using h3,λj=>?_⟩;rw [h4 j]
  by_cases hj:j=o
  ·subst hj;rw [if_neg oM,if_pos sI];simp [Array.getElem?_setIfInBounds];omega
  ·by_cases hr:o+1≤j∧j<o+1+vs.length
   ·rw [if_pos hr,if_pos (by simp;omega)];obtain⟨i,rfl⟩:∃i,j=o+(i+1):=⟨j - o - 1,by omega⟩;rw [show o+(i+1) - (o+1)=i by omega,show o+(i+1) - o=i+1 by omega];simp
   ·rw [if_neg hr,if_neg (by simp;omega)];simp [Array.getElem?_setIfInBounds];intro e;omega
def qC1 (cur:Array Value) (o:Nat) (vs:List Value):Array Value:=(cur.toList.take o++vs++cur.toList.drop (o+vs.length)).toArray
theorem qAK {w:World} {g:Nat} {cur:Array Value} {t:TypeId} (h:qC w g cur t) (o:Nat) (vs:List Value) (hs:o+vs.length≤cur.size):qC (w.setCells g o vs) g (qC1 cur o vs) t:=by
 obtain⟨cs',h1,h2,h3⟩:=qI2 g vs o w cur t h hs;have e:cs'=qC1 cur o vs:=by
  apply Array.ext_getElem?
  intro j;rw [h3 j];unfold qC1;have hta:∀L:List Value,L.toArray[j]? = L[j]? := λL=>by simp
  rw [hta (cur.toList.take o++vs++cur.toList.drop (o+vs.length))]
  by_cases hj:o≤j∧j<o+vs.length
  ·rw [if_pos hj,List.append_assoc,List.getElem?_append_right (by simp;omega),List.getElem?_append_left (by simp;omega)];rw [List.length_take,Array.length_toList,Nat.min_eq_left oM]
  ·rw [if_neg hj]
   rcases Nat.lt_or_ge j o with hlt|hge
   ·rw [List.append_assoc,List.getElem?_append_left (by simp;omega),List.getElem?_take_of_lt hlt];simp
   ·have e5:(cur.toList.take o++vs).length=o+vs.length:=by
     rw [List.length_append,List.length_take,Array.length_toList];omega
    rw [List.getElem?_append_right (by rw [e5];omega),List.getElem?_drop,e5,show o+vs.length+(j - (o+vs.length))=j by omega];simp
 rw [←e];exact h1
theorem qAc {cur:Array Value} {o:Nat} {vs:List Value} (hs:o+vs.length≤cur.size):(qC1 cur o vs).size=cur.size:=by
 unfold qC1;simp;omega
section
open Go.Maps (Keyed)
def qP3 (v:Value):Option (DataW Value × List MemPlace):=some (.held v,[])
def zA {α:Type} (P:Program) (k:TypeId) (kv:α→Value) (w:World) (b n:Nat) (m:α→Option Value):Prop :=
 ∃D:DataW Value,w.ownsMap P k qP3 b n D∧Maps.IsMap D∧∀a kl,keyOf P k (kv a)=some kl→(∀z,D.atKey kl (.held z)=.held ((m a).getD z))∧Maps.has D kl=(m a).isSome
def qB0 {α:Type} [DecidableEq α] (m:α→Option Value) (a:α) (v:Value):α→Option Value:=λx=>if x=a then some v else m x
section
variable {α : Type} {P : Program} {k : TypeId} {kv : α → Value} {w w' : World} {b n : Nat} {m : α → Option Value}
theorem zA.made (w:World) (P:Program) (k:TypeId) (kv:α→Value):zA P k kv (w.alloc (.map #[] 0)) w.heap.size 0 (λ_=>none) :=
 ⟨.map [],World.ownsMap_made w P k qP3,Maps.isMap_empty,λ_ _ _=>⟨λ_=>rfl,rfl⟩⟩
theorem zA.lt (h:zA P k kv w b n m):b<w.heap.size:=by obtain⟨D,h,_⟩:=h;exact h.lt
theorem zA.mono (h:zA P k kv w b n m) {n':Nat} (hn:n≤n'):zA P k kv w b n' m:=by
 obtain⟨D,h1,h2⟩:=h;exact⟨D,h1.mono hn,h2⟩
theorem zA.kept {row:Option Nat} (h:zA P k kv w b n m) (hg:w.grownBy w' row) (hne:some b≠row):zA P k kv w' b n m:=by
 obtain⟨D,h1,h2⟩:=h;exact⟨D,h1.kept hg hne,h2⟩
theorem zA.below {B:Nat} (h:zA P k kv w b n m) (hB:Below B w w') (hb:b<B):zA P k kv w' b n m:=by
 obtain⟨D,⟨es,clock,h0,h1⟩,h2⟩:=h;exact⟨D,⟨es,clock,(hB.block b hb).trans h0,h1⟩,h2⟩
theorem zA.alloc (h:zA P k kv w b n m) (o:Obj):zA P k kv (w.alloc o) b n m:=h.kept (World.grownBy_alloc w o none) sI
theorem zA.congr (h:zA P k kv w b n m) {m':α→Option Value} (hm:∀a,m a=m' a):zA P k kv w b n m':=by
 obtain⟨D,h1,h2,h3⟩:=h;exact⟨D,h1,h2,λa kl hk=>by rw [←hm a];exact h3 a kl hk⟩
theorem zA.look {t e:TypeId} (h:zA P k kv w b n m) (K:Keyed P k) (ht:P.underlying t=some (.map k e)) {z:Value} (hz:(zeroValue e).run P w=.ok z w) (a:α) {kl:Lit} (hkey:keyOf P k (kv a)=some kl) :
  (Instr.lookup t (.map (some b)) (kv a) false).run P w=.ok ((m a).getD z) w:=by
 obtain⟨D,h1,_,h3⟩:=h;obtain⟨v,ps,hrun,hv⟩:=h1.lookup K ht hz (zd:=.held z) (zp:=[]) rfl hkey;have hat:=(h3 a kl hkey).1 z;rw [hat] at hv;simp only [qP3,Option.some.injEq,Prod.mk.injEq,DataW.held.injEq] at hv;rw [hrun,hv.1]
theorem zA.lookOk {t e:TypeId} (h:zA P k kv w b n m) (K:Keyed P k) (ht:P.underlying t=some (.map k e)) {z:Value} (hz:(zeroValue e).run P w=.ok z w) (a:α) {kl:Lit} (hkey:keyOf P k (kv a)=some kl) :
  (Instr.lookup t (.map (some b)) (kv a) true).run P w=.ok (.tuple #[(m a).getD z,.bool (m a).isSome]) w:=by
 obtain⟨D,h1,_,h3⟩:=h;obtain⟨v,ps,hrun,hv⟩:=h1.look_ok K ht hz (zd:=.held z) (zp:=[]) rfl hkey;have hat:=(h3 a kl hkey).1 z;rw [hat] at hv;simp only [qP3,Option.some.injEq,Prod.mk.injEq,DataW.held.injEq] at hv;rw [hrun,hv.1,(h3 a kl hkey).2]
theorem zA.store [DecidableEq α] {t e:TypeId} (h:zA P k kv w b n m) (K:Keyed P k) (hinj:∀a a',kv a=kv a'→a=a') (ht:P.underlying t=some (.map k e)) (hn:n<maxLen) (a:α) {kl:Lit} (hkey:keyOf P k (kv a)=some kl) (v:Value) :
  ∃w',(Instr.mapUpdate t (.map (some b)) (kv a) v).run P w=.ok () w'∧zA P k kv w' b (n+1) (qB0 m a v)∧w.grownBy w' (some b):=by
 obtain⟨D,h1,h2,h3⟩:=h;obtain⟨w',hrun,hown,hg⟩:=h1.update K ht hn (val:=v) (d:=.held v) (ps:=[]) hkey rfl;refine⟨w',hrun,⟨_,hown,h2.put _ _,λx kx hkx=>?_⟩,hg⟩
 by_cases hx:x=a
 ·subst hx;obtain rfl:kl=kx:=Option.some.inj (hkey.symm.trans hkx);have hs:qB0 m x v x=some v:=by simp [qB0]
  rw [hs];exact⟨λz=>Maps.atKey_put_same h2 (K.key hkey) _ _,Maps.has_put_same h2 (K.key hkey) _⟩
 ·have hs:qB0 m a v x=m x:=by simp [qB0,hx]
  have hne:kx≠kl:=λe=>hx (hinj _ _ (K.inj hkx (e ▸ hkey)))
  rw [hs];obtain⟨q1,q2⟩:=h3 x kx hkx;exact⟨λz=>by rw [Maps.atKey_put_other hne];exact q1 z,by rw [Maps.has_put_other hne];exact q2⟩
end
section
variable {α : Type} {P : Program} {w : World} {ops : Array Oper} {rest : List Oper} {o : Oper} {a : Act} {Q : Exit → Act → World → Prop}
theorem qFR (hg:Region.wanted o (yielded ops a.tmps)=true)
  (h:∀K:Act→World→Prop,(∀a w,wpList P ops Q rest a w→K a w)→o.wp P a w K Q):wpList P ops Q (o::rest) a w :=
 wpList_step λK hK=>by rw [if_pos hg];exact h K hK
theorem qAX (hg:Region.wanted o (yielded ops a.tmps)=true) (mo x:Operand) (t:TypeId) (hop:o.op=Op.lookup t mo x false) {k e:TypeId} (K:Keyed P k) (ht:P.underlying t=some (.map k e)) {z:Value} (hz:(zeroValue e).run P w=.ok z w)
  {kv:α→Value} {b n:Nat} {m:α→Option Value} (hown:zA P k kv w b n m) (hm:a.eval mo=.map (some b)) (q:α) {kl:Lit} (hkey:keyOf P k (kv q)=some kl) (hx:a.eval x=kv q) {v:Value} (hv:(m q).getD z=v)
  (hK:wpList P ops Q rest (a.put o.dst v) w):wpList P ops Q (o::rest) a w:=by
 refine qFR hg λK' hK'=>?_
 have hrun:=hown.look K ht hz q hkey;rw [hv] at hrun;unfold Oper.wp;simp [execOp,hop,hm,hx,hrun,Result.andThen];exact hK' _ _ hK
theorem qDt (hg:Region.wanted o (yielded ops a.tmps)=true) (mo x:Operand) (t:TypeId) (hop:o.op=Op.lookup t mo x true) {k e:TypeId} (K:Keyed P k) (ht:P.underlying t=some (.map k e)) {z:Value} (hz:(zeroValue e).run P w=.ok z w)
  {kv:α→Value} {b n:Nat} {m:α→Option Value} (hown:zA P k kv w b n m) (hm:a.eval mo=.map (some b)) (q:α) {kl:Lit} (hkey:keyOf P k (kv q)=some kl) (hx:a.eval x=kv q)
  (hK:wpList P ops Q rest (a.put o.dst (.tuple #[(m q).getD z,.bool (m q).isSome])) w):wpList P ops Q (o::rest) a w:=by
 refine qFR hg λK' hK'=>?_
 have hrun:=hown.lookOk K ht hz q hkey;unfold Oper.wp;simp [execOp,hop,hm,hx,hrun,Result.andThen];exact hK' _ _ hK
theorem qCU [DecidableEq α] (hg:Region.wanted o (yielded ops a.tmps)=true) (mo x v:Operand) (t:TypeId) (hop:o.op=Op.mapUpdate t mo x v) {k e:TypeId} (K:Keyed P k) (ht:P.underlying t=some (.map k e))
  {kv:α→Value} (hinj:∀a a',kv a=kv a'→a=a') {b n:Nat} {m:α→Option Value} (hown:zA P k kv w b n m) (hn:n<maxLen) (hm:a.eval mo=.map (some b)) (q:α) {kl:Lit} (hkey:keyOf P k (kv q)=some kl) (hx:a.eval x=kv q) (val:Value) (hv:a.eval v=val)
  (hK:∀w',zA P k kv w' b (n+1) (qB0 m q val)→w.grownBy w' (some b)→wpList P ops Q rest (a.put o.dst undef) w'):wpList P ops Q (o::rest) a w:=by
 refine qFR hg λK' hK'=>?_
 obtain⟨w',hrun,r1,r2⟩:=hown.store K hinj ht hn q hkey val;unfold Oper.wp;simp [execOp,hop,hm,hx,hv,hrun,Result.andThen];exact hK' _ _ (hK w' r1 r2)
end
end
theorem qA2 {W:World} {B sz n c:Nat} {e t:TypeId} {v:Value} {xs:List Value} {cs:Array Value} (h:W.ownsRow B e sz v n xs) (hb:qC W c cs t) (ht:e≠t):v.ownBlock≠some c:=by
 intro hc
 rcases h.2 with⟨rfl,_⟩|⟨g,cap,cur,rfl,_,hh,_⟩
 ·cases hc
 ·simp only [Value.ownBlock,Option.some.injEq] at hc;subst hc;unfold qC at hb;rw [hb] at hh;have hh:=hh;simp at hh;exact ht (by first|exact hh.2|exact hh.2.symm|(obtain⟨_,h9⟩:=hh;first|exact h9|exact h9.symm))
theorem qCp {W:World} {B B' sz sz' n n':Nat} {e e':TypeId} {v v':Value} {xs xs':List Value} (h:W.ownsRow B e sz v n xs) (h':W.ownsRow B' e' sz' v' n' xs') (ht:e≠e'):∀k,v.ownBlock=some k→v'.ownBlock=some k→False:=by
 intro k h1 h2
 rcases h.2 with⟨rfl,_⟩|⟨g,cap,cur,rfl,_,hh,_⟩
 ·cases h1
 ·simp only [Value.ownBlock,Option.some.injEq] at h1;subst h1;exact qA2 h' (show qC W g cur e from hh) (λe=>ht e.symm) h2
def zG {α:Type} (cells:α→List Value) (sz base:Nat) (w:World) (v:Value) (l:List α):Prop :=
 (v=.slice none 0 0∧l=[])∨∃g cap,v=.slice (some ⟨g,0,none⟩) l.length cap∧base≤g∧l.length≤cap∧cap≤maxLen∧Row cells sz w g l
section
variable {α : Type} {cells : α → List Value} {sz base : Nat} {w w' : World} {v : Value} {l : List α}
theorem zG.of_own (hlen:∀x,(cells x).length=sz) {e:TypeId} (ho:w.ownsRow base e sz v l.length (l.flatMap cells)):zG cells sz base w v l:=by
 have h:=ho;obtain⟨hl,⟨hv,hn⟩|⟨g,cap,cur,rfl,hg,hh,hc,hm,hs,ht⟩⟩:=ho
 ·exact .inl ⟨hv,List.length_eq_zero_iff.1 hn⟩
 ·exact .inr ⟨g,cap,rfl,hg,hc,hm,Row.of_own hlen h rfl⟩
theorem zG.arr (h:zG cells sz base w v l):qI cells sz w l v:=by
 rcases h with⟨rfl,rfl⟩|⟨g,cap,rfl,hg,hc,hm,hr⟩
 ·exact⟨none,0,rfl,Nat.le_refl _,by simp [maxLen],λk hk=>absurd hk sI⟩
 ·exact hr.arr rfl hc hm
theorem zG.lt (h:zG cells sz base w v l):∀k,v.ownBlock=some k→base≤k∧k<w.heap.size:=by
 intro k hk
 rcases h with⟨rfl,rfl⟩|⟨g,cap,rfl,hg,hc,hm,hr⟩
 ·cases hk
 ·simp only [Value.ownBlock,Option.some.injEq] at hk;subst hk;exact⟨hg,hr.2.2⟩
theorem zG.grown (h:zG cells sz base w v l) {row:Option Nat} (hg:w.grownBy w' row) (hne:∀k,v.ownBlock=some k→row≠some k):zG cells sz base w' v l:=by
 rcases h with⟨rfl,rfl⟩|⟨g,cap,rfl,hg2,hc,hm,hr⟩
 ·exact .inl ⟨rfl,rfl⟩
 ·exact .inr ⟨g,cap,rfl,hg2,hc,hm,hr.kept (hg.block g hr.2.2 (λe=>hne g rfl e.symm)) hg.size⟩
theorem zG.below (h:zG cells sz base w v l) (hb:Below w.heap.size w w'):zG cells sz base w' v l:=h.grown (qH none hb) (λ_ _ e=>by cases e)
theorem zG.low (h:zG cells sz base w v l) {base':Nat} (hb:base'≤base):zG cells sz base' w v l:=by
 rcases h with h|⟨g,cap,rfl,hg2,hc,hm,hr⟩
 ·exact .inl h
 ·exact .inr ⟨g,cap,rfl,Nat.le_trans hb hg2,hc,hm,hr⟩
theorem zG.slice (h:zG cells sz base w v l):∃a cap,v=.slice a l.length cap:=by
 rcases h with⟨rfl,rfl⟩|⟨g,cap,rfl,_⟩
 ·exact⟨none,0,rfl⟩
 ·exact⟨_,cap,rfl⟩
theorem zG.bel (h:zG cells sz base w v l) (hg:w.grownBy w' v.ownBlock) (hB:base≤w.heap.size):Below base w w' :=
 ⟨hg.os,hg.tape,hg.output,hg.size,λk hk=>hg.block k oM (λe=>by have:=(h.lt k e.symm).1;omega)⟩
theorem zG.setNe (h:zG cells sz base w v l) {c:Nat} (hc:v.ownBlock≠some c) (o:Nat) (u:Value):zG cells sz base (w.setCell ⟨c,o,none⟩ u) v l :=
 h.grown (row:=some c) (qO c [u] o w) (λk hk e=>hc (hk.trans e.symm))
end
theorem qF {P:Program} {fn:Func} {p u:Tmp} {ty:TypeId} (h:fn.results=#[.cell p ty,.tmp u]) (tmps:Array Value) (w:World) (g:Nat) (t:TypeId) (cs:Array Value) (val:Value) (fr:Nat × Nat) (d:TypeDesc)
  (hp:tmps.getD p undef=.pointer (some ⟨g,0,none⟩)) (hv:tmps.getD u undef=val) (hg:w.heap[g]? = some (.cells cs t fr))
  (hu:P.underlying ty=some d) (hd:(match d with | .struct _ | .array _ _=>true|_=>false)=true) (hi:(P.info? ty).map (·.size)=some cs.size) :
  (results fn tmps).run P w=.ok (.tuple #[.agg cs,val]) w:=by
 have hp':tmps[p]?.getD undef=.pointer (some ⟨g,0,none⟩):=by simpa using hp
 have hv':tmps[u]?.getD undef=val:=by simpa using hv
 rw [results_cell_tmp h];simp [hp',hv',asAddr,run_loadVar_row w g t ty cs fr d hg hu hd hi]
theorem qC.fill6 {w:World} {b:Nat} {t:TypeId} {u0 u1 u2 u3 u4 u5 v0 v1 v2 v3 v4 v5:Value} (h:qC w b #[u0,u1,u2,u3,u4,u5] t):qC ((((((w.setCell ⟨b,0,none⟩ v0).setCell ⟨b,1,none⟩ v1).setCell ⟨b,2,none⟩ v2).setCell ⟨b,3,none⟩ v3).setCell ⟨b,4,none⟩ v4).setCell ⟨b,5,none⟩ v5) b #[v0,v1,v2,v3,v4,v5] t :=
 ((((((h).set 0 v0).set 1 v1).set 2 v2).set 3 v3).set 4 v4).set 5 v5
theorem qC.fill5 {w:World} {b:Nat} {t:TypeId} {u0 u1 u2 u3 u4 v0 v1 v2 v3 v4:Value} (h:qC w b #[u0,u1,u2,u3,u4] t):qC (((((w.setCell ⟨b,0,none⟩ v0).setCell ⟨b,1,none⟩ v1).setCell ⟨b,2,none⟩ v2).setCell ⟨b,3,none⟩ v3).setCell ⟨b,4,none⟩ v4) b #[v0,v1,v2,v3,v4] t :=
 (((((h).set 0 v0).set 1 v1).set 2 v2).set 3 v3).set 4 v4
theorem qC.fill3 {w:World} {b:Nat} {t:TypeId} {u0 u1 u2 v0 v1 v2:Value} (h:qC w b #[u0,u1,u2] t):qC (((w.setCell ⟨b,0,none⟩ v0).setCell ⟨b,1,none⟩ v1).setCell ⟨b,2,none⟩ v2) b #[v0,v1,v2] t :=
 (((h).set 0 v0).set 1 v1).set 2 v2
theorem Below.fill6 {B b:Nat} {a w:World} (h:Below B a w) (hb:B≤b) (v0 v1 v2 v3 v4 v5:Value):Below B a ((((((w.setCell ⟨b,0,none⟩ v0).setCell ⟨b,1,none⟩ v1).setCell ⟨b,2,none⟩ v2).setCell ⟨b,3,none⟩ v3).setCell ⟨b,4,none⟩ v4).setCell ⟨b,5,none⟩ v5) :=
 (((((h.setCell hb v0).setCell hb v1).setCell hb v2).setCell hb v3).setCell hb v4).setCell hb v5
theorem qC.at6 {w:World} {b:Nat} {t:TypeId} {u0 u1 u2 u3 u4 u5:Value} (h:qC w b #[u0,u1,u2,u3,u4,u5] t):w.cell? ⟨b,0,none⟩=some u0∧w.cell? ⟨b,1,none⟩=some u1∧w.cell? ⟨b,2,none⟩=some u2∧w.cell? ⟨b,3,none⟩=some u3∧w.cell? ⟨b,4,none⟩=some u4∧w.cell? ⟨b,5,none⟩=some u5∧∀o,w.frozen? ⟨b,o,none⟩=false :=
 ⟨h.cell 0 _ rfl,h.cell 1 _ rfl,h.cell 2 _ rfl,h.cell 3 _ rfl,h.cell 4 _ rfl,h.cell 5 _ rfl,h.free⟩
end Go.Proofs.YtbgnlfgkgklkdaaGreatDoor
