/- Parts of the proof of ScriptsAnswered: SnK. No condition. -/
import Derived.Test.YtbgnlfgkgklkdaaGreatDoorZ18
import Derived.Test.YtbgnlfgkgklkdaaGreatDoorZ19
set_option linter.unusedVariables false
set_option linter.unusedSimpArgs false
set_option maxHeartbeats 8000000
set_option maxRecDepth 100000
namespace Go.Proofs.YtbgnlfgkgklkdaaGreatDoor
open Go Go.RowKit Tryz
theorem qOJ {α:Type} {P:Program} {k:TypeId} {kv:α→Value} {w:World} {b n:Nat} {m:α→Option Value} (h:zA P k kv w b n m):∃es clock,w.heap[b]? = some (.map es clock):=by
 obtain⟨D,⟨es,clock,h1,_⟩,_⟩:=h;exact⟨es,clock,h1⟩
theorem qAd {α:Type} {P:Program} {k:TypeId} {kv:α→Value} {w:World} {b n c:Nat} {m:α→Option Value} {cs:Array Value} {t:TypeId} (h:zA P k kv w b n m) (hb:qC w c cs t):b≠c:=by
 rintro rfl;obtain⟨es,clock,h1⟩:=qOJ h;unfold qC at hb;rw [h1] at hb;cases hb
theorem zQ {α:Type} {P:Program} {k:TypeId} {kv:α→Value} {w:World} {b n B sz q:Nat} {e:TypeId} {m:α→Option Value} {v:Value} {xs:List Value} (h:zA P k kv w b n m) (ho:w.ownsRow B e sz v q xs):v.ownBlock≠some b:=by
 intro hv
 rcases ho.2 with⟨rfl,_⟩|⟨g,cap,cur,rfl,_,hh,_⟩
 ·cases hv
 ·simp only [Value.ownBlock,Option.some.injEq] at hv;subst hv;exact qAd h (show qC w g cur e from hh) rfl
theorem jO {W:World} {B sz n:Nat} {e:TypeId} {v:Value} {xs:List Value} (h:W.ownsRow B e sz v n xs):∃a cap,v=.slice a n cap:=by
 rcases h.2 with⟨hv,h0⟩|⟨g,cap,cur,rfl,_⟩
 ·exact⟨none,0,by rw [hv,h0]⟩
 ·exact⟨_,cap,rfl⟩
abbrev qAq (w:World) (b n:Nat) (m:ByteArray→Option Value):Prop:=zA prog 9 Value.string w b n m
abbrev qGZ (w:World) (b n:Nat) (m:qQ × ByteArray→Option Value):Prop:=zA prog 197 qEQ w b n m
abbrev qGX (w:World) (b n:Nat):Prop:=∃m,zA prog 79 qL1 w b n m
def Oth (t:TypeId):Prop:=t≠105∧t≠73∧t≠75∧t≠79
def Tfr (w w':World):Prop:=∀k cs t,Oth t→qC w k cs t→qC w' k cs t
theorem Tfr.refl (w:World):Tfr w w:=λ_ _ _ _ h=>h
theorem Tfr.trans {a b c:World} (h:Tfr a b) (h':Tfr b c):Tfr a c:=λk cs t ho hb=>h' k cs t ho (h k cs t ho hb)
theorem Tfr.of_grown {w w':World} {row:Option Nat} (hg:w.grownBy w' row) (hne:∀k cs t,Oth t→qC w k cs t→some k≠row):Tfr w w':=λk cs t ho hb=>hb.grown hg (hne k cs t ho hb)
theorem Tfr.of_below {w w':World} (hb:Below w.heap.size w w'):Tfr w w':=Tfr.of_grown (qH none hb) λ_ _ _ _ _ e=>by cases e
theorem Tfr.of_map {α:Type} {P:Program} {k:TypeId} {kv:α→Value} {w w':World} {b n:Nat} {m:α→Option Value} (h:zA P k kv w b n m) (hg:w.grownBy w' (some b)):Tfr w w':=Tfr.of_grown hg λ_ _ _ _ hb e=>qAd h hb (Option.some.inj e).symm
theorem Tfr.of_own {w w':World} {B sz n:Nat} {e:TypeId} {v:Value} {xs:List Value} (ho:w.ownsRow B e sz v n xs) (he:¬Oth e) (hg:w.grownBy w' v.ownBlock):Tfr w w':=Tfr.of_grown hg λ_ _ _ ht hb q=>qA2 ho hb (λq=>he (q ▸ ht)) q.symm
theorem Tfr.setCell {w:World} {b i:Nat} {cs:Array Value} {t:TypeId} (hb:qC w b cs t) (ht:¬Oth t) (v:Value):Tfr w (w.setCell ⟨b,i,none⟩ v):=Tfr.of_grown (qO b [v] i w) λk cs' t' ho hb' e=>by
 obtain rfl:=Option.some.inj e;unfold qC at hb hb';rw [hb] at hb';simp only [Option.some.injEq,Obj.cells.injEq] at hb';exact ht (hb'.2.1 ▸ ho)
theorem qTr:¬Oth 105:=λh=>h.1 rfl
theorem qUG:¬Oth 73:=λh=>h.2.1 rfl
theorem qTx:¬Oth 75:=λh=>h.2.2.1 rfl
theorem qQt:¬Oth 79:=λh=>h.2.2.2 rfl
structure GrW where
 vS:Value
 vC:Value
 vX:Value
 kS:Nat
 kC:Nat
 kE:Nat
 kM:Nat
structure jI (base:Nat) (wf w:World) (gb nn:Nat) (u:GrW) (S:List qJ) (C:List qG) (X:List qE) (m1 m2:ByteArray→Option Value) (m3:qQ × ByteArray→Option Value):Prop where
 blk:qC w gb #[u.vS,u.vC,u.vX,.map (some u.kS),.map (some u.kC),.map (some u.kE),.map (some u.kM)] 105
 low:base≤gb∧base≤u.kS∧base≤u.kC∧base≤u.kE∧base≤u.kM
 oS:w.ownsRow base 73 2 u.vS S.length (S.flatMap qJ.cells)
 oC:w.ownsRow base 75 5 u.vC C.length (C.flatMap qG.cells)
 oX:w.ownsRow base 79 6 u.vX X.length (X.flatMap qE.cells)
 mS:qAq w u.kS nn m1
 mC:qAq w u.kC nn m2
 mE:qGZ w u.kE nn m3
 mM:qGX w u.kM nn
 ne:u.kS≠u.kC∧u.kS≠u.kE∧u.kS≠u.kM∧u.kC≠u.kE∧u.kC≠u.kM∧u.kE≠u.kM
 fr:Tfr wf w
def qAe (base:Nat) (wf w:World) (gb nn:Nat) (p:Pl):Prop:=∃u,jI base wf w gb nn u p.S p.C p.X (qBE p.S) (qAT p.C) (qAV p.X)
theorem qGX.kept {w w':World} {b n:Nat} {row:Option Nat} (h:qGX w b n) (hg:w.grownBy w' row) (hne:some b≠row):qGX w' b n:=by
 obtain⟨m,h⟩:=h;exact⟨m,h.kept hg hne⟩
theorem qGX.mono {w:World} {b n n':Nat} (h:qGX w b n) (hn:n≤n'):qGX w b n':=by
 obtain⟨m,h⟩:=h;exact⟨m,h.mono hn⟩
theorem jK {w w':World} {B sz n:Nat} {e:TypeId} {v:Value} {xs:List Value} {row:Option Nat} (h:w.ownsRow B e sz v n xs) (hg:w.grownBy w' row) (hne:∀b,row=some b→v.ownBlock≠some b):w'.ownsRow B e sz v n xs:=by
 refine h.kept hg ?_
 cases hv:v.ownBlock with
 | none=>exact .inl rfl
 | some k =>
  refine .inr ?_;rintro rfl;exact hne k rfl hv
section
variable {base gb nn : Nat} {w w' : World} {u : GrW} {S : List qJ} {C : List qG} {X : List qE} {m1 m2 : ByteArray → Option Value} {m3 : qQ × ByteArray → Option Value}
theorem jI.lt {wf:World} (h:jI base wf w gb nn u S C X m1 m2 m3):gb<w.heap.size:=h.blk.lt
theorem jI.mono {wf:World} (h:jI base wf w gb nn u S C X m1 m2 m3) {n':Nat} (hn:nn≤n'):jI base wf w gb n' u S C X m1 m2 m3 :=
 ⟨h.blk,h.low,h.oS,h.oC,h.oX,h.mS.mono hn,h.mC.mono hn,h.mE.mono hn,h.mM.mono hn,h.ne,h.fr⟩
theorem jI.kept {wf:World} (h:jI base wf w gb nn u S C X m1 m2 m3) {row:Option Nat} (hg:w.grownBy w' row) (hr:∀b,row=some b→b<base):jI base w' w' gb nn u S C X m1 m2 m3:=by
 have hl:=h.low;have ho:∀{e sz v n xs},w.ownsRow base e sz v n xs→w'.ownsRow base e sz v n xs:=λho=>jK ho hg λb hb hv=>by
  have:=(ho.lt b hv).1;have:=hr b hb;omega
 have hm:∀b,base≤b→some b≠row:=λb hb e=>by have:=hr b e.symm;omega
 exact⟨h.blk.grown hg (hm gb hl.1),hl,ho h.oS,ho h.oC,ho h.oX,h.mS.kept hg (hm _ hl.2.1),h.mC.kept hg (hm _ hl.2.2.1),h.mE.kept hg (hm _ hl.2.2.2.1),h.mM.kept hg (hm _ hl.2.2.2.2),h.ne,Tfr.refl _⟩
theorem jI.below {wf:World} (h:jI base wf w gb nn u S C X m1 m2 m3) (hb:Below w.heap.size w w'):jI base wf w' gb nn u S C X m1 m2 m3 :=
 have k:=h.kept (qH none hb) λb e=>by cases e
 ⟨k.blk,k.low,k.oS,k.oC,k.oX,k.mS,k.mC,k.mE,k.mM,k.ne,h.fr.trans (Tfr.of_below hb)⟩
theorem jI.drew {wf:World} (h:jI base wf w gb nn u S C X m1 m2 m3):jI base wf w.drew gb nn u S C X m1 m2 m3:=h.below (Below.drew bR)
theorem jI.alloc {wf:World} (h:jI base wf w gb nn u S C X m1 m2 m3) (o:Obj):jI base wf (w.alloc o) gb nn u S C X m1 m2 m3:=h.below (qB bR o lR)
theorem jI.mapS {wf:World} (h:jI base wf w gb nn u S C X m1 m2 m3) (hg:w.grownBy w' (some u.kS)) {n':Nat} (hn:nn≤n') {m':ByteArray→Option Value} (hm:qAq w' u.kS n' m'):jI base wf w' gb n' u S C X m' m2 m3:=by
 have hn1:=h.ne;have e:∀{a b:Nat},a≠b→some a≠some b:=λh e=>h (Option.some.inj e)
 exact⟨h.blk.grown hg (e (qAd h.mS h.blk).symm),h.low,jK h.oS hg (λb hb=>by cases hb;exact zQ h.mS h.oS),jK h.oC hg (λb hb=>by cases hb;exact zQ h.mS h.oC),jK h.oX hg (λb hb=>by cases hb;exact zQ h.mS h.oX),
  hm,(h.mC.kept hg (e hn1.1.symm)).mono hn,(h.mE.kept hg (e hn1.2.1.symm)).mono hn,(h.mM.kept hg (e hn1.2.2.1.symm)).mono hn,hn1,h.fr.trans (Tfr.of_map h.mS hg)⟩
theorem jI.mapC {wf:World} (h:jI base wf w gb nn u S C X m1 m2 m3) (hg:w.grownBy w' (some u.kC)) {n':Nat} (hn:nn≤n') {m':ByteArray→Option Value} (hm:qAq w' u.kC n' m'):jI base wf w' gb n' u S C X m1 m' m3:=by
 have hn1:=h.ne;have e:∀{a b:Nat},a≠b→some a≠some b:=λh e=>h (Option.some.inj e)
 exact⟨h.blk.grown hg (e (qAd h.mC h.blk).symm),h.low,jK h.oS hg (λb hb=>by cases hb;exact zQ h.mC h.oS),jK h.oC hg (λb hb=>by cases hb;exact zQ h.mC h.oC),jK h.oX hg (λb hb=>by cases hb;exact zQ h.mC h.oX),
  (h.mS.kept hg (e hn1.1)).mono hn,hm,(h.mE.kept hg (e hn1.2.2.2.1.symm)).mono hn,(h.mM.kept hg (e hn1.2.2.2.2.1.symm)).mono hn,hn1,h.fr.trans (Tfr.of_map h.mC hg)⟩
theorem jI.mapE {wf:World} (h:jI base wf w gb nn u S C X m1 m2 m3) (hg:w.grownBy w' (some u.kE)) {n':Nat} (hn:nn≤n') {m':qQ × ByteArray→Option Value} (hm:qGZ w' u.kE n' m'):jI base wf w' gb n' u S C X m1 m2 m':=by
 have hn1:=h.ne;have e:∀{a b:Nat},a≠b→some a≠some b:=λh e=>h (Option.some.inj e)
 exact⟨h.blk.grown hg (e (qAd h.mE h.blk).symm),h.low,jK h.oS hg (λb hb=>by cases hb;exact zQ h.mE h.oS),jK h.oC hg (λb hb=>by cases hb;exact zQ h.mE h.oC),jK h.oX hg (λb hb=>by cases hb;exact zQ h.mE h.oX),
  (h.mS.kept hg (e hn1.2.1)).mono hn,(h.mC.kept hg (e hn1.2.2.2.1)).mono hn,hm,(h.mM.kept hg (e hn1.2.2.2.2.2.symm)).mono hn,hn1,h.fr.trans (Tfr.of_map h.mE hg)⟩
theorem jI.mapM {wf:World} (h:jI base wf w gb nn u S C X m1 m2 m3) (hg:w.grownBy w' (some u.kM)) {n':Nat} (hn:nn≤n') (hm:qGX w' u.kM n'):jI base wf w' gb n' u S C X m1 m2 m3:=by
 have hn1:=h.ne;obtain⟨mm,hM⟩:=h.mM;have e:∀{a b:Nat},a≠b→some a≠some b:=λh e=>h (Option.some.inj e)
 exact⟨h.blk.grown hg (e (qAd hM h.blk).symm),h.low,jK h.oS hg (λb hb=>by cases hb;exact zQ hM h.oS),jK h.oC hg (λb hb=>by cases hb;exact zQ hM h.oC),jK h.oX hg (λb hb=>by cases hb;exact zQ hM h.oX),
  (h.mS.kept hg (e hn1.2.2.1)).mono hn,(h.mC.kept hg (e hn1.2.2.2.2.1)).mono hn,(h.mE.kept hg (e hn1.2.2.2.2.2)).mono hn,hm,hn1,h.fr.trans (Tfr.of_map hM hg)⟩
theorem jI.store {wf:World} {w1:World} {i:Nat} {v:Value} {u':GrW} {S':List qJ} {C':List qG} {X':List qE} (hb:qC w1 gb #[u.vS,u.vC,u.vX,.map (some u.kS),.map (some u.kC),.map (some u.kE),.map (some u.kM)] 105)
  (hs:(#[u.vS,u.vC,u.vX,Value.map (some u.kS),Value.map (some u.kC),Value.map (some u.kE),Value.map (some u.kM)]:Array Value).setIfInBounds i v=#[u'.vS,u'.vC,u'.vX,.map (some u'.kS),.map (some u'.kC),.map (some u'.kE),.map (some u'.kM)])
  (low:base≤gb∧base≤u'.kS∧base≤u'.kC∧base≤u'.kE∧base≤u'.kM)
  (oS:w1.ownsRow base 73 2 u'.vS S'.length (S'.flatMap qJ.cells)) (oC:w1.ownsRow base 75 5 u'.vC C'.length (C'.flatMap qG.cells)) (oX:w1.ownsRow base 79 6 u'.vX X'.length (X'.flatMap qE.cells))
  (mS:qAq w1 u'.kS nn m1) (mC:qAq w1 u'.kC nn m2) (mE:qGZ w1 u'.kE nn m3) (mM:qGX w1 u'.kM nn) (ne:u'.kS≠u'.kC∧u'.kS≠u'.kE∧u'.kS≠u'.kM∧u'.kC≠u'.kE∧u'.kC≠u'.kM∧u'.kE≠u'.kM) (fr:Tfr wf w1) :
  jI base wf (w1.setCell ⟨gb,i,none⟩ v) gb nn u' S' C' X' m1 m2 m3:=by
 have hg:w1.grownBy (w1.setCell ⟨gb,i,none⟩ v) (some gb):=qO gb [v] i w1;have e:∀{a b:Nat},a≠b→some a≠some b:=λh e=>h (Option.some.inj e)
 have hbl:=hb.set i v;rw [hs] at hbl;obtain⟨mm,hM⟩:=mM;exact⟨hbl,low,jK oS hg (λb hb'=>by cases hb';exact qA2 oS hb dE),jK oC hg (λb hb'=>by cases hb';exact qA2 oC hb dE),jK oX hg (λb hb'=>by cases hb';exact qA2 oX hb dE),
  mS.kept hg (e (qAd mS hb)),mC.kept hg (e (qAd mC hb)),mE.kept hg (e (qAd mE hb)),⟨mm,hM.kept hg (e (qAd hM hb))⟩,ne,fr.trans (Tfr.setCell hb qTr v)⟩
theorem jI.rowS {wf:World} (h:jI base wf w gb nn u S C X m1 m2 m3) {v':Value} {S':List qJ} (ho:w'.ownsRow base 73 2 v' S'.length (S'.flatMap qJ.cells)) (hg:w.grownBy w' u.vS.ownBlock):jI base wf (w'.setCell ⟨gb,0,none⟩ v') gb nn { u with vS:=v' } S' C X m1 m2 m3:=by
 obtain⟨mm,hM⟩:=h.mM;have e:∀{b:Nat} {o:Option Nat},o≠some b→some b≠o:=λh e=>h e.symm
 exact jI.store (u:=u) (h.blk.grown hg (e (qA2 h.oS h.blk dE))) rfl h.low ho (jK h.oC hg λb hb hc=>qCp h.oS h.oC dE b hb hc) (jK h.oX hg λb hb hc=>qCp h.oS h.oX dE b hb hc)
  (h.mS.kept hg (e (zQ h.mS h.oS))) (h.mC.kept hg (e (zQ h.mC h.oS))) (h.mE.kept hg (e (zQ h.mE h.oS))) ⟨mm,hM.kept hg (e (zQ hM h.oS))⟩ h.ne (h.fr.trans (Tfr.of_own h.oS qUG hg))
theorem jI.rowC {wf:World} (h:jI base wf w gb nn u S C X m1 m2 m3) {v':Value} {C':List qG} (ho:w'.ownsRow base 75 5 v' C'.length (C'.flatMap qG.cells)) (hg:w.grownBy w' u.vC.ownBlock):jI base wf (w'.setCell ⟨gb,1,none⟩ v') gb nn { u with vC:=v' } S C' X m1 m2 m3:=by
 obtain⟨mm,hM⟩:=h.mM;have e:∀{b:Nat} {o:Option Nat},o≠some b→some b≠o:=λh e=>h e.symm
 exact jI.store (u:=u) (h.blk.grown hg (e (qA2 h.oC h.blk dE))) rfl h.low (jK h.oS hg λb hb hc=>qCp h.oC h.oS dE b hb hc) ho (jK h.oX hg λb hb hc=>qCp h.oC h.oX dE b hb hc)
  (h.mS.kept hg (e (zQ h.mS h.oC))) (h.mC.kept hg (e (zQ h.mC h.oC))) (h.mE.kept hg (e (zQ h.mE h.oC))) ⟨mm,hM.kept hg (e (zQ hM h.oC))⟩ h.ne (h.fr.trans (Tfr.of_own h.oC qTx hg))
theorem jI.rowX {wf:World} (h:jI base wf w gb nn u S C X m1 m2 m3) {v':Value} {X':List qE} (ho:w'.ownsRow base 79 6 v' X'.length (X'.flatMap qE.cells)) (hg:w.grownBy w' u.vX.ownBlock):jI base wf (w'.setCell ⟨gb,2,none⟩ v') gb nn { u with vX:=v' } S C X' m1 m2 m3:=by
 obtain⟨mm,hM⟩:=h.mM;have e:∀{b:Nat} {o:Option Nat},o≠some b→some b≠o:=λh e=>h e.symm
 exact jI.store (u:=u) (h.blk.grown hg (e (qA2 h.oX h.blk dE))) rfl h.low (jK h.oS hg λb hb hc=>qCp h.oX h.oS dE b hb hc) (jK h.oC hg λb hb hc=>qCp h.oX h.oC dE b hb hc) ho
  (h.mS.kept hg (e (zQ h.mS h.oX))) (h.mC.kept hg (e (zQ h.mC h.oX))) (h.mE.kept hg (e (zQ h.mE h.oX))) ⟨mm,hM.kept hg (e (zQ hM h.oX))⟩ h.ne (h.fr.trans (Tfr.of_own h.oX qQt hg))
theorem jI.congr {wf:World} (h:jI base wf w gb nn u S C X m1 m2 m3) {m1' m2':ByteArray→Option Value} {m3':qQ × ByteArray→Option Value} (e1:∀k,m1 k=m1' k) (e2:∀k,m2 k=m2' k) (e3:∀k,m3 k=m3' k):jI base wf w gb nn u S C X m1' m2' m3' :=
 ⟨h.blk,h.low,h.oS,h.oC,h.oX,h.mS.congr e1,h.mC.congr e2,h.mE.congr e3,h.mM,h.ne,h.fr⟩
end
end Go.Proofs.YtbgnlfgkgklkdaaGreatDoor
