/- Parts of the proof of ScriptsAnswered: StreamT, SnV, TreeBel, AskB, TreeI. No condition. -/
import Derived.Deep.AppendLies
import Derived.Test.YtbgnlfgkgklkdaaGreatDoorZ25
set_option linter.unusedVariables false
set_option linter.unusedSimpArgs false
set_option maxHeartbeats 8000000
set_option maxRecDepth 100000
namespace Go.Proofs.YtbgnlfgkgklkdaaGreatDoor
open Go Go.RowKit Tryz
theorem qSy {s:Nat} {W w1:World} (hg:W.grownBy w1 (some s)) (b:Nat) (h:b<W.heap.size) (hs:b≠s):∀o,w1.cell? ⟨b,o,none⟩=W.cell? ⟨b,o,none⟩:=λo=>World.cell?_of_block (w:=W) (a:=⟨b,o,none⟩) (hg.block b h (by simp;exact hs))
section
variable {α : Type} {cells : α → List Value} {sz cap g i j : Nat} {t : TypeId} {p : α → Bool} {w0 wr w1 : World} {l cur : List α}
theorem qCE (w:World) (row:Option Nat):w.grownBy w row:=qH _ bR
theorem qC6.skipE (hlen:∀x,(cells x).length=sz) (hm:cap≤maxLen) (h:qC6 cells sz t cap p l w0 wr g i j cur) (hj:j<l.length) (hp:p l[j]=true) (hb:w1.heap[g]? = wr.heap[g]?):qC6 cells sz t cap p l w1 w1 g i (j+1) cur :=
  have ho:=h.o.kept hb
  ⟨{ len:=h.d.len,ij:=by have:=h.d.ij;omega,jn:=by omega,kept:=by rw [h.d.kept,List.take_succ_eq_append_getElem hj,List.filter_append];simp [hp],
     rest:=by rw [←List.drop_drop,←List.drop_drop,h.d.rest],row:=ho.row hlen hm,grown:=qCE _ _ },ho⟩
theorem qC6.keepE (hlen:∀x,(cells x).length=sz) (hm:cap≤maxLen) (h:qC6 cells sz t cap p l w0 wr g i j cur) (hj:j<l.length) (hp:p l[j]=false) (hb:w1.heap[g]? = wr.heap[g]?) :
    qC6 cells sz t cap p l (w1.setCells g (i*sz) (cells l[j])) (w1.setCells g (i*sz) (cells l[j])) g (i+1) (j+1) (cur.set i l[j]) :=
  have ho:=(h.o.kept hb).put hlen i (by rw [h.d.len];have:=h.d.ij;omega) l[j];have h1:=h.d.ij;have h2:=h.d.len
  ⟨{ len:=by rw [List.length_set];exact h.d.len,ij:=by omega,jn:=by omega,
     kept:=by rw [List.take_succ_eq_append_getElem (by rw [List.length_set];omega),List.getElem_set_self,List.take_set_of_le oM,h.d.kept,List.take_succ_eq_append_getElem hj,List.filter_append];simp [hp],
     rest:=by rw [List.drop_set_of_lt oM,←List.drop_drop,←List.drop_drop,h.d.rest],
     row:=ho.row hlen hm,grown:=qCE _ _ },ho⟩
end
def qLZ (I:Nat→World→Prop) (l:List qE) (p:qE→Bool) (F:FuncId) (cp:Array Value) (g q:Nat):Prop :=
 (∀k W W',I k W→W.grownBy W' (some g)→I k W') ∧
 (∀(args:Array Value) (w:World),(callFunc F args).run prog w=.ok (.enter F args) w) ∧
 ∀k (hk:k<l.length) (w':World),I k w'→Calls prog F (#[.agg ⟨qE.cells l[k]⟩]++cp) w' λe w''=>e=.returned (.bool (p l[k]))∧I (k+1) w''∧w'.grownBy w'' (some q)
theorem qGk (I:Nat→World→Prop) (l:List qE) (p:qE→Bool) (F:FuncId) (cp:Array Value) (g q cap:Nat) (w:World) (hO:qAr qE.cells 6 79 cap w g l) (hmax:cap≤maxLen) (hl:l.length≤cap) (hI:I 0 w) (hgq:g≠q) (h:qLZ I l p F cp g q) :
  Calls prog 218 #[.slice (some ⟨g,0,none⟩) l.length cap,.func (.func F) #[] cp] w
  λe w'=>e=.returned (.int .i64 (qAu p l))∧(l.any p=false→I l.length w')∧(∀k:Nat,k<l.length→qAu p l=k→I (k+1) w')∧qAr qE.cells 6 79 cap w' g l∧w.heap.size≤w'.heap.size:=by
 have HC:=mH h;have HM:=mH hmax;unfold maxLen at hmax;have hF:=h.2.1;clear h;go_enter func218,ntmps218;go_wp2;go_loopw [8] (λi wr=>∃k:Nat,k≤l.length∧i=.int .i64 k∧(l.take k).any p=false∧I k wr∧qAr qE.cells 6 79 cap wr g l∧w.heap.size≤wr.heap.size) (λi _=>l.length - (intOf i).toNat)
 case atStart=>exact⟨0,by omega,rfl,rfl,hI,hO,Nat.le_refl _⟩
 case round =>
  obtain⟨k,hk,rfl,hz,hIk,hOk,hsz⟩:=hrel;have HZ:=mH hz;have HK:=mH (aI hIk (aI hOk hsz));have hgl:=hOk.lt;clear hz
  by_cases hlt:k<l.length
  ·obtain⟨c0,c1,c2,c3,c4,c5⟩:=qBo ((hOk.row qE.cells_len HM.o).1 k hlt);simp only [Nat.zero_add] at c0 c1 c2 c3 c4 c5;clear hIk hOk hsz hI hO
   cases hx:p l[k]
   ·have HT:=mH (qBO _ l k hlt HZ.o);have HX:=mH hx;clear hx;go_wp2_with fail;refine(HC.o.2.2 k hlt _ (HC.o.1 k _ _ HK.o.1 (qH _ (by exact qS)))).mono ?_;rintro e w1 ⟨rfl,hI1,hg1⟩;have hx:=HX.o;have ho1:qAr qE.cells 6 79 cap w1 g l:=HK.o.2.1.kept (by have:=hg1.block g (by simpa using hgl) (by simp;omega);simpa using this);have hs1:w.heap.size≤w1.heap.size:=Nat.le_trans HK.o.2.2 (by have:=hg1.size;simpa using this);have H1:=mH (aI hI1 (aI ho1 hs1));clear hI1 ho1 hs1 hg1 c0 c1 c2 c3 c4 c5;go_wp2;exact⟨⟨k+1,by omega,by go_num,by rw [HT.o];exact HX.o,HC.o.1 _ _ _ H1.o.1 (qCE _ _),H1.o.2.1,H1.o.2.2⟩,by simp [intOf];omega⟩
   ·have HX:=mH (qD0 hlt HZ.o hx);go_wp2_with fail;refine(HC.o.2.2 k hlt _ (HC.o.1 k _ _ HK.o.1 (qH _ (by exact qS)))).mono ?_;rintro e w1 ⟨rfl,hI1,hg1⟩;have ho1:qAr qE.cells 6 79 cap w1 g l:=HK.o.2.1.kept (by have:=hg1.block g (by simpa using hgl) (by simp;omega);simpa using this);have hs1:w.heap.size≤w1.heap.size:=Nat.le_trans HK.o.2.2 (by have:=hg1.size;simpa using this);have H1:=mH (aI hI1 (aI ho1 hs1));have hne:l.any p=true:=List.any_eq_true.2 ⟨l[k],List.getElem_mem _,hx⟩;have HN:=mH hne;clear hI1 ho1 hs1 hg1 hne c0 c1 c2 c3 c4 c5;go_wp2;go_ret;refine⟨qN (by rw [HX.o]),λh=>absurd (h.symm.trans HN.o) dE,λk' _ h=>?_,H1.o.2.1,H1.o.2.2⟩;rw [HX.o] at h;obtain rfl:k=k':=by omega
    exact H1.o.1
  ·have hkl:k=l.length:=by omega
   subst hkl;clear hIk hOk hsz hI hO;go_wp2;go_ret;have hnn:=qBY (qCO oM HZ.o);exact⟨qN (by rw [hnn]),λ_=>HK.o.1,λk' _ h=>by rw [hnn] at h;omega,HK.o.2.1,HK.o.2.2⟩
def qLm (I:Nat→World→Prop) (base:Nat) (l:List qE) (p:qE→Bool) (e:Ending) (w':World):Prop :=
 ∃v',e=.returned v'∧w'.ownsRow base 79 6 v' (l.filter λx=>!p x).length ((l.filter λx=>!p x).flatMap qE.cells)∧I l.length w'
theorem qJu (I:Nat→World→Prop) (l:List qE) (p:qE→Bool) (F:FuncId) (cp:Array Value) (g q cap base:Nat) (w:World) (ho:w.ownsRow base 79 6 (.slice (some ⟨g,0,none⟩) l.length cap) l.length (l.flatMap qE.cells)) (hlen:l.length≤100000000) (hI:I 0 w) (hgq:g≠q) (hqw:q<w.heap.size) (h:qLZ I l p F cp g q) :
  Calls prog 190 #[.slice (some ⟨g,0,none⟩) l.length cap,.func (.func F) #[] cp] w (qLm I base l p):=by
 have HC:=mH h;have hF:=h.2.1;clear h;have hO:qAr qE.cells 6 79 cap w g l:=qAr.of_own ho rfl;obtain⟨hcap,hmax,hbg⟩:l.length≤cap∧cap≤maxLen∧base≤g:=by
  rcases ho.2 with⟨hv,_⟩|⟨g2,cap2,_,hv,hbg,_,hcap,hmax,_,_⟩
  ·cases hv
  ·simp only [Value.slice.injEq,Option.some.injEq,Addr.mk.injEq,and_true,true_and] at hv;obtain⟨rfl,rfl⟩:=hv;exact⟨hcap,hmax,hbg⟩
 have HM:=mH hmax;unfold maxLen at hmax
 by_cases hnone:l.any p=false
 ·have HI:=mH (qBY hnone);have HN:=mH hnone;have hfl:(l.filter λx=>!p x)=l:=by
   rw [List.filter_eq_self];intro x hx;have:=List.any_eq_false.1 hnone x hx
   simpa using this
  have HFL:=mH hfl;clear hnone hfl ho;go_enter func190,ntmps190;go_wp2_with (go_at_call 218;refine(qGk I l p F cp g q cap _ hO HM.o hcap hI hgq HC.o).mono ?_;rw [HI.o];rintro e w1 ⟨rfl,hI1,_,hO1,_⟩);go_ret;exact⟨_,rfl,by rw [HFL.o];exact hO1.own qE.cells_len hbg HM.o,hI1 HN.o⟩
 ·obtain⟨k,hk,hi0,ht0,hp0⟩:=qFI (Bool.not_eq_false _ ▸ hnone);have HI:=mH hi0;have HD:Hx (∀w1,qAr qE.cells 6 79 cap w1 g l→qC6 qE.cells 6 79 cap p l w1 w1 g k (k+1) l):=⟨λw1 ho1=>⟨Del.first hk ht0 hp0 (ho1.row qE.cells_len HM.o) (qCE _ _),ho1⟩⟩;have hkn:((k:Int) == -1)=false:=by simp
  clear hnone ht0 hp0 hi0 ho;go_enter func190,ntmps190;go_wp2_with (go_at_call 218;refine(qGk I l p F cp g q cap _ hO HM.o hcap hI hgq HC.o).mono ?_;rw [HI.o];rintro e w1 ⟨rfl,_,hI1,hO1,hs1⟩);go_loopw [5,6] (λa b wr=>∃i j:Nat,a=.int .i64 i∧b=.int .i64 j∧(∃cur,qC6 qE.cells 6 79 cap p l wr wr g i j cur)∧I j wr∧w.heap.size≤wr.heap.size) (λ_ b _=>l.length - (intOf b).toNat)
  case atStart=>exact⟨k,k+1,rfl,by go_num,⟨l,HD.o _ hO1⟩,hI1 k hk rfl,hs1⟩
  case round =>
   obtain⟨i,j,rfl,rfl,⟨cur,hdo⟩,hIj,hsz⟩:=hrel;have hd:=hdo.d;have hij:=hd.ij;have hjn:=hd.jn;have HDel:=mH (aI hdo (aI hIj hsz));have hgl:=hd.row.2.2;clear hdo hIj hI1 hO1 hO hI
   by_cases hlt:j<l.length
   ·have hcj:j<cur.length:=by rw [hd.len];exact hlt
    have hci:i<cur.length:=by rw [hd.len];omega
    obtain⟨c0,c1,c2,c3,c4,c5⟩:=qBo (hd.row.1 j hcj);rw [hd.at hlt hcj] at c0 c1 c2 c3 c4 c5;simp only [Nat.zero_add] at c0 c1 c2 c3 c4 c5
    cases hp:p l[j]
    ·have HP:=mH hp;clear hd;go_wp2_with fail;refine(HC.o.2.2 j hlt _ (HC.o.1 j _ _ HDel.o.2.1 (qH _ (by exact qS)))).mono ?_;rw [HP.o];rintro e w2 ⟨rfl,hI2,hg2⟩;have hct:=qSy hg2 wr.heap.size sI oM;have hbk:w2.heap[g]? = wr.heap[g]? := by have:=hg2.block g (by simp;omega) (by simp;omega);rw [this];exact(qB (Below.refl wr.heap.size wr) _ lR).block g hgl
     have ho2:=HDel.o.1.o.kept hbk;have hr2:=ho2.row qE.cells_len HM.o;obtain⟨d0,d1,d2,d3,d4,d5⟩:=qBo (hr2.1 i hci);have hfg:=hr2.2.1;simp only [Nat.zero_add] at d0 d1 d2 d3 d4 d5;have hs2:w.heap.size≤w2.heap.size:=Nat.le_trans hsz (by have:=hg2.size;simp at this;omega);have hkk:∀W,w2.setCells g (i*6) (qE.cells l[j])=W→(∃cur,qC6 qE.cells 6 79 cap p l W W g (i+1) (j+1) cur)∧I (j+1) W∧w.heap.size≤W.heap.size:=by
      rintro _ rfl;exact⟨⟨cur.set i l[j],HDel.o.1.keepE qE.cells_len HM.o hlt HP.o hbk⟩,HC.o.1 _ _ _ hI2 (qO g _ _ _),Nat.le_trans hs2 (qO g _ _ _).size⟩
     have H2:=mH hkk;have hneg:¬wr.heap.size=g:=by omega
     clear hI2 hg2 hbk ho2 hr2 hs2 hkk;go_wp2;exact⟨⟨i+1,j+1,by go_num,by go_num,H2.o _ rfl⟩,by simp [intOf];omega⟩
    ·have HP:=mH hp;clear hd;go_wp2_with fail;refine(HC.o.2.2 j hlt _ (HC.o.1 j _ _ HDel.o.2.1 (qH _ (by exact qS)))).mono ?_;rw [HP.o];rintro e w2 ⟨rfl,hI2,hg2⟩;have hbk:w2.heap[g]? = wr.heap[g]? := by have:=hg2.block g (by simp;omega) (by simp;omega);rw [this];exact(qB (Below.refl wr.heap.size wr) _ lR).block g hgl
     have hs2:w.heap.size≤w2.heap.size:=Nat.le_trans hsz (by have:=hg2.size;simp at this;omega);have H2:=mH (aI hI2 (aI hbk hs2));clear hI2 hg2 hbk hs2;go_wp2;exact⟨⟨i,j+1,rfl,by go_num,⟨cur,HDel.o.1.skipE qE.cells_len HM.o hlt HP.o H2.o.2.1⟩,H2.o.1,H2.o.2.2⟩,by simp [intOf];omega⟩
   ·obtain rfl:j=l.length:=by omega
    obtain⟨hd1,hd2⟩:=hd.done;have HE:=mH (aI hd1 hd2);have hlc:=hd.len;have hrl:∀j,j<(l.length - i)*6→(wr.cell? ⟨g,i*6+j,none⟩).isSome=true:=by
     intro q hq;have hk2:(i*6+q) / 6<cur.length:=by rw [hd.len];omega
     have:=hd.row.1 ((i*6+q) / 6) hk2 ((i*6+q) % 6) _ (List.getElem?_eq_getElem (by rw [qE.cells_len];omega));rw [show 0+(i*6+q) / 6*6+(i*6+q) % 6=i*6+q by omega] at this;rw [this];rfl
    have hcl:=λty=>qCo (P:=prog) wr 67 79 ty _ underlying67 qEo (by simp [Value.cells,Value.oneCell']) g (i*6) (l.length - i) (cap - i) oM hrl hd.row.2.1
    have hzl:(Builtin.zeroCells (Value.agg ↑zX).cells (l.length - i)).toList.length=(l.length - i)*6:=by simp [Builtin.zeroCells,Value.cells]
    generalize (Builtin.zeroCells (Value.agg ↑zX).cells (l.length - i)).toList=zs at hcl hzl;have HZ:=mH (aI hzl hlc);have hcap1:¬cap=i:=by omega
    have hcap2:¬i=cap:=by omega
    have hcap3:i≤cap:=by omega
    clear hd hrl hd1 hd2 hzl hlc;go_wp2;go_ret;have h3:=(HDel.o.1.o.cut qE.cells_len i (by rw [HZ.o.2];omega) zs (by rw [HZ.o.2];exact HZ.o.1)).own (base:=base) qE.cells_len hbg HM.o;rw [HE.o.1] at h3;exact⟨_,rfl,by rw [←HE.o.2] at h3 ⊢;exact h3,HC.o.1 _ _ _ HDel.o.2.1 (qO _ _ _ _)⟩
section
open Go.Maps (Keyed)
def qUr (w:World) (b n base B1 B2:Nat) (G:ByteArray→List ByteArray):Prop :=
 ∃m:ByteArray→Option Value,zA prog 9 Value.string w b n m∧(∀k,w.ownsRow base 9 1 ((m k).getD (.slice none 0 0)) (G k).length ((G k).map Value.string)) ∧
  (∀k k',k≠k'→∀g,((m k).getD (.slice none 0 0)).ownBlock=some g→((m k').getD (.slice none 0 0)).ownBlock≠some g)∧b<base∧∀k g,((m k).getD (.slice none 0 0)).ownBlock=some g→g<B1∨B2≤g
theorem qDv:(prog.info? 9).map (λi=>(i.zero,i.size,i.bytes))=some (some (.string ⟨#[]⟩),1,16):=by kernel_rfl
end

section
open Go.Maps (Keyed)

end
end Go.Proofs.YtbgnlfgkgklkdaaGreatDoor
