/- Parts of the proof of ScriptsAnswered: SkEnt, SkSpc, PnM, PlainM, PlainN, PlainD, PlainE. No condition. -/
import Derived.Test.YtbgnlfgkgklkdaaGreatDoorZ14
set_option linter.unusedVariables false
set_option linter.unusedSimpArgs false
set_option maxHeartbeats 8000000
set_option maxRecDepth 100000
namespace Go.Proofs.YtbgnlfgkgklkdaaGreatDoor
open Go Go.RowKit Tryz
theorem qTe {w:World} {b off k:Nat} {p:qD} (h:∀j u,p.cells[j]? = some u→w.cell? ⟨b,off+k*17+j,none⟩=some u) :
  w.cell? ⟨b,off+k*17,none⟩=some (.string p.team)∧w.cell? ⟨b,off+k*17+1,none⟩=some (.int .i64 p.no)∧w.cell? ⟨b,off+k*17+2,none⟩=some (.int .i64 p.at_)∧w.cell? ⟨b,off+k*17+3,none⟩=some (.int .i64 p.kind)∧w.cell? ⟨b,off+k*17+4,none⟩=some (.string p.site.key)∧w.cell? ⟨b,off+k*17+5,none⟩=some (.int .i64 p.site.kind)∧w.cell? ⟨b,off+k*17+6,none⟩=some (.string p.cab.key)∧w.cell? ⟨b,off+k*17+7,none⟩=some (.string p.cab.a)∧w.cell? ⟨b,off+k*17+8,none⟩=some (.string p.cab.b)∧w.cell? ⟨b,off+k*17+9,none⟩=some (.int .i64 p.cab.long)∧w.cell? ⟨b,off+k*17+10,none⟩=some (.int .i64 p.cab.fibs)∧w.cell? ⟨b,off+k*17+11,none⟩=some (.string p.spc.site)∧w.cell? ⟨b,off+k*17+12,none⟩=some (.string p.spc.x.cable)∧w.cell? ⟨b,off+k*17+13,none⟩=some (.int .i64 p.spc.x.no)∧w.cell? ⟨b,off+k*17+14,none⟩=some (.string p.spc.y.cable)∧w.cell? ⟨b,off+k*17+15,none⟩=some (.int .i64 p.spc.y.no)∧w.cell? ⟨b,off+k*17+16,none⟩=some (.int .i64 p.spc.loss) :=
 ⟨h 0 _ rfl,h 1 _ rfl,h 2 _ rfl,h 3 _ rfl,h 4 _ rfl,h 5 _ rfl,h 6 _ rfl,h 7 _ rfl,h 8 _ rfl,h 9 _ rfl,h 10 _ rfl,h 11 _ rfl,h 12 _ rfl,h 13 _ rfl,h 14 _ rfl,h 15 _ rfl,h 16 _ rfl⟩
theorem qNv:(prog.info? 81).map (λi=>(i.zero,i.size,i.bytes))=some (some (.agg ↑zE),17,200):=by kernel_rfl
theorem qKI (l:List qD):∀u∈l.flatMap qD.cells,u.oneCell'=true:=by
 intro u hu;obtain⟨c,_,hc⟩:=List.mem_flatMap.1 hu;simp [qD.cells] at hc
 rcases hc with rfl|rfl|rfl|rfl|rfl|rfl|rfl|rfl|rfl|rfl|rfl|rfl|rfl|rfl|rfl|rfl|rfl <;> rfl
theorem qT1 (x:qD):(Value.agg ⟨qD.cells x⟩)=.agg #[.string x.team,.int .i64 x.no,.int .i64 x.at_,.int .i64 x.kind,.string x.site.key,.int .i64 x.site.kind,.string x.cab.key,.string x.cab.a,.string x.cab.b,.int .i64 x.cab.long,.int .i64 x.cab.fibs,.string x.spc.site,.string x.spc.x.cable,.int .i64 x.spc.x.no,.string x.spc.y.cable,.int .i64 x.spc.y.no,.int .i64 x.spc.loss]:=rfl
theorem qLO (v:Value) (l:List qD) (p:qD→Bool) (F:FuncId) (cp:Array Value) (w:World) (h:qI qD.cells 17 w l v) (hF:∀(args:Array Value) (w:World),(callFunc F args).run prog w=.ok (.enter F args) w)
  (hcall:∀(x:qD) (w':World),x∈l→Below w.heap.size w w'→Calls prog F (#[.agg ⟨qD.cells x⟩]++cp) w' λe w''=>e=.returned (.bool (p x))∧Below w'.heap.size w' w'') :
  Calls prog 158 #[v,.func (.func F) #[] cp] w λe w'=>e=.returned (.int .i64 (qAu p l))∧Below w.heap.size w w':=by
 obtain⟨a,cap,rfl,hcap,hmax,hc⟩:=h;have hlen:l.length≤maxLen:=by omega
 unfold maxLen at hlen hmax;have HC:=mH hcall;clear hcall;go_enter func158,ntmps158;go_wp2;go_loopw [8] (λi wr=>∃k:Nat,k≤l.length∧i=.int .i64 k∧(l.take k).any p=false∧Below w.heap.size w wr) (λi _=>l.length - (intOf i).toNat)
 case atStart=>exact⟨0,by omega,rfl,rfl,Below.refl _ _⟩
 case round =>
  obtain⟨k,hk,rfl,hz,hB⟩:=hrel;have HZ:=mH hz;clear hz;have hsz:=hB.size
  by_cases hlt:k<l.length
  ·obtain⟨b,off,rfl,hb,hcc⟩:=hc k hlt;obtain⟨c0,c1,c2,c3,c4,c5,c6,c7,c8,c9,c10,c11,c12,c13,c14,c15,c16⟩:=qTe hcc;replace c0:=(hB.cell (p:=⟨b,_,none⟩) hb).trans c0;replace c1:=(hB.cell (p:=⟨b,_,none⟩) hb).trans c1;replace c2:=(hB.cell (p:=⟨b,_,none⟩) hb).trans c2;replace c3:=(hB.cell (p:=⟨b,_,none⟩) hb).trans c3;replace c4:=(hB.cell (p:=⟨b,_,none⟩) hb).trans c4;replace c5:=(hB.cell (p:=⟨b,_,none⟩) hb).trans c5;replace c6:=(hB.cell (p:=⟨b,_,none⟩) hb).trans c6;replace c7:=(hB.cell (p:=⟨b,_,none⟩) hb).trans c7;replace c8:=(hB.cell (p:=⟨b,_,none⟩) hb).trans c8;replace c9:=(hB.cell (p:=⟨b,_,none⟩) hb).trans c9;replace c10:=(hB.cell (p:=⟨b,_,none⟩) hb).trans c10;replace c11:=(hB.cell (p:=⟨b,_,none⟩) hb).trans c11;replace c12:=(hB.cell (p:=⟨b,_,none⟩) hb).trans c12;replace c13:=(hB.cell (p:=⟨b,_,none⟩) hb).trans c13;replace c14:=(hB.cell (p:=⟨b,_,none⟩) hb).trans c14;replace c15:=(hB.cell (p:=⟨b,_,none⟩) hb).trans c15;replace c16:=(hB.cell (p:=⟨b,_,none⟩) hb).trans c16;clear hc hcc
   cases hx:p l[k]
   ·have HT:=mH (qBO _ l k hlt HZ.o);have HX:=mH hx;clear hx;go_wp2_with fail;refine(HC.o l[k] _ (List.getElem_mem _) ?_).mono ?_
    ·exact qS
    rintro e w1 ⟨rfl,hb1⟩;have hx:=HX.o;go_wp2;exact⟨⟨k+1,by omega,by go_num,by rw [HT.o];exact HX.o,by exact qS⟩,by simp [intOf];omega⟩
   ·have HX:=mH (qD0 hlt HZ.o hx);go_wp2_with fail;refine(HC.o l[k] _ (List.getElem_mem _) ?_).mono ?_
    ·exact qS
    rintro e w1 ⟨rfl,hb1⟩;go_wp2;go_ret;exact⟨qN (by rw [HX.o]),by exact qS⟩
  ·go_wp2;go_ret;exact⟨qN (by rw [qBY (qCO oM HZ.o)]),hB⟩
theorem qQn (v:Value) (l:List qD) (w:World) (h:qI qD.cells 17 w l v) (hl:l.length≤100000000):Calls prog 157 #[v] w
  (Ret (λv' w'=>qJP qD.cells 17 81 w.heap.size l v' w') w):=by
 have h':=h;obtain⟨a,cap,rfl,hcap,hmax,hc⟩:=h;obtain⟨i0,hi,hz0,hz1,hz2⟩:=info_parts qNv;have heq:=λ(w:World) (a:Option Addr) (n c n' c':Nat)=>Lib.run_eql_slice_nil (P:=prog) w 62 81 a n c n' c' underlying62
 cases a with
 | none =>
  have h0:l=[]:=by
   rcases Nat.eq_zero_or_pos l.length with h|h
   ·exact List.length_eq_zero_iff.1 h
   ·obtain⟨_,_,e,_⟩:=hc 0 h;cases e
  subst h0;go_enter func157,ntmps157;go_wp2;go_ret;exact⟨_,rfl,⟨World.ownsRow_nil _ _ _ _,.inl ⟨rfl,rfl⟩⟩,by exact qS⟩
 | some ad =>
  have hnews:=h'.news qD.cells_len;have HN:=mH hnews;clear hnews hc h';have hsl:(l.flatMap qD.cells).length=l.length*17:=jJ qD.cells_len l;have HSL:=mH hsl;clear hsl;go_enter func157,ntmps157;go_wp2_with (at_builtin;go_must (refine wpList_append_own _ rfl _ _ 62 rfl w.heap.size 81 _ _ 17 200 underlying62 hi hz0 hz1 hz2 rfl dE _ 0 [] rfl (World.ownsRow_lit w #[] 0 lR (by simp [maxLen]) rfl) ad l.length cap (l.flatMap qD.cells) rfl HSL.o (λj u hu=>Lib.cell?_alloc_some _ (HN.o j u hu)) (qKI l) (by unfold maxLen;omega) oM szq ?_);intro v' w1 hown1 hgrow hnil);go_ret;refine⟨_,rfl,⟨?_,.inr ?_⟩,?_⟩
  ·have:=hown1;rw [Nat.zero_add,List.nil_append] at this;exact this
  ·exact qHL hown1 (λe=>by have:=(hnil.1 e).1;cases this)
  ·exact jG (by exact qS) (World.ownsRow_lit (e:=81) (size:=17) w #[] 0 lR (by simp [maxLen]) rfl) hgrow lR szq
theorem qBo {w:World} {b off k:Nat} {p:qE} (h:∀j u,p.cells[j]? = some u→w.cell? ⟨b,off+k*6+j,none⟩=some u) :
  w.cell? ⟨b,off+k*6,none⟩=some (.string p.site)∧w.cell? ⟨b,off+k*6+1,none⟩=some (.string p.x.cable)∧w.cell? ⟨b,off+k*6+2,none⟩=some (.int .i64 p.x.no)∧w.cell? ⟨b,off+k*6+3,none⟩=some (.string p.y.cable)∧w.cell? ⟨b,off+k*6+4,none⟩=some (.int .i64 p.y.no)∧w.cell? ⟨b,off+k*6+5,none⟩=some (.int .i64 p.loss) :=
 ⟨h 0 _ rfl,h 1 _ rfl,h 2 _ rfl,h 3 _ rfl,h 4 _ rfl,h 5 _ rfl⟩
theorem qGi:(prog.info? 79).map (λi=>(i.zero,i.size,i.bytes))=some (some (.agg ↑zX),6,72):=by kernel_rfl
theorem qEo (w:World):(zeroValue 79).run prog w=.ok (.agg ↑zX) w:=by kernel_rfl
theorem qCn (l:List qE):∀u∈l.flatMap qE.cells,u.oneCell'=true:=by
 intro u hu;obtain⟨c,_,hc⟩:=List.mem_flatMap.1 hu;simp [qE.cells] at hc
 rcases hc with rfl|rfl|rfl|rfl|rfl|rfl <;> rfl
theorem qIZ (x:qE):(Value.agg ⟨qE.cells x⟩)=.agg #[.string x.site,.string x.x.cable,.int .i64 x.x.no,.string x.y.cable,.int .i64 x.y.no,.int .i64 x.loss]:=rfl
theorem qDs (v:Value) (l:List qE) (p:qE→Bool) (F:FuncId) (cp:Array Value) (w:World) (h:qI qE.cells 6 w l v) (hF:∀(args:Array Value) (w:World),(callFunc F args).run prog w=.ok (.enter F args) w)
  (hcall:∀(x:qE) (w':World),x∈l→Below w.heap.size w w'→Calls prog F (#[.agg ⟨qE.cells x⟩]++cp) w' λe w''=>e=.returned (.bool (p x))∧Below w'.heap.size w' w'') :
  Calls prog 218 #[v,.func (.func F) #[] cp] w λe w'=>e=.returned (.int .i64 (qAu p l))∧Below w.heap.size w w':=by
 obtain⟨a,cap,rfl,hcap,hmax,hc⟩:=h;have hlen:l.length≤maxLen:=by omega
 unfold maxLen at hlen hmax;have HC:=mH hcall;clear hcall;go_enter func218,ntmps218;go_wp2;go_loopw [8] (λi wr=>∃k:Nat,k≤l.length∧i=.int .i64 k∧(l.take k).any p=false∧Below w.heap.size w wr) (λi _=>l.length - (intOf i).toNat)
 case atStart=>exact⟨0,by omega,rfl,rfl,Below.refl _ _⟩
 case round =>
  obtain⟨k,hk,rfl,hz,hB⟩:=hrel;have HZ:=mH hz;clear hz;have hsz:=hB.size
  by_cases hlt:k<l.length
  ·obtain⟨b,off,rfl,hb,hcc⟩:=hc k hlt;obtain⟨c0,c1,c2,c3,c4,c5⟩:=qBo hcc;replace c0:=(hB.cell (p:=⟨b,_,none⟩) hb).trans c0;replace c1:=(hB.cell (p:=⟨b,_,none⟩) hb).trans c1;replace c2:=(hB.cell (p:=⟨b,_,none⟩) hb).trans c2;replace c3:=(hB.cell (p:=⟨b,_,none⟩) hb).trans c3;replace c4:=(hB.cell (p:=⟨b,_,none⟩) hb).trans c4;replace c5:=(hB.cell (p:=⟨b,_,none⟩) hb).trans c5;clear hc hcc
   cases hx:p l[k]
   ·have HT:=mH (qBO _ l k hlt HZ.o);have HX:=mH hx;clear hx;go_wp2_with fail;refine(HC.o l[k] _ (List.getElem_mem _) ?_).mono ?_
    ·exact qS
    rintro e w1 ⟨rfl,hb1⟩;have hx:=HX.o;go_wp2;exact⟨⟨k+1,by omega,by go_num,by rw [HT.o];exact HX.o,by exact qS⟩,by simp [intOf];omega⟩
   ·have HX:=mH (qD0 hlt HZ.o hx);go_wp2_with fail;refine(HC.o l[k] _ (List.getElem_mem _) ?_).mono ?_
    ·exact qS
    rintro e w1 ⟨rfl,hb1⟩;go_wp2;go_ret;exact⟨qN (by rw [HX.o]),by exact qS⟩
  ·go_wp2;go_ret;exact⟨qN (by rw [qBY (qCO oM HZ.o)]),hB⟩
theorem qFt (v:Value) (l:List qE) (p:qE→Bool) (F:FuncId) (cp:Array Value) (w:World) (h:qI qE.cells 6 w l v) (hF:∀(args:Array Value) (w:World),(callFunc F args).run prog w=.ok (.enter F args) w)
  (hcall:∀(x:qE) (w':World),x∈l→Below w.heap.size w w'→Calls prog F (#[.agg ⟨qE.cells x⟩]++cp) w' λe w''=>e=.returned (.bool (p x))∧Below w'.heap.size w' w'') :
  Calls prog 167 #[v,.func (.func F) #[] cp] w λe w'=>e=.returned (.bool (l.any p))∧Below w.heap.size w w':=by
 have HC:=mH (aI hF hcall);clear hF hcall;have HI:=mH (qDn p l);go_enter func167,ntmps167;go_wp2_with (go_at_call 218;refine(qDs v l p F cp _ h HC.o.1 HC.o.2).mono ?_;rintro e w1 ⟨rfl,hb1⟩);go_ret;exact⟨qU (by rw [Bool.eq_iff_iff];simp only [decide_eq_true_eq];exact HI.o),by exact qS⟩
theorem qGM (v:Value) (l:List qE) (w:World) (h:qI qE.cells 6 w l v) (hl:l.length≤100000000):Calls prog 226 #[v] w
  (Ret (λv' w'=>qJP qE.cells 6 79 w.heap.size l v' w') w):=by
 have h':=h;obtain⟨a,cap,rfl,hcap,hmax,hc⟩:=h;obtain⟨i0,hi,hz0,hz1,hz2⟩:=info_parts qGi;have heq:=λ(w:World) (a:Option Addr) (n c n' c':Nat)=>Lib.run_eql_slice_nil (P:=prog) w 67 79 a n c n' c' underlying67
 cases a with
 | none =>
  have h0:l=[]:=by
   rcases Nat.eq_zero_or_pos l.length with h|h
   ·exact List.length_eq_zero_iff.1 h
   ·obtain⟨_,_,e,_⟩:=hc 0 h;cases e
  subst h0;go_enter func226,ntmps226;go_wp2;go_ret;exact⟨_,rfl,⟨World.ownsRow_nil _ _ _ _,.inl ⟨rfl,rfl⟩⟩,by exact qS⟩
 | some ad =>
  have hnews:=h'.news qE.cells_len;have HN:=mH hnews;clear hnews hc h';have hsl:(l.flatMap qE.cells).length=l.length*6:=jJ qE.cells_len l;have HSL:=mH hsl;clear hsl;go_enter func226,ntmps226;go_wp2_with (at_builtin;go_must (refine wpList_append_own _ rfl _ _ 67 rfl w.heap.size 79 _ _ 6 72 underlying67 hi hz0 hz1 hz2 rfl dE _ 0 [] rfl (World.ownsRow_lit w #[] 0 lR (by simp [maxLen]) rfl) ad l.length cap (l.flatMap qE.cells) rfl HSL.o (λj u hu=>Lib.cell?_alloc_some _ (HN.o j u hu)) (qCn l) (by unfold maxLen;omega) oM szq ?_);intro v' w1 hown1 hgrow hnil);go_ret;refine⟨_,rfl,⟨?_,.inr ?_⟩,?_⟩
  ·have:=hown1;rw [Nat.zero_add,List.nil_append] at this;exact this
  ·exact qHL hown1 (λe=>by have:=(hnil.1 e).1;cases this)
  ·exact jG (by exact qS) (World.ownsRow_lit (e:=79) (size:=6) w #[] 0 lR (by simp [maxLen]) rfl) hgrow lR szq
def qOU (base:Nat) (l:List qE) (p:qE→Bool) (v:Value) (w:World) (e:Ending) (w':World):Prop :=
 ∃v',e=.returned v'∧w'.ownsRow base 79 6 v' (l.filter λx=>!p x).length ((l.filter λx=>!p x).flatMap qE.cells)∧w.grownBy w' v.ownBlock
theorem qEe (v:Value) (l:List qE) (p:qE→Bool) (F:FuncId) (cp:Array Value) (base:Nat) (w:World) (ho:w.ownsRow base 79 6 v l.length (l.flatMap qE.cells)) (hlen:l.length≤100000000)
  (hF:∀(args:Array Value) (w:World),(callFunc F args).run prog w=.ok (.enter F args) w)
  (hcall:∀(x:qE) (w':World),x∈l→w.grownBy w' v.ownBlock→Calls prog F (#[.agg ⟨qE.cells x⟩]++cp) w' λe w''=>e=.returned (.bool (p x))∧Below w'.heap.size w' w'') :
  Calls prog 190 #[v,.func (.func F) #[] cp] w (qOU base l p v w):=by
 have HC:=mH (aI hF hcall);clear hF hcall
 rcases ho.2 with⟨hv,h0⟩|⟨g,cap,_,hv,hbg,_,hcap,hmax,_,_⟩
 ·subst hv;obtain rfl:l=[]:=List.length_eq_zero_iff.1 h0;go_enter func190,ntmps190;go_wp2_with (go_at_call 218;refine(qDs _ [] (λ_=>false) F cp _ (qI.nil _ _ _) HC.o.1 (λx w' hx hB=>by cases hx)).mono ?_;rintro e w1 ⟨rfl,hb1⟩);go_ret;exact⟨_,rfl,World.ownsRow_nil _ _ _ _,qH _ hb1⟩
 subst hv;have hO:qAr qE.cells 6 79 cap w g l:=qAr.of_own ho rfl;have hrow:=hO.row qE.cells_len hmax;have hA:qI qE.cells 6 w l (.slice (some ⟨g,0,none⟩) l.length cap):=hrow.arr rfl hcap hmax;have hir:=qE1 p l;have HM:Hx (cap≤maxLen):=⟨hmax⟩;unfold maxLen at hmax
 by_cases hnone:l.any p=false
 ·have HI:=mH (qBY hnone);have hfl:(l.filter λx=>!p x)=l:=by
   rw [List.filter_eq_self];intro x hx;have:=List.any_eq_false.1 hnone x hx
   simpa using this
  have HFL:=mH hfl;have HO:=mH ho;clear hnone hfl hir ho hO hrow;go_enter func190,ntmps190;go_wp2_with (go_at_call 218;refine(qDs _ l p F cp _ hA HC.o.1 (λx w' hx hB=>HC.o.2 x w' hx (qH _ hB))).mono ?_;rw [HI.o];rintro e w1 ⟨rfl,hb1⟩);go_ret;exact⟨_,rfl,by rw [HFL.o];exact qAv HO.o hb1,qH _ hb1⟩
 ·obtain⟨k,hk,hi0,ht0,hp0⟩:=qFI (Bool.not_eq_false _ ▸ hnone);have HI:=mH hi0;have HD:Hx (∀w1,Below w.heap.size w w1→qC6 qE.cells 6 79 cap p l w w1 g k (k+1) l):=⟨λw1 hb=>⟨Del.first hk ht0 hp0 (hrow.below hb hrow.2.2) (qH _ hb),hO.below hb hO.lt⟩⟩;have hkn:((k:Int) == -1)=false:=by simp
  clear hnone hir ht0 hp0 hi0 ho hO;go_enter func190,ntmps190;go_wp2_with (go_at_call 218;refine(qDs _ l p F cp _ hA HC.o.1 (λx w' hx hB=>HC.o.2 x w' hx (qH _ hB))).mono ?_;rw [HI.o];rintro e w1 ⟨rfl,hb1⟩);go_loopw [5,6] (λa b wr=>∃i j:Nat,a=.int .i64 i∧b=.int .i64 j∧∃cur,qC6 qE.cells 6 79 cap p l w wr g i j cur) (λ_ b _=>l.length - (intOf b).toNat)
  case atStart=>exact⟨k,k+1,rfl,by go_num,l,HD.o _ hb1⟩
  case round =>
   obtain⟨i,j,rfl,rfl,cur,hdo⟩:=hrel;have hd:=hdo.d;have hij:=hd.ij;have hjn:=hd.jn;have HDel:=mH hdo;have hgl:=hd.row.2.2;clear hdo
   by_cases hlt:j<l.length
   ·have hcj:j<cur.length:=by rw [hd.len];exact hlt
    have hci:i<cur.length:=by rw [hd.len];omega
    obtain⟨c0,c1,c2,c3,c4,c5⟩:=qBo (hd.row.1 j hcj);rw [hd.at hlt hcj] at c0 c1 c2 c3 c4 c5;obtain⟨d0,d1,d2,d3,d4,d5⟩:=qBo (hd.row.1 i hci);have hfz:=hd.row.2.1;simp only [Nat.zero_add] at c0 c1 c2 c3 c4 c5 d0 d1 d2 d3 d4 d5;have hin:l[j]∈l:=List.getElem_mem _
    cases hp:p l[j]
    ·have HP:=mH hp;have hF:=HC.o.1;clear hd;go_wp2_with fail;refine(HC.o.2 l[j] _ hin ?_).mono ?_
     ·exact qK HDel.o.d.grown (qH _ (by exact qS))
     rw [HP.o];rintro e w2 ⟨rfl,hb2⟩;have hs2:wr.heap.size<w2.heap.size:=by have:=hb2.size;simp at this;omega
     have hcg:=qDg hb2 g szq;have hct:=qDg hb2 wr.heap.size szq;have hfg:∀o,w2.frozen? ⟨g,o,none⟩=false:=λo=>(hb2.frozen (p:=⟨g,o,none⟩) szq).trans ((((Below.refl wr.heap.size wr).alloc lR _).frozen (p:=⟨g,o,none⟩) hgl).trans (hfz o))
     go_wp2;exact⟨⟨i+1,j+1,by go_num,by go_num,cur.set i l[j],HDel.o.keep qE.cells_len hlt HP.o (by exact qS)⟩,by simp [intOf];omega⟩
    ·have HP:=mH hp;have hF:=HC.o.1;clear hd;go_wp2_with fail;refine(HC.o.2 l[j] _ hin ?_).mono ?_
     ·exact qK HDel.o.d.grown (qH _ (by exact qS))
     rw [HP.o];rintro e w2 ⟨rfl,hb2⟩;go_wp2;exact⟨⟨i,j+1,rfl,by go_num,cur,HDel.o.skip hlt HP.o (by exact qS)⟩,by simp [intOf];omega⟩
   ·obtain rfl:j=l.length:=by omega
    obtain⟨hd1,hd2⟩:=hd.done;have HE:=mH (aI hd1 hd2);have hlc:=hd.len;have hrl:∀j,j<(l.length - i)*6→(wr.cell? ⟨g,i*6+j,none⟩).isSome=true:=by
     intro q hq;have hk2:(i*6+q) / 6<cur.length:=by rw [hd.len];omega
     have:=hd.row.1 ((i*6+q) / 6) hk2 ((i*6+q) % 6) _ (List.getElem?_eq_getElem (by rw [qE.cells_len];omega));rw [show 0+(i*6+q) / 6*6+(i*6+q) % 6=i*6+q by omega] at this;rw [this];rfl
    have hcl:=λty=>qCo (P:=prog) wr 67 79 ty _ underlying67 qEo (by simp [Value.cells,Value.oneCell']) g (i*6) (l.length - i) (cap - i) oM hrl hd.row.2.1
    have hzl:(Builtin.zeroCells (Value.agg ↑zX).cells (l.length - i)).toList.length=(l.length - i)*6:=by simp [Builtin.zeroCells,Value.cells]
    generalize (Builtin.zeroCells (Value.agg ↑zX).cells (l.length - i)).toList=zs at hcl hzl;have HZ:=mH (aI hzl hlc);have hcap1:¬cap=i:=by omega
    have hcap2:¬i=cap:=by omega
    have hcap3:i≤cap:=by omega
    clear hd hrl hd1 hd2 hzl hlc;go_wp2;go_ret;have h3:=(HDel.o.o.cut qE.cells_len i (by rw [HZ.o.2];omega) zs (by rw [HZ.o.2];exact HZ.o.1)).own (base:=base) qE.cells_len hbg HM.o;rw [HE.o.1] at h3;exact⟨_,rfl,by rw [←HE.o.2] at h3 ⊢;exact h3,qK HDel.o.d.grown (qO _ _ _ _)⟩
structure qAN (w:World) (v1 v2 v3:Value) (S:List qJ) (C:List qG) (X:List qE):Prop where
 s:qI qJ.cells 2 w S v1
 c:qI qG.cells 5 w C v2
 x:qI qE.cells 6 w X v3
theorem qAN.below {w w':World} {v1 v2 v3:Value} {S:List qJ} {C:List qG} {X:List qE} (h:qAN w v1 v2 v3 S C X) (hB:Below w.heap.size w w'):qAN w' v1 v2 v3 S C X:=⟨h.s.below hB,h.c.below hB,h.x.below hB⟩
structure qUp (base:Nat) (w:World) (v1 v2 v3:Value) (S:List qJ) (C:List qG) (X:List qE):Prop where
 s:w.ownsRow base 73 2 v1 S.length (S.flatMap qJ.cells)
 c:w.ownsRow base 75 5 v2 C.length (C.flatMap qG.cells)
 x:w.ownsRow base 79 6 v3 X.length (X.flatMap qE.cells)
section
variable {base : Nat} {w w' : World} {v1 v2 v3 : Value} {S : List qJ} {C : List qG} {X : List qE}
theorem qAm {b b' sz n:Nat} {e:TypeId} {v:Value} {xs:List Value} (h:w.ownsRow b e sz v n xs) (hb:b'≤b):w.ownsRow b' e sz v n xs:=by
 obtain⟨hl,h2⟩:=h
 rcases h2 with h2|⟨g,cap,cur,h3,h4,h5⟩
 ·exact⟨hl,.inl h2⟩
 ·exact⟨hl,.inr ⟨g,cap,cur,h3,Nat.le_trans hb h4,h5⟩⟩
end

section
variable {l : List qBJ} {d : List Drp} {j : Nat} {y : qBJ}
end


end Go.Proofs.YtbgnlfgkgklkdaaGreatDoor
