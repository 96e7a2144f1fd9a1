/- Parts of the proof of ScriptsAnswered: Ins, IsSit, IsCab, IsSpc, Del, DlSpc. No condition. -/
import Derived.Shelf.Spec.SlicesInsertGrow
import Derived.Test.YtbgnlfgkgklkdaaGreatDoorZ16
set_option linter.unusedVariables false
set_option linter.unusedSimpArgs false
set_option maxHeartbeats 8000000
set_option maxRecDepth 100000
namespace Go.Proofs.YtbgnlfgkgklkdaaGreatDoor
open Go Go.RowKit Tryz
theorem qD1 {α:Type} {cells:α→List Value} {sz:Nat} (hlen:∀x,(cells x).length=sz) (l:List α) (i:Nat) (hi:i≤l.length):(l.take i).flatMap cells=(l.flatMap cells).take (i*sz):=by
 have h:=congrArg (List.flatMap cells) (List.take_append_drop i l);rw [List.flatMap_append] at h;rw [←h,List.take_left' (by rw [jJ hlen,List.length_take];rw [Nat.min_eq_left hi])]
theorem qD8 {α:Type} {cells:α→List Value} {sz:Nat} (hlen:∀x,(cells x).length=sz) (l:List α) (i:Nat) (hi:i≤l.length):(l.drop i).flatMap cells=(l.flatMap cells).drop (i*sz):=by
 have h:=congrArg (List.flatMap cells) (List.take_append_drop i l);rw [List.flatMap_append] at h;rw [←h,List.drop_left' (by rw [jJ hlen,List.length_take];rw [Nat.min_eq_left hi])]
theorem qEG {w:World} {g:Nat} {cs:Array Value} {t:TypeId} (h:qC w g cs t):w.shape? g=some (t,cs.size):=by
 unfold qC at h;simp [World.shape?,h]
theorem qEi {w:World} {base n:Nat} {v:Value} {xs:List Value} {sz:Nat} {e:TypeId} (ho:w.ownsRow base e sz v n xs) (h0:0<n):∃g cap cur,v=.slice (some ⟨g,0,none⟩) n cap∧base≤g∧qC w g cur e∧n≤cap∧cap≤maxLen∧cur.size=cap*sz∧cur.toList.take (n*sz)=xs:=by
 obtain⟨hl,⟨rfl,hn⟩|⟨g,cap,cur,rfl,hg,hh,hc,hm,hs,ht⟩⟩:=ho
 ·omega
 ·exact⟨g,cap,cur,rfl,hg,hh,hc,hm,hs,ht⟩
theorem qBN {w:World} {base n g cap sz:Nat} {cur:Array Value} {xs:List Value} {e:TypeId} (hb:qC w g cur e) (hg:base≤g) (hc:n≤cap) (hm:cap≤maxLen) (hs:cur.size=cap*sz) (ht:cur.toList.take (n*sz)=xs) (hl:xs.length=n*sz):w.ownsRow base e sz (.slice (some ⟨g,0,none⟩) n cap) n xs :=
 ⟨hl,.inr ⟨g,cap,cur,rfl,hg,hb,hc,hm,hs,ht⟩⟩
theorem qL2 (cur xs cx:List Value) (i n:Nat) (hx:xs.length=n*2) (ht:cur.take (n*2)=xs) (hi:i≤n) (hc:cx.length=2) (hs:(n+1)*2≤cur.length) :
  ((cur.take ((i+1)*2)++xs.drop (i*2)++cur.drop ((i+1)*2+(xs.drop (i*2)).length)).take (i*2)++cx++(cur.take ((i+1)*2)++xs.drop (i*2)++cur.drop ((i+1)*2+(xs.drop (i*2)).length)).drop (i*2+cx.length)).take ((n+1)*2)=xs.take (i*2)++cx++xs.drop (i*2):=by
 have e1:(cur.take ((i+1)*2)).length=(i+1)*2:=by rw [List.length_take];omega
 have e2:cur.take (i*2)=xs.take (i*2):=by rw [←ht,List.take_take,Nat.min_eq_left oM]
 have e3:(cur.take ((i+1)*2)++xs.drop (i*2)++cur.drop ((i+1)*2+(xs.drop (i*2)).length)).take (i*2)=xs.take (i*2):=by
  rw [List.append_assoc,List.take_append_of_le_length oM,List.take_take,Nat.min_eq_left oM,e2]
 have e4:(cur.take ((i+1)*2)++xs.drop (i*2)++cur.drop ((i+1)*2+(xs.drop (i*2)).length)).drop (i*2+cx.length)=xs.drop (i*2)++cur.drop ((i+1)*2+(xs.drop (i*2)).length):=by
  rw [List.append_assoc,List.drop_left' (by rw [e1,hc];omega)]
 rw [e3,e4,←List.append_assoc,List.take_left' (by simp [hx,hc];omega)]
theorem qLU (row xs cx:List Value) (i n:Nat) (hx:xs.length=n*2) (ht:row.take (i*2)=xs.take (i*2)) (hi:i≤n) (hc:cx.length=2) (hs:(n+1)*2≤row.length) :
  ((row.take (i*2)++cx++row.drop (i*2+cx.length)).take ((i+1)*2)++xs.drop (i*2)++(row.take (i*2)++cx++row.drop (i*2+cx.length)).drop ((i+1)*2+(xs.drop (i*2)).length)).take ((n+1)*2)=xs.take (i*2)++cx++xs.drop (i*2):=by
 have e0:(row.take (i*2)++cx).length=(i+1)*2:=by rw [List.length_append,List.length_take,hc];omega
 have e1:(row.take (i*2)++cx++row.drop (i*2+cx.length)).take ((i+1)*2)=xs.take (i*2)++cx:=by
  rw [List.take_left' e0,ht]
 rw [e1,List.append_assoc,←List.append_assoc,List.take_left' (by simp [hx,hc];omega)]
theorem qI1:(prog.info? 73).map (·.size)=some 2:=by kernel_rfl
def qF0 (d:List qJ) (i:Nat) (x:qJ) (v:Value) (base:Nat) (w:World) (e:Ending) (w':World):Prop:=∃v',e=.returned v'∧w'.ownsRow base 73 2 v' (d.length+1) ((d.take i++x::d.drop i).flatMap qJ.cells)∧w.grownBy w' v.ownBlock
theorem qKM (v:Value) (d:List qJ) (x:qJ) (vb base:Nat) (w:World) (ho:w.ownsRow base 73 2 v d.length (d.flatMap qJ.cells)) (hx:qC w vb #[.string x.key,.int .i64 x.kind] 73) (hbase:base≤w.heap.size) (hl:d.length≤5000) :
  Calls prog 179 #[v,.int .i64 d.length,.slice (some ⟨vb,0,none⟩) 1 1] w (qF0 d d.length x v base w):=by
 obtain⟨i0,hi,hz0,hz1,hz2⟩:=info_parts qIV;have HX:=mH (aI hx ho);have HV:∃a cap,v=.slice a d.length cap∧d.length≤cap:=by
  rcases ho.2 with⟨hv,h0⟩|⟨g,cap,cur,rfl,_,_,hc,_⟩
  ·exact⟨none,0,by rw [hv,h0],by omega⟩
  ·exact⟨_,cap,rfl,hc⟩
 obtain⟨a,cap,rfl,hcap⟩:=HV;clear hx ho
 by_cases hcn:cap=d.length
 ·subst hcn;go_enter func179,ntmps179;go_wp2_with (at_builtin;go_must (refine wpList_append_own _ rfl _ _ 65 rfl _ 73 _ _ 2 24 underlying65 hi hz0 hz1 hz2 rfl dE _ _ _ rfl HX.o.2 ⟨vb,0,none⟩ 1 1 (qJ.cells x) rfl rfl (by intro j u hu;exact(by have:=HX.o.1.cell j u (by simpa [qJ.cells] using hu);simpa [qAa] using this)) (qDJ [x] |> λh u hu=>h u (by simpa using hu)) (by unfold maxLen;omega) oM oM ?_);intro v' w4 hown4 hg4 _;have HG:=mH (aI hown4 hg4);clear hown4 hg4);go_ret;refine⟨_,rfl,?_,HG.o.2⟩;rw [List.take_length,List.drop_length,List.flatMap_append]
  simpa using HG.o.1
 ·have hcn2:¬d.length=cap:=λe=>hcn e.symm
  go_enter func179,ntmps179;go_wp2_with (at_builtin;go_must (refine wpList_append_own _ rfl _ _ 65 rfl _ 73 _ _ 2 24 underlying65 hi hz0 hz1 hz2 rfl dE _ _ _ rfl HX.o.2 ⟨vb,0,none⟩ 1 1 (qJ.cells x) rfl rfl (by intro j u hu;exact(by have:=HX.o.1.cell j u (by simpa [qJ.cells] using hu);simpa [qAa] using this)) (qDJ [x] |> λh u hu=>h u (by simpa using hu)) (by unfold maxLen;omega) oM oM ?_);intro v' w4 hown4 hg4 _;have HG:=mH (aI hown4 hg4);clear hown4 hg4);go_ret;refine⟨_,rfl,?_,HG.o.2⟩;rw [List.take_length,List.drop_length,List.flatMap_append]
  simpa using HG.o.1
theorem qJm (g cap:Nat) (cur:Array Value) (d:List qJ) (i:Nat) (x:qJ) (vb base:Nat) (w:World) (hb:qC w g cur 73) (hg:base≤g) (hc:d.length+1≤cap) (hm:cap≤maxLen) (hs:cur.size=cap*2) (ht:cur.toList.take (d.length*2)=d.flatMap qJ.cells) (hi:i<d.length) (hx:qC w vb #[.string x.key,.int .i64 x.kind] 73) (hne:vb≠g) (hl:d.length≤5000) :
  Calls prog 179 #[.slice (some ⟨g,0,none⟩) d.length cap,.int .i64 i,.slice (some ⟨vb,0,none⟩) 1 1] w (qF0 d i x (.slice (some ⟨g,0,none⟩) d.length cap) base w):=by
 unfold maxLen at hm;have hxl:(d.flatMap qJ.cells).length=d.length*2:=jJ qJ.cells_len d;have hov:∀off lb cb,(callFunc 239 #[.slice (some ⟨vb,0,none⟩) 1 1,.slice (some ⟨g,off,none⟩) lb cb]).run prog w=.ok (.value (.bool false)) w:=λoff lb cb=>by
  rw [run_callFunc_extern func239 kR kR kR (e:=Extern.SlicesOverlaps.overlaps #[65,65] #[4]) kR,
   Lib.run_overlaps_apart w 65 4 73 underlying65 2 Tryz.sizeOf73 ⟨vb,0,none⟩ ⟨g,off,none⟩ 1 1 lb cb hne _ _ _ _ (qEG hx) (qEG hb) (by rw [hs];omega) (hx.free 0) (hx.free _)]
  rfl
 obtain⟨cs1,hcs1⟩:=eY ((d.flatMap qJ.cells).drop (i*2));have hcl:cs1.length=(d.length - i)*2:=by rw [hcs1,List.length_drop,hxl];omega
 have hcell:∀j u,(d.flatMap qJ.cells)[j]? = some u→w.cell? ⟨g,j,none⟩=some u:=λj u hu=>by
  refine hb.cell j u ?_;rw [←ht,List.getElem?_take] at hu
  split at hu
  ·simpa using hu
  ·cases hu
 have hsome:∀(W:World) (cu:Array Value),qC W g cu 73→cu.size=cap*2→∀j,j<cap*2→(W.cell? ⟨g,j,none⟩).isSome=true:=λW cu hB hS j hj=>by
  rw [hB.cell j cu[j] (by rw [Array.getElem?_eq_getElem oM])];rfl
 have hbd:qC w.drew g cur 73:=hb.drew;have h1c:∀u∈cs1,u.oneCell'=true:=λu hu=>qDJ d u (by rw [hcs1] at hu;exact List.mem_of_mem_drop hu)
 have hcp1:∀ty dl dc sl sc,Nat.min sl dl=d.length - i→(Builtin.copy_ #[65,65] ty #[.slice (some ⟨g,(i+1)*2,none⟩) dl dc,.slice (some ⟨g,i*2,none⟩) sl sc]).run prog w.drew=.ok (goInt ((d.length - i:Nat):Int)) (w.drew.setCells g ((i+1)*2) cs1):=λty dl dc sl sc hn=>by
  refine qAw w.drew _ _ ty 73 g ((i+1)*2) dl dc ⟨g,i*2,none⟩ sl sc (d.length - i) 2 cs1 underlying65 qI1 hn hcl (λj u hu=>?_) (λj hj=>?_) (λj _=>hbd.free _) h1c
  ·rw [qAa];refine hcell (i*2+j) u ?_;rw [hcs1,List.getElem?_drop] at hu;exact hu
  ·exact hsome w.drew cur hbd hs _ oM
 have hfit1:(i+1)*2+cs1.length≤cur.size:=by rw [hcl,hs];omega
 have hb1:=qAK hbd ((i+1)*2) cs1 hfit1;have hz1:=qAc hfit1;obtain⟨W1,hW1⟩:=eY (w.drew.setCells g ((i+1)*2) cs1);rw [←hW1] at hcp1 hb1;have hx1:qC W1 vb #[.string x.key,.int .i64 x.kind] 73:=by
  rw [hW1];exact hx.drew.grown (qO g cs1 _ _) (by simp;exact hne)
 have hcp2:∀ty dl dc,1≤dl→(Builtin.copy_ #[65,65] ty #[.slice (some ⟨g,i*2,none⟩) dl dc,.slice (some ⟨vb,0,none⟩) 1 1]).run prog W1=.ok (goInt ((1:Nat):Int)) (W1.setCells g (i*2) (qJ.cells x)):=λty dl dc hd=>by
  refine qAw W1 _ _ ty 73 g (i*2) dl dc ⟨vb,0,none⟩ 1 1 1 2 (qJ.cells x) underlying65 qI1 (Nat.min_eq_left hd) rfl (λj u hu=>?_) (λj hj=>?_) (λj _=>hb1.free _) (λu hu=>qDJ [x] u (by simpa using hu))
  ·rw [qAa];exact hx1.cell (0+j) u (by simpa [qJ.cells] using hu)
  ·refine hsome W1 _ hb1 (by rw [hz1,hs]) _ ?_;have:j<2:=hj;omega
 have hfit2:i*2+(qJ.cells x).length≤(qC1 cur ((i+1)*2) cs1).size:=by
  rw [hz1,hs];have:(qJ.cells x).length=2:=rfl;omega
 have hb2:=qAK hb1 (i*2) (qJ.cells x) hfit2;have hz2:=qAc hfit2;have hown:(W1.setCells g (i*2) (qJ.cells x)).ownsRow base 73 2 (.slice (some ⟨g,0,none⟩) (d.length+1) cap) (d.length+1) ((d.take i++x::d.drop i).flatMap qJ.cells):=by
  refine qBN hb2 hg hc (by unfold maxLen;exact hm) (by rw [hz2,hz1,hs]) ?_ (by rw [jJ qJ.cells_len];simp;omega);rw [List.flatMap_append,List.flatMap_cons,qD1 qJ.cells_len d i oM,qD8 qJ.cells_len d i oM,←List.append_assoc];have:=qL2 cur.toList (d.flatMap qJ.cells) (qJ.cells x) i d.length hxl ht oM rfl (by rw [show cur.toList.length=cur.size from rfl,hs];omega);rw [←this,hcs1]
  rfl
 have hgr:w.grownBy (W1.setCells g (i*2) (qJ.cells x)) (some g):=by
  refine qK (qK (⟨rfl,rfl,rfl,Nat.le_refl _,λ_ _ _=>rfl⟩:w.grownBy w.drew (some g)) ?_) (qO g (qJ.cells x) (i*2) W1);rw [hW1];exact qO g cs1 _ _
 have HO:=mH (aI hown hgr);have HCP1:=mH hcp1;have HCP2:=mH hcp2;have HOV:=mH hov;clear hW1 hown hgr hb2 hz2 hfit2 hx1 hb1 hz1 hfit1 h1c hbd hsome hcell hcl hcs1 hb hx ht hs hxl hcp1 hcp2 hov;have e1:¬((i:Int)=(d.length:Int)):=by omega
 have e2:IntKind.i64.wrap ((i:Int)+1)=(i:Int)+1:=IntWalk.i64_in _ oM;have e3:¬(cap=i):=by omega
 have e4:¬(cap=i+1):=by omega
 have e5:((i:Int)+1).toNat=i+1:=by omega
 have e6:(0:Int)≤(i:Int)+1:=by omega
 have e7:(i:Int)+1≤(d.length:Int)+1:=by omega
 have e8:(i:Int)≤(d.length:Int)+1:=by omega
 have e9:(i:Int)≤(d.length:Int):=by omega
 go_enter func179,ntmps179;have hov:=HOV.o;go_wp2_with (simp only [hov]);refine qA.start (λ_=>True) [] kR ?_;refine qA.q 0 ?_;refine qA.q 1 ?_;refine qA.q 2 ?_;refine qA.q 3 ?_;refine qA.q 4 ?_;refine qA.q 5 ?_;refine qA.q 6 ?_;refine qA.q 7 ?_;refine qA.nx 8 λK hK=>?_
 refine step_copy_runI rF _ _ _ _ rfl _ _ rF rF (HCP1.o _ _ _ _ _ (by simp only [Nat.min_def];split <;> omega)) ?_;refine qA.on hK (λ_ _=>trivial) ?_;clear hK K;refine qA.done kR ?_;have hcp2:=HCP2.o 3 (d.length+1 - i) (cap - i) oM;go_wp2_with (simp only [hcp2]);go_ret;exact⟨_,rfl,HO.o.1,HO.o.2⟩
theorem qJS (g:Nat) (cur:Array Value) (d:List qJ) (i:Nat) (x:qJ) (vb base:Nat) (w:World) (hb:qC w g cur 73) (hbase:base≤w.heap.size) (hs:cur.size=d.length*2) (ht:cur.toList.take (d.length*2)=d.flatMap qJ.cells) (hi:i<d.length) (hx:qC w vb #[.string x.key,.int .i64 x.kind] 73) (hl:d.length≤5000) :
  Calls prog 179 #[.slice (some ⟨g,0,none⟩) d.length d.length,.int .i64 i,.slice (some ⟨vb,0,none⟩) 1 1] w (qF0 d i x (.slice (some ⟨g,0,none⟩) d.length d.length) base w):=by
 obtain⟨i0,hi0,hz0,hz1,hz2⟩:=info_parts qIV;have hxl:(d.flatMap qJ.cells).length=d.length*2:=jJ qJ.cells_len d;have hcell:∀j u,(d.flatMap qJ.cells)[j]? = some u→w.cell? ⟨g,j,none⟩=some u:=λj u hu=>by
  refine hb.cell j u ?_;rw [←ht,List.getElem?_take] at hu
  split at hu
  ·simpa using hu
  ·cases hu
 have hik:i+(d.length+1 - i)=d.length+1:=by omega
 have hold:(Builtin.firstCells i0.size i (.slice (some ⟨g,0,none⟩) i d.length)).run prog w.drew=.ok ((d.flatMap qJ.cells).take (i*2)).toArray w.drew:=by
  rw [hz1];refine run_firstCells_some w.drew 2 i ⟨g,0,none⟩ i d.length _ (by rw [List.length_take,hxl];omega) (λj u hj=>?_);rw [qAa,Nat.zero_add];rw [List.getElem?_take] at hj
  split at hj
  ·exact hcell j u hj
  ·cases hj
 have hrz:∀ty,(Builtin.append_ #[65,3] ty #[.slice (some ⟨g,0,none⟩) i d.length,.int .i64 ((d.length:Int)+1 - (i:Int))]).run prog w =
   .ok (.slice (some ⟨w.heap.size,0,none⟩) (d.length+1) (grownCap w (d.length+1) d.length 73)) (w.drew.alloc (.cells (((d.flatMap qJ.cells).take (i*2)).toArray++Builtin.zeroCells (Value.agg #[.string ⟨#[]⟩,.int .i64 0]).cells (d.length+1 - i)++Builtin.zeroCells (Value.agg #[.string ⟨#[]⟩,.int .i64 0]).cells (grownCap w (d.length+1) d.length 73 - (d.length+1))) 73)):=λty=>by
  have h:=Lib.run_append_grow_zeros (P:=prog) w 65 3 ty 73 i0 _ .i64 .i64 underlying65 underlying3 hi0 hz0 (some ⟨g,0,none⟩) i d.length _ hold (d.length+1 - i) oM oM oM oM (by rw [hz2];omega) (by rw [hz2,hik];exact growslice_fits oM oM);rw [hik] at h;rw [show(d.length:Int)+1 - (i:Int)=((d.length+1 - i:Nat):Int) by omega];exact h
 have hGn:d.length+1≤grownCap w (d.length+1) d.length 73:=grownCap_ge w _ _ _;have hGm:grownCap w (d.length+1) d.length 73≤maxLen:=grownCap_le_maxLen w _ _ _ (by unfold maxLen;omega);generalize grownCap w (d.length+1) d.length 73=G at *;obtain⟨ROW,hROW⟩:∃ROW:Array Value,ROW=((d.flatMap qJ.cells).take (i*2)).toArray++Builtin.zeroCells (Value.agg #[.string ⟨#[]⟩,.int .i64 0]).cells (d.length+1 - i)++Builtin.zeroCells (Value.agg #[.string ⟨#[]⟩,.int .i64 0]).cells (G - (d.length+1)):=⟨_,rfl⟩;rw [←hROW] at hrz;have hRs:ROW.size=G*2:=by
  rw [hROW];simp [Builtin.zeroCells,Value.cells,hxl];omega
 have hRt:ROW.toList.take (i*2)=(d.flatMap qJ.cells).take (i*2):=by
  rw [hROW];have e:((d.flatMap qJ.cells).take (i*2)).length=i*2:=by rw [List.length_take,hxl];omega
  simp only [Array.toList_append,List.append_assoc];rw [List.take_left' e]
 have hbN:qC (w.drew.alloc (.cells ROW 73)) w.heap.size ROW 73:=qC.new w.drew ROW _;have hglt:=hb.lt;have hvlt:=hx.lt;have HR:=mH (aI hrz (aI hRs (aI hRt (aI hbN (aI hb (aI hx hcell))))));clear hrz hRs hRt hbN hb hx hcell hROW hold hik hxl hs ht;unfold maxLen at hGm;have e1:¬((i:Int)=(d.length:Int)):=by omega
 have e2:IntKind.i64.wrap ((i:Int)+1)=(i:Int)+1:=IntWalk.i64_in _ oM;have e5:((i:Int)+1).toNat=i+1:=by omega
 have e6:(0:Int)≤(i:Int)+1:=by omega
 have e9:(i:Int)≤(d.length:Int):=by omega
 have e10:¬(G=i):=by omega
 have e11:¬(G=i+1):=by omega
 have e12:¬(d.length=i):=by omega
 have e13:(i:Int)+1≤(d.length:Int)+1:=by omega
 have e14:(i:Int)≤(d.length:Int)+1:=by omega
 go_enter func179,ntmps179;go_wp2_with (at_builtin;refine Lib.wpList_append_run _ rfl _ _ _ _ rfl _ _ rfl rfl _ _ (HR.o.1 _) ?_);obtain⟨-,hRs,hRt,-,hb,hx,hcell⟩:=HR.o;have hbN:qC (w.alloc (.cells ROW 73)).drew w.heap.size ROW 73:=qC.new w ROW _;have hx1:qC (w.alloc (.cells ROW 73)).drew vb #[.string x.key,.int .i64 x.kind] 73:=(hx.alloc _).drew;have hb1:qC (w.alloc (.cells ROW 73)).drew g cur 73:=(hb.alloc _).drew;have hB1:Below w.heap.size w (w.alloc (.cells ROW 73)).drew:=Below.drew (qB bR _ lR);have hcell1:∀j u,(d.flatMap qJ.cells)[j]? = some u→(w.alloc (.cells ROW 73)).drew.cell? ⟨g,j,none⟩=some u:=λj u hu=>(hB1.cell (p:=⟨g,j,none⟩) hglt).trans (hcell j u hu)
 generalize (w.alloc (.cells ROW 73)).drew=W1 at *;have hxl:(d.flatMap qJ.cells).length=d.length*2:=jJ qJ.cells_len d;have hsome:∀(W:World) (cu:Array Value),qC W w.heap.size cu 73→cu.size=G*2→∀j,j<G*2→(W.cell? ⟨w.heap.size,j,none⟩).isSome=true:=λW cu hB hS j hj=>by
  rw [hB.cell j cu[j] (by rw [Array.getElem?_eq_getElem oM])];rfl
 have hcp2:(Builtin.copy_ #[65,65] 3 #[.slice (some ⟨w.heap.size,i*2,none⟩) (d.length+1 - i) (G - i),.slice (some ⟨vb,0,none⟩) 1 1]).run prog W1=.ok (goInt ((1:Nat):Int)) (W1.setCells w.heap.size (i*2) (qJ.cells x)):=by
  refine qAw W1 _ _ _ 73 w.heap.size (i*2) _ _ ⟨vb,0,none⟩ 1 1 1 2 (qJ.cells x) underlying65 qI1 (Nat.min_eq_left oM) rfl (λj u hu=>?_) (λj hj=>?_) (λj _=>hbN.free _) (λu hu=>qDJ [x] u (by simpa using hu))
  ·rw [qAa];exact hx1.cell (0+j) u (by simpa [qJ.cells] using hu)
  ·refine hsome W1 _ hbN hRs _ ?_;have:j<2:=hj;omega
 have hfit2:i*2+(qJ.cells x).length≤ROW.size:=by
  rw [hRs];have:(qJ.cells x).length=2:=rfl;omega
 have hb2:=qAK hbN (i*2) (qJ.cells x) hfit2;have hz2':=qAc hfit2;have hB2:Below w.heap.size w (W1.setCells w.heap.size (i*2) (qJ.cells x)):=qBD hB1 (jE (qO w.heap.size (qJ.cells x) (i*2) W1) lR hB1.size) lR;have hcell2:∀j u,(d.flatMap qJ.cells)[j]? = some u→(W1.setCells w.heap.size (i*2) (qJ.cells x)).cell? ⟨g,j,none⟩=some u:=λj u hu=>(hB2.cell (p:=⟨g,j,none⟩) hglt).trans (hcell j u hu)
 have H2:=mH (aI hb2 (aI hz2' (aI hB2 (aI hcell2 (aI hRs (aI hRt (aI hxl hsome)))))));clear hb2 hz2' hB2 hcell2 hRs hRt hxl hsome hb hx hcell hbN hx1 hb1 hB1 hcell1 hfit2;go_wp2_with (simp only [hcp2]);clear hcp2;generalize W1.setCells w.heap.size (i*2) (qJ.cells x)=W2 at *;refine qA.start (λ_=>True) [] kR ?_;obtain⟨hb2,hz2',hB2,hcell2,hRs,hRt,hxl,hsome⟩:=H2.o;obtain⟨cs1,hcs1⟩:=eY ((d.flatMap qJ.cells).drop (i*2));have hcl:cs1.length=(d.length - i)*2:=by rw [hcs1,List.length_drop,hxl];omega
 have h1c:∀u∈cs1,u.oneCell'=true:=λu hu=>qDJ d u (by rw [hcs1] at hu;exact List.mem_of_mem_drop hu)
 have hbd:qC W2.drew w.heap.size (qC1 ROW (i*2) (qJ.cells x)) 73:=hb2.drew;have hcp1:∀ty dl dc sl sc,Nat.min sl dl=d.length - i→(Builtin.copy_ #[65,65] ty #[.slice (some ⟨w.heap.size,(i+1)*2,none⟩) dl dc,.slice (some ⟨g,i*2,none⟩) sl sc]).run prog W2.drew=.ok (goInt ((d.length - i:Nat):Int)) (W2.drew.setCells w.heap.size ((i+1)*2) cs1):=λty dl dc sl sc hn=>by
  refine qAw W2.drew _ _ ty 73 w.heap.size ((i+1)*2) dl dc ⟨g,i*2,none⟩ sl sc (d.length - i) 2 cs1 underlying65 qI1 hn hcl (λj u hu=>?_) (λj hj=>?_) (λj _=>hbd.free _) h1c
  ·rw [qAa];refine hcell2 (i*2+j) u ?_;rw [hcs1,List.getElem?_drop] at hu;exact hu
  ·exact hsome W2.drew _ hbd (by rw [hz2',hRs]) _ oM
 have hfit3:(i+1)*2+cs1.length≤(qC1 ROW (i*2) (qJ.cells x)).size:=by rw [hz2',hRs,hcl];omega
 have hb3:=qAK hbd ((i+1)*2) cs1 hfit3;have hz3:=qAc hfit3;have hB3:Below w.heap.size w (W2.drew.setCells w.heap.size ((i+1)*2) cs1):=qBD (Below.drew hB2) (jE (qO w.heap.size cs1 ((i+1)*2) W2.drew) lR hB2.size) lR;have hown:(W2.drew.setCells w.heap.size ((i+1)*2) cs1).ownsRow base 73 2 (.slice (some ⟨w.heap.size,0,none⟩) (d.length+1) G) (d.length+1) ((d.take i++x::d.drop i).flatMap qJ.cells):=by
  refine qBN hb3 hbase hGn (by unfold maxLen;exact hGm) (by rw [hz3,hz2',hRs]) ?_ (by rw [jJ qJ.cells_len];simp;omega);rw [List.flatMap_append,List.flatMap_cons,qD1 qJ.cells_len d i oM,qD8 qJ.cells_len d i oM,←List.append_assoc];have:=qLU ROW.toList (d.flatMap qJ.cells) (qJ.cells x) i d.length hxl hRt oM rfl (by rw [show ROW.toList.length=ROW.size from rfl,hRs];omega);rw [←this,hcs1]
  rfl
 have HO:=mH (aI hown (qH (some g) hB3));have HCP1:=mH hcp1;clear hown hB3 hz3 hb3 hfit3 hcp1 hbd h1c hcl hcs1 hb2 hz2' hB2 hcell2 hRs hRt hxl hsome;refine qA.q 0 ?_;refine qA.q 1 ?_;refine qA.q 2 ?_;refine qA.q 3 ?_;refine qA.q 4 ?_;refine qA.q 5 ?_;refine qA.q 6 ?_;refine qA.q 7 ?_;refine qA.nx 8 λK hK=>?_
 refine step_copy_runI rF _ _ _ _ rfl _ _ rF rF (HCP1.o _ _ _ _ _ (by simp only [Nat.min_def];split <;> omega)) ?_;refine qA.on hK (λ_ _=>trivial) ?_;clear hK K;refine qA.done kR ?_;go_wp2;go_ret;exact⟨_,rfl,HO.o.1,HO.o.2⟩
theorem qO9 (v:Value) (d:List qJ) (i:Nat) (x:qJ) (vb base:Nat) (w:World) (ho:w.ownsRow base 73 2 v d.length (d.flatMap qJ.cells)) (hi:i≤d.length) (hx:qC w vb #[.string x.key,.int .i64 x.kind] 73) (hvb:v.ownBlock≠some vb) (hbase:base≤w.heap.size) (hl:d.length≤5000) :
  Calls prog 179 #[v,.int .i64 i,.slice (some ⟨vb,0,none⟩) 1 1] w (qF0 d i x v base w):=by
 rcases Nat.lt_or_ge i d.length with h|h
 ·obtain⟨g,cap,cur,rfl,hg,hb,hc,hm,hs,ht⟩:=qEi ho oM;have hne:vb≠g:=λe=>hvb (by rw [e];rfl)
  rcases Nat.lt_or_ge d.length cap with h2|h2
  ·exact qJm g cap cur d i x vb base w hb hg oM hm hs ht h hx hne hl
  ·obtain rfl:cap=d.length:=by omega
   exact qJS g cur d i x vb base w hb hbase hs ht h hx hl
 ·obtain rfl:i=d.length:=by omega
  exact qKM v d x vb base w ho hx hbase hl
theorem qM7 (cur xs cx:List Value) (i n:Nat) (hx:xs.length=n*5) (ht:cur.take (n*5)=xs) (hi:i≤n) (hc:cx.length=5) (hs:(n+1)*5≤cur.length) :
  ((cur.take ((i+1)*5)++xs.drop (i*5)++cur.drop ((i+1)*5+(xs.drop (i*5)).length)).take (i*5)++cx++(cur.take ((i+1)*5)++xs.drop (i*5)++cur.drop ((i+1)*5+(xs.drop (i*5)).length)).drop (i*5+cx.length)).take ((n+1)*5)=xs.take (i*5)++cx++xs.drop (i*5):=by
 have e1:(cur.take ((i+1)*5)).length=(i+1)*5:=by rw [List.length_take];omega
 have e2:cur.take (i*5)=xs.take (i*5):=by rw [←ht,List.take_take,Nat.min_eq_left oM]
 have e3:(cur.take ((i+1)*5)++xs.drop (i*5)++cur.drop ((i+1)*5+(xs.drop (i*5)).length)).take (i*5)=xs.take (i*5):=by
  rw [List.append_assoc,List.take_append_of_le_length oM,List.take_take,Nat.min_eq_left oM,e2]
 have e4:(cur.take ((i+1)*5)++xs.drop (i*5)++cur.drop ((i+1)*5+(xs.drop (i*5)).length)).drop (i*5+cx.length)=xs.drop (i*5)++cur.drop ((i+1)*5+(xs.drop (i*5)).length):=by
  rw [List.append_assoc,List.drop_left' (by rw [e1,hc];omega)]
 rw [e3,e4,←List.append_assoc,List.take_left' (by simp [hx,hc];omega)]
theorem qLP (row xs cx:List Value) (i n:Nat) (hx:xs.length=n*5) (ht:row.take (i*5)=xs.take (i*5)) (hi:i≤n) (hc:cx.length=5) (hs:(n+1)*5≤row.length) :
  ((row.take (i*5)++cx++row.drop (i*5+cx.length)).take ((i+1)*5)++xs.drop (i*5)++(row.take (i*5)++cx++row.drop (i*5+cx.length)).drop ((i+1)*5+(xs.drop (i*5)).length)).take ((n+1)*5)=xs.take (i*5)++cx++xs.drop (i*5):=by
 have e0:(row.take (i*5)++cx).length=(i+1)*5:=by rw [List.length_append,List.length_take,hc];omega
 have e1:(row.take (i*5)++cx++row.drop (i*5+cx.length)).take ((i+1)*5)=xs.take (i*5)++cx:=by
  rw [List.take_left' e0,ht]
 rw [e1,List.append_assoc,←List.append_assoc,List.take_left' (by simp [hx,hc];omega)]
theorem qIP:(prog.info? 75).map (·.size)=some 5:=by kernel_rfl
def qF3 (d:List qG) (i:Nat) (x:qG) (v:Value) (base:Nat) (w:World) (e:Ending) (w':World):Prop:=∃v',e=.returned v'∧w'.ownsRow base 75 5 v' (d.length+1) ((d.take i++x::d.drop i).flatMap qG.cells)∧w.grownBy w' v.ownBlock
theorem qJx (v:Value) (d:List qG) (x:qG) (vb base:Nat) (w:World) (ho:w.ownsRow base 75 5 v d.length (d.flatMap qG.cells)) (hx:qC w vb #[.string x.key,.string x.a,.string x.b,.int .i64 x.long,.int .i64 x.fibs] 75) (hbase:base≤w.heap.size) (hl:d.length≤5000) :
  Calls prog 183 #[v,.int .i64 d.length,.slice (some ⟨vb,0,none⟩) 1 1] w (qF3 d d.length x v base w):=by
 obtain⟨i0,hi,hz0,hz1,hz2⟩:=info_parts qIK;have HX:=mH (aI hx ho);have HV:∃a cap,v=.slice a d.length cap∧d.length≤cap:=by
  rcases ho.2 with⟨hv,h0⟩|⟨g,cap,cur,rfl,_,_,hc,_⟩
  ·exact⟨none,0,by rw [hv,h0],by omega⟩
  ·exact⟨_,cap,rfl,hc⟩
 obtain⟨a,cap,rfl,hcap⟩:=HV;clear hx ho
 by_cases hcn:cap=d.length
 ·subst hcn;go_enter func183,ntmps183;go_wp2_with (at_builtin;go_must (refine wpList_append_own _ rfl _ _ 66 rfl _ 75 _ _ 5 64 underlying66 hi hz0 hz1 hz2 rfl dE _ _ _ rfl HX.o.2 ⟨vb,0,none⟩ 1 1 (qG.cells x) rfl rfl (by intro j u hu;exact(by have:=HX.o.1.cell j u (by simpa [qG.cells] using hu);simpa [qAa] using this)) (qDK [x] |> λh u hu=>h u (by simpa using hu)) (by unfold maxLen;omega) oM oM ?_);intro v' w4 hown4 hg4 _;have HG:=mH (aI hown4 hg4);clear hown4 hg4);go_ret;refine⟨_,rfl,?_,HG.o.2⟩;rw [List.take_length,List.drop_length,List.flatMap_append]
  simpa using HG.o.1
 ·have hcn2:¬d.length=cap:=λe=>hcn e.symm
  go_enter func183,ntmps183;go_wp2_with (at_builtin;go_must (refine wpList_append_own _ rfl _ _ 66 rfl _ 75 _ _ 5 64 underlying66 hi hz0 hz1 hz2 rfl dE _ _ _ rfl HX.o.2 ⟨vb,0,none⟩ 1 1 (qG.cells x) rfl rfl (by intro j u hu;exact(by have:=HX.o.1.cell j u (by simpa [qG.cells] using hu);simpa [qAa] using this)) (qDK [x] |> λh u hu=>h u (by simpa using hu)) (by unfold maxLen;omega) oM oM ?_);intro v' w4 hown4 hg4 _;have HG:=mH (aI hown4 hg4);clear hown4 hg4);go_ret;refine⟨_,rfl,?_,HG.o.2⟩;rw [List.take_length,List.drop_length,List.flatMap_append]
  simpa using HG.o.1
theorem qJq (g cap:Nat) (cur:Array Value) (d:List qG) (i:Nat) (x:qG) (vb base:Nat) (w:World) (hb:qC w g cur 75) (hg:base≤g) (hc:d.length+1≤cap) (hm:cap≤maxLen) (hs:cur.size=cap*5) (ht:cur.toList.take (d.length*5)=d.flatMap qG.cells) (hi:i<d.length) (hx:qC w vb #[.string x.key,.string x.a,.string x.b,.int .i64 x.long,.int .i64 x.fibs] 75) (hne:vb≠g) (hl:d.length≤5000) :
  Calls prog 183 #[.slice (some ⟨g,0,none⟩) d.length cap,.int .i64 i,.slice (some ⟨vb,0,none⟩) 1 1] w (qF3 d i x (.slice (some ⟨g,0,none⟩) d.length cap) base w):=by
 unfold maxLen at hm;have hxl:(d.flatMap qG.cells).length=d.length*5:=jJ qG.cells_len d;have hov:∀off lb cb,(callFunc 241 #[.slice (some ⟨vb,0,none⟩) 1 1,.slice (some ⟨g,off,none⟩) lb cb]).run prog w=.ok (.value (.bool false)) w:=λoff lb cb=>by
  rw [run_callFunc_extern func241 kR kR kR (e:=Extern.SlicesOverlaps.overlaps #[66,66] #[4]) kR,
   Lib.run_overlaps_apart w 66 4 75 underlying66 5 Tryz.sizeOf75 ⟨vb,0,none⟩ ⟨g,off,none⟩ 1 1 lb cb hne _ _ _ _ (qEG hx) (qEG hb) (by rw [hs];omega) (hx.free 0) (hx.free _)]
  rfl
 obtain⟨cs1,hcs1⟩:=eY ((d.flatMap qG.cells).drop (i*5));have hcl:cs1.length=(d.length - i)*5:=by rw [hcs1,List.length_drop,hxl];omega
 have hcell:∀j u,(d.flatMap qG.cells)[j]? = some u→w.cell? ⟨g,j,none⟩=some u:=λj u hu=>by
  refine hb.cell j u ?_;rw [←ht,List.getElem?_take] at hu
  split at hu
  ·simpa using hu
  ·cases hu
 have hsome:∀(W:World) (cu:Array Value),qC W g cu 75→cu.size=cap*5→∀j,j<cap*5→(W.cell? ⟨g,j,none⟩).isSome=true:=λW cu hB hS j hj=>by
  rw [hB.cell j cu[j] (by rw [Array.getElem?_eq_getElem oM])];rfl
 have hbd:qC w.drew g cur 75:=hb.drew;have h1c:∀u∈cs1,u.oneCell'=true:=λu hu=>qDK d u (by rw [hcs1] at hu;exact List.mem_of_mem_drop hu)
 have hcp1:∀ty dl dc sl sc,Nat.min sl dl=d.length - i→(Builtin.copy_ #[66,66] ty #[.slice (some ⟨g,(i+1)*5,none⟩) dl dc,.slice (some ⟨g,i*5,none⟩) sl sc]).run prog w.drew=.ok (goInt ((d.length - i:Nat):Int)) (w.drew.setCells g ((i+1)*5) cs1):=λty dl dc sl sc hn=>by
  refine qAw w.drew _ _ ty 75 g ((i+1)*5) dl dc ⟨g,i*5,none⟩ sl sc (d.length - i) 5 cs1 underlying66 qIP hn hcl (λj u hu=>?_) (λj hj=>?_) (λj _=>hbd.free _) h1c
  ·rw [qAa];refine hcell (i*5+j) u ?_;rw [hcs1,List.getElem?_drop] at hu;exact hu
  ·exact hsome w.drew cur hbd hs _ oM
 have hfit1:(i+1)*5+cs1.length≤cur.size:=by rw [hcl,hs];omega
 have hb1:=qAK hbd ((i+1)*5) cs1 hfit1;have hz1:=qAc hfit1;obtain⟨W1,hW1⟩:=eY (w.drew.setCells g ((i+1)*5) cs1);rw [←hW1] at hcp1 hb1;have hx1:qC W1 vb #[.string x.key,.string x.a,.string x.b,.int .i64 x.long,.int .i64 x.fibs] 75:=by
  rw [hW1];exact hx.drew.grown (qO g cs1 _ _) (by simp;exact hne)
 have hcp2:∀ty dl dc,1≤dl→(Builtin.copy_ #[66,66] ty #[.slice (some ⟨g,i*5,none⟩) dl dc,.slice (some ⟨vb,0,none⟩) 1 1]).run prog W1=.ok (goInt ((1:Nat):Int)) (W1.setCells g (i*5) (qG.cells x)):=λty dl dc hd=>by
  refine qAw W1 _ _ ty 75 g (i*5) dl dc ⟨vb,0,none⟩ 1 1 1 5 (qG.cells x) underlying66 qIP (Nat.min_eq_left hd) rfl (λj u hu=>?_) (λj hj=>?_) (λj _=>hb1.free _) (λu hu=>qDK [x] u (by simpa using hu))
  ·rw [qAa];exact hx1.cell (0+j) u (by simpa [qG.cells] using hu)
  ·refine hsome W1 _ hb1 (by rw [hz1,hs]) _ ?_;have:j<5:=hj;omega
 have hfit2:i*5+(qG.cells x).length≤(qC1 cur ((i+1)*5) cs1).size:=by
  rw [hz1,hs];have:(qG.cells x).length=5:=rfl;omega
 have hb2:=qAK hb1 (i*5) (qG.cells x) hfit2;have hz2:=qAc hfit2;have hown:(W1.setCells g (i*5) (qG.cells x)).ownsRow base 75 5 (.slice (some ⟨g,0,none⟩) (d.length+1) cap) (d.length+1) ((d.take i++x::d.drop i).flatMap qG.cells):=by
  refine qBN hb2 hg hc (by unfold maxLen;exact hm) (by rw [hz2,hz1,hs]) ?_ (by rw [jJ qG.cells_len];simp;omega);rw [List.flatMap_append,List.flatMap_cons,qD1 qG.cells_len d i oM,qD8 qG.cells_len d i oM,←List.append_assoc];have:=qM7 cur.toList (d.flatMap qG.cells) (qG.cells x) i d.length hxl ht oM rfl (by rw [show cur.toList.length=cur.size from rfl,hs];omega);rw [←this,hcs1]
  rfl
 have hgr:w.grownBy (W1.setCells g (i*5) (qG.cells x)) (some g):=by
  refine qK (qK (⟨rfl,rfl,rfl,Nat.le_refl _,λ_ _ _=>rfl⟩:w.grownBy w.drew (some g)) ?_) (qO g (qG.cells x) (i*5) W1);rw [hW1];exact qO g cs1 _ _
 have HO:=mH (aI hown hgr);have HCP1:=mH hcp1;have HCP2:=mH hcp2;have HOV:=mH hov;clear hW1 hown hgr hb2 hz2 hfit2 hx1 hb1 hz1 hfit1 h1c hbd hsome hcell hcl hcs1 hb hx ht hs hxl hcp1 hcp2 hov;have e1:¬((i:Int)=(d.length:Int)):=by omega
 have e2:IntKind.i64.wrap ((i:Int)+1)=(i:Int)+1:=IntWalk.i64_in _ oM;have e3:¬(cap=i):=by omega
 have e4:¬(cap=i+1):=by omega
 have e5:((i:Int)+1).toNat=i+1:=by omega
 have e6:(0:Int)≤(i:Int)+1:=by omega
 have e7:(i:Int)+1≤(d.length:Int)+1:=by omega
 have e8:(i:Int)≤(d.length:Int)+1:=by omega
 have e9:(i:Int)≤(d.length:Int):=by omega
 go_enter func183,ntmps183;have hov:=HOV.o;go_wp2_with (simp only [hov]);refine qA.start (λ_=>True) [] kR ?_;refine qA.q 0 ?_;refine qA.q 1 ?_;refine qA.q 2 ?_;refine qA.q 3 ?_;refine qA.q 4 ?_;refine qA.q 5 ?_;refine qA.q 6 ?_;refine qA.q 7 ?_;refine qA.nx 8 λK hK=>?_
 refine step_copy_runI rF _ _ _ _ rfl _ _ rF rF (HCP1.o _ _ _ _ _ (by simp only [Nat.min_def];split <;> omega)) ?_;refine qA.on hK (λ_ _=>trivial) ?_;clear hK K;refine qA.done kR ?_;have hcp2:=HCP2.o 3 (d.length+1 - i) (cap - i) oM;go_wp2_with (simp only [hcp2]);go_ret;exact⟨_,rfl,HO.o.1,HO.o.2⟩
theorem qJ8 (g:Nat) (cur:Array Value) (d:List qG) (i:Nat) (x:qG) (vb base:Nat) (w:World) (hb:qC w g cur 75) (hbase:base≤w.heap.size) (hs:cur.size=d.length*5) (ht:cur.toList.take (d.length*5)=d.flatMap qG.cells) (hi:i<d.length) (hx:qC w vb #[.string x.key,.string x.a,.string x.b,.int .i64 x.long,.int .i64 x.fibs] 75) (hl:d.length≤5000) :
  Calls prog 183 #[.slice (some ⟨g,0,none⟩) d.length d.length,.int .i64 i,.slice (some ⟨vb,0,none⟩) 1 1] w (qF3 d i x (.slice (some ⟨g,0,none⟩) d.length d.length) base w):=by
 obtain⟨i0,hi0,hz0,hz1,hz2⟩:=info_parts qIK;have hxl:(d.flatMap qG.cells).length=d.length*5:=jJ qG.cells_len d;have hcell:∀j u,(d.flatMap qG.cells)[j]? = some u→w.cell? ⟨g,j,none⟩=some u:=λj u hu=>by
  refine hb.cell j u ?_;rw [←ht,List.getElem?_take] at hu
  split at hu
  ·simpa using hu
  ·cases hu
 have hik:i+(d.length+1 - i)=d.length+1:=by omega
 have hold:(Builtin.firstCells i0.size i (.slice (some ⟨g,0,none⟩) i d.length)).run prog w.drew=.ok ((d.flatMap qG.cells).take (i*5)).toArray w.drew:=by
  rw [hz1];refine run_firstCells_some w.drew 5 i ⟨g,0,none⟩ i d.length _ (by rw [List.length_take,hxl];omega) (λj u hj=>?_);rw [qAa,Nat.zero_add];rw [List.getElem?_take] at hj
  split at hj
  ·exact hcell j u hj
  ·cases hj
 have hrz:∀ty,(Builtin.append_ #[66,3] ty #[.slice (some ⟨g,0,none⟩) i d.length,.int .i64 ((d.length:Int)+1 - (i:Int))]).run prog w =
   .ok (.slice (some ⟨w.heap.size,0,none⟩) (d.length+1) (grownCap w (d.length+1) d.length 75)) (w.drew.alloc (.cells (((d.flatMap qG.cells).take (i*5)).toArray++Builtin.zeroCells (Value.agg #[.string ⟨#[]⟩,.string ⟨#[]⟩,.string ⟨#[]⟩,.int .i64 0,.int .i64 0]).cells (d.length+1 - i)++Builtin.zeroCells (Value.agg #[.string ⟨#[]⟩,.string ⟨#[]⟩,.string ⟨#[]⟩,.int .i64 0,.int .i64 0]).cells (grownCap w (d.length+1) d.length 75 - (d.length+1))) 75)):=λty=>by
  have h:=Lib.run_append_grow_zeros (P:=prog) w 66 3 ty 75 i0 _ .i64 .i64 underlying66 underlying3 hi0 hz0 (some ⟨g,0,none⟩) i d.length _ hold (d.length+1 - i) oM oM oM oM (by rw [hz2];omega) (by rw [hz2,hik];exact growslice_fits oM oM);rw [hik] at h;rw [show(d.length:Int)+1 - (i:Int)=((d.length+1 - i:Nat):Int) by omega];exact h
 have hGn:d.length+1≤grownCap w (d.length+1) d.length 75:=grownCap_ge w _ _ _;have hGm:grownCap w (d.length+1) d.length 75≤maxLen:=grownCap_le_maxLen w _ _ _ (by unfold maxLen;omega);generalize grownCap w (d.length+1) d.length 75=G at *;obtain⟨ROW,hROW⟩:∃ROW:Array Value,ROW=((d.flatMap qG.cells).take (i*5)).toArray++Builtin.zeroCells (Value.agg #[.string ⟨#[]⟩,.string ⟨#[]⟩,.string ⟨#[]⟩,.int .i64 0,.int .i64 0]).cells (d.length+1 - i)++Builtin.zeroCells (Value.agg #[.string ⟨#[]⟩,.string ⟨#[]⟩,.string ⟨#[]⟩,.int .i64 0,.int .i64 0]).cells (G - (d.length+1)):=⟨_,rfl⟩;rw [←hROW] at hrz;have hRs:ROW.size=G*5:=by
  rw [hROW];simp [Builtin.zeroCells,Value.cells,hxl];omega
 have hRt:ROW.toList.take (i*5)=(d.flatMap qG.cells).take (i*5):=by
  rw [hROW];have e:((d.flatMap qG.cells).take (i*5)).length=i*5:=by rw [List.length_take,hxl];omega
  simp only [Array.toList_append,List.append_assoc];rw [List.take_left' e]
 have hbN:qC (w.drew.alloc (.cells ROW 75)) w.heap.size ROW 75:=qC.new w.drew ROW _;have hglt:=hb.lt;have hvlt:=hx.lt;have HR:=mH (aI hrz (aI hRs (aI hRt (aI hbN (aI hb (aI hx hcell))))));clear hrz hRs hRt hbN hb hx hcell hROW hold hik hxl hs ht;unfold maxLen at hGm;have e1:¬((i:Int)=(d.length:Int)):=by omega
 have e2:IntKind.i64.wrap ((i:Int)+1)=(i:Int)+1:=IntWalk.i64_in _ oM;have e5:((i:Int)+1).toNat=i+1:=by omega
 have e6:(0:Int)≤(i:Int)+1:=by omega
 have e9:(i:Int)≤(d.length:Int):=by omega
 have e10:¬(G=i):=by omega
 have e11:¬(G=i+1):=by omega
 have e12:¬(d.length=i):=by omega
 have e13:(i:Int)+1≤(d.length:Int)+1:=by omega
 have e14:(i:Int)≤(d.length:Int)+1:=by omega
 go_enter func183,ntmps183;go_wp2_with (at_builtin;refine Lib.wpList_append_run _ rfl _ _ _ _ rfl _ _ rfl rfl _ _ (HR.o.1 _) ?_);obtain⟨-,hRs,hRt,-,hb,hx,hcell⟩:=HR.o;have hbN:qC (w.alloc (.cells ROW 75)).drew w.heap.size ROW 75:=qC.new w ROW _;have hx1:qC (w.alloc (.cells ROW 75)).drew vb #[.string x.key,.string x.a,.string x.b,.int .i64 x.long,.int .i64 x.fibs] 75:=(hx.alloc _).drew;have hb1:qC (w.alloc (.cells ROW 75)).drew g cur 75:=(hb.alloc _).drew;have hB1:Below w.heap.size w (w.alloc (.cells ROW 75)).drew:=Below.drew (qB bR _ lR);have hcell1:∀j u,(d.flatMap qG.cells)[j]? = some u→(w.alloc (.cells ROW 75)).drew.cell? ⟨g,j,none⟩=some u:=λj u hu=>(hB1.cell (p:=⟨g,j,none⟩) hglt).trans (hcell j u hu)
 generalize (w.alloc (.cells ROW 75)).drew=W1 at *;have hxl:(d.flatMap qG.cells).length=d.length*5:=jJ qG.cells_len d;have hsome:∀(W:World) (cu:Array Value),qC W w.heap.size cu 75→cu.size=G*5→∀j,j<G*5→(W.cell? ⟨w.heap.size,j,none⟩).isSome=true:=λW cu hB hS j hj=>by
  rw [hB.cell j cu[j] (by rw [Array.getElem?_eq_getElem oM])];rfl
 have hcp2:(Builtin.copy_ #[66,66] 3 #[.slice (some ⟨w.heap.size,i*5,none⟩) (d.length+1 - i) (G - i),.slice (some ⟨vb,0,none⟩) 1 1]).run prog W1=.ok (goInt ((1:Nat):Int)) (W1.setCells w.heap.size (i*5) (qG.cells x)):=by
  refine qAw W1 _ _ _ 75 w.heap.size (i*5) _ _ ⟨vb,0,none⟩ 1 1 1 5 (qG.cells x) underlying66 qIP (Nat.min_eq_left oM) rfl (λj u hu=>?_) (λj hj=>?_) (λj _=>hbN.free _) (λu hu=>qDK [x] u (by simpa using hu))
  ·rw [qAa];exact hx1.cell (0+j) u (by simpa [qG.cells] using hu)
  ·refine hsome W1 _ hbN hRs _ ?_;have:j<5:=hj;omega
 have hfit2:i*5+(qG.cells x).length≤ROW.size:=by
  rw [hRs];have:(qG.cells x).length=5:=rfl;omega
 have hb2:=qAK hbN (i*5) (qG.cells x) hfit2;have hz2':=qAc hfit2;have hB2:Below w.heap.size w (W1.setCells w.heap.size (i*5) (qG.cells x)):=qBD hB1 (jE (qO w.heap.size (qG.cells x) (i*5) W1) lR hB1.size) lR;have hcell2:∀j u,(d.flatMap qG.cells)[j]? = some u→(W1.setCells w.heap.size (i*5) (qG.cells x)).cell? ⟨g,j,none⟩=some u:=λj u hu=>(hB2.cell (p:=⟨g,j,none⟩) hglt).trans (hcell j u hu)
 have H2:=mH (aI hb2 (aI hz2' (aI hB2 (aI hcell2 (aI hRs (aI hRt (aI hxl hsome)))))));clear hb2 hz2' hB2 hcell2 hRs hRt hxl hsome hb hx hcell hbN hx1 hb1 hB1 hcell1 hfit2;go_wp2_with (simp only [hcp2]);clear hcp2;generalize W1.setCells w.heap.size (i*5) (qG.cells x)=W2 at *;refine qA.start (λ_=>True) [] kR ?_;obtain⟨hb2,hz2',hB2,hcell2,hRs,hRt,hxl,hsome⟩:=H2.o;obtain⟨cs1,hcs1⟩:=eY ((d.flatMap qG.cells).drop (i*5));have hcl:cs1.length=(d.length - i)*5:=by rw [hcs1,List.length_drop,hxl];omega
 have h1c:∀u∈cs1,u.oneCell'=true:=λu hu=>qDK d u (by rw [hcs1] at hu;exact List.mem_of_mem_drop hu)
 have hbd:qC W2.drew w.heap.size (qC1 ROW (i*5) (qG.cells x)) 75:=hb2.drew;have hcp1:∀ty dl dc sl sc,Nat.min sl dl=d.length - i→(Builtin.copy_ #[66,66] ty #[.slice (some ⟨w.heap.size,(i+1)*5,none⟩) dl dc,.slice (some ⟨g,i*5,none⟩) sl sc]).run prog W2.drew=.ok (goInt ((d.length - i:Nat):Int)) (W2.drew.setCells w.heap.size ((i+1)*5) cs1):=λty dl dc sl sc hn=>by
  refine qAw W2.drew _ _ ty 75 w.heap.size ((i+1)*5) dl dc ⟨g,i*5,none⟩ sl sc (d.length - i) 5 cs1 underlying66 qIP hn hcl (λj u hu=>?_) (λj hj=>?_) (λj _=>hbd.free _) h1c
  ·rw [qAa];refine hcell2 (i*5+j) u ?_;rw [hcs1,List.getElem?_drop] at hu;exact hu
  ·exact hsome W2.drew _ hbd (by rw [hz2',hRs]) _ oM
 have hfit3:(i+1)*5+cs1.length≤(qC1 ROW (i*5) (qG.cells x)).size:=by rw [hz2',hRs,hcl];omega
 have hb3:=qAK hbd ((i+1)*5) cs1 hfit3;have hz3:=qAc hfit3;have hB3:Below w.heap.size w (W2.drew.setCells w.heap.size ((i+1)*5) cs1):=qBD (Below.drew hB2) (jE (qO w.heap.size cs1 ((i+1)*5) W2.drew) lR hB2.size) lR;have hown:(W2.drew.setCells w.heap.size ((i+1)*5) cs1).ownsRow base 75 5 (.slice (some ⟨w.heap.size,0,none⟩) (d.length+1) G) (d.length+1) ((d.take i++x::d.drop i).flatMap qG.cells):=by
  refine qBN hb3 hbase hGn (by unfold maxLen;exact hGm) (by rw [hz3,hz2',hRs]) ?_ (by rw [jJ qG.cells_len];simp;omega);rw [List.flatMap_append,List.flatMap_cons,qD1 qG.cells_len d i oM,qD8 qG.cells_len d i oM,←List.append_assoc];have:=qLP ROW.toList (d.flatMap qG.cells) (qG.cells x) i d.length hxl hRt oM rfl (by rw [show ROW.toList.length=ROW.size from rfl,hRs];omega);rw [←this,hcs1]
  rfl
 have HO:=mH (aI hown (qH (some g) hB3));have HCP1:=mH hcp1;clear hown hB3 hz3 hb3 hfit3 hcp1 hbd h1c hcl hcs1 hb2 hz2' hB2 hcell2 hRs hRt hxl hsome;refine qA.q 0 ?_;refine qA.q 1 ?_;refine qA.q 2 ?_;refine qA.q 3 ?_;refine qA.q 4 ?_;refine qA.q 5 ?_;refine qA.q 6 ?_;refine qA.q 7 ?_;refine qA.nx 8 λK hK=>?_
 refine step_copy_runI rF _ _ _ _ rfl _ _ rF rF (HCP1.o _ _ _ _ _ (by simp only [Nat.min_def];split <;> omega)) ?_;refine qA.on hK (λ_ _=>trivial) ?_;clear hK K;refine qA.done kR ?_;go_wp2;go_ret;exact⟨_,rfl,HO.o.1,HO.o.2⟩
theorem qPD (v:Value) (d:List qG) (i:Nat) (x:qG) (vb base:Nat) (w:World) (ho:w.ownsRow base 75 5 v d.length (d.flatMap qG.cells)) (hi:i≤d.length) (hx:qC w vb #[.string x.key,.string x.a,.string x.b,.int .i64 x.long,.int .i64 x.fibs] 75) (hvb:v.ownBlock≠some vb) (hbase:base≤w.heap.size) (hl:d.length≤5000) :
  Calls prog 183 #[v,.int .i64 i,.slice (some ⟨vb,0,none⟩) 1 1] w (qF3 d i x v base w):=by
 rcases Nat.lt_or_ge i d.length with h|h
 ·obtain⟨g,cap,cur,rfl,hg,hb,hc,hm,hs,ht⟩:=qEi ho oM;have hne:vb≠g:=λe=>hvb (by rw [e];rfl)
  rcases Nat.lt_or_ge d.length cap with h2|h2
  ·exact qJq g cap cur d i x vb base w hb hg oM hm hs ht h hx hne hl
  ·obtain rfl:cap=d.length:=by omega
   exact qJ8 g cur d i x vb base w hb hbase hs ht h hx hl
 ·obtain rfl:i=d.length:=by omega
  exact qJx v d x vb base w ho hx hbase hl
theorem qMt (cur xs cx:List Value) (i n:Nat) (hx:xs.length=n*6) (ht:cur.take (n*6)=xs) (hi:i≤n) (hc:cx.length=6) (hs:(n+1)*6≤cur.length) :
  ((cur.take ((i+1)*6)++xs.drop (i*6)++cur.drop ((i+1)*6+(xs.drop (i*6)).length)).take (i*6)++cx++(cur.take ((i+1)*6)++xs.drop (i*6)++cur.drop ((i+1)*6+(xs.drop (i*6)).length)).drop (i*6+cx.length)).take ((n+1)*6)=xs.take (i*6)++cx++xs.drop (i*6):=by
 have e1:(cur.take ((i+1)*6)).length=(i+1)*6:=by rw [List.length_take];omega
 have e2:cur.take (i*6)=xs.take (i*6):=by rw [←ht,List.take_take,Nat.min_eq_left oM]
 have e3:(cur.take ((i+1)*6)++xs.drop (i*6)++cur.drop ((i+1)*6+(xs.drop (i*6)).length)).take (i*6)=xs.take (i*6):=by
  rw [List.append_assoc,List.take_append_of_le_length oM,List.take_take,Nat.min_eq_left oM,e2]
 have e4:(cur.take ((i+1)*6)++xs.drop (i*6)++cur.drop ((i+1)*6+(xs.drop (i*6)).length)).drop (i*6+cx.length)=xs.drop (i*6)++cur.drop ((i+1)*6+(xs.drop (i*6)).length):=by
  rw [List.append_assoc,List.drop_left' (by rw [e1,hc];omega)]
 rw [e3,e4,←List.append_assoc,List.take_left' (by simp [hx,hc];omega)]
theorem qLV (row xs cx:List Value) (i n:Nat) (hx:xs.length=n*6) (ht:row.take (i*6)=xs.take (i*6)) (hi:i≤n) (hc:cx.length=6) (hs:(n+1)*6≤row.length) :
  ((row.take (i*6)++cx++row.drop (i*6+cx.length)).take ((i+1)*6)++xs.drop (i*6)++(row.take (i*6)++cx++row.drop (i*6+cx.length)).drop ((i+1)*6+(xs.drop (i*6)).length)).take ((n+1)*6)=xs.take (i*6)++cx++xs.drop (i*6):=by
 have e0:(row.take (i*6)++cx).length=(i+1)*6:=by rw [List.length_append,List.length_take,hc];omega
 have e1:(row.take (i*6)++cx++row.drop (i*6+cx.length)).take ((i+1)*6)=xs.take (i*6)++cx:=by
  rw [List.take_left' e0,ht]
 rw [e1,List.append_assoc,←List.append_assoc,List.take_left' (by simp [hx,hc];omega)]
theorem qIQ:(prog.info? 79).map (·.size)=some 6:=by kernel_rfl
def qF1 (d:List qE) (i:Nat) (x:qE) (v:Value) (base:Nat) (w:World) (e:Ending) (w':World):Prop:=∃v',e=.returned v'∧w'.ownsRow base 79 6 v' (d.length+1) ((d.take i++x::d.drop i).flatMap qE.cells)∧w.grownBy w' v.ownBlock
theorem qKK (v:Value) (d:List qE) (x:qE) (vb base:Nat) (w:World) (ho:w.ownsRow base 79 6 v d.length (d.flatMap qE.cells)) (hx:qC w vb #[.string x.site,.string x.x.cable,.int .i64 x.x.no,.string x.y.cable,.int .i64 x.y.no,.int .i64 x.loss] 79) (hbase:base≤w.heap.size) (hl:d.length≤5000) :
  Calls prog 193 #[v,.int .i64 d.length,.slice (some ⟨vb,0,none⟩) 1 1] w (qF1 d d.length x v base w):=by
 obtain⟨i0,hi,hz0,hz1,hz2⟩:=info_parts qGi;have HX:=mH (aI hx ho);have HV:∃a cap,v=.slice a d.length cap∧d.length≤cap:=by
  rcases ho.2 with⟨hv,h0⟩|⟨g,cap,cur,rfl,_,_,hc,_⟩
  ·exact⟨none,0,by rw [hv,h0],by omega⟩
  ·exact⟨_,cap,rfl,hc⟩
 obtain⟨a,cap,rfl,hcap⟩:=HV;clear hx ho
 by_cases hcn:cap=d.length
 ·subst hcn;go_enter func193,ntmps193;go_wp2_with (at_builtin;go_must (refine wpList_append_own _ rfl _ _ 67 rfl _ 79 _ _ 6 72 underlying67 hi hz0 hz1 hz2 rfl dE _ _ _ rfl HX.o.2 ⟨vb,0,none⟩ 1 1 (qE.cells x) rfl rfl (by intro j u hu;exact(by have:=HX.o.1.cell j u (by simpa [qE.cells] using hu);simpa [qAa] using this)) (qCn [x] |> λh u hu=>h u (by simpa using hu)) (by unfold maxLen;omega) oM oM ?_);intro v' w4 hown4 hg4 _;have HG:=mH (aI hown4 hg4);clear hown4 hg4);go_ret;refine⟨_,rfl,?_,HG.o.2⟩;rw [List.take_length,List.drop_length,List.flatMap_append]
  simpa using HG.o.1
 ·have hcn2:¬d.length=cap:=λe=>hcn e.symm
  go_enter func193,ntmps193;go_wp2_with (at_builtin;go_must (refine wpList_append_own _ rfl _ _ 67 rfl _ 79 _ _ 6 72 underlying67 hi hz0 hz1 hz2 rfl dE _ _ _ rfl HX.o.2 ⟨vb,0,none⟩ 1 1 (qE.cells x) rfl rfl (by intro j u hu;exact(by have:=HX.o.1.cell j u (by simpa [qE.cells] using hu);simpa [qAa] using this)) (qCn [x] |> λh u hu=>h u (by simpa using hu)) (by unfold maxLen;omega) oM oM ?_);intro v' w4 hown4 hg4 _;have HG:=mH (aI hown4 hg4);clear hown4 hg4);go_ret;refine⟨_,rfl,?_,HG.o.2⟩;rw [List.take_length,List.drop_length,List.flatMap_append]
  simpa using HG.o.1
theorem qJd (g cap:Nat) (cur:Array Value) (d:List qE) (i:Nat) (x:qE) (vb base:Nat) (w:World) (hb:qC w g cur 79) (hg:base≤g) (hc:d.length+1≤cap) (hm:cap≤maxLen) (hs:cur.size=cap*6) (ht:cur.toList.take (d.length*6)=d.flatMap qE.cells) (hi:i<d.length) (hx:qC w vb #[.string x.site,.string x.x.cable,.int .i64 x.x.no,.string x.y.cable,.int .i64 x.y.no,.int .i64 x.loss] 79) (hne:vb≠g) (hl:d.length≤5000) :
  Calls prog 193 #[.slice (some ⟨g,0,none⟩) d.length cap,.int .i64 i,.slice (some ⟨vb,0,none⟩) 1 1] w (qF1 d i x (.slice (some ⟨g,0,none⟩) d.length cap) base w):=by
 unfold maxLen at hm;have hxl:(d.flatMap qE.cells).length=d.length*6:=jJ qE.cells_len d;have hov:∀off lb cb,(callFunc 244 #[.slice (some ⟨vb,0,none⟩) 1 1,.slice (some ⟨g,off,none⟩) lb cb]).run prog w=.ok (.value (.bool false)) w:=λoff lb cb=>by
  rw [run_callFunc_extern func244 kR kR kR (e:=Extern.SlicesOverlaps.overlaps #[67,67] #[4]) kR,
   Lib.run_overlaps_apart w 67 4 79 underlying67 6 Tryz.sizeOf79 ⟨vb,0,none⟩ ⟨g,off,none⟩ 1 1 lb cb hne _ _ _ _ (qEG hx) (qEG hb) (by rw [hs];omega) (hx.free 0) (hx.free _)]
  rfl
 obtain⟨cs1,hcs1⟩:=eY ((d.flatMap qE.cells).drop (i*6));have hcl:cs1.length=(d.length - i)*6:=by rw [hcs1,List.length_drop,hxl];omega
 have hcell:∀j u,(d.flatMap qE.cells)[j]? = some u→w.cell? ⟨g,j,none⟩=some u:=λj u hu=>by
  refine hb.cell j u ?_;rw [←ht,List.getElem?_take] at hu
  split at hu
  ·simpa using hu
  ·cases hu
 have hsome:∀(W:World) (cu:Array Value),qC W g cu 79→cu.size=cap*6→∀j,j<cap*6→(W.cell? ⟨g,j,none⟩).isSome=true:=λW cu hB hS j hj=>by
  rw [hB.cell j cu[j] (by rw [Array.getElem?_eq_getElem oM])];rfl
 have hbd:qC w.drew g cur 79:=hb.drew;have h1c:∀u∈cs1,u.oneCell'=true:=λu hu=>qCn d u (by rw [hcs1] at hu;exact List.mem_of_mem_drop hu)
 have hcp1:∀ty dl dc sl sc,Nat.min sl dl=d.length - i→(Builtin.copy_ #[67,67] ty #[.slice (some ⟨g,(i+1)*6,none⟩) dl dc,.slice (some ⟨g,i*6,none⟩) sl sc]).run prog w.drew=.ok (goInt ((d.length - i:Nat):Int)) (w.drew.setCells g ((i+1)*6) cs1):=λty dl dc sl sc hn=>by
  refine qAw w.drew _ _ ty 79 g ((i+1)*6) dl dc ⟨g,i*6,none⟩ sl sc (d.length - i) 6 cs1 underlying67 qIQ hn hcl (λj u hu=>?_) (λj hj=>?_) (λj _=>hbd.free _) h1c
  ·rw [qAa];refine hcell (i*6+j) u ?_;rw [hcs1,List.getElem?_drop] at hu;exact hu
  ·exact hsome w.drew cur hbd hs _ oM
 have hfit1:(i+1)*6+cs1.length≤cur.size:=by rw [hcl,hs];omega
 have hb1:=qAK hbd ((i+1)*6) cs1 hfit1;have hz1:=qAc hfit1;obtain⟨W1,hW1⟩:=eY (w.drew.setCells g ((i+1)*6) cs1);rw [←hW1] at hcp1 hb1;have hx1:qC W1 vb #[.string x.site,.string x.x.cable,.int .i64 x.x.no,.string x.y.cable,.int .i64 x.y.no,.int .i64 x.loss] 79:=by
  rw [hW1];exact hx.drew.grown (qO g cs1 _ _) (by simp;exact hne)
 have hcp2:∀ty dl dc,1≤dl→(Builtin.copy_ #[67,67] ty #[.slice (some ⟨g,i*6,none⟩) dl dc,.slice (some ⟨vb,0,none⟩) 1 1]).run prog W1=.ok (goInt ((1:Nat):Int)) (W1.setCells g (i*6) (qE.cells x)):=λty dl dc hd=>by
  refine qAw W1 _ _ ty 79 g (i*6) dl dc ⟨vb,0,none⟩ 1 1 1 6 (qE.cells x) underlying67 qIQ (Nat.min_eq_left hd) rfl (λj u hu=>?_) (λj hj=>?_) (λj _=>hb1.free _) (λu hu=>qCn [x] u (by simpa using hu))
  ·rw [qAa];exact hx1.cell (0+j) u (by simpa [qE.cells] using hu)
  ·refine hsome W1 _ hb1 (by rw [hz1,hs]) _ ?_;have:j<6:=hj;omega
 have hfit2:i*6+(qE.cells x).length≤(qC1 cur ((i+1)*6) cs1).size:=by
  rw [hz1,hs];have:(qE.cells x).length=6:=rfl;omega
 have hb2:=qAK hb1 (i*6) (qE.cells x) hfit2;have hz2:=qAc hfit2;have hown:(W1.setCells g (i*6) (qE.cells x)).ownsRow base 79 6 (.slice (some ⟨g,0,none⟩) (d.length+1) cap) (d.length+1) ((d.take i++x::d.drop i).flatMap qE.cells):=by
  refine qBN hb2 hg hc (by unfold maxLen;exact hm) (by rw [hz2,hz1,hs]) ?_ (by rw [jJ qE.cells_len];simp;omega);rw [List.flatMap_append,List.flatMap_cons,qD1 qE.cells_len d i oM,qD8 qE.cells_len d i oM,←List.append_assoc];have:=qMt cur.toList (d.flatMap qE.cells) (qE.cells x) i d.length hxl ht oM rfl (by rw [show cur.toList.length=cur.size from rfl,hs];omega);rw [←this,hcs1]
  rfl
 have hgr:w.grownBy (W1.setCells g (i*6) (qE.cells x)) (some g):=by
  refine qK (qK (⟨rfl,rfl,rfl,Nat.le_refl _,λ_ _ _=>rfl⟩:w.grownBy w.drew (some g)) ?_) (qO g (qE.cells x) (i*6) W1);rw [hW1];exact qO g cs1 _ _
 have HO:=mH (aI hown hgr);have HCP1:=mH hcp1;have HCP2:=mH hcp2;have HOV:=mH hov;clear hW1 hown hgr hb2 hz2 hfit2 hx1 hb1 hz1 hfit1 h1c hbd hsome hcell hcl hcs1 hb hx ht hs hxl hcp1 hcp2 hov;have e1:¬((i:Int)=(d.length:Int)):=by omega
 have e2:IntKind.i64.wrap ((i:Int)+1)=(i:Int)+1:=IntWalk.i64_in _ oM;have e3:¬(cap=i):=by omega
 have e4:¬(cap=i+1):=by omega
 have e5:((i:Int)+1).toNat=i+1:=by omega
 have e6:(0:Int)≤(i:Int)+1:=by omega
 have e7:(i:Int)+1≤(d.length:Int)+1:=by omega
 have e8:(i:Int)≤(d.length:Int)+1:=by omega
 have e9:(i:Int)≤(d.length:Int):=by omega
 go_enter func193,ntmps193;have hov:=HOV.o;go_wp2_with (simp only [hov]);refine qA.start (λ_=>True) [] kR ?_;refine qA.q 0 ?_;refine qA.q 1 ?_;refine qA.q 2 ?_;refine qA.q 3 ?_;refine qA.q 4 ?_;refine qA.q 5 ?_;refine qA.q 6 ?_;refine qA.q 7 ?_;refine qA.nx 8 λK hK=>?_
 refine step_copy_runI rF _ _ _ _ rfl _ _ rF rF (HCP1.o _ _ _ _ _ (by simp only [Nat.min_def];split <;> omega)) ?_;refine qA.on hK (λ_ _=>trivial) ?_;clear hK K;refine qA.done kR ?_;have hcp2:=HCP2.o 3 (d.length+1 - i) (cap - i) oM;go_wp2_with (simp only [hcp2]);go_ret;exact⟨_,rfl,HO.o.1,HO.o.2⟩
theorem qJW (g:Nat) (cur:Array Value) (d:List qE) (i:Nat) (x:qE) (vb base:Nat) (w:World) (hb:qC w g cur 79) (hbase:base≤w.heap.size) (hs:cur.size=d.length*6) (ht:cur.toList.take (d.length*6)=d.flatMap qE.cells) (hi:i<d.length) (hx:qC w vb #[.string x.site,.string x.x.cable,.int .i64 x.x.no,.string x.y.cable,.int .i64 x.y.no,.int .i64 x.loss] 79) (hl:d.length≤5000) :
  Calls prog 193 #[.slice (some ⟨g,0,none⟩) d.length d.length,.int .i64 i,.slice (some ⟨vb,0,none⟩) 1 1] w (qF1 d i x (.slice (some ⟨g,0,none⟩) d.length d.length) base w):=by
 obtain⟨i0,hi0,hz0,hz1,hz2⟩:=info_parts qGi;have hxl:(d.flatMap qE.cells).length=d.length*6:=jJ qE.cells_len d;have hcell:∀j u,(d.flatMap qE.cells)[j]? = some u→w.cell? ⟨g,j,none⟩=some u:=λj u hu=>by
  refine hb.cell j u ?_;rw [←ht,List.getElem?_take] at hu
  split at hu
  ·simpa using hu
  ·cases hu
 have hik:i+(d.length+1 - i)=d.length+1:=by omega
 have hold:(Builtin.firstCells i0.size i (.slice (some ⟨g,0,none⟩) i d.length)).run prog w.drew=.ok ((d.flatMap qE.cells).take (i*6)).toArray w.drew:=by
  rw [hz1];refine run_firstCells_some w.drew 6 i ⟨g,0,none⟩ i d.length _ (by rw [List.length_take,hxl];omega) (λj u hj=>?_);rw [qAa,Nat.zero_add];rw [List.getElem?_take] at hj
  split at hj
  ·exact hcell j u hj
  ·cases hj
 have hrz:∀ty,(Builtin.append_ #[67,3] ty #[.slice (some ⟨g,0,none⟩) i d.length,.int .i64 ((d.length:Int)+1 - (i:Int))]).run prog w =
   .ok (.slice (some ⟨w.heap.size,0,none⟩) (d.length+1) (grownCap w (d.length+1) d.length 79)) (w.drew.alloc (.cells (((d.flatMap qE.cells).take (i*6)).toArray++Builtin.zeroCells (Value.agg ↑zX).cells (d.length+1 - i)++Builtin.zeroCells (Value.agg ↑zX).cells (grownCap w (d.length+1) d.length 79 - (d.length+1))) 79)):=λty=>by
  have h:=Lib.run_append_grow_zeros (P:=prog) w 67 3 ty 79 i0 _ .i64 .i64 underlying67 underlying3 hi0 hz0 (some ⟨g,0,none⟩) i d.length _ hold (d.length+1 - i) oM oM oM oM (by rw [hz2];omega) (by rw [hz2,hik];exact growslice_fits oM oM);rw [hik] at h;rw [show(d.length:Int)+1 - (i:Int)=((d.length+1 - i:Nat):Int) by omega];exact h
 have hGn:d.length+1≤grownCap w (d.length+1) d.length 79:=grownCap_ge w _ _ _;have hGm:grownCap w (d.length+1) d.length 79≤maxLen:=grownCap_le_maxLen w _ _ _ (by unfold maxLen;omega);generalize grownCap w (d.length+1) d.length 79=G at *;obtain⟨ROW,hROW⟩:∃ROW:Array Value,ROW=((d.flatMap qE.cells).take (i*6)).toArray++Builtin.zeroCells (Value.agg ↑zX).cells (d.length+1 - i)++Builtin.zeroCells (Value.agg ↑zX).cells (G - (d.length+1)):=⟨_,rfl⟩;rw [←hROW] at hrz;have hRs:ROW.size=G*6:=by
  rw [hROW];simp [Builtin.zeroCells,Value.cells,hxl];omega
 have hRt:ROW.toList.take (i*6)=(d.flatMap qE.cells).take (i*6):=by
  rw [hROW];have e:((d.flatMap qE.cells).take (i*6)).length=i*6:=by rw [List.length_take,hxl];omega
  simp only [Array.toList_append,List.append_assoc];rw [List.take_left' e]
 have hbN:qC (w.drew.alloc (.cells ROW 79)) w.heap.size ROW 79:=qC.new w.drew ROW _;have hglt:=hb.lt;have hvlt:=hx.lt;have HR:=mH (aI hrz (aI hRs (aI hRt (aI hbN (aI hb (aI hx hcell))))));clear hrz hRs hRt hbN hb hx hcell hROW hold hik hxl hs ht;unfold maxLen at hGm;have e1:¬((i:Int)=(d.length:Int)):=by omega
 have e2:IntKind.i64.wrap ((i:Int)+1)=(i:Int)+1:=IntWalk.i64_in _ oM;have e5:((i:Int)+1).toNat=i+1:=by omega
 have e6:(0:Int)≤(i:Int)+1:=by omega
 have e9:(i:Int)≤(d.length:Int):=by omega
 have e10:¬(G=i):=by omega
 have e11:¬(G=i+1):=by omega
 have e12:¬(d.length=i):=by omega
 have e13:(i:Int)+1≤(d.length:Int)+1:=by omega
 have e14:(i:Int)≤(d.length:Int)+1:=by omega
 go_enter func193,ntmps193;go_wp2_with (at_builtin;refine Lib.wpList_append_run _ rfl _ _ _ _ rfl _ _ rfl rfl _ _ (HR.o.1 _) ?_);obtain⟨-,hRs,hRt,-,hb,hx,hcell⟩:=HR.o;have hbN:qC (w.alloc (.cells ROW 79)).drew w.heap.size ROW 79:=qC.new w ROW _;have hx1:qC (w.alloc (.cells ROW 79)).drew vb #[.string x.site,.string x.x.cable,.int .i64 x.x.no,.string x.y.cable,.int .i64 x.y.no,.int .i64 x.loss] 79:=(hx.alloc _).drew;have hb1:qC (w.alloc (.cells ROW 79)).drew g cur 79:=(hb.alloc _).drew;have hB1:Below w.heap.size w (w.alloc (.cells ROW 79)).drew:=Below.drew (qB bR _ lR);have hcell1:∀j u,(d.flatMap qE.cells)[j]? = some u→(w.alloc (.cells ROW 79)).drew.cell? ⟨g,j,none⟩=some u:=λj u hu=>(hB1.cell (p:=⟨g,j,none⟩) hglt).trans (hcell j u hu)
 generalize (w.alloc (.cells ROW 79)).drew=W1 at *;have hxl:(d.flatMap qE.cells).length=d.length*6:=jJ qE.cells_len d;have hsome:∀(W:World) (cu:Array Value),qC W w.heap.size cu 79→cu.size=G*6→∀j,j<G*6→(W.cell? ⟨w.heap.size,j,none⟩).isSome=true:=λW cu hB hS j hj=>by
  rw [hB.cell j cu[j] (by rw [Array.getElem?_eq_getElem oM])];rfl
 have hcp2:(Builtin.copy_ #[67,67] 3 #[.slice (some ⟨w.heap.size,i*6,none⟩) (d.length+1 - i) (G - i),.slice (some ⟨vb,0,none⟩) 1 1]).run prog W1=.ok (goInt ((1:Nat):Int)) (W1.setCells w.heap.size (i*6) (qE.cells x)):=by
  refine qAw W1 _ _ _ 79 w.heap.size (i*6) _ _ ⟨vb,0,none⟩ 1 1 1 6 (qE.cells x) underlying67 qIQ (Nat.min_eq_left oM) rfl (λj u hu=>?_) (λj hj=>?_) (λj _=>hbN.free _) (λu hu=>qCn [x] u (by simpa using hu))
  ·rw [qAa];exact hx1.cell (0+j) u (by simpa [qE.cells] using hu)
  ·refine hsome W1 _ hbN hRs _ ?_;have:j<6:=hj;omega
 have hfit2:i*6+(qE.cells x).length≤ROW.size:=by
  rw [hRs];have:(qE.cells x).length=6:=rfl;omega
 have hb2:=qAK hbN (i*6) (qE.cells x) hfit2;have hz2':=qAc hfit2;have hB2:Below w.heap.size w (W1.setCells w.heap.size (i*6) (qE.cells x)):=qBD hB1 (jE (qO w.heap.size (qE.cells x) (i*6) W1) lR hB1.size) lR;have hcell2:∀j u,(d.flatMap qE.cells)[j]? = some u→(W1.setCells w.heap.size (i*6) (qE.cells x)).cell? ⟨g,j,none⟩=some u:=λj u hu=>(hB2.cell (p:=⟨g,j,none⟩) hglt).trans (hcell j u hu)
 have H2:=mH (aI hb2 (aI hz2' (aI hB2 (aI hcell2 (aI hRs (aI hRt (aI hxl hsome)))))));clear hb2 hz2' hB2 hcell2 hRs hRt hxl hsome hb hx hcell hbN hx1 hb1 hB1 hcell1 hfit2;go_wp2_with (simp only [hcp2]);clear hcp2;generalize W1.setCells w.heap.size (i*6) (qE.cells x)=W2 at *;refine qA.start (λ_=>True) [] kR ?_;obtain⟨hb2,hz2',hB2,hcell2,hRs,hRt,hxl,hsome⟩:=H2.o;obtain⟨cs1,hcs1⟩:=eY ((d.flatMap qE.cells).drop (i*6));have hcl:cs1.length=(d.length - i)*6:=by rw [hcs1,List.length_drop,hxl];omega
 have h1c:∀u∈cs1,u.oneCell'=true:=λu hu=>qCn d u (by rw [hcs1] at hu;exact List.mem_of_mem_drop hu)
 have hbd:qC W2.drew w.heap.size (qC1 ROW (i*6) (qE.cells x)) 79:=hb2.drew;have hcp1:∀ty dl dc sl sc,Nat.min sl dl=d.length - i→(Builtin.copy_ #[67,67] ty #[.slice (some ⟨w.heap.size,(i+1)*6,none⟩) dl dc,.slice (some ⟨g,i*6,none⟩) sl sc]).run prog W2.drew=.ok (goInt ((d.length - i:Nat):Int)) (W2.drew.setCells w.heap.size ((i+1)*6) cs1):=λty dl dc sl sc hn=>by
  refine qAw W2.drew _ _ ty 79 w.heap.size ((i+1)*6) dl dc ⟨g,i*6,none⟩ sl sc (d.length - i) 6 cs1 underlying67 qIQ hn hcl (λj u hu=>?_) (λj hj=>?_) (λj _=>hbd.free _) h1c
  ·rw [qAa];refine hcell2 (i*6+j) u ?_;rw [hcs1,List.getElem?_drop] at hu;exact hu
  ·exact hsome W2.drew _ hbd (by rw [hz2',hRs]) _ oM
 have hfit3:(i+1)*6+cs1.length≤(qC1 ROW (i*6) (qE.cells x)).size:=by rw [hz2',hRs,hcl];omega
 have hb3:=qAK hbd ((i+1)*6) cs1 hfit3;have hz3:=qAc hfit3;have hB3:Below w.heap.size w (W2.drew.setCells w.heap.size ((i+1)*6) cs1):=qBD (Below.drew hB2) (jE (qO w.heap.size cs1 ((i+1)*6) W2.drew) lR hB2.size) lR;have hown:(W2.drew.setCells w.heap.size ((i+1)*6) cs1).ownsRow base 79 6 (.slice (some ⟨w.heap.size,0,none⟩) (d.length+1) G) (d.length+1) ((d.take i++x::d.drop i).flatMap qE.cells):=by
  refine qBN hb3 hbase hGn (by unfold maxLen;exact hGm) (by rw [hz3,hz2',hRs]) ?_ (by rw [jJ qE.cells_len];simp;omega);rw [List.flatMap_append,List.flatMap_cons,qD1 qE.cells_len d i oM,qD8 qE.cells_len d i oM,←List.append_assoc];have:=qLV ROW.toList (d.flatMap qE.cells) (qE.cells x) i d.length hxl hRt oM rfl (by rw [show ROW.toList.length=ROW.size from rfl,hRs];omega);rw [←this,hcs1]
  rfl
 have HO:=mH (aI hown (qH (some g) hB3));have HCP1:=mH hcp1;clear hown hB3 hz3 hb3 hfit3 hcp1 hbd h1c hcl hcs1 hb2 hz2' hB2 hcell2 hRs hRt hxl hsome;refine qA.q 0 ?_;refine qA.q 1 ?_;refine qA.q 2 ?_;refine qA.q 3 ?_;refine qA.q 4 ?_;refine qA.q 5 ?_;refine qA.q 6 ?_;refine qA.q 7 ?_;refine qA.nx 8 λK hK=>?_
 refine step_copy_runI rF _ _ _ _ rfl _ _ rF rF (HCP1.o _ _ _ _ _ (by simp only [Nat.min_def];split <;> omega)) ?_;refine qA.on hK (λ_ _=>trivial) ?_;clear hK K;refine qA.done kR ?_;go_wp2;go_ret;exact⟨_,rfl,HO.o.1,HO.o.2⟩
theorem qOj (v:Value) (d:List qE) (i:Nat) (x:qE) (vb base:Nat) (w:World) (ho:w.ownsRow base 79 6 v d.length (d.flatMap qE.cells)) (hi:i≤d.length) (hx:qC w vb #[.string x.site,.string x.x.cable,.int .i64 x.x.no,.string x.y.cable,.int .i64 x.y.no,.int .i64 x.loss] 79) (hvb:v.ownBlock≠some vb) (hbase:base≤w.heap.size) (hl:d.length≤5000) :
  Calls prog 193 #[v,.int .i64 i,.slice (some ⟨vb,0,none⟩) 1 1] w (qF1 d i x v base w):=by
 rcases Nat.lt_or_ge i d.length with h|h
 ·obtain⟨g,cap,cur,rfl,hg,hb,hc,hm,hs,ht⟩:=qEi ho oM;have hne:vb≠g:=λe=>hvb (by rw [e];rfl)
  rcases Nat.lt_or_ge d.length cap with h2|h2
  ·exact qJd g cap cur d i x vb base w hb hg oM hm hs ht h hx hne hl
  ·obtain rfl:cap=d.length:=by omega
   exact qJW g cur d i x vb base w hb hbase hs ht h hx hl
 ·obtain rfl:i=d.length:=by omega
  exact qKK v d x vb base w ho hx hbase hl
section
variable {P : Program}
theorem qFn {ops:Array Oper} {o:Oper} {a:Act} {w:World} {K:Act→World→Prop} {Q:Exit→Act→World→Prop} {E:Prop}
  (hg:o.guard=none) (d x:Operand) (dT sT:TypeId) (hop:o.op=Op.call { callee:=Callee.builtin Builtin.append,args:=#[d,x],argTypes:=#[dT,sT] })
  (v u:Value) (hd:a.eval d=v) (hx:a.eval x=u) {v':Value} {w':World} (hr:(Builtin.append_ #[dT,sT] o.type #[v,u]).run P w=.ok v' w') (hK:K (a.put o.dst v') w') :
  if Region.wanted o (yielded ops a.tmps)=true then Oper.wp P o a w K Q else E:=by
 have hw:Region.wanted o (yielded ops a.tmps)=true:=by simp [Region.wanted,hg]
 rw [if_pos hw];unfold Oper.wp;simp [execOp,hop,resolve,invoke,builtin,hd,hx,hr,Result.andThen];exact hK
end
theorem qSP {w:World} {base n g cap:Nat} {xs:List Value} {sz:Nat} {e:TypeId} (ho:w.ownsRow base e sz (.slice (some ⟨g,0,none⟩) n cap) n xs):∃cur,base≤g∧qC w g cur e∧n≤cap∧cap≤maxLen∧cur.size=cap*sz∧cur.toList.take (n*sz)=xs:=by
 obtain⟨hl,⟨hv,hn⟩|⟨g2,cap2,cur,hv,hg,hh,hc,hm,hs,ht⟩⟩:=ho
 ·cases hv
 ·simp only [Value.slice.injEq,Option.some.injEq,Addr.mk.injEq,and_true,true_and] at hv;obtain⟨rfl,rfl⟩:=hv;exact⟨cur,hg,hh,hc,hm,hs,ht⟩
theorem qOl (g cap:Nat) (cur:Array Value) (d:List qE) (i base:Nat) (w:World) (hb:qC w g cur 79) (hg:base≤g) (hc:d.length≤cap) (hm:cap≤maxLen) (hs:cur.size=cap*6) (ht:cur.toList.take (d.length*6)=d.flatMap qE.cells) (hi:i<d.length) (hl:d.length≤5000) :
  Calls prog 187 #[.slice (some ⟨g,0,none⟩) d.length cap,.int .i64 i,.int .i64 ((i:Int)+1)] w
  λe w'=>e=.returned (.slice (some ⟨g,0,none⟩) (d.length - 1) cap)∧w'.ownsRow base 79 6 (.slice (some ⟨g,0,none⟩) (d.length - 1) cap) (d.length - 1) ((d.take i++d.drop (i+1)).flatMap qE.cells)∧w.grownBy w' (some g):=by
 obtain⟨i0,hi0,hz0,hz1,hz2⟩:=info_parts qGi;have hxl:(d.flatMap qE.cells).length=d.length*6:=jJ qE.cells_len d;have hcell:∀j u,(d.flatMap qE.cells)[j]? = some u→w.cell? ⟨g,j,none⟩=some u:=λj u hu=>by
  refine hb.cell j u ?_;rw [←ht,List.getElem?_take] at hu
  split at hu
  ·simpa using hu
  ·cases hu
 have hown0:w.drew.ownsRow base 79 6 (.slice (some ⟨g,0,none⟩) i cap) i ((d.take i).flatMap qE.cells):=by
  refine qBN hb.drew hg oM hm hs ?_ (by rw [jJ qE.cells_len,List.length_take];rw [Nat.min_eq_left oM]);rw [qD1 qE.cells_len d i oM,←ht,List.take_take,Nat.min_eq_left oM]
 have hnl:((d.drop (i+1)).flatMap qE.cells).length=(d.length - (i+1))*6:=by rw [jJ qE.cells_len,List.length_drop]
 have hap:∀(ad:Addr) (c:Nat) (ty:TypeId),(∀j u,((d.drop (i+1)).flatMap qE.cells)[j]? = some u→w.drew.cell? (ad.add j)=some u) →
   ∃w',(Builtin.append_ #[67,67] ty #[.slice (some ⟨g,0,none⟩) i cap,.slice (some ad) (d.length - (i+1)) c]).run prog w.drew=.ok (.slice (some ⟨g,0,none⟩) (d.length - 1) cap) w'∧w'.ownsRow base 79 6 (.slice (some ⟨g,0,none⟩) (d.length - 1) cap) (d.length - 1) ((d.take i++d.drop (i+1)).flatMap qE.cells)∧w.drew.grownBy w' (some g):=λad c ty hcc=>by
  obtain⟨w',h1,h2,h3⟩:=run_append_fits (P:=prog) w.drew base 67 ty 79 i0 6 underlying67 hi0 hz1 g i cap _ hown0 ad (d.length - (i+1)) c _ hnl hcc (qCn _) oM;rw [show i+(d.length - (i+1))=d.length - 1 by omega] at h1 h2;rw [←List.flatMap_append] at h2;exact⟨w',h1,h2,h3⟩
 have hfin:∀w',w'.ownsRow base 79 6 (.slice (some ⟨g,0,none⟩) (d.length - 1) cap) (d.length - 1) ((d.take i++d.drop (i+1)).flatMap qE.cells)→∀ty c,(Builtin.clear_ #[67] ty #[.slice (some ⟨g,(d.length - 1)*6,none⟩) 1 c]).run prog w'=.ok (.tuple #[]) (w'.setCells g ((d.length - 1)*6) (Builtin.zeroCells (Value.agg ↑zX).cells 1).toList) ∧
   (w'.setCells g ((d.length - 1)*6) (Builtin.zeroCells (Value.agg ↑zX).cells 1).toList).ownsRow base 79 6 (.slice (some ⟨g,0,none⟩) (d.length - 1) cap) (d.length - 1) ((d.take i++d.drop (i+1)).flatMap qE.cells):=λw' ho ty c=>by
  obtain⟨cu,hg2,hb2,hc2,hm2,hs2,ht2⟩:=qSP ho;refine⟨qCo (P:=prog) w' 67 79 ty _ underlying67 qEo (by simp [Value.cells,Value.oneCell']) g ((d.length - 1)*6) 1 c oM (λj hj=>?_) (λj=>hb2.free j),?_⟩
  ·have hj3:j<6:=by simpa [Value.cells] using hj
   rw [hb2.cell _ cu[(d.length - 1)*6+j] (by rw [Array.getElem?_eq_getElem oM])];rfl
  ·have hzl:(Builtin.zeroCells (Value.agg ↑zX).cells 1).toList.length=6:=by simp [Builtin.zeroCells,Value.cells]
   have hfit:(d.length - 1)*6+(Builtin.zeroCells (Value.agg ↑zX).cells 1).toList.length≤cu.size:=by rw [hzl,hs2];omega
   refine qBN (qAK hb2 _ _ hfit) hg2 hc2 hm2 (by rw [qAc hfit,hs2]) ?_ ho.1;unfold qC1;have e:(cu.toList.take ((d.length - 1)*6)).length=(d.length - 1)*6:=by rw [List.length_take,show cu.toList.length=cu.size from rfl,hs2];omega
   rw [show ∀L:List Value,L.toArray.toList=L from λL=>rfl,List.append_assoc,List.take_left' e];exact ht2
 have hgr:∀w' (L:List Value) (o:Nat),w.drew.grownBy w' (some g)→w.grownBy (w'.setCells g o L) (some g):=λw' L o h=>qK (qK (⟨rfl,rfl,rfl,Nat.le_refl _,λ_ _ _=>rfl⟩:w.grownBy w.drew (some g)) h) (qO g L o w')
 have hdr:∀j u,((d.drop (i+1)).flatMap qE.cells)[j]? = some u→w.drew.cell? ⟨g,(i+1)*6+j,none⟩=some u:=λj u hu=>by
  rw [qD8 qE.cells_len d (i+1) oM,List.getElem?_drop] at hu;exact hcell _ _ hu
 have H:=mH (aI hap (aI hfin (aI hgr hdr)));unfold maxLen at hm;clear hap hfin hgr hdr hown0 hnl hcell hxl hb hs ht;have e1:¬((i:Int)=(i:Int)+1):=by omega
 have e2:IntKind.i64.wrap ((i:Int)+1)=(i:Int)+1:=IntWalk.i64_in _ oM;have e5:((i:Int)+1).toNat=i+1:=by omega
 have e6:(0:Int)≤(i:Int)+1:=by omega
 have e9:(i:Int)≤(d.length:Int):=by omega
 have e13:(i:Int)+1≤(d.length:Int):=by omega
 have e14:(i:Int)≤(i:Int)+1:=by omega
 have e15:¬(cap=d.length - 1):=by omega
 have e16:¬(cap=i):=by omega
 have e18:i≤cap:=by omega
 have e19:i+1≤cap:=by omega
 have e17:d.length - (d.length - 1)=1:=by omega
 by_cases hcap:cap=i+1
 ·subst hcap;have hnil:d.drop (i+1)=[]:=List.drop_eq_nil_of_le oM;have HN:=mH hnil;clear hnil;go_enter func187,ntmps187;go_wp2_with fail;refine qA.start (λ_=>True) [] kR ?_;obtain⟨w6,hr6,ho6,hg6⟩:=H.o.1 ⟨g,0,none⟩ 0 67 (λj u hu=>by rw [HN.o] at hu;simp at hu);rw [show d.length - (i+1)=0 by omega] at hr6;have H6:=mH (aI ho6 hg6);clear ho6 hg6;refine qA.q 0 ?_;refine qA.q 1 ?_;refine qA.q 2 ?_;refine qA.q 3 ?_;refine qA.q 4 ?_;refine qA.q 5 ?_;refine qA.nx 6 λK hK=>?_
  refine qFn rF _ _ _ _ rfl _ _ rF rF hr6 ?_;clear hr6;refine qA.on hK (λ_ _=>trivial) ?_;clear hK K;refine qA.q 7 ?_;refine qA.done kR ?_;have hclr:=λty c=>(H.o.2.1 w6 H6.o.1 ty c).1
  go_wp2_with (simp only [hclr]);go_ret;exact⟨rfl,(H.o.2.1 w6 H6.o.1 0 0).2,H.o.2.2.1 _ _ _ H6.o.2⟩
 ·have hcap2:¬(i+1=cap):=λe=>hcap e.symm
  go_enter func187,ntmps187;go_wp2_with fail;refine qA.start (λ_=>True) [] kR ?_;obtain⟨w6,hr6,ho6,hg6⟩:=H.o.1 ⟨g,(i+1)*6,none⟩ (cap - (i+1)) 67 (λj u hu=>by rw [qAa];exact H.o.2.2.2 j u hu);have H6:=mH (aI ho6 hg6);clear ho6 hg6;refine qA.q 0 ?_;refine qA.q 1 ?_;refine qA.q 2 ?_;refine qA.q 3 ?_;refine qA.q 4 ?_;refine qA.q 5 ?_;refine qA.nx 6 λK hK=>?_
  refine qFn rF _ _ _ _ rfl _ _ rF rF hr6 ?_;clear hr6;refine qA.on hK (λ_ _=>trivial) ?_;clear hK K;refine qA.q 7 ?_;refine qA.done kR ?_;have hclr:=λty c=>(H.o.2.1 w6 H6.o.1 ty c).1
  go_wp2_with (simp only [hclr]);go_ret;exact⟨rfl,(H.o.2.1 w6 H6.o.1 0 0).2,H.o.2.2.1 _ _ _ H6.o.2⟩
end Go.Proofs.YtbgnlfgkgklkdaaGreatDoor
