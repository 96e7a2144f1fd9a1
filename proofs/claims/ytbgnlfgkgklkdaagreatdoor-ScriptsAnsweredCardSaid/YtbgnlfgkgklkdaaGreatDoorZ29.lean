/- Parts of the proof of ScriptsAnswered: CatS, CatEnt. No condition. -/
import Derived.Shelf.Spec.SlicesInsertGrow
import Derived.Test.YtbgnlfgkgklkdaaGreatDoorZ11
import Derived.Test.YtbgnlfgkgklkdaaGreatDoorZ16
set_option linter.unusedVariables false
set_option linter.unusedSimpArgs false
set_option maxHeartbeats 8000000
set_option maxRecDepth 100000
namespace Go.Proofs.YtbgnlfgkgklkdaaGreatDoor
open Go Go.RowKit Tryz
theorem qCt {W W':World} {B sz n:Nat} {e:TypeId} {v:Value} {xs:List Value} (h:W.ownsRow B e sz v n xs) (hg:W.grownBy W' v.ownBlock) (hB:B≤W.heap.size):Below B W W' :=
 ⟨hg.os,hg.tape,hg.output,hg.size,λk hk=>hg.block k oM (λe=>by have:=(h.lt k e.symm).1;omega)⟩
--ONCE END
theorem qLB:(prog.info? 81).map (λi=>(i.zero,i.size,i.bytes))=some (some (.agg ↑zE),17,200):=by kernel_rfl
theorem qM2 (l:List qD):∀u∈l.flatMap qD.cells,u.oneCell'=true:=by
 intro u hu;obtain⟨c,_,hc⟩:=List.mem_flatMap.1 hu;simp [qD.cells] at hc
 rcases hc with rfl|rfl|rfl|rfl|rfl|rfl|rfl|rfl|rfl|rfl|rfl|rfl|rfl|rfl|rfl|rfl|rfl <;> rfl
theorem qRw (n:Nat) (w:World) (hn:n≤10000):Calls prog 203 #[.slice none 0 0,.int .i64 n] w
  λe w'=>∃v',e=.returned v'∧w'.ownsRow w.heap.size 81 17 v' 0 []∧Below w.heap.size w w':=by
 rcases Nat.eq_zero_or_pos n with rfl|hp
 ·go_enter func203,ntmps203;go_wp2;go_ret;exact⟨_,rfl,World.ownsRow_nil _ _ _ _,Below.refl _ _⟩
 ·obtain⟨i0,hi0,hz0,hz1,hz2⟩:=info_parts qLB;have hold:(Builtin.firstCells i0.size 0 (.slice none 0 0)).run prog w.drew=.ok #[] w.drew:=by
   rw [hz1];exact run_firstCells_none _ _ _ _ _
  have hrz:∀ty,∃ROW:Array Value,ROW.size=grownCap w n 0 81*17∧(Builtin.append_ #[62,3] ty #[.slice none 0 0,.int .i64 n]).run prog w=.ok (.slice (some ⟨w.heap.size,0,none⟩) n (grownCap w n 0 81)) (w.drew.alloc (.cells ROW 81)):=λty=>by
   have h:=Lib.run_append_grow_zeros (P:=prog) w 62 3 ty 81 i0 _ .i64 .i64 underlying62 underlying3 hi0 hz0 none 0 0 _ hold n oM oM oM oM (by rw [hz2];omega) (by rw [hz2];exact growslice_fits oM oM);rw [Nat.zero_add] at h;have hge:n≤grownCap w n 0 81:=grownCap_ge w _ _ _;exact⟨_,by simp [Builtin.zeroCells,Value.cells];omega,h⟩
  have hge:n≤grownCap w n 0 81:=grownCap_ge w _ _ _;have hgm:grownCap w n 0 81≤maxLen:=grownCap_le_maxLen w _ _ _ (by unfold maxLen;omega);obtain⟨ROW,hRs,hR⟩:=hrz 62;generalize grownCap w n 0 81=G at *;have HR:=mH (aI hRs (aI hR hgm));unfold maxLen at hgm;clear hrz hold hRs hR;have e1:(0:Int)<(n:Int):=by omega
  go_enter func203,ntmps203;go_wp2_with (at_builtin;refine Lib.wpList_append_run _ rfl _ _ _ _ rfl _ _ rfl rfl _ _ HR.o.2.1 ?_);go_ret;have hb:qC (w.drew.alloc (.cells ROW 81)) w.heap.size ROW 81:=qC.new w.drew ROW _;exact⟨_,rfl,⟨rfl,.inr ⟨w.heap.size,G,ROW,rfl,Nat.le_refl _,hb,by omega,HR.o.2.2,HR.o.1,by simp⟩⟩,qB (Below.drew bR) _ lR⟩
def qBe (a b:Nat):Nat→Nat|0=>0|1=>a|_=>a+b
def qIn (a b:List qD):Nat→List qD|0=>[]|1=>a|_=>a++b
theorem qOY (vb:Nat) (t:TypeId) (v1 v2:Value) (l1 l2:List qD) (w:World) (hb:qC w vb #[v1,v2] t) (h1:qI qD.cells 17 w l1 v1) (h2:qI qD.cells 17 w l2 v2) (hl:l1.length+l2.length≤10000) :
  Calls prog 143 #[.slice (some ⟨vb,0,none⟩) 2 2] w
  λe w'=>∃v',e=.returned v'∧w'.ownsRow w.heap.size 81 17 v' (l1.length+l2.length) ((l1++l2).flatMap qD.cells)∧Below w.heap.size w w':=by
 obtain⟨i0,hi0,hz0,hz1,hz2⟩:=info_parts qLB;have HA:=mH (aI h1 h2);obtain⟨a1,cap1,rfl,-,hm1,-⟩:=id h1;obtain⟨a2,cap2,rfl,-,hm2,-⟩:=id h2;have p0:=hb.cell 0 _ rfl;have p1:=hb.cell 1 _ rfl;have hvb:=hb.lt;clear h1 h2 hb;go_enter func143,ntmps143;go_wp2;go_loopw [3,11] (λsv i wr=>∃k:Nat,k≤2∧i=.int .i64 k∧sv=.int .i64 (qBe l1.length l2.length k:Nat)∧wr=w) (λ_ i _=>2 - (intOf i).toNat)
 case atStart=>exact⟨0,by omega,rfl,rfl,rfl⟩
 case round =>
  obtain⟨k,hk,rfl,rfl,hw⟩:=hrel;have hw:=hw.symm;subst hw
  rcases (show k=0∨k=1∨k=2 by omega) with rfl|rfl|rfl
  ·simp only [qBe];go_wp2;exact⟨⟨1,by omega,by go_num,by(try simp only [qBe]);(try go_num),by first|rfl|trivial⟩,by simp [intOf]⟩
  ·simp only [qBe];go_wp2;exact⟨⟨2,by omega,by go_num,by(try simp only [qBe]);(try go_num),by first|rfl|trivial⟩,by simp [intOf]⟩
  ·simp only [qBe];go_wp2_with fail;refine(qRw _ _ hl).mono ?_;rintro e w1 ⟨v',rfl,ho,hb1⟩;have hz:=hb1.size;have HO:=mH (aI ho hb1);clear ho hb1;go_wp2;go_loopw [6,27] (λnv i wr=>∃k:Nat,k≤2∧i=.int .i64 k∧wr.ownsRow w.heap.size 81 17 nv (qBe l1.length l2.length k) ((qIn l1 l2 k).flatMap qD.cells)∧Below w.heap.size w wr) (λ_ i _=>2 - (intOf i).toNat)
   case atStart=>exact⟨0,by omega,rfl,HO.o.1,HO.o.2⟩
   case round =>
    obtain⟨k,hk,rfl,ho,hB⟩:=hrel;have hsz:=hB.size;have q0:=(hB.cell (p:=⟨vb,0,none⟩) hvb).trans p0;have q1:=(hB.cell (p:=⟨vb,1,none⟩) hvb).trans p1;have HW:=mH (aI ho hB)
    rcases (show k=0∨k=1∨k=2 by omega) with rfl|rfl|rfl
    ·obtain⟨v2,w2,hr,ho2,hg2⟩:=qE7 (P:=prog) qD.cells_len (HA.o.1.below hB) 62 62 _ 81 i0 _ 200 underlying62 hi0 hz0 hz1 hz2 rfl dE _ _ _ ho (qM2 _) (by simp only [qBe];unfold maxLen;omega) (by simp only [qBe];omega) hsz;have HF:=mH (aI ho2 (qBD hB (qCt ho hg2 hsz) lR));clear ho2 hg2 ho hB;go_wp2_with (at_builtin;refine Lib.wpList_append_run _ rfl _ _ _ _ rfl _ _ rfl rfl _ _ hr ?_);exact⟨⟨1,by omega,by go_num,by simpa [qBe,qIn] using HF.o.1,HF.o.2⟩,by simp [intOf]⟩
    ·obtain⟨v2,w2,hr,ho2,hg2⟩:=qE7 (P:=prog) qD.cells_len (HA.o.2.below hB) 62 62 _ 81 i0 _ 200 underlying62 hi0 hz0 hz1 hz2 rfl dE _ _ _ ho (qM2 _) (by simp only [qBe];unfold maxLen;omega) (by simp only [qBe];omega) hsz;have HF:=mH (aI ho2 (qBD hB (qCt ho hg2 hsz) lR));clear ho2 hg2 ho hB;go_wp2_with (at_builtin;refine Lib.wpList_append_run _ rfl _ _ _ _ rfl _ _ rfl rfl _ _ hr ?_);exact⟨⟨2,by omega,by go_num,by simpa [qBe,qIn] using HF.o.1,HF.o.2⟩,by simp [intOf]⟩
    ·go_wp2;go_ret;exact⟨_,rfl,HW.o.1,HW.o.2⟩
end Go.Proofs.YtbgnlfgkgklkdaaGreatDoor
