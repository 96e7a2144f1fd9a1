/- Parts of the proof of ScriptsAnswered: SsM. No condition. -/
import Derived.Test.YtbgnlfgkgklkdaaGreatDoorZ43
set_option linter.unusedVariables false
set_option linter.unusedSimpArgs false
set_option maxHeartbeats 8000000
set_option maxRecDepth 100000
namespace Go.Proofs.YtbgnlfgkgklkdaaGreatDoor
open Go Go.RowKit Tryz
theorem qIY (f g:qQ):((f.cable.toList==g.cable.toList)=true∧(f.no==g.no)=true∧f=g)∨((f.cable.toList==g.cable.toList)=false∧f≠g)∨((f.cable.toList==g.cable.toList)=true∧(f.no==g.no)=false∧f≠g):=by
 by_cases h:f=g
 ·subst h;left;simp
 ·right
  rcases qCf h with q|⟨q,r⟩
  ·exact .inl ⟨q,h⟩
  ·exact .inr ⟨q,by simpa using r,h⟩
theorem qSF (o s:qE) (b:Nat) (w:World) (hb:qC w b ↑s 79):Calls prog 275 #[.agg ⟨qE.cells o⟩,.pointer (some ⟨b,0,none⟩)] w λe w'=>e=.returned (.bool (jC o s))∧Below w.heap.size w w':=by
 have HB:Hx (Below w.heap.size w (w.alloc (.cells ↑o 79))):=⟨qB bR _ lR⟩;have x0:=hb.cell 0 _ rfl;have x1:=hb.cell 1 _ rfl;have x2:=hb.cell 2 _ rfl;have x3:=hb.cell 3 _ rfl;have x4:=hb.cell 4 _ rfl;have hlt:=hb.lt;clear hb;rw [qIZ]
 by_cases hs:o.site=s.site
 rotate_left
 ·have q0:(o.site.toList==s.site.toList)=false:=qAZ hs
  (have HV:Hx (jC o s=false):=mH (by unfold jC;simp_all);clear hs;go_enter func275,ntmps275;go_wp2;go_ret;exact⟨qU HV.o.symm,HB.o⟩)
 have q0:(o.site.toList==s.site.toList)=true:=by rw [hs];simp
 rcases qIY o.x s.x with⟨a1,a2,a3⟩|⟨a1,a3⟩|⟨a1,a2,a3⟩
 ·have HV:Hx (jC o s=true):=mH (by unfold jC;simp [hs,a3]);clear a3 hs;go_enter func275,ntmps275;go_wp2;go_ret;exact⟨qU HV.o.symm,HB.o⟩
 all_goals
  rcases qIY o.x s.y with⟨b1,b2,b3⟩|⟨b1,b3⟩|⟨b1,b2,b3⟩
  ·have HV:Hx (jC o s=true):=mH (by unfold jC;simp [hs,b3]);clear b3 a3 hs;go_enter func275,ntmps275;go_wp2;go_ret;exact⟨qU HV.o.symm,HB.o⟩
  all_goals
   rcases qIY o.y s.x with⟨c1,c2,c3⟩|⟨c1,c3⟩|⟨c1,c2,c3⟩
   ·have HV:Hx (jC o s=true):=mH (by unfold jC;simp [hs,c3]);clear c3 b3 a3 hs;go_enter func275,ntmps275;go_wp2;go_ret;exact⟨qU HV.o.symm,HB.o⟩
   all_goals
    rcases qIY o.y s.y with⟨d1,d2,d3⟩|⟨d1,d3⟩|⟨d1,d2,d3⟩
    ·have HV:Hx (jC o s=true):=mH (by unfold jC;simp [hs,d3]);clear d3 c3 b3 a3 hs;go_enter func275,ntmps275;go_wp2;go_ret;exact⟨qU HV.o.symm,HB.o⟩
    all_goals
     have HV:Hx (jC o s=false):=mH (by unfold jC;simp [hs,a3,b3,c3,d3]);clear d3 c3 b3 a3 hs;go_enter func275,ntmps275;go_wp2;go_ret;exact⟨qU HV.o.symm,HB.o⟩
end Go.Proofs.YtbgnlfgkgklkdaaGreatDoor
