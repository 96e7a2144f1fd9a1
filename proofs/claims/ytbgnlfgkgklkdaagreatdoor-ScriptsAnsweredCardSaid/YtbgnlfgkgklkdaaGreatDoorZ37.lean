/- Parts of the proof of ScriptsAnswered: BuyS. No condition. -/
import Derived.OpenShut
import Derived.Deep.CutRange
import Derived.Test.YtbgnlfgkgklkdaaGreatDoorZ13
set_option linter.unusedVariables false
set_option linter.unusedSimpArgs false
set_option maxHeartbeats 8000000
set_option maxRecDepth 100000
namespace Go.Proofs.YtbgnlfgkgklkdaaGreatDoor
open Go Go.RowKit Tryz
theorem qI.dropAt {α:Type} {cells:α→List Value} {sz:Nat} {w:World} {l:List α} {b off n cap:Nat} (h:qI cells sz w l (.slice (some ⟨b,off,none⟩) n cap)) (k:Nat) (hk:k≤l.length):qI cells sz w (l.drop k) (.slice (some ⟨b,off+k*sz,none⟩) (n - k) (cap - k)):=by
 obtain⟨a,c,he,h2,h3,h4⟩:=h;simp only [Value.slice.injEq] at he;obtain⟨rfl,rfl,rfl⟩:=he;refine⟨_,_,by rw [List.length_drop],by rw [List.length_drop];omega,by omega,λj hj=>?_⟩;rw [List.length_drop] at hj;obtain⟨b',off',ha,hb,hcc⟩:=h4 (k+j) oM;simp only [Option.some.injEq,Addr.mk.injEq,and_true] at ha;obtain⟨rfl,rfl⟩:=ha;refine⟨b,_,rfl,hb,λi u hu=>?_⟩;rw [List.getElem_drop] at hu;have:=hcc i u hu;rw [Nat.add_mul] at this;rw [show off+k*sz+j*sz+i=off+(k*sz+j*sz)+i by omega];exact this
end Go.Proofs.YtbgnlfgkgklkdaaGreatDoor
