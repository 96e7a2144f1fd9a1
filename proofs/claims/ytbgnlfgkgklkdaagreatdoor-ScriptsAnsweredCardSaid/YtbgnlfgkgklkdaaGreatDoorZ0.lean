/- Parts of the proof of ScriptsAnswered: Cy. No condition. -/
import Derived.StillTail
import Derived.Lib.Hide
import Derived.ProofKit
set_option linter.unusedVariables false
set_option linter.unusedSimpArgs false
set_option maxHeartbeats 8000000
set_option maxRecDepth 100000
namespace Go.Proofs.YtbgnlfgkgklkdaaGreatDoor
open Go Go.RowKit
theorem kR {p:Prop} (h:p:=by kernel_rfl):p:=h
theorem oM {p:Prop} (h:p:=by omega):p:=h
theorem dE {p:Prop} (h:p:=by decide):p:=h
theorem sI {p:Prop} (h:p:=by simp):p:=h
theorem rF {p:Prop} (h:p:=by rfl):p:=h
theorem lR {n:Nat}:n≤n:=Nat.le_refl n
theorem aI {a b:Prop} (x:a) (y:b):a∧b:=⟨x,y⟩
structure Hx (p:Prop):Prop where
 o:p
theorem mH {p:Prop} (h:p):Hx p:=⟨h⟩
theorem bR {B:Nat} {w:World}:Below B w w:=Below.refl B w
theorem zL {α:Type _} (l:List α) (i:Nat) (a:α):l.toArray.setIfInBounds i a=(l.set i a).toArray:=List.setIfInBounds_toArray ..
theorem zN {α:Type _} (a b:α) (l:List α):(a::l).set 0 b=b::l:=rfl
theorem zH {α:Type _} (a b:α) (l:List α) (n:Nat):(a::l).set (n+1) b=a::l.set n b:=rfl
theorem zM {α:Type _} {l:List α} {i:Nat} (h:i<l.toArray.size):l.toArray[i]=l[i]'(by simpa using h):=by simp
theorem zK {α:Type _} (a:α) (l:List α) (i:Nat) (h:i+1<(a::l).length):(a::l)[i+1]=l[i]'(Nat.lt_of_succ_lt_succ h):=rfl
theorem zI {α:Type _} (a:α) (l:List α) (h:0<(a::l).length):(a::l)[0]=a:=rfl
theorem eX {α:Sort _} (a:α):∃x,a=x:=⟨a,rfl⟩
theorem eY {α:Sort _} (a:α):∃x,x=a:=⟨a,rfl⟩
end Go.Proofs.YtbgnlfgkgklkdaaGreatDoor
