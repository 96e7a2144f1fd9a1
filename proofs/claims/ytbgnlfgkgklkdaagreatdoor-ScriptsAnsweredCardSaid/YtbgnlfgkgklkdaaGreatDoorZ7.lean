/- Parts of the proof of ScriptsAnswered: PlainL. No condition. -/
import Derived.Test.YtbgnlfgkgklkdaaGreatDoorZ5
import Derived.Test.YtbgnlfgkgklkdaaGreatDoorZ6
import Derived.Test.YtbgnlfgkgklkdaaGreatDoorZ1
set_option linter.unusedVariables false
set_option linter.unusedSimpArgs false
set_option maxHeartbeats 8000000
set_option maxRecDepth 100000
namespace Go.Proofs.YtbgnlfgkgklkdaaGreatDoor
open Go
def bA (l:List UInt8):ByteArray:=⟨l.toArray⟩
theorem qIT (s:ByteArray):bA s.data.toList=s:=Lib.mk_data s
theorem qKO (l:List UInt8):(bA l).data.toList=l:=rfl
theorem qCJ (l:List UInt8):(bA l).size=l.length:=by rw [Lib.size_eq];rfl
theorem qHM {most:Nat} {s:List UInt8} {n:Int} (h:jH most s=some n):s.length≤most+1∧s≠[]∧∀b∈s,b=45∨qA1 b=true:=by
 unfold jH at h
 split at h
 ·rename_i hc
  simp only [Bool.and_eq_true] at hc;have h1:=hc.1.1;unfold qCd at h1;simp only [Bool.and_eq_true,Bool.not_eq_true',decide_eq_true_eq] at h1
  cases s with
  | nil=>rw [qHT] at h1;simp at h1
  | cons b r =>
   by_cases hb:b=45
   ·subst hb;rw [qFy] at h1;refine⟨by simpa using h1.1.2,by simp,λc hc=>?_⟩
    rcases List.mem_cons.1 hc with rfl|hc
    ·exact .inl rfl
    ·exact .inr (List.all_eq_true.1 h1.2 c hc)
   ·rw [qFz hb] at h1;exact⟨by have:=h1.1.2;omega,by simp,λc hc=>.inr (List.all_eq_true.1 h1.2 c hc)⟩
 ·cases h
theorem qTQ {most:Nat} {s:List UInt8} {n:Int} (h:jH most s=some n) {c:UInt8} (hc:c≠45∧qA1 c=false):c ∉ s:=by
 intro hm
 rcases (qHM h).2.2 c hm with h1|h1
 ·exact hc.1 h1
 ·rw [hc.2] at h1;cases h1
def qUD:List UInt8:=[115,112,108,105,116,116,101,114]
end Go.Proofs.YtbgnlfgkgklkdaaGreatDoor
