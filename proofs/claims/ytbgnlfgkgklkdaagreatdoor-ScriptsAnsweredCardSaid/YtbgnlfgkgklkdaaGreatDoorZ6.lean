/- Parts of the proof of ScriptsAnswered: PlainJ. No condition. -/
import Derived.Lib.SplitLaws
import Derived.Test.YtbgnlfgkgklkdaaGreatDoorZ0
set_option linter.unusedVariables false
set_option linter.unusedSimpArgs false
set_option maxHeartbeats 8000000
set_option maxRecDepth 100000
namespace Go.Proofs.YtbgnlfgkgklkdaaGreatDoor
open Go
def qB4 (c:UInt8):List UInt8→List (List UInt8)
 | []=>[[]]
 | x::r=>if x=c then []::qB4 c r else match qB4 c r with
  | []=>[[x]]
  | h::t=>(x::h)::t
theorem qKF (c:UInt8):∀s,qB4 c s≠[]
 | []=>by simp [qB4]
 | x::r=>by
  unfold qB4
  split
  ·simp
  ·cases qB4 c r <;> simp
theorem qKm {c:UInt8}:∀{s:List UInt8},c ∉ s→qB4 c s=[s]
 | [],_=>rfl
 | x::r,h=>by
  rw [List.mem_cons,not_or] at h;unfold qB4;rw [if_neg (λe=>h.1 e.symm),qKm h.2]
theorem qMI {c:UInt8} {b:List UInt8}:∀{a:List UInt8},c ∉ a→qB4 c (a++c::b)=a::qB4 c b
 | [],_=>by rw [List.nil_append,qB4,if_pos rfl]
 | x::a,h=>by
  rw [List.mem_cons,not_or] at h;rw [List.cons_append,qB4,if_neg (λe=>h.1 e.symm),qMI h.2]
def qEv (c:UInt8):List (List UInt8)→List UInt8
 | []=>[]
 | [x]=>x
 | x::y::t=>x++c::qEv c (y::t)
theorem qT8 (c:UInt8) (s:List UInt8):(c ∉ s)∨∃a b,s=a++c::b∧c ∉ a:=by
 induction s with
 | nil=>exact .inl sI
 | cons x r ih =>
  by_cases hx:x=c
  ·exact .inr ⟨[],r,by rw [hx];rfl,by simp⟩
  ·rcases ih with h|⟨a,b,h1,h2⟩
   ·exact .inl (by rw [List.mem_cons,not_or];exact⟨λe=>hx e.symm,h⟩)
   ·exact .inr ⟨x::a,b,by rw [h1];rfl,by rw [List.mem_cons,not_or];exact⟨λe=>hx e.symm,h2⟩⟩
theorem qI7 {c:UInt8}:∀{s:List UInt8},c ∉ s→Lib.index s [c] = -1
 | [],_=>rfl
 | x::r,h=>by
  rw [List.mem_cons,not_or] at h;unfold Lib.index;rw [qI7 h.2];have:([c].isPrefixOf (x::r))=false:=by simp [List.isPrefixOf];exact h.1
  rw [this];rfl
theorem qH8 {c:UInt8} {b:List UInt8}:∀{a:List UInt8},c ∉ a→Lib.index (a++c::b) [c]=a.length
 | [],_=>by rw [List.nil_append];unfold Lib.index;simp [List.isPrefixOf]
 | x::a,h=>by
  rw [List.mem_cons,not_or] at h;rw [List.cons_append];unfold Lib.index;rw [qH8 h.2];have:([c].isPrefixOf (x::(a++c::b)))=false:=by simp [List.isPrefixOf];exact h.1
  rw [this];have h2:(((a.length:Nat):Int) == -1)=false:=by rw [beq_eq_false_iff_ne];omega
  simp [h2]
theorem qJe (c:UInt8):∀(k:Nat) (s:List UInt8),s.length≤k→Lib.splitK [c] 0 (Lib.count s [c]) s=qB4 c s
 | k,s,hk=>by
  rcases qT8 c s with h|⟨a,b,rfl,h⟩
  ·rw [qKm h,Lib.count_miss (qI7 h)];rfl
  ·rw [qMI h,Lib.count_hit (i:=a.length) sI (qH8 h)];have e:(a++c::b).drop (a.length+[c].length)=b:=by simp
   rw [e,Nat.add_comm,Lib.splitK,qH8 h];have h2:(((a.length:Nat):Int) == -1)=false:=by rw [beq_eq_false_iff_ne];omega
   rw [h2];simp only [Bool.false_eq_true,if_false,Int.toNat_natCast,Nat.add_zero]
   cases k with
   | zero=>simp at hk
   | succ k=>rw [e,qJe c k b (by simp at hk;omega)];simp
theorem qNf (c:UInt8) (s:ByteArray):(Lib.splitB ⟨#[c]⟩ 0 (Lib.countB s ⟨#[c]⟩) s).map (·.data.toList)=qB4 c s.data.toList:=by
 rw [Lib.splitB_data];exact qJe c _ _ lR
end Go.Proofs.YtbgnlfgkgklkdaaGreatDoor
