/- Parts of the proof of ScriptsAnswered: Keys. No condition. -/
import Derived.Test.YtbgnlfgkgklkdaaGreatDoorProg
import Derived.Test.YtbgnlfgkgklkdaaGreatDoorZ1
set_option linter.unusedVariables false
set_option linter.unusedSimpArgs false
set_option maxHeartbeats 8000000
set_option maxRecDepth 100000
namespace Go.Proofs.YtbgnlfgkgklkdaaGreatDoor
open Go Go.RowKit Tryz
def qDB (n:Int):Bool:=decide (97≤n∧n≤122)
def qFu (n:Int):Bool:=decide ((97≤n∧n≤122)∨(48≤n∧n≤57)∨n=45∨n=95)
def qL (s:ByteArray):Bool:=decide (1≤s.size∧s.size≤40) && (match s.data.toList with|c::_=>qDB c.toNat | []=>false) && s.data.toList.all fun c=>qFu c.toNat
theorem qOd (s:ByteArray) (h:s.size=0):qL s=false:=by simp [qL,h]
theorem qKw (s:ByteArray) (h:40<s.size):qL s=false:=by simp [qL];omega
theorem qG7 (s:ByteArray) (h:0<s.size):∃r,s.data.toList=s[0]::r:=by
 have e:s.data.toList.length=s.size:=by simp
 match hl:s.data.toList,e with
 | [],e=>simp at e;omega
 | c::r,_ =>
  refine⟨r,?_⟩
  have:s[0]=s.data.toList[0]'(by rw [hl];simp):=rfl
  rw [this];simp [hl]
theorem qQR (s:ByteArray) (h:0<s.size) (h1:qDB s[0].toNat=false):qL s=false:=by
 obtain⟨r,hr⟩:=qG7 s h
 simp [qL,hr,h1]
theorem qS5 (s:ByteArray) (h:0<s.size) (h2:s.size≤40) (h1:qDB s[0].toNat=true):qL s=s.data.toList.all fun c=>qFu c.toNat:=by
 obtain⟨r,hr⟩:=qG7 s h
 simp only [qL,hr,h1,Bool.and_true]
 rw [decide_eq_true ⟨by omega,h2⟩];simp
theorem qFO (s:ByteArray) (p:UInt8→Bool) (k:Nat) (h:k<s.size) (h0:(s.data.toList.take k).all p=true):(s.data.toList.take (k+1)).all p=p s[k]:=by
 rw [List.take_succ_eq_append_getElem (by simpa using h),List.all_append,h0]
 simp;rfl
theorem qJz (s:ByteArray) (p:UInt8→Bool) (k:Nat) (h:k<s.size) (h0:p s[k]=false):s.data.toList.all p=false:=by
 rw [List.all_eq_false]
 have e:s[k]=s.data.toList[k]'(by simpa using h):=rfl
 exact⟨s[k],by rw [e];exact List.getElem_mem _,by simp [h0]⟩
theorem qAs (s:ByteArray):s.toList.isEmpty=decide (s.size=0):=by
 rw [ByteArray.toList_eq]
 have:s.data.toList.length=s.size:=by simp
 generalize hn:s.size=n at *
 cases hh:s.data.toList with
 | nil=>rw [hh] at this;simp only [List.length_nil] at this;simp [←this]
 | cons a b=>rw [hh] at this;simp only [List.length_cons] at this;simp;omega
theorem qBh (s:ByteArray) (w:World):Calls Tryz.prog 89 #[.string s] w
  fun e w'=>e=.returned (.bool (qL s))∧w=w':=by
 by_cases h0:s.size=0
 ·have hE:s.toList.isEmpty=true:=by rw [qAs];simp [h0]
  have HK:=Lib.hid (qOd s h0)
  clear h0
  go_enter Tryz.func89,Tryz.ntmps89
  go_wp2
  go_ret
  exact⟨qU (by rw [HK.out]),rfl⟩
 ·have hpos:0<s.size:=by omega
  have hE:s.toList.isEmpty=false:=by rw [qAs];simp [h0]
  by_cases hlong:40<s.size
  ·have HK:=Lib.hid (qKw s hlong)
   clear h0
   go_enter Tryz.func89,Tryz.ntmps89
   go_wp2
   go_ret
   exact⟨qU (by rw [HK.out]),rfl⟩
  ·cases hsm:qDB s[0].toNat
   ·have HK:=Lib.hid (qQR s hpos hsm)
    unfold qDB at hsm
    have hsm':=of_decide_eq_false hsm
    clear h0 hsm
    by_cases h97:(s[0].toNat:Int)<97
    ·clear hsm'
     go_enter Tryz.func89,Tryz.ntmps89
     go_wp2
     go_ret
     exact⟨qU (by rw [HK.out]),rfl⟩
    ·have h122:122<(s[0].toNat:Int):=by omega
     clear hsm'
     go_enter Tryz.func89,Tryz.ntmps89
     go_wp2
     go_ret
     exact⟨qU (by rw [HK.out]),rfl⟩
   ·have HK:=Lib.hid (qS5 s hpos (by omega) hsm)
    unfold qDB at hsm
    obtain⟨h97,h122⟩:=of_decide_eq_true hsm
    clear h0 hsm
    go_enter Tryz.func89,Tryz.ntmps89
    go_wp2
    go_loop [24] (fun i=>∃k:Nat,k≤s.size∧i=.int .i64 k∧((s.data.toList.take k).all fun c=>qFu c.toNat)=true) (fun i=>s.size - (intOf i).toNat)
    case atStart=>exact⟨0,by omega,rfl,by simp⟩
    case round =>
     obtain⟨k,hk,rfl,hz⟩:=hrel
     have HZ:=Lib.hid hz
     clear hz
     by_cases hlt:k<s.size
     ·cases hc:qFu s[k].toNat
      ·have HC:=Lib.hid hc
       unfold qFu at hc
       have hc':=of_decide_eq_false hc
       clear hc
       have a3:((s[k].toNat:Int)==45)=false:=by simp;omega
       have a4:((s[k].toNat:Int)==95)=false:=by simp;omega
       rcases (show(s[k].toNat:Int)<48∨(57<(s[k].toNat:Int)∧(s[k].toNat:Int)<97)∨122<(s[k].toNat:Int) from by omega) with q|⟨q,q'⟩|q
       all_goals
        clear hc'
        go_wp2
        all_goals first
         | (go_ret;exact⟨qU (by rw [HK.out,qJz s _ k hlt HC.out]),rfl⟩)
         | (exfalso;rename_i h;simp at h;omega)
      ·have HC:=Lib.hid hc
       unfold qFu at hc
       have hc':=of_decide_eq_true hc
       clear hc
       have HT:=Lib.hid (qFO s (fun c=>qFu c.toNat) k hlt HZ.out)
       rcases hc' with⟨q1,q2⟩|⟨q1,q2⟩|q1|q1 <;> go_wp2 <;>
        exact⟨⟨k+1,by omega,by go_num,by rw [HT.out];exact HC.out⟩,by simp [intOf];omega⟩
     ·go_wp2
      go_ret
      exact⟨qU (by rw [HK.out];have:=HZ.out;rw [List.take_of_length_le (by simp;omega)] at this;exact this.symm),rfl⟩
end Go.Proofs.YtbgnlfgkgklkdaaGreatDoor
