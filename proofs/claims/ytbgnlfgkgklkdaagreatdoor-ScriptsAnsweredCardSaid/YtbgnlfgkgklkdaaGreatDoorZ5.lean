/- Parts of the proof of ScriptsAnswered: PlainI. No condition. -/
import Derived.Lib.Atoi
import Derived.Lib.ItoaNum
import Derived.Lib.Strings
import Derived.Test.YtbgnlfgkgklkdaaGreatDoorZ0
set_option linter.unusedVariables false
set_option linter.unusedSimpArgs false
set_option maxHeartbeats 8000000
set_option maxRecDepth 100000
namespace Go.Proofs.YtbgnlfgkgklkdaaGreatDoor
open Go
def qA1 (b:UInt8):Bool:=decide (48≤b.toNat) && decide (b.toNat≤57)
theorem qGD {b:UInt8} (h:qA1 b=true):Lib.digitVal b=some (b.toNat - 48):=by
 unfold qA1 at h;simp only [Bool.and_eq_true,decide_eq_true_eq] at h;unfold Lib.digitVal;rw [if_pos h]
theorem qG6:∀(l:List UInt8) (acc:Nat),l.all qA1=true→∃m,Lib.decFrom acc l=some m
 | [],acc,_=>⟨acc,rfl⟩
 | b::r,acc,h=>by
  rw [List.all_cons,Bool.and_eq_true] at h;unfold Lib.decFrom;rw [qGD h.1];exact qG6 r _ h.2
theorem qFj:∀(l:List UInt8) (acc:Nat) (b:UInt8) (m:Nat),Lib.decFrom acc l=some m→qA1 b=true→Lib.decFrom acc (l++[b])=some (m*10+(b.toNat - 48))
 | [],acc,b,m,h,hb=>by
  simp only [Lib.decFrom,Option.some.injEq] at h;subst h;rw [List.nil_append];unfold Lib.decFrom;rw [qGD hb];rfl
 | a::r,acc,b,m,h,hb=>by
  rw [List.cons_append];unfold Lib.decFrom at h ⊢
  cases ha:Lib.digitVal a with
  | none=>simp [ha] at h
  | some e =>
   simp only [ha] at h ⊢;exact qFj r _ b m h hb
theorem qJ3:∀(l:List UInt8) (acc m:Nat),Lib.decFrom acc l=some m→acc*10 ^ l.length≤m
 | [],acc,m,h=>by simp only [Lib.decFrom,Option.some.injEq] at h;subst h;simp
 | a::r,acc,m,h=>by
  unfold Lib.decFrom at h
  cases ha:Lib.digitVal a with
  | none=>simp [ha] at h
  | some e =>
   simp only [ha] at h;have h1:=qJ3 r _ m h;have h2:acc*10*10 ^ r.length≤(acc*10+e)*10 ^ r.length:=Nat.mul_le_mul_right _ oM;rw [List.length_cons,Nat.pow_succ,Nat.mul_comm (10 ^ r.length) 10,←Nat.mul_assoc];omega
def qID (d:List UInt8):Bool:=!(d.head? == some 48 && decide (1<d.length))
theorem qIW {a:UInt8} {n:Nat} (h:a.toNat=n) (hn:n<256):a=UInt8.ofNat n:=by
 apply UInt8.toNat_inj.1
 rw [h];simp [UInt8.toNat_ofNat,Nat.mod_eq_of_lt hn]
theorem qGq {b:UInt8} (h:qA1 b=true):48≤b.toNat∧b.toNat≤57:=by
 unfold qA1 at h
 simpa [Bool.and_eq_true] using h
theorem qPh:∀(k:Nat) (d:List UInt8),d.length=k→d≠[]→d.all qA1=true→qID d=true→∀m,Lib.decFrom 0 d=some m→Lib.decDigits m=d
 | 0,d,hk,hne,_,_,_,_=>absurd (List.length_eq_zero_iff.1 hk) hne
 | k+1,d,hk,hne,hd,hc,m,hm=>by
  obtain⟨d',b,rfl⟩:∃d' b,d=d'++[b]:=⟨d.dropLast,d.getLast hne,(List.dropLast_concat_getLast hne).symm⟩;rw [List.all_append,Bool.and_eq_true] at hd;have hb:qA1 b=true:=by simpa using hd.2
  have hbb:=qGq hb;obtain⟨m',hm'⟩:=qG6 d' 0 hd.1;have e:=qFj d' 0 b m' hm' hb;rw [e] at hm;simp only [Option.some.injEq] at hm
  cases d' with
  | nil =>
   simp only [Lib.decFrom,Option.some.injEq] at hm';subst hm';have hmm:m=b.toNat - 48:=by omega
   rw [Lib.decDigits_one oM,hmm];simp only [List.nil_append,List.cons.injEq,and_true];rw [show 48+(b.toNat - 48)=b.toNat by omega];exact(qIW rfl oM).symm
  | cons a r =>
   have ha:a≠48:=by
    intro h;subst h;unfold qID at hc;simp at hc
   have hda:qA1 a=true:=by have:=hd.1;rw [List.all_cons,Bool.and_eq_true] at this;exact this.1
   have hab:=qGq hda;have ha48:a.toNat≠48:=λh=>ha (by rw [qIW h oM];rfl)
   have h1:1≤m':=by
    have h2:=hm';unfold Lib.decFrom at h2;rw [qGD hda] at h2;simp only at h2;have h3:=qJ3 r _ m' h2;have h4:1≤10 ^ r.length:=Nat.one_le_pow _ _ dE;have h5:1*1≤(0*10+(a.toNat - 48))*10 ^ r.length:=Nat.mul_le_mul oM h4;omega
   have hcd:qID (a::r)=true:=by
    unfold qID;have:((a::r).head? == some 48)=false:=by simp [ha]
    rw [this];rfl
   have ih:=qPh k (a::r) (by simp at hk ⊢;omega) sI hd.1 hcd m' hm';have hm10:¬m<10:=by omega
   rw [Lib.decDigits,dif_neg hm10,show m / 10=m' by omega,ih,show m % 10=b.toNat - 48 by omega,show 48+(b.toNat - 48)=b.toNat by omega,←qIW rfl oM]
theorem qMc:∀m:Nat,(Lib.decDigits m).all qA1=true∧Lib.decFrom 0 (Lib.decDigits m)=some m∧(0<m→(Lib.decDigits m).head? ≠ some 48)∧Lib.decDigits m≠[]:=by
 intro m
 induction m using Nat.strongRecOn with
 | _ m ih =>
  have hdg:∀k,k<10→qA1 (UInt8.ofNat (48+k))=true∧(UInt8.ofNat (48+k)).toNat=48+k:=λk hk=>by
   have h1:(UInt8.ofNat (48+k)).toNat=48+k:=by rw [UInt8.toNat_ofNat'];omega
   exact⟨by unfold qA1;rw [h1];simp;omega,h1⟩
  by_cases h:m<10
  ·rw [Lib.decDigits_one h];have h2:=hdg m h;refine⟨by rw [List.all_cons,h2.1];rfl,?_,λh0 he=>?_,by simp⟩
   ·unfold Lib.decFrom;rw [qGD h2.1,h2.2];simp [Lib.decFrom]
   ·simp only [List.head?_cons,Option.some.injEq] at he;have:=congrArg UInt8.toNat he;rw [h2.2] at this;have h3:(48:UInt8).toNat=48:=rfl;omega
  ·have i:=ih (m / 10) oM;rw [Lib.decDigits,dif_neg h];have h2:=hdg (m % 10) oM;refine⟨by rw [List.all_append,i.1,List.all_cons,h2.1];rfl,?_,λ_=>?_,by simp⟩
   ·rw [qFj _ 0 _ _ i.2.1 h2.1,h2.2]
    congr 1;omega
   ·rw [List.head?_append];have:=i.2.2.1 oM
    cases hh:(Lib.decDigits (m / 10)).head? with
    | none=>exact absurd (List.head?_eq_none_iff.1 hh) i.2.2.2
    | some x=>rw [hh] at this;simpa using this
def qAM (s:List UInt8):List UInt8:=Lib.trimPrefix s [45]
theorem qFy (r:List UInt8):qAM (45::r)=r:=by simp [qAM,Lib.trimPrefix,Lib.hasPrefix]
theorem qFz {b:UInt8} (h:b≠45) (r:List UInt8):qAM (b::r)=b::r:=by
 have h2:¬45=b:=λe=>h e.symm
 simp [qAM,Lib.trimPrefix,Lib.hasPrefix,h2]
theorem qHT:qAM []=[]:=by simp [qAM,Lib.trimPrefix,Lib.hasPrefix]
def qCd (most:Nat) (s:List UInt8):Bool:=!(qAM s).isEmpty && decide ((qAM s).length≤most) && (qAM s).all qA1
def jH (most:Nat) (s:List UInt8):Option Int:=if qCd most s && qID (qAM s) && !((qAM s).head? == some 48 && decide ((qAM s).length<s.length)) then Lib.atoi s else none
theorem qHf {most:Nat} {s:List UInt8} (h:qCd most s=true):∃m,Lib.decFrom 0 (qAM s)=some m∧Lib.atoi s=some (if s.head? = some 45 then -(m:Int) else (m:Int))∧m<10 ^ most:=by
 unfold qCd at h;simp only [Bool.and_eq_true,Bool.not_eq_true',decide_eq_true_eq] at h;obtain⟨m,hm⟩:=qG6 (qAM s) 0 h.2;refine⟨m,hm,?_,?_⟩
 ·cases s with
  | nil=>rw [qHT] at h;simp at h
  | cons b r =>
   by_cases hb:b=45
   ·subst hb;rw [qFy] at hm h;simp [Lib.atoi,Lib.decNat,h.1.1,hm]
   ·rw [qFz hb] at hm h;have hbd:qA1 b=true:=by have:=h.2;rw [List.all_cons,Bool.and_eq_true] at this;exact this.1
    have h43:b≠43:=λe=>by subst e;exact absurd hbd dE
    have e1:(b==45)=false:=by simpa using hb
    have e2:(b==43)=false:=by simpa using h43
    simp [Lib.atoi,Lib.decNat,e1,e2,hm,hb]
 ·have h1:=Lib.decFrom_lt _ _ _ hm;have h2:10 ^ (qAM s).length≤10 ^ most:=Nat.pow_le_pow_right dE h.1.2;omega
theorem qGF {most:Nat} {s:List UInt8} {n:Int} (h:jH most s=some n):Lib.itoa n=s∧n.natAbs<10 ^ most:=by
 unfold jH at h
 split at h
 ·rename_i hc
  simp only [Bool.and_eq_true] at hc;obtain⟨⟨h1,h2⟩,h3⟩:=hc;obtain⟨m,hm,ha,hlt⟩:=qHf h1;have h1':=h1;unfold qCd at h1;simp only [Bool.and_eq_true,Bool.not_eq_true',decide_eq_true_eq] at h1;have hne:qAM s≠[]:=λe=>by rw [e] at h1;simp at h1
  have hd:=qPh _ _ rfl hne h1.2 h2 m hm;rw [ha] at h
  cases s with
  | nil=>rw [qHT] at hne;exact absurd rfl hne
  | cons b r =>
   by_cases hb:b=45
   ·subst hb;rw [if_pos (show(45::r:List UInt8).head? = some 45 from rfl)] at h;simp only [Option.some.injEq] at h;rw [qFy] at hd h3 hne hm h1;have hm0:0<m:=by
     rcases Nat.eq_zero_or_pos m with h0|h0
     ·subst h0;rw [Lib.decDigits_one dE] at hd;rw [←hd] at h3;simp at h3
     ·exact h0
    subst h;refine⟨?_,by rw [Int.natAbs_neg];exact hlt⟩;unfold Lib.itoa;rw [if_pos oM,Int.natAbs_neg];rw [show(m:Int).natAbs=m from rfl,hd]
   ·rw [if_neg (by simpa using hb)] at h;simp only [Option.some.injEq] at h;rw [qFz hb] at hd;subst h;refine⟨?_,hlt⟩;unfold Lib.itoa;rw [if_neg oM,show(m:Int).toNat=m from rfl,hd]
 ·cases h
theorem qEz {most:Nat} {n:Int} (h:n.natAbs<10 ^ most) (hm:1≤most):jH most (Lib.itoa n)=some n:=by
 have key:∀m:Nat,m<10 ^ most→(Lib.decDigits m).length≤most:=λm hm2=>by
  rw [Lib.decDigits_length]
  rcases Nat.lt_or_ge most (Lib.nDigits m) with h1|h1
  ·exfalso
   have:∀u:Nat,10≤u→10 ^ (Lib.nDigits u - 1)≤u:=by
    intro u
    induction u using Nat.strongRecOn with
    | _ u ih =>
     intro hu;rw [Lib.nDigits_big oM,Nat.add_sub_cancel]
     by_cases h10:u / 10<10
     ·rw [Lib.nDigits_small h10];omega
     ·have h2:=ih (u / 10) oM oM;have h3:=Lib.nDigits_pos (u / 10);obtain⟨q,hq⟩:∃q,Lib.nDigits (u / 10)=q+1:=⟨Lib.nDigits (u / 10) - 1,by omega⟩;rw [hq,Nat.add_sub_cancel] at h2;rw [hq,Nat.pow_succ];omega
   by_cases h10:m<10
   ·rw [Lib.nDigits_small h10] at h1;omega
   ·have h2:=this m oM;have h3:10 ^ most≤10 ^ (Lib.nDigits m - 1):=Nat.pow_le_pow_right dE oM;omega
  ·exact h1
 have gen:∀(m:Nat) (s:List UInt8),qAM s=Lib.decDigits m→m<10 ^ most→(s.length=(Lib.decDigits m).length∨0<m)→Lib.atoi s=some n→jH most s=some n:=by
  intro m s hb hlt hor ha;obtain⟨i1,i2,i3,i4⟩:=qMc m;unfold jH qCd qID;rw [hb];have e1:(Lib.decDigits m).isEmpty=false:=by cases hh:Lib.decDigits m with|nil=>exact absurd hh i4|cons _ _=>rfl
  have e2:decide ((Lib.decDigits m).length≤most)=true:=decide_eq_true (key m hlt)
  rcases Nat.eq_zero_or_pos m with h0|h0
  ·subst h0;rw [Lib.decDigits_one dE] at *;have hl:s.length=1:=by rcases hor with h|h;exact h;omega
   simp only [e1,e2,i1,hl]
   simpa using ha
  ·have e3:((Lib.decDigits m).head? == some 48)=false:=by simpa using i3 h0
   simp only [e1,e2,i1,e3]
   simpa using ha
 unfold Lib.itoa
 by_cases hn:n<0
 ·rw [if_pos hn];obtain⟨i1,i2,i3,i4⟩:=qMc n.natAbs;refine gen n.natAbs _ (qFy _) h (.inr oM) ?_;have e1:(Lib.decDigits n.natAbs).isEmpty=false:=by cases hh:Lib.decDigits n.natAbs with|nil=>exact absurd hh i4|cons _ _=>rfl
  simp [Lib.atoi,Lib.decNat,e1,i2];omega
 ·rw [if_neg hn];obtain⟨i1,i2,i3,i4⟩:=qMc n.toNat
  cases hh:Lib.decDigits n.toNat with
  | nil=>exact absurd hh i4
  | cons b r =>
   have hbd:qA1 b=true:=by have:=i1;rw [hh,List.all_cons,Bool.and_eq_true] at this;exact this.1
   have h45:b≠45:=λe=>by subst e;exact absurd hbd dE
   have h43:b≠43:=λe=>by subst e;exact absurd hbd dE
   refine gen n.toNat _ (by rw [qFz h45,hh]) oM (.inl (by rw [hh])) ?_;have e1:(b==45)=false:=by simpa using h45
   have e2:(b==43)=false:=by simpa using h43
   rw [hh] at i2;simp [Lib.atoi,Lib.decNat,e1,e2,i2];omega
theorem qRq {most:Nat} {s:List UInt8} (h:qCd most s=true):∃n,Lib.atoi s=some n∧n.natAbs<10 ^ most∧(Lib.itoa n=s↔jH most s=some n)∧(Lib.itoa n≠s→jH most s=none):=by
 obtain⟨m,hm,ha,hlt⟩:=qHf h;have hna:(if s.head? = some 45 then -(m:Int) else (m:Int)).natAbs<10 ^ most:=by split <;> simpa using hlt
 have h1:(qAM s).length≤most:=by
  unfold qCd at h;simp only [Bool.and_eq_true,Bool.not_eq_true',decide_eq_true_eq] at h;exact h.1.2
 have hm1:1≤most:=by
  unfold qCd at h;simp only [Bool.and_eq_true,Bool.not_eq_true',decide_eq_true_eq] at h
  rcases Nat.eq_zero_or_pos (qAM s).length with h0|h0
  ·rw [List.length_eq_zero_iff.1 h0] at h;simp at h
  ·omega
 refine⟨_,ha,hna,⟨λe=>?_,λe=>(qGF e).1⟩,λe=>?_⟩
 ·have:=qEz hna hm1;rw [e] at this;exact this
 ·cases hh:jH most s with
  | none=>rfl
  | some n' =>
   exfalso
   have h2:=(qGF hh).1;have h3:Lib.atoi s=some n':=by
    unfold jH at hh
    split at hh
    ·exact hh
    ·cases hh
   rw [ha] at h3;simp only [Option.some.injEq] at h3;rw [←h3] at h2;exact e h2
end Go.Proofs.YtbgnlfgkgklkdaaGreatDoor
