/- Parts of the proof of ScriptsAnswered: AppA. No condition. -/
import Derived.Deep.AppendLies
import Derived.Test.YtbgnlfgkgklkdaaGreatDoorZ8
set_option linter.unusedVariables false
set_option linter.unusedSimpArgs false
set_option maxHeartbeats 8000000
set_option maxRecDepth 100000
namespace Go.Proofs.YtbgnlfgkgklkdaaGreatDoor
open Go Go.RowKit
section
variable {P : Program}
theorem qGJ (w:World) (t ty e:TypeId) (i:TypeInfo) (ht:P.underlying t=some (.slice e)) (hi:P.info? e=some i) (a:Option Addr) (n cap c:Nat) (hc:n≤cap) :
  (Builtin.append_ #[t,t] ty #[.slice a n cap,.slice none 0 c]).run P w=.ok (.slice a n cap) w:=by
 cases a <;> simp [Builtin.append_,run_underlying ht,sizeOf,typeInfo,hi,Builtin.lenOf,hc,run_firstCells_none,storeCells]
theorem qE7 {α:Type} {cells:α→List Value} {sz:Nat} (clen:∀x,(cells x).length=sz) {l:List α} {vx:Value} {w:World} (hA:qI cells sz w l vx)
  (t ty base e:TypeId) (i:TypeInfo) (z:Value) (bytes:Nat) (ht:P.underlying t=some (.slice e)) (hi:P.info? e=some i) (hz:i.zero=some z)
  (hsize:i.size=sz) (hby:i.bytes=bytes) (hzs:z.cells.size=sz) (hsz:0<sz) (v:Value) (n:Nat) (xs:List Value) (hown:w.ownsRow base e sz v n xs)
  (h1:∀u∈l.flatMap cells,u.oneCell'=true) (h63:n+l.length≤maxLen) (hbytes:(n+l.length)*bytes≤140737488355328) (hbase:base≤w.heap.size) :
  ∃v' w',(Builtin.append_ #[t,t] ty #[v,vx]).run P w=.ok v' w'∧w'.ownsRow base e sz v' (n+l.length) (xs++l.flatMap cells)∧w.grownBy w' v.ownBlock:=by
 have hA':=hA;obtain⟨a,cap,rfl,hcap,hmax,hc⟩:=hA
 cases a with
 | some ad =>
  obtain⟨v',w',hr,h2,h3,_,_⟩:=run_append_own_at (P:=P) w base t ty e i z sz bytes ht hi hz hsize hby hzs hsz v n xs hown ad l.length cap (l.flatMap cells) (jJ clen l) (hA'.news clen) h1 h63 hbytes hbase;exact⟨v',w',hr,h2,h3⟩
 | none =>
  have h0:l=[]:=by
   rcases Nat.eq_zero_or_pos l.length with h|h
   ·exact List.length_eq_zero_iff.1 h
   ·obtain⟨_,_,e,_⟩:=hc 0 h;cases e
  subst h0;refine⟨v,w,?_,by simpa using hown,⟨rfl,rfl,rfl,Nat.le_refl _,λ_ _ _=>rfl⟩⟩
  rcases hown.2 with⟨rfl,rfl⟩|⟨g,c2,cur,rfl,_,_,hle,_⟩
  ·exact qGJ w t ty e i ht hi none 0 0 cap lR
  ·exact qGJ w t ty e i ht hi _ _ _ cap hle
theorem qBG {α:Type} {cells:α→List Value} {sz:Nat} (clen:∀x,(cells x).length=sz) {l:List α} {vx:Value} {w:World} (hA:qI cells sz w l vx)
  {ops:Array Oper} {o:Oper} {a:Act} {K:Act→World→Prop} {Q:Exit→Act→World→Prop} {E:Prop} (hgd:o.guard=none) (s x:Operand) (t:TypeId)
  (ho:o.op=.call { callee:=.builtin .append,args:=#[s,x],argTypes:=#[t,t] })
  (base e:TypeId) (i:TypeInfo) (z:Value) (bytes:Nat) (ht:P.underlying t=some (.slice e)) (hi:P.info? e=some i) (hz:i.zero=some z)
  (hsize:i.size=sz) (hby:i.bytes=bytes) (hzs:z.cells.size=sz) (hsz:0<sz) (v:Value) (n:Nat) (xs:List Value) (hs:a.eval s=v) (hown:w.ownsRow base e sz v n xs) (hx:a.eval x=vx)
  (h1:∀u∈l.flatMap cells,u.oneCell'=true) (h63:n+l.length≤maxLen) (hbytes:(n+l.length)*bytes≤140737488355328) (hbase:base≤w.heap.size)
  (h:∀v' w',w'.ownsRow base e sz v' (n+l.length) (xs++l.flatMap cells)→w.grownBy w' v.ownBlock→K (a.put o.dst v') w') :
  if Region.wanted o (yielded ops a.tmps)=true then Oper.wp P o a w K Q else E:=by
 have hw:Region.wanted o (yielded ops a.tmps)=true:=by simp [Region.wanted,hgd]
 rw [if_pos hw];obtain⟨v',w',hr,h2,h3⟩:=qE7 (P:=P) clen hA t o.type base e i z bytes ht hi hz hsize hby hzs hsz v n xs hown h1 h63 hbytes hbase;unfold Oper.wp execOp;simp only [ho,resolve,invoke,builtin,Sem.run_bind,Sem.run_pure,Result.andThen_ok,List.map_toArray,List.map_cons,List.map_nil,hs,hx,hr];exact h v' w' h2 h3
end
end Go.Proofs.YtbgnlfgkgklkdaaGreatDoor
