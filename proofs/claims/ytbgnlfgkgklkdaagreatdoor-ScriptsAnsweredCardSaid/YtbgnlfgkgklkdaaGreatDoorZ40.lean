/- Parts of the proof of ScriptsAnswered: SpI. No condition. -/
import Derived.Test.YtbgnlfgkgklkdaaGreatDoorZ38
import Derived.Test.YtbgnlfgkgklkdaaGreatDoorZ30
set_option linter.unusedVariables false
set_option linter.unusedSimpArgs false
set_option maxHeartbeats 8000000
set_option maxRecDepth 100000
namespace Go.Proofs.YtbgnlfgkgklkdaaGreatDoor
open Go Go.RowKit Tryz
theorem qAF {W:List ByteArray} {v:Value} {w:World} (hA:qI strCells 1 w W v) (h0:0<W.length):∃b off cap,v=.slice (some ⟨b,off,none⟩) W.length cap∧W.length≤cap∧cap≤9223372036854775807∧b<w.heap.size∧∀k,k<W.length→w.cell? ⟨b,off+k,none⟩=some (.string (wd W k)):=by
 obtain⟨a,cap,rfl,hcap,hmax,hc⟩:=hA;obtain⟨b,off,rfl,hb,_⟩:=hc 0 h0;refine⟨b,off,cap,rfl,hcap,by unfold maxLen at hmax;omega,hb,λk hk=>?_⟩;obtain⟨b',off',he,_,hck⟩:=hc k hk;simp only [Option.some.injEq,Addr.mk.injEq,and_true] at he;obtain⟨rfl,rfl⟩:=he;have:=hck 0 _ rfl;rw [qCZ hk];simpa using this
theorem qR {a c:ByteArray} {l:List UInt8} (h:a≠c) (hl:c.data.toList=l):(a.toList==l)=false:=by
 have:c.toList=l:=by rw [←hl];simp [ByteArray.toList_eq]
 rw [←this];exact qAZ h
theorem qBZ {a c:ByteArray} {l:List UInt8} (h:a=c) (hl:c.data.toList=l):(a.toList==l)=true:=by
 have:c.toList=l:=by rw [←hl];simp [ByteArray.toList_eq]
 rw [←this,h];simp
def qCK (o:Option qD) (w:World) (e:Ending) (w':World):Prop:=e=.returned (.tuple #[.agg ↑(o.getD qAx),.bool o.isSome])∧Below w.heap.size w w'
theorem qOc (W:List ByteArray) (v:Value) (most:Nat) (hm:most≤17) (w:World) (hA:qI strCells 1 w W v) (h0:0<W.length) (hs:∀x∈W,x.size≤1000000) (h1:wd W 0≠qA0) (h2:wd W 0≠qAE) (h3:wd W 0≠qAR) (h4:wd W 0≠qAt) (h5:wd W 0≠jL):Calls prog 57 #[v,.int .i64 most] w (qCK none w):=by
 (obtain⟨b,off,cap,rfl,hcap,hmax,hb,hcell⟩:=qAF hA h0)
 have d0:w.cell? ⟨b,off,none⟩=some (.string (wd W 0)):=hcell 0 h0;have q1:((wd W 0).toList==[115,105,116,101])=false:=qR (c:=qA0) h1 rfl;have q2:((wd W 0).toList==[99,97,98,108,101])=false:=qR (c:=qAE) h2 rfl;have q3:((wd W 0).toList==[106,111,105,110])=false:=qR (c:=qAR) h3 rfl;have q4:((wd W 0).toList==[99,117,116])=false:=qR (c:=qAt) h4 rfl;have q5:((wd W 0).toList==[114,101,116,105,114,101])=false:=qR (c:=jL) h5 rfl;have h0i:(0:Int)<W.length:=by omega
 clear hA hs h1 h2 h3 h4 h5 hcell;generalize wd W 0=Q at *;go_enter func57,ntmps57;go_wp2;refine bodyPost_ret (v:=.tuple #[.agg ↑zE,.bool false]) ?_ rfl ⟨?_,?_⟩
 ·exact qF rfl _ _ w.heap.size 81 ↑zE _ (0,0) _ rfl rfl (qC.new w _ _) underlying81 rfl kR
 ·rfl
 ·exact qB bR _ lR
theorem qIo (W:List ByteArray) (v:Value) (most:Nat) (hm:most≤17) (w:World) (hA:qI strCells 1 w W v) (h0:0<W.length) (hs:∀x∈W,x.size≤1000000) (hw:wd W 0=qA0) (hl:W.length≠3):Calls prog 57 #[v,.int .i64 most] w (qCK none w):=by
 (obtain⟨b,off,cap,rfl,hcap,hmax,hb,hcell⟩:=qAF hA h0)
 have d0:w.cell? ⟨b,off,none⟩=some (.string (wd W 0)):=hcell 0 h0;have q0:((wd W 0).toList==[115,105,116,101])=true:=qBZ (c:=qA0) hw rfl;have q1:((wd W 0).toList==[99,97,98,108,101])=false:=qR (c:=qAE) (by rw [hw];decide) rfl;have q2:((wd W 0).toList==[106,111,105,110])=false:=qR (c:=qAR) (by rw [hw];decide) rfl;have q3:((wd W 0).toList==[99,117,116])=false:=qR (c:=qAt) (by rw [hw];decide) rfl;have q4:((wd W 0).toList==[114,101,116,105,114,101])=false:=qR (c:=jL) (by rw [hw];decide) rfl;have hl1:((W.length:Int)==3)=false:=by simp;omega
 have h0i:(0:Int)<W.length:=by omega
 clear hA hs hw hcell;generalize wd W 0=Q at *;go_enter func57,ntmps57;go_wp2;refine bodyPost_ret (v:=.tuple #[.agg ↑zE,.bool false]) ?_ rfl ⟨?_,?_⟩
 ·exact qF rfl _ _ w.heap.size 81 ↑zE _ (0,0) _ rfl rfl (qC.new w _ _) underlying81 rfl kR
 ·rfl
 ·exact qB bR _ lR
theorem qI3 (W:List ByteArray) (v:Value) (most:Nat) (hm:most≤17) (w:World) (hA:qI strCells 1 w W v) (h0:0<W.length) (hs:∀x∈W,x.size≤1000000) (hw:wd W 0=qAE) (hl:W.length≠6):Calls prog 57 #[v,.int .i64 most] w (qCK none w):=by
 (obtain⟨b,off,cap,rfl,hcap,hmax,hb,hcell⟩:=qAF hA h0)
 have d0:w.cell? ⟨b,off,none⟩=some (.string (wd W 0)):=hcell 0 h0;have q0:((wd W 0).toList==[115,105,116,101])=false:=qR (c:=qA0) (by rw [hw];decide) rfl;have q1:((wd W 0).toList==[99,97,98,108,101])=true:=qBZ (c:=qAE) hw rfl;have q2:((wd W 0).toList==[106,111,105,110])=false:=qR (c:=qAR) (by rw [hw];decide) rfl;have q3:((wd W 0).toList==[99,117,116])=false:=qR (c:=qAt) (by rw [hw];decide) rfl;have q4:((wd W 0).toList==[114,101,116,105,114,101])=false:=qR (c:=jL) (by rw [hw];decide) rfl;have hl1:((W.length:Int)==6)=false:=by simp;omega
 have h0i:(0:Int)<W.length:=by omega
 clear hA hs hw hcell;generalize wd W 0=Q at *;go_enter func57,ntmps57;go_wp2;refine bodyPost_ret (v:=.tuple #[.agg ↑zE,.bool false]) ?_ rfl ⟨?_,?_⟩
 ·exact qF rfl _ _ w.heap.size 81 ↑zE _ (0,0) _ rfl rfl (qC.new w _ _) underlying81 rfl kR
 ·rfl
 ·exact qB bR _ lR
theorem qJA (W:List ByteArray) (v:Value) (most:Nat) (hm:most≤17) (w:World) (hA:qI strCells 1 w W v) (h0:0<W.length) (hs:∀x∈W,x.size≤1000000) (hw:wd W 0=qAR) (hl:W.length≠7):Calls prog 57 #[v,.int .i64 most] w (qCK none w):=by
 (obtain⟨b,off,cap,rfl,hcap,hmax,hb,hcell⟩:=qAF hA h0)
 have d0:w.cell? ⟨b,off,none⟩=some (.string (wd W 0)):=hcell 0 h0;have q0:((wd W 0).toList==[115,105,116,101])=false:=qR (c:=qA0) (by rw [hw];decide) rfl;have q1:((wd W 0).toList==[99,97,98,108,101])=false:=qR (c:=qAE) (by rw [hw];decide) rfl;have q2:((wd W 0).toList==[106,111,105,110])=true:=qBZ (c:=qAR) hw rfl;have q3:((wd W 0).toList==[99,117,116])=false:=qR (c:=qAt) (by rw [hw];decide) rfl;have q4:((wd W 0).toList==[114,101,116,105,114,101])=false:=qR (c:=jL) (by rw [hw];decide) rfl;have hl1:((W.length:Int)==7)=false:=by simp;omega
 have h0i:(0:Int)<W.length:=by omega
 clear hA hs hw hcell;generalize wd W 0=Q at *;go_enter func57,ntmps57;go_wp2;refine bodyPost_ret (v:=.tuple #[.agg ↑zE,.bool false]) ?_ rfl ⟨?_,?_⟩
 ·exact qF rfl _ _ w.heap.size 81 ↑zE _ (0,0) _ rfl rfl (qC.new w _ _) underlying81 rfl kR
 ·rfl
 ·exact qB bR _ lR
theorem qJT (W:List ByteArray) (v:Value) (most:Nat) (hm:most≤17) (w:World) (hA:qI strCells 1 w W v) (h0:0<W.length) (hs:∀x∈W,x.size≤1000000) (hw:wd W 0=qAt) (hl:W.length≠6):Calls prog 57 #[v,.int .i64 most] w (qCK none w):=by
 (obtain⟨b,off,cap,rfl,hcap,hmax,hb,hcell⟩:=qAF hA h0)
 have d0:w.cell? ⟨b,off,none⟩=some (.string (wd W 0)):=hcell 0 h0;have q0:((wd W 0).toList==[115,105,116,101])=false:=qR (c:=qA0) (by rw [hw];decide) rfl;have q1:((wd W 0).toList==[99,97,98,108,101])=false:=qR (c:=qAE) (by rw [hw];decide) rfl;have q2:((wd W 0).toList==[106,111,105,110])=false:=qR (c:=qAR) (by rw [hw];decide) rfl;have q3:((wd W 0).toList==[99,117,116])=true:=qBZ (c:=qAt) hw rfl;have q4:((wd W 0).toList==[114,101,116,105,114,101])=false:=qR (c:=jL) (by rw [hw];decide) rfl;have hl1:((W.length:Int)==6)=false:=by simp;omega
 have h0i:(0:Int)<W.length:=by omega
 clear hA hs hw hcell;generalize wd W 0=Q at *;go_enter func57,ntmps57;go_wp2;refine bodyPost_ret (v:=.tuple #[.agg ↑zE,.bool false]) ?_ rfl ⟨?_,?_⟩
 ·exact qF rfl _ _ w.heap.size 81 ↑zE _ (0,0) _ rfl rfl (qC.new w _ _) underlying81 rfl kR
 ·rfl
 ·exact qB bR _ lR
theorem qHj (W:List ByteArray) (v:Value) (most:Nat) (hm:most≤17) (w:World) (hA:qI strCells 1 w W v) (h0:0<W.length) (hs:∀x∈W,x.size≤1000000) (hw:wd W 0=jL) (hl:W.length≠2):Calls prog 57 #[v,.int .i64 most] w (qCK none w):=by
 (obtain⟨b,off,cap,rfl,hcap,hmax,hb,hcell⟩:=qAF hA h0)
 have d0:w.cell? ⟨b,off,none⟩=some (.string (wd W 0)):=hcell 0 h0;have q0:((wd W 0).toList==[115,105,116,101])=false:=qR (c:=qA0) (by rw [hw];decide) rfl;have q1:((wd W 0).toList==[99,97,98,108,101])=false:=qR (c:=qAE) (by rw [hw];decide) rfl;have q2:((wd W 0).toList==[106,111,105,110])=false:=qR (c:=qAR) (by rw [hw];decide) rfl;have q3:((wd W 0).toList==[99,117,116])=false:=qR (c:=qAt) (by rw [hw];decide) rfl;have q4:((wd W 0).toList==[114,101,116,105,114,101])=true:=qBZ (c:=jL) hw rfl;have hl1:((W.length:Int)==2)=false:=by simp;omega
 have h0i:(0:Int)<W.length:=by omega
 clear hA hs hw hcell;generalize wd W 0=Q at *;go_enter func57,ntmps57;go_wp2;refine bodyPost_ret (v:=.tuple #[.agg ↑zE,.bool false]) ?_ rfl ⟨?_,?_⟩
 ·exact qF rfl _ _ w.heap.size 81 ↑zE _ (0,0) _ rfl rfl (qC.new w _ _) underlying81 rfl kR
 ·rfl
 ·exact qB bR _ lR
end Go.Proofs.YtbgnlfgkgklkdaaGreatDoor
