/- Parts of the proof of ScriptsAnswered: SnJ. No condition. -/
import Derived.Test.YtbgnlfgkgklkdaaGreatDoorZ15
import Derived.Test.YtbgnlfgkgklkdaaGreatDoorZ16
set_option linter.unusedVariables false
set_option linter.unusedSimpArgs false
set_option maxHeartbeats 8000000
set_option maxRecDepth 100000
namespace Go.Proofs.YtbgnlfgkgklkdaaGreatDoor
open Go Go.RowKit Tryz
theorem qCx (n:Int) (w:World):Calls prog 70 #[.int .i64 n] w λe w'=>e=.returned (.bool (qCl n))∧w=w':=by
 go_enter func70,ntmps70;go_wp2_with (go_at_call 117;refine(qCm _ _ _ _).mono ?_;rintro e w' ⟨rfl,rfl⟩);go_ret;exact⟨rfl,rfl⟩
theorem qI8 (n:Int) (w:World):Calls prog 63 #[.int .i64 n] w λe w'=>e=.returned (.bool (qCl n))∧w=w':=by
 go_enter func63,ntmps63;go_wp2_with (go_at_call 96;refine(qDy _ _ _ _).mono ?_;rintro e w' ⟨rfl,rfl⟩);go_ret;exact⟨qU rfl,rfl⟩
structure qEg (e:qD):Prop where
 no:zC e.no 1 2000=false
 at1:qCl e.at_=true
 kind:zC e.kind 1 5=false
 form:qCq e=true
theorem qEg.fault {e:qD} (h:qEg e):qBm e=if qL e.team=false then 5 else 0:=by
 unfold qBm;rw [h.no,h.at1,h.kind,h.form];simp
theorem qDI {e:qD} (h:qBm e=0):qEg e∧qL e.team=true:=by
 unfold qBm at h
 split at h
 ·omega
 ·rename_i h1
  split at h
  ·omega
  ·rename_i h2
   split at h
   ·omega
   ·rename_i h3
    split at h
    ·omega
    ·rename_i h4
     simp only [not_or,Bool.not_eq_true,Bool.not_eq_false] at h1 h2 h3 h4;exact⟨⟨h2.1,h2.2,h3,h4⟩,h1⟩
theorem qHK {e:qD} (h:qCq e=true) (hk:zC e.kind 1 5=false) :
  (e.kind=1∧e.cab=qAH∧e.spc=qAi)∨(e.kind=2∧e.site=qED∧e.spc=qAi)∨(e.kind=3∧e.site=qED∧e.cab=qAH)∨(e.kind=4∧e.site=qED∧e.cab=qAH∧e.spc.loss=0) ∨
  (e.kind=5∧e.site=qED∧e.spc=qAi∧e.cab={ qAH with key:=e.cab.key }∧qL e.cab.key=true):=by
 obtain⟨k1,k2⟩:=qAU.1 hk;unfold qCq at h
 split at h
 ·rename_i hq;left;simpa [hq] using h
 ·split at h
  ·rename_i hq;right;left;simpa [hq] using h
  ·split at h
   ·rename_i hq;right;right;left;simpa [hq] using h
   ·split at h
    ·rename_i hq;right;right;right;left;simpa [hq] using h
    ·right;right;right;right
     refine⟨by omega,?_⟩
     simpa [and_assoc] using h
theorem qRJ (t:ByteArray) (n a:Int) (sk:ByteArray) (sd:Int) (w:World):Calls prog 172 #[.agg #[.string t,.int .i64 n,.int .i64 a,.int .i64 1,.string sk,.int .i64 sd,.string ⟨#[]⟩,.string ⟨#[]⟩,.string ⟨#[]⟩,.int .i64 0,.int .i64 0,.string ⟨#[]⟩,.string ⟨#[]⟩,.int .i64 0,.string ⟨#[]⟩,.int .i64 0,.int .i64 0]] w
  λx w'=>x=.returned (.agg #[.string t,.int .i64 n,.int .i64 a,.int .i64 1,.string ⟨#[]⟩,.int .i64 0,.string ⟨#[]⟩,.string ⟨#[]⟩,.string ⟨#[]⟩,.int .i64 0,.int .i64 0,.string ⟨#[]⟩,.string ⟨#[]⟩,.int .i64 0,.string ⟨#[]⟩,.int .i64 0,.int .i64 0])∧Below w.heap.size w w':=by
 (go_enter func172,ntmps172;go_wp2;(have hb:qC ((w.alloc (Obj.cells #[.string t,.int .i64 n,.int .i64 a,.int .i64 1,.string ⟨#[]⟩,.int .i64 0,.string ⟨#[]⟩,.string ⟨#[]⟩,.string ⟨#[]⟩,.int .i64 0,.int .i64 0,.string ⟨#[]⟩,.string ⟨#[]⟩,.int .i64 0,.string ⟨#[]⟩,.int .i64 0,.int .i64 0] 81)).alloc (.cells #[.string t,.int .i64 n,.int .i64 a,.int .i64 1,.string ⟨#[]⟩,.int .i64 0,.string ⟨#[]⟩,.string ⟨#[]⟩,.string ⟨#[]⟩,.int .i64 0,.int .i64 0,.string ⟨#[]⟩,.string ⟨#[]⟩,.int .i64 0,.string ⟨#[]⟩,.int .i64 0,.int .i64 0] 81)) (w.heap.size+1) #[.string t,.int .i64 n,.int .i64 a,.int .i64 1,.string ⟨#[]⟩,.int .i64 0,.string ⟨#[]⟩,.string ⟨#[]⟩,.string ⟨#[]⟩,.int .i64 0,.int .i64 0,.string ⟨#[]⟩,.string ⟨#[]⟩,.int .i64 0,.string ⟨#[]⟩,.int .i64 0,.int .i64 0] 81:=qC.newAt sI);(have hB:Below w.heap.size w ((w.alloc (Obj.cells #[.string t,.int .i64 n,.int .i64 a,.int .i64 1,.string ⟨#[]⟩,.int .i64 0,.string ⟨#[]⟩,.string ⟨#[]⟩,.string ⟨#[]⟩,.int .i64 0,.int .i64 0,.string ⟨#[]⟩,.string ⟨#[]⟩,.int .i64 0,.string ⟨#[]⟩,.int .i64 0,.int .i64 0] 81)).alloc (.cells #[.string t,.int .i64 n,.int .i64 a,.int .i64 1,.string ⟨#[]⟩,.int .i64 0,.string ⟨#[]⟩,.string ⟨#[]⟩,.string ⟨#[]⟩,.int .i64 0,.int .i64 0,.string ⟨#[]⟩,.string ⟨#[]⟩,.int .i64 0,.string ⟨#[]⟩,.int .i64 0,.int .i64 0] 81)):=qB (qB bR _ lR) _ sI);generalize ((w.alloc (Obj.cells #[.string t,.int .i64 n,.int .i64 a,.int .i64 1,.string ⟨#[]⟩,.int .i64 0,.string ⟨#[]⟩,.string ⟨#[]⟩,.string ⟨#[]⟩,.int .i64 0,.int .i64 0,.string ⟨#[]⟩,.string ⟨#[]⟩,.int .i64 0,.string ⟨#[]⟩,.int .i64 0,.int .i64 0] 81)).alloc (.cells #[.string t,.int .i64 n,.int .i64 a,.int .i64 1,.string ⟨#[]⟩,.int .i64 0,.string ⟨#[]⟩,.string ⟨#[]⟩,.string ⟨#[]⟩,.int .i64 0,.int .i64 0,.string ⟨#[]⟩,.string ⟨#[]⟩,.int .i64 0,.string ⟨#[]⟩,.int .i64 0,.int .i64 0] 81))=W at *;refine bodyPost_ret (v:=.agg #[.string t,.int .i64 n,.int .i64 a,.int .i64 1,.string ⟨#[]⟩,.int .i64 0,.string ⟨#[]⟩,.string ⟨#[]⟩,.string ⟨#[]⟩,.int .i64 0,.int .i64 0,.string ⟨#[]⟩,.string ⟨#[]⟩,.int .i64 0,.string ⟨#[]⟩,.int .i64 0,.int .i64 0]) ?_ rfl ⟨rfl,hB⟩;exact results_cell_row rfl _ _ (w.heap.size+1) _ _ (0,0) _ rfl hb underlying81 rfl kR)
theorem qQq (t:ByteArray) (n a:Int) (ck ca cb:ByteArray) (cl cf:Int) (w:World):Calls prog 172 #[.agg #[.string t,.int .i64 n,.int .i64 a,.int .i64 2,.string ⟨#[]⟩,.int .i64 0,.string ck,.string ca,.string cb,.int .i64 cl,.int .i64 cf,.string ⟨#[]⟩,.string ⟨#[]⟩,.int .i64 0,.string ⟨#[]⟩,.int .i64 0,.int .i64 0]] w
  λx w'=>x=.returned (.agg #[.string t,.int .i64 n,.int .i64 a,.int .i64 2,.string ⟨#[]⟩,.int .i64 0,.string ⟨#[]⟩,.string ⟨#[]⟩,.string ⟨#[]⟩,.int .i64 0,.int .i64 0,.string ⟨#[]⟩,.string ⟨#[]⟩,.int .i64 0,.string ⟨#[]⟩,.int .i64 0,.int .i64 0])∧Below w.heap.size w w':=by
 (go_enter func172,ntmps172;go_wp2;(have hb:qC ((w.alloc (Obj.cells #[.string t,.int .i64 n,.int .i64 a,.int .i64 2,.string ⟨#[]⟩,.int .i64 0,.string ⟨#[]⟩,.string ⟨#[]⟩,.string ⟨#[]⟩,.int .i64 0,.int .i64 0,.string ⟨#[]⟩,.string ⟨#[]⟩,.int .i64 0,.string ⟨#[]⟩,.int .i64 0,.int .i64 0] 81)).alloc (.cells #[.string t,.int .i64 n,.int .i64 a,.int .i64 2,.string ⟨#[]⟩,.int .i64 0,.string ⟨#[]⟩,.string ⟨#[]⟩,.string ⟨#[]⟩,.int .i64 0,.int .i64 0,.string ⟨#[]⟩,.string ⟨#[]⟩,.int .i64 0,.string ⟨#[]⟩,.int .i64 0,.int .i64 0] 81)) (w.heap.size+1) #[.string t,.int .i64 n,.int .i64 a,.int .i64 2,.string ⟨#[]⟩,.int .i64 0,.string ⟨#[]⟩,.string ⟨#[]⟩,.string ⟨#[]⟩,.int .i64 0,.int .i64 0,.string ⟨#[]⟩,.string ⟨#[]⟩,.int .i64 0,.string ⟨#[]⟩,.int .i64 0,.int .i64 0] 81:=qC.newAt sI);(have hB:Below w.heap.size w ((w.alloc (Obj.cells #[.string t,.int .i64 n,.int .i64 a,.int .i64 2,.string ⟨#[]⟩,.int .i64 0,.string ⟨#[]⟩,.string ⟨#[]⟩,.string ⟨#[]⟩,.int .i64 0,.int .i64 0,.string ⟨#[]⟩,.string ⟨#[]⟩,.int .i64 0,.string ⟨#[]⟩,.int .i64 0,.int .i64 0] 81)).alloc (.cells #[.string t,.int .i64 n,.int .i64 a,.int .i64 2,.string ⟨#[]⟩,.int .i64 0,.string ⟨#[]⟩,.string ⟨#[]⟩,.string ⟨#[]⟩,.int .i64 0,.int .i64 0,.string ⟨#[]⟩,.string ⟨#[]⟩,.int .i64 0,.string ⟨#[]⟩,.int .i64 0,.int .i64 0] 81)):=qB (qB bR _ lR) _ sI);generalize ((w.alloc (Obj.cells #[.string t,.int .i64 n,.int .i64 a,.int .i64 2,.string ⟨#[]⟩,.int .i64 0,.string ⟨#[]⟩,.string ⟨#[]⟩,.string ⟨#[]⟩,.int .i64 0,.int .i64 0,.string ⟨#[]⟩,.string ⟨#[]⟩,.int .i64 0,.string ⟨#[]⟩,.int .i64 0,.int .i64 0] 81)).alloc (.cells #[.string t,.int .i64 n,.int .i64 a,.int .i64 2,.string ⟨#[]⟩,.int .i64 0,.string ⟨#[]⟩,.string ⟨#[]⟩,.string ⟨#[]⟩,.int .i64 0,.int .i64 0,.string ⟨#[]⟩,.string ⟨#[]⟩,.int .i64 0,.string ⟨#[]⟩,.int .i64 0,.int .i64 0] 81))=W at *;refine bodyPost_ret (v:=.agg #[.string t,.int .i64 n,.int .i64 a,.int .i64 2,.string ⟨#[]⟩,.int .i64 0,.string ⟨#[]⟩,.string ⟨#[]⟩,.string ⟨#[]⟩,.int .i64 0,.int .i64 0,.string ⟨#[]⟩,.string ⟨#[]⟩,.int .i64 0,.string ⟨#[]⟩,.int .i64 0,.int .i64 0]) ?_ rfl ⟨rfl,hB⟩;exact results_cell_row rfl _ _ (w.heap.size+1) _ _ (0,0) _ rfl hb underlying81 rfl kR)
theorem qQM (t:ByteArray) (n a:Int) (ss xc yc:ByteArray) (xn yn lo:Int) (w:World):Calls prog 172 #[.agg #[.string t,.int .i64 n,.int .i64 a,.int .i64 3,.string ⟨#[]⟩,.int .i64 0,.string ⟨#[]⟩,.string ⟨#[]⟩,.string ⟨#[]⟩,.int .i64 0,.int .i64 0,.string ss,.string xc,.int .i64 xn,.string yc,.int .i64 yn,.int .i64 lo]] w
  λx w'=>x=.returned (.agg #[.string t,.int .i64 n,.int .i64 a,.int .i64 3,.string ⟨#[]⟩,.int .i64 0,.string ⟨#[]⟩,.string ⟨#[]⟩,.string ⟨#[]⟩,.int .i64 0,.int .i64 0,.string ⟨#[]⟩,.string ⟨#[]⟩,.int .i64 0,.string ⟨#[]⟩,.int .i64 0,.int .i64 0])∧Below w.heap.size w w':=by
 (go_enter func172,ntmps172;go_wp2;(have hb:qC ((w.alloc (Obj.cells #[.string t,.int .i64 n,.int .i64 a,.int .i64 3,.string ⟨#[]⟩,.int .i64 0,.string ⟨#[]⟩,.string ⟨#[]⟩,.string ⟨#[]⟩,.int .i64 0,.int .i64 0,.string ⟨#[]⟩,.string ⟨#[]⟩,.int .i64 0,.string ⟨#[]⟩,.int .i64 0,.int .i64 0] 81)).alloc (.cells #[.string t,.int .i64 n,.int .i64 a,.int .i64 3,.string ⟨#[]⟩,.int .i64 0,.string ⟨#[]⟩,.string ⟨#[]⟩,.string ⟨#[]⟩,.int .i64 0,.int .i64 0,.string ⟨#[]⟩,.string ⟨#[]⟩,.int .i64 0,.string ⟨#[]⟩,.int .i64 0,.int .i64 0] 81)) (w.heap.size+1) #[.string t,.int .i64 n,.int .i64 a,.int .i64 3,.string ⟨#[]⟩,.int .i64 0,.string ⟨#[]⟩,.string ⟨#[]⟩,.string ⟨#[]⟩,.int .i64 0,.int .i64 0,.string ⟨#[]⟩,.string ⟨#[]⟩,.int .i64 0,.string ⟨#[]⟩,.int .i64 0,.int .i64 0] 81:=qC.newAt sI);(have hB:Below w.heap.size w ((w.alloc (Obj.cells #[.string t,.int .i64 n,.int .i64 a,.int .i64 3,.string ⟨#[]⟩,.int .i64 0,.string ⟨#[]⟩,.string ⟨#[]⟩,.string ⟨#[]⟩,.int .i64 0,.int .i64 0,.string ⟨#[]⟩,.string ⟨#[]⟩,.int .i64 0,.string ⟨#[]⟩,.int .i64 0,.int .i64 0] 81)).alloc (.cells #[.string t,.int .i64 n,.int .i64 a,.int .i64 3,.string ⟨#[]⟩,.int .i64 0,.string ⟨#[]⟩,.string ⟨#[]⟩,.string ⟨#[]⟩,.int .i64 0,.int .i64 0,.string ⟨#[]⟩,.string ⟨#[]⟩,.int .i64 0,.string ⟨#[]⟩,.int .i64 0,.int .i64 0] 81)):=qB (qB bR _ lR) _ sI);generalize ((w.alloc (Obj.cells #[.string t,.int .i64 n,.int .i64 a,.int .i64 3,.string ⟨#[]⟩,.int .i64 0,.string ⟨#[]⟩,.string ⟨#[]⟩,.string ⟨#[]⟩,.int .i64 0,.int .i64 0,.string ⟨#[]⟩,.string ⟨#[]⟩,.int .i64 0,.string ⟨#[]⟩,.int .i64 0,.int .i64 0] 81)).alloc (.cells #[.string t,.int .i64 n,.int .i64 a,.int .i64 3,.string ⟨#[]⟩,.int .i64 0,.string ⟨#[]⟩,.string ⟨#[]⟩,.string ⟨#[]⟩,.int .i64 0,.int .i64 0,.string ⟨#[]⟩,.string ⟨#[]⟩,.int .i64 0,.string ⟨#[]⟩,.int .i64 0,.int .i64 0] 81))=W at *;refine bodyPost_ret (v:=.agg #[.string t,.int .i64 n,.int .i64 a,.int .i64 3,.string ⟨#[]⟩,.int .i64 0,.string ⟨#[]⟩,.string ⟨#[]⟩,.string ⟨#[]⟩,.int .i64 0,.int .i64 0,.string ⟨#[]⟩,.string ⟨#[]⟩,.int .i64 0,.string ⟨#[]⟩,.int .i64 0,.int .i64 0]) ?_ rfl ⟨rfl,hB⟩;exact results_cell_row rfl _ _ (w.heap.size+1) _ _ (0,0) _ rfl hb underlying81 rfl kR)
end Go.Proofs.YtbgnlfgkgklkdaaGreatDoor
