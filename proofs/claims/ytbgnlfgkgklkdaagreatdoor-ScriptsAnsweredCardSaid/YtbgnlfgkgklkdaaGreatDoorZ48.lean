/- Parts of the proof of ScriptsAnswered: SsP. No condition. -/
import Derived.Test.YtbgnlfgkgklkdaaGreatDoorZ53
set_option linter.unusedVariables false
set_option linter.unusedSimpArgs false
set_option maxHeartbeats 8000000
set_option maxRecDepth 100000
namespace Go.Proofs.YtbgnlfgkgklkdaaGreatDoor
open Go Go.RowKit Tryz
theorem qQ4 (l:List qD) (i j:Nat) (hi:i<l.length) (hj:j<l.length) (vb:Nat) (v:Value) (t:TypeId) (w:World) (hv:qC w vb #[v] t) (hA:qI qD.cells 17 w l v) :
  Calls prog 170 #[.int .i64 i,.int .i64 j,.pointer (some ⟨vb,0,none⟩)] w λe w'=>e=.returned (.int .i64 (cIx l i j))∧Gr w w':=by
 obtain⟨a,cap,rfl,hcap,hmax,hc⟩:=hA;obtain⟨b,off,rfl,hb,hci⟩:=hc i hi;obtain⟨b',off',he,hb',hcj⟩:=hc j hj;simp only [Option.some.injEq,Addr.mk.injEq,and_true] at he;obtain⟨rfl,rfl⟩:=he;have hx:cIx l i j=atE l[i] l[j]:=by unfold cIx;rw [qBV hi,qBV hj]
 rw [hx];have e1:w.rangeAt b (off+i*17) l[i].cells:=hci;have e2:w.rangeAt b (off+j*17) l[j].cells:=hcj;have a1:w.cell? ⟨b,off+i*17+2,none⟩=some (.int .i64 l[i].at_):=hci 2 _ rfl;have a2:w.cell? ⟨b,off+j*17+2,none⟩=some (.int .i64 l[j].at_):=hcj 2 _ rfl;generalize l[i]=x at *;generalize l[j]=y at *;have v0:=hv.cell 0 (.slice (some ⟨b,off,none⟩) l.length cap) rfl;have hi':(i:Int)<l.length:=by omega
 have hj':(j:Int)<l.length:=by omega
 have hS:w.drew.cell? ⟨vb,0,none⟩=some (.slice (some ⟨b,off,none⟩) l.length cap)∧w.drew.cell? ⟨b,off+i*17+2,none⟩=some (.int .i64 x.at_)∧w.drew.cell? ⟨b,off+j*17+2,none⟩=some (.int .i64 y.at_)∧w.drew.rangeAt b (off+i*17) x.cells∧w.drew.rangeAt b (off+j*17) y.cells:=⟨v0,a1,a2,e1,e2⟩;have HG:Hx (Gr w w.drew):=⟨Gr.drew (Gr.refl w)⟩;clear v0 e1 e2 a1 a2 hv hc hci hcj hx hb hb';go_enter func170,ntmps170;go_wp2_with fail;refine qA.start (λW=>W.cell? ⟨vb,0,none⟩=some (.slice (some ⟨b,off,none⟩) l.length cap)∧W.cell? ⟨b,off+i*17+2,none⟩=some (.int .i64 x.at_)∧W.cell? ⟨b,off+j*17+2,none⟩=some (.int .i64 y.at_)∧W.rangeAt b (off+i*17) x.cells∧W.rangeAt b (off+j*17) y.cells) [19,20,21] kR ?_;generalize w.drew=W1 at *;refine qA.t 0 hS ?_;refine qA.q 1 ?_;refine qA.q 2 ?_;refine qA.q 3 ?_;refine qA.t 4 hS ?_;refine qA.t 5 hS ?_;refine qA.q 6 ?_;refine qA.q 7 ?_;refine qA.q 8 ?_;refine qA.t 9 hS ?_;refine qA.t 11 hS ?_;refine qA.q 12 ?_;refine qA.q 13 ?_;refine qA.take (i:=14) (v:=.agg ↑x) rfl kR kR kR kR (λ_ _ _ h=>h) hS (yieldsIf_load_mid (by first|rfl|(go_simp;done)) 81 _ rfl (b) (off+i*17) rF ↑x _ (λ_ h=>h.2.2.2.1) underlying81 rfl kR) ?_;try simp only [Act.put,zL,zN,zH,zM,zK,zI]
 refine qA.t 15 hS ?_;refine qA.q 16 ?_;refine qA.q 17 ?_;refine qA.take (i:=18) (v:=.agg ↑y) rfl kR kR kR kR (λ_ _ _ h=>h) hS (yieldsIf_load_mid (by first|rfl|(go_simp;done)) 81 _ rfl (b) (off+j*17) rF ↑y _ (λ_ h=>h.2.2.2.2) underlying81 rfl kR) ?_;try simp only [Act.put,zL,zN,zH,zM,zK,zI]
 refine qA.nx 10 λK hK=>?_;go_simp
 refine(qFl _ _ _).mono ?_;rintro e w1 ⟨rfl,rfl⟩;refine qA.on hK (λ_ h=>h) ?_;clear hK K;clear hS;refine qA.nx 19 λK hK=>?_;go_simp
 refine(qDl x y _).mono ?_;rintro e w2 ⟨rfl,hg2⟩;refine qA.o hK ?_;clear hK K;refine qA.nx 20 λK hK=>?_;go_simp
 refine qA.o hK ?_;clear hK K;refine qA.nx 21 λK hK=>?_;go_simp
 refine(qF5 _ [qBt x.at_ y.at_,qP x y] _ (by exact qI.litAt (cells:=qA6) (sz:=1) (λ_=>rfl) (by first|rfl|simp) rF rF (by simp [maxLen]))).mono ?_;rintro e w3 ⟨rfl,rfl⟩;refine qA.o hK ?_;clear hK K;refine qA.q 22 ?_;refine qA.done kR ?_;go_wp2;go_ret;exact⟨qN (by rw [qFa];rfl),(HG.o.trans hg2).alloc _⟩
end Go.Proofs.YtbgnlfgkgklkdaaGreatDoor
