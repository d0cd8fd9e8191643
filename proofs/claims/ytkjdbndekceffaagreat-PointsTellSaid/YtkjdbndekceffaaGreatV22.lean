/- The law PointsTell answers true at every input, and leaves its arguments as they were. No conditions. -/
import Derived.Test.YtkjdbndekceffaaGreatRows
import Derived.Test.YtkjdbndekceffaaGreatV21
set_option linter.unusedSimpArgs false
set_option linter.unusedVariables false
set_option maxRecDepth 100000
set_option maxHeartbeats 16000000
namespace Go.Proofs.YtkjdbndekceffaaGreat.pointsTell
open Go.ChangeShapes Go.WideShapes Go.ChangeAt Go.RowKit
open Go.ChangeMaps (open_string shut_string)
theorem own:ownKnob Tryz.prog.godebug=none:=aL
theorem laidOut:laidOutB Tryz.prog=true:=aL
theorem walk (a0:Option Addr) (OM Oa:Nat) (l0:List (Vp)) (w:World) (e0:l0.length=OM) (r0:bV OG 10 w a0 l0) (m0:OM<=Oa/\Oa<=maxLen) (f0:∀x∈l0,Vq x):
  aK 6 #[.slice a0 OM Oa] w (gD w (.bool true)):=by
 exact Ju a0 l0 OM Oa w e0 r0 f0 m0.1
theorem lifted (os:Os) (started:os.Started) (H:Type) (enc:TypeId×Value->H):
  ReturnsInHanded {} Tryz.checked os 6 .any (Rows.pointsTellSpec.pre6 enc Tryz.prog Tryz.f6 Rows.pointsTellRow.domain false) (Rows.pointsTellSpec.post enc Tryz.prog Tryz.f6 false true false false):=by
 refine returnsInHanded_of_change (C:=Tryz.checked) own started aL Tryz.func6
  (ChangeSpec.witness6 (enc:=enc) (C:=Tryz.checked) false ⟨#[],#[aM],[]⟩ 8 aL aL aL aL) ?_
 intro W base args ds gs before Ud hW hcnd _;have hval:∀(j:Nat) t v,Tryz.f6.params[j]? =some t->args[j]? =some v->Value.okWide Tryz.prog W .any base t v:=Ud;have XN:=hW;obtain⟨p,q,XD,hV,rfl,XU,XR⟩:=hW;have hA:DataW.TrodAll enc Tryz.prog W 0 (fun _=>true) true Tryz.f6.params.toList args.toList ds p:=XD;rw[Tryz.params6]at hA hval;obtain⟨v0,XV,d0,XW,p0,q0,Xu,rfl,rfl,h0,Xt⟩:=trodAll_cons hA;obtain⟨rfl,rfl,rfl⟩:=trodAll_nil Xt;obtain rfl:args=#[v0]:=by cases args;simp_all
 obtain⟨rfl,rfl⟩:=trodVars_none hV;obtain⟨a0,OM,Oa,rfl⟩:=okWide_slice Tryz.underlying47 (hval 0 47 v0 rfl rfl);have k0:=h0;have XQ:∀x∈p0,x.block<W.heap.size:=by obtain⟨m,hm⟩:=k0;exact DataW.trod_lt m _ _ _ hm
 obtain⟨XE,hf⟩:=h0;simp only[Value.cells]at hf;obtain⟨l0,e0,r0,m0,n0,f0⟩:=Ls hf;clear hf;clear XD Ud;refine(walk a0 OM Oa l0 W e0 r0 ⟨m0,n0⟩ f0).mono fun e W' ⟨he,XF⟩=>?_;subst he;exact⟨_,rfl,_,_,_,[],_,[],XN,trodAll_mk1 (shut_bool qy _),(trodAll_cons_mk (Below.trod laidOut aL (FD aL) k0 XF XQ) trodAll_mk0),rfl,XF.frame _,fun h=>by cases h⟩
theorem j1:Tryz.pinned.checked.prog.inPlace 6=Rows.pointsTellRow.inPlace:=aL
theorem j2:Tryz.pinned.checked.prog.unfollowed 6=Rows.pointsTellRow.unfollowed:=aL
theorem j3:Tryz.pinned.checked.prog.recurses 6=Rows.pointsTellRow.recurses:=aL
theorem j4:Tryz.pinned.checked.prog.varsNamed 6=Rows.pointsTellRow.named:=aL
theorem j5:laidOutB Tryz.pinned.checked.prog=true:=aL
theorem j6:mapsRowed Tryz.pinned.checked.prog=true:=aL
theorem j7:joinedFacts Tryz.pinned.checked.prog 6 Tryz.f6 Rows.pointsTellSpec Rows.pointsTellRow=true:=by unfold joinedFacts;rw[j1,j2,j3,j4,j5,j6];kernel_rfl
theorem j8:Tryz.pinned.checked.prog.funcNamed Rows.pointsTellRow.func=some 6:=aL
theorem over:Rows.pointsTellRow.holds Tryz.pinned (OpenSpec.ofChange Rows.pointsTellSpec):=
 OpenClaim.holds_of_wide 6 Tryz.f6 rfl rfl rfl rfl rfl rfl rfl ⟨rfl,rfl,rfl,rfl,rfl⟩ rfl rfl rfl rfl rfl j8 Tryz.func6 j7
  (FD aL) (by unfold Func.isWrapper;first|(rw[aO (by decide+kernel)];kernel_rfl)|(rw[aN (by decide+kernel)];exact⟨rfl,rfl⟩))
  (fun os started H enc _=>lifted os started H enc)
theorem proved:Rows.PointsTellSaid:=over
#print axioms proved
end Go.Proofs.YtkjdbndekceffaaGreat.pointsTell
