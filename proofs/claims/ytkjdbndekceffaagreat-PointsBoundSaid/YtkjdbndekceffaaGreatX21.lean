/- The law PointsBound answers true at every input, and leaves its arguments as they were. No conditions. -/
import Derived.Test.YtkjdbndekceffaaGreatRows
import Derived.Test.YtkjdbndekceffaaGreatX20
set_option linter.unusedSimpArgs false
set_option linter.unusedVariables false
set_option maxRecDepth 100000
set_option maxHeartbeats 16000000
namespace Go.Proofs.YtkjdbndekceffaaGreat.pointsBound
open Go.ChangeShapes Go.WideShapes Go.ChangeAt Go.RowKit
open Go.ChangeMaps (open_string shut_string)
theorem own:ownKnob Tryz.prog.godebug=none:=aM
theorem laidOut:laidOutB Tryz.prog=true:=aM
theorem walk (a0:Option Addr) (NF M6:Nat) (l0:List (Qx)) (w:World) (e0:l0.length=NF) (r0:bY FV 10 w a0 l0) (m0:NF<=M6/\M6<=maxLen) (f0:∀x∈l0,UB x):
  aK 7 #[.slice a0 NF M6] w (fw w (.bool true)):=by
 exact FW a0 l0 NF M6 w e0 r0 f0 m0.1
theorem lifted (os:Os) (started:os.Started) (H:Type) (enc:TypeId×Value->H):
  ReturnsInHanded {} Tryz.checked os 7 .any (Rows.pointsBoundSpec.pre6 enc Tryz.prog Tryz.f7 Rows.pointsBoundRow.domain false) (Rows.pointsBoundSpec.post enc Tryz.prog Tryz.f7 false true false false):=by
 refine returnsInHanded_of_change (C:=Tryz.checked) own started aM Tryz.func7
  (ChangeSpec.witness6 (enc:=enc) (C:=Tryz.checked) false ⟨#[],#[aL],[]⟩ 8 aM aM aM aM) ?_
 intro W base args ds gs before VC hW hcnd _;have hval:∀(j:Nat) t v,Tryz.f7.params[j]? =some t->args[j]? =some v->Value.okWide Tryz.prog W .any base t v:=VC;have WB:=hW;obtain⟨p,q,WG,hV,rfl,WK,WI⟩:=hW;have hA:DataW.TrodAll enc Tryz.prog W 0 (fun _=>true) true Tryz.f7.params.toList args.toList ds p:=WG;rw[Tryz.params7]at hA hval;obtain⟨v0,WL,d0,WM,p0,q0,Wh,rfl,rfl,h0,We⟩:=trodAll_cons hA;obtain⟨rfl,rfl,rfl⟩:=trodAll_nil We;obtain rfl:args=#[v0]:=by cases args;simp_all
 obtain⟨rfl,rfl⟩:=trodVars_none hV;obtain⟨a0,NF,M6,rfl⟩:=okWide_slice Tryz.underlying47 (hval 0 47 v0 rfl rfl);have k0:=h0;have WH:∀x∈p0,x.block<W.heap.size:=by obtain⟨m,hm⟩:=k0;exact DataW.trod_lt m _ _ _ hm
 have⟨Ws,hf⟩:=h0;simp only[Value.cells]at hf;have⟨l0,e0,r0,m0,n0,f0⟩:=KA hf;refine(walk a0 NF M6 l0 W e0 r0 ⟨m0,n0⟩ f0).mono fun e W' ⟨he,Wt⟩=>?_;subst he;exact⟨_,rfl,_,_,_,[],_,[],WB,trodAll_mk1 (shut_bool pI _),(trodAll_cons_mk (Below.trod laidOut aM (of_decide_eq_true aM) k0 Wt WH) trodAll_mk0),rfl,Wt.frame _,fun h=>by cases h⟩
theorem j1:Tryz.pinned.checked.prog.inPlace 7=Rows.pointsBoundRow.inPlace:=aM
theorem j2:Tryz.pinned.checked.prog.unfollowed 7=Rows.pointsBoundRow.unfollowed:=aM
theorem j3:Tryz.pinned.checked.prog.recurses 7=Rows.pointsBoundRow.recurses:=aM
theorem j4:Tryz.pinned.checked.prog.varsNamed 7=Rows.pointsBoundRow.named:=aM
theorem j5:laidOutB Tryz.pinned.checked.prog=true:=aM
theorem j6:mapsRowed Tryz.pinned.checked.prog=true:=aM
theorem j7:joinedFacts Tryz.pinned.checked.prog 7 Tryz.f7 Rows.pointsBoundSpec Rows.pointsBoundRow=true:=by unfold joinedFacts;rw[j1,j2,j3,j4,j5,j6];kernel_rfl
theorem j8:Tryz.pinned.checked.prog.funcNamed Rows.pointsBoundRow.func=some 7:=aM
theorem over:Rows.pointsBoundRow.holds Tryz.pinned (OpenSpec.ofChange Rows.pointsBoundSpec):=
 OpenClaim.holds_of_wide 7 Tryz.f7 rfl rfl rfl rfl rfl rfl rfl ⟨rfl,rfl,rfl,rfl,rfl⟩ rfl rfl rfl rfl rfl j8 Tryz.func7 j7
  (of_decide_eq_true aM) (by unfold Func.isWrapper;first|(rw[aO (by decide+kernel)];kernel_rfl)|(rw[aN (by decide+kernel)];exact⟨rfl,rfl⟩))
  (fun os started H enc _=>lifted os started H enc)
theorem proved:Rows.PointsBoundSaid:=over
#print axioms proved
end Go.Proofs.YtkjdbndekceffaaGreat.pointsBound
