/- The law PointsSky answers true at every input, and leaves its arguments as they were. No conditions. -/
import Derived.Test.YtkjdbndekceffaaGreatRows
import Derived.Test.YtkjdbndekceffaaGreatY19
set_option linter.unusedSimpArgs false
set_option linter.unusedVariables false
set_option maxRecDepth 100000
set_option maxHeartbeats 16000000
namespace Go.Proofs.YtkjdbndekceffaaGreat.pointsSky
open Go.ChangeShapes Go.WideShapes Go.ChangeAt Go.RowKit
open Go.ChangeMaps (open_string shut_string)
theorem own:ownKnob Tryz.prog.godebug=none:=aN
theorem laidOut:laidOutB Tryz.prog=true:=aN
theorem walk (a0:Option Addr) (Np MN:Nat) (l0:List (RB)) (w:World) (e0:l0.length=Np) (r0:bV Fy 10 w a0 l0) (m0:Np<=MN/\MN<=maxLen) (f0:∀x∈l0,Uc x):
  aK 4 #[.slice a0 Np MN] w (fV w (.bool true)):=by
 exact J5 a0 l0 Np MN w e0 r0 f0 m0.1
theorem lifted (os:Os) (started:os.Started) (H:Type) (enc:TypeId×Value->H):
  ReturnsInHanded {} Tryz.checked os 4 .any (Rows.pointsSkySpec.pre6 enc Tryz.prog Tryz.f4 Rows.pointsSkyRow.domain false) (Rows.pointsSkySpec.post enc Tryz.prog Tryz.f4 false true false false):=by
 refine returnsInHanded_of_change (C:=Tryz.checked) own started aN Tryz.func4
  (ChangeSpec.witness6 (enc:=enc) (C:=Tryz.checked) false ⟨#[],#[aL],[]⟩ 8 aN aN aN aN) ?_
 intro W base args ds gs before Sg hW hcnd _;have hval:∀(j:Nat) t v,Tryz.f4.params[j]? =some t->args[j]? =some v->Value.okWide Tryz.prog W .any base t v:=Sg;have Wi:=hW;obtain⟨p,q,V3,hV,rfl,Wq,Wo⟩:=hW;have hA:DataW.TrodAll enc Tryz.prog W 0 (fun _=>true) true Tryz.f4.params.toList args.toList ds p:=V3;rw[Tryz.params4]at hA hval;obtain⟨v0,Ws,d0,Wt,p0,q0,VR,rfl,rfl,h0,VQ⟩:=trodAll_cons hA;obtain⟨rfl,rfl,rfl⟩:=trodAll_nil VQ;obtain rfl:args=#[v0]:=by cases args;simp_all
 obtain⟨rfl,rfl⟩:=trodVars_none hV;obtain⟨a0,Np,MN,rfl⟩:=okWide_slice Tryz.underlying47 (hval 0 47 v0 rfl rfl);have k0:=h0;have Wn:∀x∈p0,x.block<W.heap.size:=by obtain⟨m,hm⟩:=k0;exact DataW.trod_lt m _ _ _ hm
 obtain⟨V4,hf⟩:=h0;simp only[Value.cells]at hf;obtain⟨l0,e0,r0,m0,n0,f0⟩:=J6 hf;clear hf;clear V3 Sg;refine(walk a0 Np MN l0 W e0 r0 ⟨m0,n0⟩ f0).mono fun e W' ⟨he,V5⟩=>?_;subst he;exact⟨_,rfl,_,_,_,[],_,[],Wi,trodAll_mk1 (shut_bool pK _),(trodAll_cons_mk (Below.trod laidOut aN (of_decide_eq_true aN) k0 V5 Wn) trodAll_mk0),rfl,V5.frame _,fun h=>by cases h⟩
theorem j1:Tryz.pinned.checked.prog.inPlace 4=Rows.pointsSkyRow.inPlace:=aN
theorem j2:Tryz.pinned.checked.prog.unfollowed 4=Rows.pointsSkyRow.unfollowed:=aN
theorem j3:Tryz.pinned.checked.prog.recurses 4=Rows.pointsSkyRow.recurses:=aN
theorem j4:Tryz.pinned.checked.prog.varsNamed 4=Rows.pointsSkyRow.named:=aN
theorem j5:laidOutB Tryz.pinned.checked.prog=true:=aN
theorem j6:mapsRowed Tryz.pinned.checked.prog=true:=aN
theorem j7:joinedFacts Tryz.pinned.checked.prog 4 Tryz.f4 Rows.pointsSkySpec Rows.pointsSkyRow=true:=by unfold joinedFacts;rw[j1,j2,j3,j4,j5,j6];kernel_rfl
theorem j8:Tryz.pinned.checked.prog.funcNamed Rows.pointsSkyRow.func=some 4:=aN
theorem over:Rows.pointsSkyRow.holds Tryz.pinned (OpenSpec.ofChange Rows.pointsSkySpec):=
 OpenClaim.holds_of_wide 4 Tryz.f4 rfl rfl rfl rfl rfl rfl rfl ⟨rfl,rfl,rfl,rfl,rfl⟩ rfl rfl rfl rfl rfl j8 Tryz.func4 j7
  (of_decide_eq_true aN) (by unfold Func.isWrapper;first|(rw[aO (by decide+kernel)];kernel_rfl)|(rw[aM (by decide+kernel)];exact⟨rfl,rfl⟩))
  (fun os started H enc _=>lifted os started H enc)
theorem proved:Rows.PointsSkySaid:=over
#print axioms proved
end Go.Proofs.YtkjdbndekceffaaGreat.pointsSky
