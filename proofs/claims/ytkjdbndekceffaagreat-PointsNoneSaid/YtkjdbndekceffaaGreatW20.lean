/- The law PointsNone answers true at every input, and leaves its arguments as they were. No conditions. -/
import Derived.Test.YtkjdbndekceffaaGreatRows
import Derived.Test.YtkjdbndekceffaaGreatW19
set_option linter.unusedSimpArgs false
set_option linter.unusedVariables false
set_option maxRecDepth 100000
set_option maxHeartbeats 16000000
namespace Go.Proofs.YtkjdbndekceffaaGreat.pointsNone
open Go.ChangeShapes Go.WideShapes Go.ChangeAt Go.RowKit
open Go.ChangeMaps (open_string shut_string)
theorem own:ownKnob Tryz.prog.godebug=none:=by kernel_rfl
theorem laidOut:laidOutB Tryz.prog=true:=by kernel_rfl
theorem walk (a0:Int×Int×Int) (a1:Bx) (w:World) (w0:(Lit.int .i64 a0.1).wf=true/\(Lit.int .i64 a0.2.1).wf=true/\(Lit.int .u32 a0.2.2).wf=true) (w1:a1.wf):
  aH 8 #[iD a0.1 a0.2.1 a0.2.2,UM a1] w (eY w (.bool true)):=by
 obtain⟨b1,b2,b3,b4,b5⟩:=a1;exact Gw a0.1 a0.2.1 a0.2.2 b1 b2 b3 b4 b5 w
theorem lifted (os:Os) (started:os.Started) (H:Type) (enc:TypeId×Value->H):
  ReturnsInHanded {} Tryz.checked os 8 .any (Rows.pointsNoneSpec.pre6 enc Tryz.prog Tryz.f8 Rows.pointsNoneRow.domain false) (Rows.pointsNoneSpec.post enc Tryz.prog Tryz.f8 false true false false):=by
 refine returnsInHanded_of_change (C:=Tryz.checked) own started (by kernel_rfl) Tryz.func8
  (ChangeSpec.witness6 (enc:=enc) (C:=Tryz.checked) false ⟨#[],#[.agg #[aa 0,aa 0,ai 0],.agg #[aa 0,aa 0,aa 0,aa 0,ai 0]],[]⟩ 8 (by kernel_rfl) (by kernel_rfl) (by kernel_rfl) (by kernel_rfl)) ?_
 intro W base args ds gs before QX hW hcnd _;have hval:∀(j:Nat) t v,Tryz.f8.params[j]? =some t->args[j]? =some v->Value.okWide Tryz.prog W .any base t v:=QX;have UZ:=hW;obtain⟨p,q,UR,hV,rfl,U7,U5⟩:=hW;have hA:DataW.TrodAll enc Tryz.prog W 0 (fun _=>true) true Tryz.f8.params.toList args.toList ds p:=UR;rw[Tryz.params8]at hA hval;obtain⟨v0,U8,d0,U9,p0,q0,UH,rfl,rfl,h0,UE⟩:=trodAll_cons hA;obtain⟨v1,Va,d1,Vb,p1,q1,rfl,rfl,rfl,h1,UF⟩:=trodAll_cons UE;obtain⟨rfl,rfl,rfl⟩:=trodAll_nil UF;obtain rfl:args=#[v0,v1]:=by cases args;simp_all
 obtain⟨rfl,rfl⟩:=trodVars_none hV;obtain⟨a0,rfl,w0⟩:=Io (hval 0 29 v0 rfl rfl) h0;have k0:=h0;have U3:∀x∈p0,x.block<W.heap.size:=by obtain⟨m,hm⟩:=k0;exact DataW.trod_lt m _ _ _ hm
 obtain⟨a1,rfl,w1⟩:=Ns (hval 1 38 v1 rfl rfl) h1;have k1:=h1;have U4:∀x∈p1,x.block<W.heap.size:=by obtain⟨m,hm⟩:=k1;exact DataW.trod_lt m _ _ _ hm
 clear UR QX;refine(walk a0 a1 W w0 w1).mono fun e W' ⟨he,UG⟩=>?_;subst he;exact⟨_,rfl,_,_,_,[],_,[],UZ,trodAll_mk1 (shut_bool oG _),(trodAll_cons_mk (Below.trod laidOut (by kernel_rfl) (Dl (by kernel_rfl)) k0 UG U3) (trodAll_cons_mk (Below.trod laidOut (by kernel_rfl) (Dl (by kernel_rfl)) k1 UG U4) trodAll_mk0)),rfl,UG.frame _,fun h=>by cases h⟩
theorem j1:Tryz.pinned.checked.prog.inPlace 8=Rows.pointsNoneRow.inPlace:=by kernel_rfl
theorem j2:Tryz.pinned.checked.prog.unfollowed 8=Rows.pointsNoneRow.unfollowed:=by kernel_rfl
theorem j3:Tryz.pinned.checked.prog.recurses 8=Rows.pointsNoneRow.recurses:=by kernel_rfl
theorem j4:Tryz.pinned.checked.prog.varsNamed 8=Rows.pointsNoneRow.named:=by kernel_rfl
theorem j5:laidOutB Tryz.pinned.checked.prog=true:=by kernel_rfl
theorem j6:mapsRowed Tryz.pinned.checked.prog=true:=by kernel_rfl
theorem j7:joinedFacts Tryz.pinned.checked.prog 8 Tryz.f8 Rows.pointsNoneSpec Rows.pointsNoneRow=true:=by unfold joinedFacts;rw[j1,j2,j3,j4,j5,j6];kernel_rfl
theorem j8:Tryz.pinned.checked.prog.funcNamed Rows.pointsNoneRow.func=some 8:=by kernel_rfl
theorem over:Rows.pointsNoneRow.holds Tryz.pinned (OpenSpec.ofChange Rows.pointsNoneSpec):=
 OpenClaim.holds_of_wide 8 Tryz.f8 rfl rfl rfl rfl rfl rfl rfl ⟨rfl,rfl,rfl,rfl,rfl⟩ rfl rfl rfl rfl rfl j8 Tryz.func8 j7
  (Dl (by kernel_rfl)) (by unfold Func.isWrapper;first|(rw[aK (by decide+kernel)];kernel_rfl)|(rw[aI (by decide+kernel)];exact⟨rfl,rfl⟩))
  (fun os started H enc _=>lifted os started H enc)
theorem proved:Rows.PointsNoneSaid:=over
#print axioms proved
end Go.Proofs.YtkjdbndekceffaaGreat.pointsNone
