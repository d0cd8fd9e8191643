/- The law TopStatic answers true at every input, and leaves its arguments as they were. No conditions. -/
import Derived.Test.YtkjdbndekceffaaGreatV00
import Derived.Test.YtkjdbndekceffaaGreatRows
import Derived.Test.YtkjdbndekceffaaGreatV17
set_option linter.unusedSimpArgs false
set_option linter.unusedVariables false
set_option maxRecDepth 100000
set_option maxHeartbeats 16000000
namespace Go.Proofs.YtkjdbndekceffaaGreat.topStatic
open Go.ChangeShapes Go.WideShapes Go.ChangeAt Go.RowKit
open Go.ChangeMaps (open_string shut_string)
theorem own:ownKnob Tryz.prog.godebug=none:=by kernel_rfl
theorem laidOut:laidOutB Tryz.prog=true:=by kernel_rfl
theorem walk (a0:Option Addr) (VS VT:Nat) (l0:List (Mv)) (a1:Bx) (a2:Int) (w:World) (e0:l0.length=VS) (r0:dU eMv 4 w a0 l0) (m0:VS<=VT/\VT<=maxLen) (f0:∀x∈l0,(Lit.int .i64 x.2.1).wf=true/\(Lit.int .i64 x.2.2.1).wf=true/\(Lit.int .u32 x.2.2.2).wf=true) (w1:a1.wf) (w2:(Lit.int .u8 a2).wf=true):
  aO 9 #[.slice a0 VS VT,vBx a1,.int .u8 a2] w (iX w (.bool true)):=by
 obtain⟨b1,b2,b3,b4,b5⟩:=a1;exact Q7 a0 l0 VS VT b1 b2 b3 b4 b5 a2 w e0 r0 (fun m hm=>f0 m hm) m0.1 (by simp[Lit.wf,IntKind.min,IntKind.max,IntKind.signed,IntKind.bits]at w2;omega)
theorem lifted (os:Os) (started:os.Started) (H:Type) (enc:TypeId×Value->H):
  ReturnsInHanded {} Tryz.checked os 9 .any (Rows.topStaticSpec.pre6 enc Tryz.prog Tryz.f9 Rows.topStaticRow.domain false) (Rows.topStaticSpec.post enc Tryz.prog Tryz.f9 false true false false):=by
 refine returnsInHanded_of_change (C:=Tryz.checked) own started (by kernel_rfl) Tryz.func9
  (ChangeSpec.witness6 (enc:=enc) (C:=Tryz.checked) false ⟨#[],#[aN,.agg #[ag 0,ag 0,ag 0,ag 0,aJ 0],.int .u8 0],[]⟩ 8 (by kernel_rfl) (by kernel_rfl) (by kernel_rfl) (by kernel_rfl)) ?_
 intro W base args ds gs before afX hW hcnd _;have hval:∀(j:Nat) t v,Tryz.f9.params[j]? =some t->args[j]? =some v->Value.okWide Tryz.prog W .any base t v:=afX;have ZF:=hW;obtain⟨p,q,hA0,hV,rfl,hfz,xI⟩:=hW;have hA:DataW.TrodAll enc Tryz.prog W 0 (fun _=>true) true Tryz.f9.params.toList args.toList ds p:=hA0;rw[Tryz.params9]at hA hval;obtain⟨v0,vs0,d0,ds0,p0,q0,BO,rfl,rfl,h0,awL⟩:=trodAll_cons hA;obtain⟨v1,vs1,d1,ds1,p1,q1,rfl,rfl,rfl,h1,awM⟩:=trodAll_cons awL;obtain⟨v2,vs2,d2,ds2,p2,q2,rfl,rfl,rfl,h2,awN⟩:=trodAll_cons awM;obtain⟨rfl,rfl,rfl⟩:=trodAll_nil awN;obtain rfl:args=#[v0,v1,v2]:=by cases args;simp_all
 obtain⟨rfl,rfl⟩:=trodVars_none hV;obtain⟨a0,VS,VT,rfl⟩:=okWide_slice Tryz.underlying77 (hval 0 77 v0 rfl rfl);have k0:=h0;have lt0:∀x∈p0,x.block<W.heap.size:=by obtain⟨m,hm⟩:=k0;exact DataW.trod_lt m _ _ _ hm
 obtain⟨aAs,hf⟩:=h0;simp only[Value.cells]at hf;obtain⟨l0,e0,r0,m0,n0,f0⟩:=Re hf;clear hf;obtain⟨a1,rfl,w1⟩:=YT (hval 1 38 v1 rfl rfl) h1;have k1:=h1;have lt1:∀x∈p1,x.block<W.heap.size:=by obtain⟨m,hm⟩:=k1;exact DataW.trod_lt m _ _ _ hm
 obtain⟨a2,rfl,rfl,rfl,w2⟩:=open_int Ac (hval 2 5 v2 rfl rfl) h2;clear hA0 afX;refine(walk a0 VS VT l0 a1 a2 W e0 r0 ⟨m0,n0⟩ f0 w1 w2).mono fun e W' ⟨he,bel⟩=>?_;subst he;exact⟨_,rfl,_,_,_,[],_,[],ZF,trodAll_mk1 (shut_bool qP _),(trodAll_cons_mk (Below.trod laidOut (by kernel_rfl) (IU (by kernel_rfl)) k0 bel lt0) (trodAll_cons_mk (Below.trod laidOut (by kernel_rfl) (IU (by kernel_rfl)) k1 bel lt1) (trodAll_cons_mk (shut_int Ac w2) trodAll_mk0))),rfl,bel.frame _,fun h=>by cases h⟩
theorem j1:Tryz.pinned.checked.prog.inPlace 9=Rows.topStaticRow.inPlace:=by kernel_rfl
theorem j2:Tryz.pinned.checked.prog.unfollowed 9=Rows.topStaticRow.unfollowed:=by kernel_rfl
theorem j3:Tryz.pinned.checked.prog.recurses 9=Rows.topStaticRow.recurses:=by kernel_rfl
theorem j4:Tryz.pinned.checked.prog.varsNamed 9=Rows.topStaticRow.named:=by kernel_rfl
theorem j5:laidOutB Tryz.pinned.checked.prog=true:=by kernel_rfl
theorem j6:mapsRowed Tryz.pinned.checked.prog=true:=by kernel_rfl
theorem j7:joinedFacts Tryz.pinned.checked.prog 9 Tryz.f9 Rows.topStaticSpec Rows.topStaticRow=true:=by unfold joinedFacts;rw[j1,j2,j3,j4,j5,j6];kernel_rfl
theorem j8:Tryz.pinned.checked.prog.funcNamed Rows.topStaticRow.func=some 9:=by kernel_rfl
theorem over:Rows.topStaticRow.holds Tryz.pinned (OpenSpec.ofChange Rows.topStaticSpec):=
 OpenClaim.holds_of_wide 9 Tryz.f9 rfl rfl rfl rfl rfl rfl rfl ⟨rfl,rfl,rfl,rfl,rfl⟩ rfl rfl rfl rfl rfl j8 Tryz.func9 j7
  (IU (by kernel_rfl)) (by unfold Func.isWrapper;first|(rw[aR (by decide+kernel)];kernel_rfl)|(rw[aP (by decide+kernel)];exact⟨rfl,rfl⟩))
  (fun os started H enc _=>lifted os started H enc)
theorem proved:Rows.TopStaticSaid:=over
#print axioms proved
end Go.Proofs.YtkjdbndekceffaaGreat.topStatic
