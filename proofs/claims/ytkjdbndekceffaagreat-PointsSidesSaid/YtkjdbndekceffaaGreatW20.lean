/- The law PointsSides answers true at every input, and leaves its arguments as they were. No conditions. -/
import Derived.Test.YtkjdbndekceffaaGreatRows
import Derived.Test.YtkjdbndekceffaaGreatW19
set_option linter.unusedSimpArgs false
set_option linter.unusedVariables false
set_option maxRecDepth 100000
set_option maxHeartbeats 16000000
namespace Go.Proofs.YtkjdbndekceffaaGreat.pointsSides
open Go.ChangeShapes Go.WideShapes Go.ChangeAt Go.RowKit
open Go.ChangeMaps (open_string shut_string)
theorem own:ownKnob Tryz.prog.godebug=none:=aM
theorem laidOut:laidOutB Tryz.prog=true:=aM
theorem walk (a0:Option Addr) (Nt MS:Nat) (l0:List (Qr)) (a1:Bx) (w:World) (e0:l0.length=Nt) (r0:bW FR 10 w a0 l0) (m0:Nt<=MS/\MS<=maxLen) (f0:∀x∈l0,Uq x) (w1:a1.wf):
  aK 5 #[.slice a0 Nt MS,V8 a1] w (gm w (.bool true)):=by
 obtain⟨b1,b2,b3,b4,b5⟩:=a1;exact FU a0 l0 Nt MS b1 b2 b3 b4 b5 w e0 r0 f0 m0.1
theorem lifted (os:Os) (started:os.Started) (H:Type) (enc:TypeId×Value->H):
  ReturnsInHanded {} Tryz.checked os 5 .any (Rows.pointsSidesSpec.pre6 enc Tryz.prog Tryz.f5 Rows.pointsSidesRow.domain false) (Rows.pointsSidesSpec.post enc Tryz.prog Tryz.f5 false true false false):=by
 refine returnsInHanded_of_change (C:=Tryz.checked) own started aM Tryz.func5
  (ChangeSpec.witness6 (enc:=enc) (C:=Tryz.checked) false ⟨#[],#[aL,.agg #[ae 0,ae 0,ae 0,ae 0,au 0]],[]⟩ 8 aM aM aM aM) ?_
 intro W base args ds gs before Sw hW hcnd _;have hval:∀(j:Nat) t v,Tryz.f5.params[j]? =some t->args[j]? =some v->Value.okWide Tryz.prog W .any base t v:=Sw;have Wt:=hW;obtain⟨p,q,Wi,hV,rfl,WA,Wy⟩:=hW;have hA:DataW.TrodAll enc Tryz.prog W 0 (fun _=>true) true Tryz.f5.params.toList args.toList ds p:=Wi;rw[Tryz.params5]at hA hval;obtain⟨v0,WB,d0,WC,p0,q0,V3,rfl,rfl,h0,VX⟩:=trodAll_cons hA;obtain⟨v1,WE,d1,WG,p1,q1,rfl,rfl,rfl,h1,VY⟩:=trodAll_cons VX;obtain⟨rfl,rfl,rfl⟩:=trodAll_nil VY;obtain rfl:args=#[v0,v1]:=by cases args;simp_all
 obtain⟨rfl,rfl⟩:=trodVars_none hV;obtain⟨a0,Nt,MS,rfl⟩:=okWide_slice Tryz.underlying47 (hval 0 47 v0 rfl rfl);have k0:=h0;have Ww:∀x∈p0,x.block<W.heap.size:=by obtain⟨m,hm⟩:=k0;exact DataW.trod_lt m _ _ _ hm
 obtain⟨Wj,hf⟩:=h0;simp only[Value.cells]at hf;obtain⟨l0,e0,r0,m0,n0,f0⟩:=Kh hf;clear hf;obtain⟨a1,rfl,w1⟩:=OL (hval 1 38 v1 rfl rfl) h1;have k1:=h1;have Wx:∀x∈p1,x.block<W.heap.size:=by obtain⟨m,hm⟩:=k1;exact DataW.trod_lt m _ _ _ hm
 clear Wi Sw;refine(walk a0 Nt MS l0 a1 W e0 r0 ⟨m0,n0⟩ f0 w1).mono fun e W' ⟨he,VZ⟩=>?_;subst he;exact⟨_,rfl,_,_,_,[],_,[],Wt,trodAll_mk1 (shut_bool pJ _),(trodAll_cons_mk (Below.trod laidOut aM (Ew aM) k0 VZ Ww) (trodAll_cons_mk (Below.trod laidOut aM (Ew aM) k1 VZ Wx) trodAll_mk0)),rfl,VZ.frame _,fun h=>by cases h⟩
theorem j1:Tryz.pinned.checked.prog.inPlace 5=Rows.pointsSidesRow.inPlace:=aM
theorem j2:Tryz.pinned.checked.prog.unfollowed 5=Rows.pointsSidesRow.unfollowed:=aM
theorem j3:Tryz.pinned.checked.prog.recurses 5=Rows.pointsSidesRow.recurses:=aM
theorem j4:Tryz.pinned.checked.prog.varsNamed 5=Rows.pointsSidesRow.named:=aM
theorem j5:laidOutB Tryz.pinned.checked.prog=true:=aM
theorem j6:mapsRowed Tryz.pinned.checked.prog=true:=aM
theorem j7:joinedFacts Tryz.pinned.checked.prog 5 Tryz.f5 Rows.pointsSidesSpec Rows.pointsSidesRow=true:=by unfold joinedFacts;rw[j1,j2,j3,j4,j5,j6];kernel_rfl
theorem j8:Tryz.pinned.checked.prog.funcNamed Rows.pointsSidesRow.func=some 5:=aM
theorem over:Rows.pointsSidesRow.holds Tryz.pinned (OpenSpec.ofChange Rows.pointsSidesSpec):=
 OpenClaim.holds_of_wide 5 Tryz.f5 rfl rfl rfl rfl rfl rfl rfl ⟨rfl,rfl,rfl,rfl,rfl⟩ rfl rfl rfl rfl rfl j8 Tryz.func5 j7
  (Ew aM) (by unfold Func.isWrapper;first|(rw[aO (by decide+kernel)];kernel_rfl)|(rw[aN (by decide+kernel)];exact⟨rfl,rfl⟩))
  (fun os started H enc _=>lifted os started H enc)
theorem proved:Rows.PointsSidesSaid:=over
#print axioms proved
end Go.Proofs.YtkjdbndekceffaaGreat.pointsSides
