/- The law PointsOrder answers true at every input, and leaves its arguments as they were. No conditions. -/
import Derived.Test.YtkjdbndekceffaaGreatRows
import Derived.Test.YtkjdbndekceffaaGreatZ19
set_option linter.unusedSimpArgs false
set_option linter.unusedVariables false
set_option maxRecDepth 100000
set_option maxHeartbeats 16000000
namespace Go.Proofs.YtkjdbndekceffaaGreat.pointsOrder
open Go.ChangeShapes Go.WideShapes Go.ChangeAt Go.RowKit
open Go.ChangeMaps (open_string shut_string)
theorem own:ownKnob Tryz.prog.godebug=none:=aO
theorem laidOut:laidOutB Tryz.prog=true:=aO
theorem walk (a0:Option Addr) (Nn MN:Nat) (l0:List (Int×Int×Int)) (a1:Option Addr) (Np Nq:Nat) (l1:List (Int×Int×Int)) (a2:Option Addr) (Nr Ns:Nat) (l2:List (Bx)) (a3:Int) (w:World) (e0:l0.length=Nn) (r0:bQ bX 3 w a0 l0) (m0:Nn<=MN/\MN<=maxLen) (f0:∀x∈l0,(Lit.int .i64 x.1).wf=true/\(Lit.int .i64 x.2.1).wf=true/\(Lit.int .u32 x.2.2).wf=true) (e1:l1.length=Np) (r1:bQ bX 3 w a1 l1) (m1:Np<=Nq/\Nq<=maxLen) (f1:∀x∈l1,(Lit.int .i64 x.1).wf=true/\(Lit.int .i64 x.2.1).wf=true/\(Lit.int .u32 x.2.2).wf=true) (e2:l2.length=Nr) (r2:bQ Uz 5 w a2 l2) (m2:Nr<=Ns/\Ns<=maxLen) (f2:∀x∈l2,x.wf) (w3:(Lit.int .u8 a3).wf=true):
  aK 3 #[.slice a0 Nn MN,.slice a1 Np Nq,.slice a2 Nr Ns,.int .u8 a3] w (fV w (.bool true)):=by
 exact FC a0 l0 Nn MN a1 l1 Np Nq a2 l2 Nr Ns a3 w e0 r0 f0 m0.1 e1 r1 f1 (by have:=m1;unfold maxLen at this;omega) e2 r2 m2.1 (by have:=w3;simp[Lit.wf,IntKind.min,IntKind.max,IntKind.signed,IntKind.bits]at this;omega)
theorem lifted (os:Os) (started:os.Started) (H:Type) (enc:TypeId×Value->H):
  ReturnsInHanded {} Tryz.checked os 3 .any (Rows.pointsOrderSpec.pre6 enc Tryz.prog Tryz.f3 Rows.pointsOrderRow.domain false) (Rows.pointsOrderSpec.post enc Tryz.prog Tryz.f3 false true false false):=by
 refine returnsInHanded_of_change (C:=Tryz.checked) own started aO Tryz.func3
  (ChangeSpec.witness6 (enc:=enc) (C:=Tryz.checked) false ⟨#[],#[aL,aL,aL,.int .u8 0],[]⟩ 8 aO aO aO aO) ?_
 intro W base args ds gs before Sd hW hcnd _;have hval:∀(j:Nat) t v,Tryz.f3.params[j]? =some t->args[j]? =some v->Value.okWide Tryz.prog W .any base t v:=Sd;have Wh:=hW;obtain⟨p,q,VY,hV,rfl,Ws,Wp⟩:=hW;have hA:DataW.TrodAll enc Tryz.prog W 0 (fun _=>true) true Tryz.f3.params.toList args.toList ds p:=VY;rw[Tryz.params3]at hA hval;obtain⟨v0,Wt,d0,Wu,p0,q0,VQ,rfl,rfl,h0,VM⟩:=trodAll_cons hA;obtain⟨v1,Wv,d1,Ww,p1,q1,rfl,rfl,rfl,h1,VN⟩:=trodAll_cons VM;obtain⟨v2,Wx,d2,Wy,p2,q2,rfl,rfl,rfl,h2,VO⟩:=trodAll_cons VN;obtain⟨v3,Wz,d3,WA,p3,q3,rfl,rfl,rfl,h3,VP⟩:=trodAll_cons VO;obtain⟨rfl,rfl,rfl⟩:=trodAll_nil VP;obtain rfl:args=#[v0,v1,v2,v3]:=by cases args;simp_all
 obtain⟨rfl,rfl⟩:=trodVars_none hV;obtain⟨a0,Nn,MN,rfl⟩:=okWide_slice Tryz.underlying22 (hval 0 22 v0 rfl rfl);have k0:=h0;have Wm:∀x∈p0,x.block<W.heap.size:=by obtain⟨m,hm⟩:=k0;exact DataW.trod_lt m _ _ _ hm
 obtain⟨VZ,hf⟩:=h0;simp only[Value.cells]at hf;obtain⟨l0,e0,r0,m0,n0,f0⟩:=zt hf;clear hf;obtain⟨a1,Np,Nq,rfl⟩:=okWide_slice Tryz.underlying22 (hval 1 22 v1 rfl rfl);have k1:=h1;have Wn:∀x∈p1,x.block<W.heap.size:=by obtain⟨m,hm⟩:=k1;exact DataW.trod_lt m _ _ _ hm
 obtain⟨V3,hf⟩:=h1;simp only[Value.cells]at hf;obtain⟨l1,e1,r1,m1,n1,f1⟩:=zt hf;clear hf;obtain⟨a2,Nr,Ns,rfl⟩:=okWide_slice Tryz.underlying23 (hval 2 23 v2 rfl rfl);have k2:=h2;have Wo:∀x∈p2,x.block<W.heap.size:=by obtain⟨m,hm⟩:=k2;exact DataW.trod_lt m _ _ _ hm
 obtain⟨V4,hf⟩:=h2;simp only[Value.cells]at hf;obtain⟨l2,e2,r2,m2,n2,f2⟩:=Jm hf;clear hf;obtain⟨a3,rfl,rfl,rfl,w3⟩:=open_int xP (hval 3 5 v3 rfl rfl) h3;clear VY Sd;refine(walk a0 Nn MN l0 a1 Np Nq l1 a2 Nr Ns l2 a3 W e0 r0 ⟨m0,n0⟩ f0 e1 r1 ⟨m1,n1⟩ f1 e2 r2 ⟨m2,n2⟩ f2 w3).mono fun e W' ⟨he,Vi⟩=>?_;subst he;exact⟨_,rfl,_,_,_,[],_,[],Wh,trodAll_mk1 (shut_bool pq _),(trodAll_cons_mk (Below.trod laidOut aO (Au aO) k0 Vi Wm) (trodAll_cons_mk (Below.trod laidOut aO (Au aO) k1 Vi Wn) (trodAll_cons_mk (Below.trod laidOut aO (Au aO) k2 Vi Wo) (trodAll_cons_mk (shut_int xP w3) trodAll_mk0)))),rfl,Vi.frame _,fun h=>by cases h⟩
theorem j1:Tryz.pinned.checked.prog.inPlace 3=Rows.pointsOrderRow.inPlace:=aO
theorem j2:Tryz.pinned.checked.prog.unfollowed 3=Rows.pointsOrderRow.unfollowed:=aO
theorem j3:Tryz.pinned.checked.prog.recurses 3=Rows.pointsOrderRow.recurses:=aO
theorem j4:Tryz.pinned.checked.prog.varsNamed 3=Rows.pointsOrderRow.named:=aO
theorem j5:laidOutB Tryz.pinned.checked.prog=true:=aO
theorem j6:mapsRowed Tryz.pinned.checked.prog=true:=aO
theorem j7:joinedFacts Tryz.pinned.checked.prog 3 Tryz.f3 Rows.pointsOrderSpec Rows.pointsOrderRow=true:=by unfold joinedFacts;rw[j1,j2,j3,j4,j5,j6];kernel_rfl
theorem j8:Tryz.pinned.checked.prog.funcNamed Rows.pointsOrderRow.func=some 3:=aO
theorem over:Rows.pointsOrderRow.holds Tryz.pinned (OpenSpec.ofChange Rows.pointsOrderSpec):=
 OpenClaim.holds_of_wide 3 Tryz.f3 rfl rfl rfl rfl rfl rfl rfl ⟨rfl,rfl,rfl,rfl,rfl⟩ rfl rfl rfl rfl rfl j8 Tryz.func3 j7
  (Au aO) (by unfold Func.isWrapper;first|(rw[aN (by decide+kernel)];kernel_rfl)|(rw[aM (by decide+kernel)];exact⟨rfl,rfl⟩))
  (fun os started H enc _=>lifted os started H enc)
theorem proved:Rows.PointsOrderSaid:=over
#print axioms proved
end Go.Proofs.YtkjdbndekceffaaGreat.pointsOrder
