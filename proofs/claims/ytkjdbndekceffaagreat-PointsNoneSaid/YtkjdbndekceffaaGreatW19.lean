/- Made small by a program. -/
import Derived.Test.YtkjdbndekceffaaGreatW18
set_option linter.unusedSimpArgs false
set_option linter.unusedVariables false
set_option maxRecDepth 100000
set_option maxHeartbeats 16000000
namespace Go.Proofs.YtkjdbndekceffaaGreat
open Tryz
section
open Go.RowKit Go.Sort Go.Shelf Go.Lib Go.Maps
attribute [local irreducible] wpQuiet
attribute [local go_sem] Oper.fo
theorem TU:bR [(0,0,1),(2,5,2),(2,1,3)]=[(2,5,2)]:=by
 refine(kG (by decide)).unique ⟨by simp[jV],fun p=>?_⟩;have⟨x,y,i⟩:=p;constructor
 .intro h;simp only[gP,uh,gZ,or_false]at h;rcases h with⟨rfl,rfl,rfl⟩<;>exact⟨by decide,by decide⟩
 .rintro⟨h,a⟩;simp only[gP,uh,gZ,or_false]at h;rcases h with⟨rfl,rfl,rfl⟩|⟨rfl,rfl,rfl⟩|⟨rfl,rfl,rfl⟩<;>first|(exfalso;revert a;decide)|decide
theorem TV:bR [(0,0,1),(2,1,3)]=[(2,1,3)]:=by
 refine(kG (by decide)).unique ⟨by simp[jV],fun p=>?_⟩;have⟨x,y,i⟩:=p;constructor
 .intro h;simp only[gP,uh,gZ,or_false]at h;rcases h with⟨rfl,rfl,rfl⟩<;>exact⟨by decide,by decide⟩
 .rintro⟨h,a⟩;simp only[gP,uh,gZ,or_false]at h;rcases h with⟨rfl,rfl,rfl⟩|⟨rfl,rfl,rfl⟩<;>first|(exfalso;revert a;decide)|decide
theorem Gv {l:List Int} (h:l.Pairwise (·<=·)):eD l=l:=D7 h (oL _)
theorem Qz:sI [(0,0,1),(2,5,2),(2,1,3)] 1 9=some (2,1,3):=by
 refine CP (l:=[(0,0,1),(2,5,2),(2,1,3)]) (oL _) (by decide) (Ez _ _ _) ⟨by decide,by decide,?_⟩;decide
theorem TW:eD (ids (([(0,0,1),(2,5,2),(2,1,3)]:List Pt).filter (Jy 0 2 1 5)))=[2,3]:=by
 rw[show ids (([(0,0,1),(2,5,2),(2,1,3)]:List Pt).filter (Jy 0 2 1 5))=[2,3] by decide];exact Gv (by decide)
theorem TY:eD (ids (([(0,0,1),(2,5,2),(2,1,3)]:List Pt).filter (JL 0 9 1)))=[1,3]:=by
 rw[show ids (([(0,0,1),(2,5,2),(2,1,3)]:List Pt).filter (JL 0 9 1))=[1,3] by decide];exact Gv (by decide)
theorem TZ:eD (ids (([(0,0,1),(2,5,2),(2,1,3)]:List Pt).filter (Ma 2 1 3)))=[2,3]:=by
 rw[show ids (([(0,0,1),(2,5,2),(2,1,3)]:List Pt).filter (Ma 2 1 3))=[2,3] by decide];exact Gv (by decide)
theorem Sk:eD (ids [((2:Int),(5:Int),(2:Int))])=[2]:=Gv (by decide)
theorem Sl:eD (ids [((2:Int),(1:Int),(3:Int))])=[3]:=Gv (by decide)
def Ki:List Pt:=[(0,0,1),(2,5,2),(2,1,3)]
theorem Mo.one {n:Nat} (h:Mo 0 n):n=1:=by
 obtain⟨i,q,rfl,h⟩:=h;rcases i with _|i
 .rfl
 .have:2<=2^(i+1):=by rw[oO];have:=oV (n:=i) (show 0<2 by decide);omega
  have:(2^(i+1):Nat)<=2^(i+1)+2^(i+1+1)*q:=Nat.le_add_right _ _;omega
theorem Mo.two {n:Nat} (h:Mo 1 n):n=2:=by
 obtain⟨i,q,rfl,h⟩:=h;rcases i with _|_|i
 .simp at h;omega
 .rfl
 .have:4<=2^(i+1+1):=by rw[oO,oO];have:=oV (n:=i) (show 0<2 by decide);omega
  have:(2^(i+1+1):Nat)<=2^(i+1+1)+2^(i+1+1+1)*q:=Nat.le_add_right _ _;omega
theorem Mo.three {n:Nat} (h:Mo 2 n):n=1:=by
 obtain⟨i,q,rfl,h⟩:=h;rcases i with _|_|i
 .rfl
 .simp at h;omega
 .have:4<=2^(i+1+1):=by rw[oO,oO];have:=oV (n:=i) (show 0<2 by decide);omega
  have:(2^(i+1+1):Nat)<=2^(i+1+1)+2^(i+1+1+1)*q:=Nat.le_add_right _ _;omega
theorem QA (w:World):aH 21 #[] w (eY w (.bool true)):=by
 have bo:=af (TP w);go_enter func21,ntmps21
 go_wp2_with fail
 refine bo.o.mono ?_;rintro e w1 ⟨Pb,rfl,hP,b5⟩;have bq:=af hP;have aI:=af b5;have bS:Hid (cz dx 3 (w1.alloc (.cells #[aa 0,aa 0,ai 1,aa 2,aa 5,ai 2,aa 2,aa 1,ai 3] 29)) (some (ae w1.heap.size 0)) Ki):=cz.lit (sz:=3) bu w1 29 Ki w1.heap.size rfl;have aQ:Hid (Below w1.heap.size w1 (w1.alloc (.cells #[aa 0,aa 0,ai 1,aa 2,aa 5,ai 2,aa 2,aa 1,ai 3] 29))):=(aB _ _).alloc (ay _) _;have cb:(w1.alloc (.cells #[aa 0,aa 0,ai 1,aa 2,aa 5,ai 2,aa 2,aa 1,ai 3] 29)).heap.size=w1.heap.size+1:=by simp
 go_wp2_with fail
 generalize w1.alloc (.cells #[aa 0,aa 0,ai 1,aa 2,aa 5,ai 2,aa 2,aa 1,ai 3] 29)=w2 at*;have b7:=aI.o.size
 go_loopw [25] (fun aE wr=>∃(i:Nat) (G:Nat->Prop) (wk:Int),aE=.int .i64 i/\i<=3/\w2.heap.size<=wr.heap.size/\Hid (gL wr Pb G i (Ki.take i) i wk 0)/\Hid (∀k,G k->w.heap.size<=k/\k<wr.heap.size/\k≠w1.heap.size)/\Hid (Below w.heap.size w wr)/\Hid (cz dx 3 wr (some (ae w1.heap.size 0)) Ki)) (fun aE _=>3-(intOf aE).toNat)
 case atStart=>exact⟨0,_,0,rfl,bf _,ay _,bq.o.below aQ.o,fun k H=>⟨H.1,by have:=H.2;omega,by have:=H.2;omega⟩,aI.o.trans (aQ.o.mono b7),bS⟩
 case round=>
  obtain⟨i,G,wk,rfl,hi,cc,V,u,t,al⟩:=hrel;by_cases ce:i<3
  .have b6:i=0\/i=1\/i=2:=by omega
   have⟨b,off,aA,cd,F⟩:=al.o.get (by decide);injection aA with aA;injection aA with b3 b4 _;subst b3 b4;rcases b6 with rfl|rfl|rfl
   .have N:=F 0 (by decide) 0 (by omega);have x1:=F 0 (by decide) 1 (by omega);have x2:=F 0 (by decide) 2 (by omega)
    replace N:wr.cell? (ae w1.heap.size 0)=some (aa 0):=N
    replace x1:wr.cell? (ae w1.heap.size 1)=some (aa 0):=x1
    replace x2:wr.cell? (ae w1.heap.size 2)=some (ai 1):=x2
    obtain⟨p,e⟩:∃p:World,p=wr:=⟨_,rfl⟩;subst e;obtain⟨A,L⟩:∃A,A=p.alloc (.cells #[aa 0,aa 0,ai 1] 29):=⟨_,rfl⟩;have K:Below p.heap.size p A:=by rw[L];exact(aB _ _).alloc (ay _) _
    have S:=af (yo (V.o.below K) (by decide) 0 0 1 ⟨by decide,by decide,by decide⟩ (by decide));have y:=af K;have T:=af L.symm
    go_wp2_with fail
    rw[T.o];refine S.o.mono ?_;rintro e w4 ⟨n,ab,rfl,Z,M⟩;obtain rfl:=Mo.one ab;have U:=af Z;have J:=af M;have a2:=y.o.size;have a1:=M.size;go_wp2;go_roundw
    case rel=>exact⟨1,_,_,rfl,by decide,by omega,U.o,fun k H=>H.elim (fun h=>by have:=u.o k h;exact⟨this.1,by omega,this.2.2⟩) fun h=>by have:=t.o.size;exact⟨by omega,h.2,by omega⟩,(t.o.trans (y.o.mono t.o.size)).trans (J.o.toBelow (by have:=t.o.size;omega) (fun k h=>(u.o k h).1)),((al.o.below y.o).Sg J.o fun x e h=>by injection e with e;rw[<-e]at h;exact(u.o _ h).2.2 rfl)⟩
    case measure=>simp[intOf]
   .have N:=F 1 (by decide) 0 (by omega);have x1:=F 1 (by decide) 1 (by omega);have x2:=F 1 (by decide) 2 (by omega)
    replace N:wr.cell? (ae w1.heap.size 3)=some (aa 2):=N
    replace x1:wr.cell? (ae w1.heap.size 4)=some (aa 5):=x1
    replace x2:wr.cell? (ae w1.heap.size 5)=some (ai 2):=x2
    obtain⟨p,e⟩:∃p:World,p=wr:=⟨_,rfl⟩;subst e;obtain⟨A,L⟩:∃A,A=p.alloc (.cells #[aa 2,aa 5,ai 2] 29):=⟨_,rfl⟩;have K:Below p.heap.size p A:=by rw[L];exact(aB _ _).alloc (ay _) _
    have S:=af (yo (V.o.below K) (by decide) 2 5 2 ⟨by decide,by decide,by decide⟩ (by decide));have y:=af K;have T:=af L.symm
    go_wp2_with fail
    rw[T.o];refine S.o.mono ?_;rintro e w4 ⟨n,ab,rfl,Z,M⟩;obtain rfl:=Mo.two ab;have U:=af Z;have J:=af M;have a2:=y.o.size;have a1:=M.size;go_wp2;go_roundw
    case rel=>exact⟨2,_,_,rfl,by decide,by omega,U.o,fun k H=>H.elim (fun h=>by have:=u.o k h;exact⟨this.1,by omega,this.2.2⟩) fun h=>by have:=t.o.size;exact⟨by omega,h.2,by omega⟩,(t.o.trans (y.o.mono t.o.size)).trans (J.o.toBelow (by have:=t.o.size;omega) (fun k h=>(u.o k h).1)),((al.o.below y.o).Sg J.o fun x e h=>by injection e with e;rw[<-e]at h;exact(u.o _ h).2.2 rfl)⟩
    case measure=>simp[intOf]
   .have N:=F 2 (by decide) 0 (by omega);have x1:=F 2 (by decide) 1 (by omega);have x2:=F 2 (by decide) 2 (by omega)
    replace N:wr.cell? (ae w1.heap.size 6)=some (aa 2):=N
    replace x1:wr.cell? (ae w1.heap.size 7)=some (aa 1):=x1
    replace x2:wr.cell? (ae w1.heap.size 8)=some (ai 3):=x2
    obtain⟨p,e⟩:∃p:World,p=wr:=⟨_,rfl⟩;subst e;obtain⟨A,L⟩:∃A,A=p.alloc (.cells #[aa 2,aa 1,ai 3] 29):=⟨_,rfl⟩;have K:Below p.heap.size p A:=by rw[L];exact(aB _ _).alloc (ay _) _
    have S:=af (yo (V.o.below K) (by decide) 2 1 3 ⟨by decide,by decide,by decide⟩ (by decide));have y:=af K;have T:=af L.symm
    go_wp2_with fail
    rw[T.o];refine S.o.mono ?_;rintro e w4 ⟨n,ab,rfl,Z,M⟩;obtain rfl:=Mo.three ab;have U:=af Z;have J:=af M;have a2:=y.o.size;have a1:=M.size;go_wp2;go_roundw
    case rel=>exact⟨3,_,_,rfl,by decide,by omega,U.o,fun k H=>H.elim (fun h=>by have:=u.o k h;exact⟨this.1,by omega,this.2.2⟩) fun h=>by have:=t.o.size;exact⟨by omega,h.2,by omega⟩,(t.o.trans (y.o.mono t.o.size)).trans (J.o.toBelow (by have:=t.o.size;omega) (fun k h=>(u.o k h).1)),((al.o.below y.o).Sg J.o fun x e h=>by injection e with e;rw[<-e]at h;exact(u.o _ h).2.2 rfl)⟩
    case measure=>simp[intOf]
  .obtain rfl:i=3:=by omega
   obtain⟨wp,e⟩:∃wp:World,wp=wr:=⟨_,rfl⟩;subst e;have bs:Hid (gL wp Pb G 3 [(0,0,1),(2,5,2),(2,1,3)] 3 wk 0):=V.o;have D:=af (u.o Pb V.o.facts.2.2.2.2.2.2.2);have a6:Hid (Below w.heap.size w wp):=t.o;have aJ:Hid (∀k,G k->w.heap.size<=k/\k<wp.heap.size):=fun k h=>⟨(u.o k h).1,(u.o k h).2.1⟩;have cg:=t.o.size;have C:=OG bs.o 0 2 1 5 0;rw[TW]at C;have d:=af C
   go_wp2_with fail
   refine d.o.mono ?_;rintro e a3 ⟨v,t1,rfl,s,-,f,hP⟩;have ch:=f.size;have aR:=af (eu s (show wp.heap.size<=wp.heap.size by omega));obtain⟨bU,bZ,rfl,-,-,-⟩:=Rd.aC (l:=[2,3]) s;have bt:=af hP;have a7:=af (a6.o.trans (f.toBelow (show w.heap.size<=wp.heap.size by omega) (fun k h=>by have:=D.o;omega)));have C:=Qw bt.o 0 9 1;rw[TY]at C;have d:=af C
   go_wp2_with fail
   refine d.o.mono ?_;rintro e a5 ⟨v,t2,rfl,s,-,f,hP⟩;have co:=f.size;have aT:=af (aS aR.o f (fun z e h=>by have:=(aR.o.lt z e).1;have:=D.o;omega));have aW:=af (eu s (show wp.heap.size<=a3.heap.size by omega));obtain⟨bW,a0,rfl,-,-,-⟩:=Rd.aC (l:=[1,3]) s;have bA:=af hP;have bg:=af (a7.o.trans (f.toBelow (show w.heap.size<=a3.heap.size by omega) (fun k h=>by have:=D.o;omega)));have C:=OH bA.o 2 1 3 (by decide);rw[TZ]at C;have d:=af C
   go_wp2_with fail
   refine d.o.mono ?_;rintro e b8 ⟨v,t3,rfl,s,-,f,hP⟩;have cp:=f.size;have aU:=af (aS aT.o f (fun z e h=>by have:=(aT.o.lt z e).1;have:=D.o;omega));have aX:=af (aS aW.o f (fun z e h=>by have:=(aW.o.lt z e).1;have:=D.o;omega));have aZ:=af (eu s (show wp.heap.size<=a5.heap.size by omega));obtain⟨bX,b1,rfl,-,-,-⟩:=Rd.aC (l:=[2,3]) s;have bB:=af hP;have bh:=af (bg.o.trans (f.toBelow (show w.heap.size<=a5.heap.size by omega) (fun k h=>by have:=D.o;omega)));have C:=OJ bB.o 1 9;rw[Qz]at C;have d:=af C
   go_wp2_with fail
   refine d.o.mono ?_;rintro e B ⟨t4,rfl,-,f,hP⟩;have cq:=f.size;have bJ:=af (aS aU.o f (fun z e h=>by have:=(aU.o.lt z e).1;have:=D.o;omega));have bL:=af (aS aX.o f (fun z e h=>by have:=(aX.o.lt z e).1;have:=D.o;omega));have bN:=af (aS aZ.o f (fun z e h=>by have:=(aZ.o.lt z e).1;have:=D.o;omega));have bC:=af hP;have bi:=af (bh.o.trans (f.toBelow (show w.heap.size<=b8.heap.size by omega) (fun k h=>by have:=D.o;omega)));have a:Hid (Below B.heap.size B (B.alloc (.cells #[aa 2,aa 1,ai 3] 29))):=(aB _ _).alloc (ay _) _;have am:Hid ((B.alloc (.cells #[aa 2,aa 1,ai 3] 29)).heap[B.heap.size]? =some (wG (2,1,3))):=di _ _;have bT:Hid (B.heap.size+1=(B.alloc (.cells #[aa 2,aa 1,ai 3] 29)).heap.size):=by show _=_;simp
   go_wp2_with fail
   generalize B.alloc (.cells #[aa 2,aa 1,ai 3] 29)=ag at*;have cr:=a.o.size;have aV:=af (ax bJ.o a.o);have bM:=af (ax bL.o a.o);have bO:=af (ax bN.o a.o);have bD:=af (bC.o.below a.o);have bj:=af (bi.o.trans (a.o.mono (show w.heap.size<=B.heap.size by omega)));have q:Below ag.heap.size ag (ag.alloc (.cells #[ai 2,ai 3] 27)):=(aB _ _).alloc (ay _) _;obtain⟨_,_,j,-,-,I⟩:=Rd.aC (l:=[2,3]) aV.o;injection j with j _ E;subst j E;have c:=Bl bU (some (ae (B.heap.size+1) 0)) [2,3] [2,3] 2 2 bZ 2 _ rfl rfl (I.below q) (Rd.lit (enc:=Value.int .u32) ag 27 [2,3] _ bT.o) (by decide) (by decide);rw[show decide (([2,3]:List Int)=[2,3])=true from rfl]at c;have d:=af c;have g:=af q;refine d.o.mono ?_;rintro e Q ⟨rfl,m⟩;have an:=af ((aL m ((aL g.o am.o).trans am.o)).trans ((aL g.o am.o).trans am.o));have a:=g.o.trans (m.mono g.o.size);have cs:=a.size;have bK:=af (ax aV.o a);have aY:=af (ax bM.o a);have bP:=af (ax bO.o a);have bE:=af (bD.o.below a);have bk:=af (bj.o.trans (a.mono (show w.heap.size<=ag.heap.size by omega)));have q:Below Q.heap.size Q (Q.alloc (.cells #[ai 1,ai 3] 27)):=(aB _ _).alloc (ay _) _;obtain⟨_,_,j,-,-,I⟩:=Rd.aC (l:=[1,3]) aY.o;injection j with j _ E;subst j E;have c:=Bl bW (some (ae Q.heap.size 0)) [1,3] [1,3] 2 2 a0 2 _ rfl rfl (I.below q) (Rd.lit (enc:=Value.int .u32) Q 27 [1,3] _ rfl) (by decide) (by decide);rw[show decide (([1,3]:List Int)=[1,3])=true from rfl]at c;have d:=af c;have g:=af q
   go_wp2_with fail
   refine d.o.mono ?_;rintro e R ⟨rfl,m⟩;have ao:=af ((aL m ((aL g.o an.o).trans an.o)).trans ((aL g.o an.o).trans an.o));have a:=g.o.trans (m.mono g.o.size);have ct:=a.size;have b9:=af (ax bK.o a);have ca:=af (ax aY.o a);have bQ:=af (ax bP.o a);have bF:=af (bE.o.below a);have bl:=af (bk.o.trans (a.mono (show w.heap.size<=Q.heap.size by omega)));have q:Below R.heap.size R (R.alloc (.cells #[ai 2,ai 3] 27)):=(aB _ _).alloc (ay _) _;obtain⟨_,_,j,-,-,I⟩:=Rd.aC (l:=[2,3]) bQ.o;injection j with j _ E;subst j E;have c:=Bl bX (some (ae R.heap.size 0)) [2,3] [2,3] 2 2 b1 2 _ rfl rfl (I.below q) (Rd.lit (enc:=Value.int .u32) R 27 [2,3] _ rfl) (by decide) (by decide);rw[show decide (([2,3]:List Int)=[2,3])=true from rfl]at c;have d:=af c;have g:=af q
   go_wp2_with fail
   refine d.o.mono ?_;rintro e aF ⟨rfl,m⟩;have br:=af ((aL m ((aL g.o ao.o).trans ao.o)).trans ((aL g.o ao.o).trans ao.o));have a:=g.o.trans (m.mono g.o.size);have cu:=a.size;have bG:=af (bF.o.below a);have bm:=af (bl.o.trans (a.mono (show w.heap.size<=R.heap.size by omega)));have a0:aF.cell? (ae B.heap.size 2)=some (ai 3):=(gp br.o).2.2;have aP:Hid (∀k,G k->w.heap.size<=k/\k<aF.heap.size):=fun k h=>⟨(aJ.o k h).1,by have:=(aJ.o k h).2;omega⟩;have d:=af (QW bG.o (by decide))
   go_wp2_with fail
   refine d.o.mono ?_;rintro e P ⟨v,aj,rfl,s,hP,f,Y⟩;rw[TU,Sk]at s;have cv:=f.size;obtain⟨bY,b2,rfl,-,-,-⟩:=Rd.aC (l:=[2]) s;have bR:=af s;have aO:Hid (∀k,aj k->w.heap.size<=k/\k<P.heap.size):=fun k h=>⟨(Y k h).1.elim (fun h=>(aP.o k h).1) (fun h=>by omega),(Y k h).2.1⟩;have bn:=af (bm.o.trans (f.toBelow (show w.heap.size<=aF.heap.size by omega) (fun k h=>(aP.o k h).1)));have bH:=af hP;have q:Below P.heap.size P (P.alloc (.cells #[ai 2] 27)):=(aB _ _).alloc (ay _) _;obtain⟨_,_,j,-,-,I⟩:=Rd.aC (l:=[2]) bR.o;injection j with j _ E;subst j E;have c:=Bl bY (some (ae P.heap.size 0)) [2] [2] 1 1 b2 1 _ rfl rfl (I.below q) (Rd.lit (enc:=Value.int .u32) P 27 [2] _ rfl) (by decide) (by decide);rw[show decide (([2]:List Int)=[2])=true from rfl]at c;have d:=af c;have g:=af q
   go_wp2_with fail
   refine d.o.mono ?_;rintro e aq ⟨rfl,m⟩;have a:=g.o.trans (m.mono g.o.size);have ci:=a.size;have bv:=af (bH.o.below a);have a8:=af (bn.o.trans (a.mono (show w.heap.size<=P.heap.size by omega)));have au:Hid (∀k,aj k->w.heap.size<=k/\k<aq.heap.size):=fun k h=>⟨(aO.o k h).1,by have:=(aO.o k h).2;omega⟩;have d:=af (Bq bv.o (by decide) 2 5 2 (by decide))
   go_wp2_with fail
   refine d.o.mono ?_;rintro e ac ⟨q,aw,rfl,hP,f,hd⟩;obtain⟨rfl,rfl⟩:q=0/\aw=3:=by
    rcases hd with⟨h,W,X⟩|⟨h,W,X⟩
    .exact absurd h (by decide)
    .exact⟨W,X⟩
   have cj:=f.size;have ak:Hid (∀k,(aj k\/aq.heap.size<=k/\k<ac.heap.size)->w.heap.size<=k/\k<ac.heap.size):=fun k h=>h.elim (fun h=>⟨(au.o k h).1,by have:=(au.o k h).2;omega⟩) (fun h=>⟨by omega,h.2⟩);have a9:=af (a8.o.trans (f.toBelow (show w.heap.size<=aq.heap.size by omega) (fun k h=>(au.o k h).1)));have ap:=af hP;rw[show(List.filter (fun r=>decide (r≠((2:Int),(5:Int),(2:Int)))) _)=[(0,0,1),(2,1,3)]from rfl]at ap;generalize aD:(fun k=>aj k\/aq.heap.size<=k/\k<ac.heap.size)=aG at ap
   replace ak:Hid (∀k,aG k->w.heap.size<=k/\k<ac.heap.size):=fun k h=>ak.o k (by rw[<-aD]at h;exact h)
   have d:=af (Gt ap.o 9 9 3 (by decide))
   go_wp2_with fail
   refine d.o.mono ?_;rintro e a4 ⟨rfl,m⟩;have ck:=m.size;have aK:Hid (∀k,aG k->w.heap.size<=k/\k<a4.heap.size):=fun k h=>⟨(ak.o k h).1,by have:=(ak.o k h).2;omega⟩;have ba:=af (a9.o.trans (m.mono (show w.heap.size<=ac.heap.size by omega)));have bw:=af (ap.o.below m);have d:=af (QW bw.o (by decide))
   go_wp2_with fail
   refine d.o.mono ?_;rintro e O ⟨v,ah,rfl,s,hP,f,Y⟩;rw[TV,Sl]at s;have cl:=f.size;obtain⟨bV,b0,rfl,-,-,-⟩:=Rd.aC (l:=[3]) s;have bI:=af s;have aM:Hid (∀k,ah k->w.heap.size<=k/\k<O.heap.size):=fun k h=>⟨(Y k h).1.elim (fun h=>(aK.o k h).1) (fun h=>by omega),(Y k h).2.1⟩;have bb:=af (ba.o.trans (f.toBelow (show w.heap.size<=a4.heap.size by omega) (fun k h=>(aK.o k h).1)));have bx:=af hP;have q:Below O.heap.size O (O.alloc (.cells #[ai 3] 27)):=(aB _ _).alloc (ay _) _;obtain⟨_,_,j,-,-,I⟩:=Rd.aC (l:=[3]) bI.o;injection j with j _ E;subst j E;have c:=Bl bV (some (ae O.heap.size 0)) [3] [3] 1 1 b0 1 _ rfl rfl (I.below q) (Rd.lit (enc:=Value.int .u32) O 27 [3] _ rfl) (by decide) (by decide);rw[show decide (([3]:List Int)=[3])=true from rfl]at c;have d:=af c;have g:=af q
   go_wp2_with fail
   refine d.o.mono ?_;rintro e ar ⟨rfl,m⟩;have a:=g.o.trans (m.mono g.o.size);have cm:=a.size;have bz:=af (bx.o.below a);have bc:=af (bb.o.trans (a.mono (show w.heap.size<=O.heap.size by omega)));have av:Hid (∀k,ah k->w.heap.size<=k/\k<ar.heap.size):=fun k h=>⟨(aM.o k h).1,by have:=(aM.o k h).2;omega⟩;have d:=af (Bq bz.o (by decide) 0 0 1 (by decide))
   go_wp2_with fail
   refine d.o.mono ?_;rintro e ad ⟨q,aw,rfl,hP,f,hd⟩;obtain⟨rfl,rfl⟩:q=1/\aw=1:=by
    rcases hd with⟨h,W,X⟩|⟨h,W,X⟩
    .exact⟨W.trans (by decide),X.trans (by decide)⟩
    .exact absurd h (by decide)
   have cn:=f.size;have aN:Hid (∀k,(ah k\/ar.heap.size<=k/\k<ad.heap.size)->w.heap.size<=k/\k<ad.heap.size):=fun k h=>h.elim (fun h=>⟨(av.o k h).1,by have:=(av.o k h).2;omega⟩) (fun h=>⟨by omega,h.2⟩);have bd:=af (bc.o.trans (f.toBelow (show w.heap.size<=ar.heap.size by omega) (fun k h=>(av.o k h).1)));have az:=af hP;rw[show(List.filter (fun r=>decide (r≠((0:Int),(0:Int),(1:Int)))) _)=[(2,1,3)]from rfl]at az;generalize aD:(fun k=>ah k\/ar.heap.size<=k/\k<ad.heap.size)=bp at az
   replace aN:Hid (∀k,bp k->w.heap.size<=k/\k<ad.heap.size):=fun k h=>aN.o k (by rw[<-aD]at h;exact h)
   have d:=af (OP az.o)
   go_wp2_with fail
   refine d.o.mono ?_;rintro e cf ⟨rfl,m⟩;have be:=af (bd.o.trans (m.mono (show w.heap.size<=ad.heap.size by omega)));go_wp2;go_ret;exact⟨rfl,be.o⟩
def jv (w:World) (v:Value):Prop:=v=.pointer none\/∃b x y z,v=ah b/\w.heap[b]? =some (Obj.cells #[.pointer none,x,y,z] uR (0,0))
theorem jv.below {w w':World} {v:Value} (h:jv w v) (a:Below w.heap.size w w'):jv w' v:=by
 rcases h with h|⟨b,x,y,z,e,h⟩
 .exact .inl h
 .exact .inr ⟨b,x,y,z,e,(aL a h).trans h⟩
section
variable {w:World} {v:Value}
theorem lM (h:jv w v):aH 55 #[v] w fun e w'=>e=.returned (.bool true)/\w'=w:=by
 rcases h with rfl|⟨b,x,y,z,rfl,h⟩
 .go_enter func55,ntmps55;go_wp2;go_ret;exact⟨rfl,rfl⟩
 .have a:w.cell? (ae b 0)=some (.pointer none):=by simp[World.cell?,h]
  clear h;go_enter func55,ntmps55;go_wp2;go_ret;exact⟨rfl,rfl⟩
theorem QB (h:jv w v) (d:Int):aH 13 #[v,ai d] w fun e w'=>e=.returned (.tuple #[aa 0,.bool false])/\w'=w:=by
 have b:=af (lM h);clear h;go_enter func13,ntmps13
 go_wp2_with (go_at_call 55;refine b.o.mono ?_;rintro e w1 ⟨rfl,a⟩;have c:=a.symm;clear a;subst c)
 go_ret2;exact⟨rfl,rfl⟩
theorem Sm (h:jv w v):aH 14 #[v] w fun e w'=>e=.returned (aa 0)/\w'=w:=by
 have b:=af (lM h);clear h;go_enter func14,ntmps14
 go_wp2_with (go_at_call 55;refine b.o.mono ?_;rintro e w1 ⟨rfl,a⟩;have c:=a.symm;clear a;subst c)
 go_ret;exact⟨rfl,rfl⟩
theorem Mf (h:jv w v):aH 33 #[v] w fun e w'=>e=.returned (aa 0)/\w'=w:=by
 have b:=af (lM h);clear h;go_enter func33,ntmps33
 go_wp2_with (go_at_call 55;refine b.o.mono ?_;rintro e w1 ⟨rfl,a⟩;have c:=a.symm;clear a;subst c)
 go_ret;exact⟨rfl,rfl⟩
theorem QC (h:jv w v):aH 31 #[v] w fun e w'=>e=.returned (aa 0)/\w'=w:=by
 have b:=af (lM h);clear h;go_enter func31,ntmps31
 go_wp2_with (go_at_call 55;refine b.o.mono ?_;rintro e w1 ⟨rfl,a⟩;have c:=a.symm;clear a;subst c)
 go_ret;exact⟨rfl,rfl⟩
theorem Ji (h:jv w v):aH 34 #[v] w fun e w'=>e=.returned (aa 0)/\w'=w:=by
 have b:=af (lM h);clear h;go_enter func34,ntmps34
 go_wp2_with (go_at_call 55;refine b.o.mono ?_;rintro e w1 ⟨rfl,a⟩;have c:=a.symm;clear a;subst c)
 go_ret;exact⟨rfl,rfl⟩
theorem Sn (h:jv w v):aH 16 #[v] w fun e w'=>e=.returned (aG)/\w'=w:=by
 have b:=af (lM h);clear h;go_enter func16,ntmps16
 go_wp2_with (go_at_call 55;refine b.o.mono ?_;rintro e w1 ⟨rfl,a⟩;have c:=a.symm;clear a;subst c)
 go_ret;exact⟨rfl,rfl⟩
theorem EC (h:jv w v) (f:Value):aH 69 #[v,f] w fun e w'=>e=.returned (aa 0)/\w'=w:=by
 have b:=af (lM h);clear h;go_enter func69,ntmps69
 go_wp2_with (go_at_call 55;refine b.o.mono ?_;rintro e w1 ⟨rfl,a⟩;have c:=a.symm;clear a;subst c)
 go_ret;exact⟨rfl,rfl⟩
theorem QD (h:jv w v) (fn:FuncId) (cs:Array Value):aH 65 #[v,.func (.func fn) #[] cs] w (eY w (.tuple #[aG,aa 0])):=by
 have a:Below w.heap.size w ((w.alloc (.cells #[.func (.func fn) #[] cs] 121)).alloc (.cells #[aG] 35)):=((aB _ _).alloc (ay _) _).alloc (by simp) _;have i:=af (fun f=>EC (h.below a) f);have g:=xx w (.cells #[.func (.func fn) #[] cs] 121) (.cells #[aG] 35);have j:=af (fun W=>uW (w:=W) (base:=0) (l:=[]) (dz W 0 27 1) (bf _));have c:=af a;have HO:=af g;clear h a g;go_enter func65,ntmps65
 go_wp2_with fail
 generalize((w.alloc (.cells #[.func (.func fn) #[] cs] 121)).alloc (.cells #[aG] 35))=w2 at*;refine(i.o _).mono ?_;rintro e w3 ⟨rfl,rfl⟩;have n:w3.cell? (ae (w.heap.size+1) 0)=some (aG):=by simp only[World.cell?,HO.o];rfl
 go_wp2_with fail
 refine(j.o _).mono ?_;rintro e w4 ⟨rfl,-,b⟩;have d:=bF b HO.o (fun e=>by cases e);have p:w4.cell? (ae (w.heap.size+1) 0)=some (aG):=by simp only[World.cell?,d];rfl
 have m:=af b;clear b d n;go_wp2;go_ret2;exact⟨rfl,(c.o.trans (m.o.toBelow c.o.size (fun k h=>by cases h)))⟩
theorem Bv (h:jv w v) (fn:FuncId) (cs:Array Value):aH 73 #[v,.func (.func fn) #[] cs] w (eY w (.tuple #[aa 0,aa 0])):=by
 have a:Below w.heap.size w ((w.alloc (.cells #[.func (.func fn) #[] cs] 128)).alloc (.cells #[aa 0] 3)):=((aB _ _).alloc (ay _) _).alloc (by simp) _;have c:=af (fun f=>EC (h.below a) f);have b:=xx w (.cells #[.func (.func fn) #[] cs] 128) (.cells #[aa 0] 3);have d:=af a;have HO:=af b;clear h a b;go_enter func73,ntmps73
 go_wp2_with fail
 generalize((w.alloc (.cells #[.func (.func fn) #[] cs] 128)).alloc (.cells #[aa 0] 3))=w2 at*;refine(c.o _).mono ?_;rintro e w3 ⟨rfl,rfl⟩;have g:w3.cell? (ae (w.heap.size+1) 0)=some (aa 0):=by simp only[World.cell?,HO.o];rfl
 go_wp2;go_ret2;exact⟨rfl,d.o⟩
theorem Mg (h:jv w v) (x1 x2 y1 y2 d:Int):aH 17 #[v,.agg #[aa x1,aa x2,aa y1,aa y2,ai d]] w (eY w (.tuple #[aG,aa 0])):=by
 have a:Below w.heap.size w (w.alloc (.cells #[aa x1,aa x2,aa y1,aa y2,ai d] 38)):=((aB _ _).alloc (ay _) _);have b:=af (fun fn cs=>QD (h.below a) fn cs);have c:=af a;clear h a;go_enter func17,ntmps17
 go_wp2_with fail
 refine(b.o _ _).mono ?_;rintro e w3 ⟨rfl,f⟩;have g:=af (c.o.trans (f.mono c.o.size));clear f b;go_wp2;go_ret2;exact⟨rfl,g.o⟩
theorem OQ (h:jv w v) (x1 x2 y1 y2 d:Int):aH 28 #[v,.agg #[aa x1,aa x2,aa y1,aa y2,ai d]] w (eY w (.tuple #[aa 0,aa 0])):=by
 have a:Below w.heap.size w (w.alloc (.cells #[aa x1,aa x2,aa y1,aa y2,ai d] 38)):=((aB _ _).alloc (ay _) _);have b:=af (fun fn cs=>Bv (h.below a) fn cs);have c:=af a;clear h a;go_enter func28,ntmps28
 go_wp2_with fail
 refine(b.o _ _).mono ?_;rintro e w3 ⟨rfl,f⟩;have g:=af (c.o.trans (f.mono c.o.size));clear f b;go_wp2;go_ret2;exact⟨rfl,g.o⟩
theorem Sq (h:jv w v) (x1 x2 y:Int):aH 24 #[v,aa x1,aa x2,aa y] w (eY w (.tuple #[.bool false,aa 0])):=by
 have a:Below w.heap.size w (((w.alloc (.cells #[aa x1] 2)).alloc (.cells #[aa x2] 2)).alloc (.cells #[aa y] 2)):=((((aB _ _).alloc (ay _) _).alloc (by simp<;>omega) _).alloc (by simp<;>omega) _);have b:=af (fun fn cs=>Bv (h.below a) fn cs);have c:=af a;clear h a;go_enter func24,ntmps24
 go_wp2_with fail
 refine(b.o _ _).mono ?_;rintro e w3 ⟨rfl,d⟩;have f:=af (c.o.trans (d.mono c.o.size));clear d b;go_wp2;go_ret2;exact⟨rfl,f.o⟩
theorem Sr (h:jv w v) (d:Int):aH 23 #[v,ai d] w (eY w (.tuple #[iD 0 0 0,.bool false])):=by
 obtain⟨w1,a⟩:∃w1,w1=w.alloc (.cells #[aa 0,aa 0,ai 0] 29):=⟨_,rfl⟩;have b:Below w.heap.size w w1:=by rw[a];exact(aB _ _).alloc (ay _) _
 have i:w1.heap[w.heap.size]? =some (wG (0,0,0)):=by rw[a];exact di w _
 have j:=af (lM (h.below b));have k:=af b;have f:=af i;have c:=af a;clear a b i h;go_enter func23,ntmps23
 go_upto_region 1 with fail
 rw[<-c.o];clear c;have l:=af (qQ w1 w.heap.size _ #[aa 0,aa 0,ai 0] _ _ f.o);have m:=af (xq k.o (ay w.heap.size) #[aa 0,aa 0,ai 0])
 go_wp2_with (first|(go_at_call 55;refine j.o.mono ?_;rintro e w2 ⟨rfl,g⟩;have n:=g.symm;clear g;subst n)|(refine tL rfl 29 (.tmp 4) (.tmp 11) rfl rfl w.heap.size #[aa 0,aa 0,ai 0] rfl rfl _ _ f.o (by kernel_rfl) rfl (by simp[Value.oneCell']) ?_))
 refine jT (BS rfl _ _ w.heap.size _ _ _ _ (.bool false) rfl rfl l.o underlying29 rfl (by kernel_rfl)) rfl ?_;exact⟨rfl,m.o⟩
theorem Su (h:jv w v) (x y d:Int):aH 12 #[v,iD x y d] w (eY w (.tuple #[aa 0,.bool false])):=by
 have m:=af (di w (.cells #[aa x,aa y,ai d] 29));have a:Below w.heap.size w (w.alloc (.cells #[aa x,aa y,ai d] 29)):=(aB _ _).alloc (ay _) _;have j:=af (h.below a);have f:=af a;clear a h;go_enter func12,ntmps12
 go_wp2_with fail
 generalize w.alloc (.cells #[aa x,aa y,ai d] 29)=w1 at*;have c:=af (fun b:aT w1=>(lM (j.o.below b.h)).mono (R':=fun e w'=>e=.returned (.bool true)/\Below b.W.heap.size b.W w') fun e w' h=>⟨h.1,by rw[h.2];exact aB _ _⟩);refine bI (by kernel_rfl) (by kernel_rfl) ?_
 repeat(quiet_step ((go_at_call 55;exact dC (c.o _))))
 refine jb ?_;intro l i;have g:Below w1.heap.size w1 l:=by obtain⟨b,rfl⟩:=i;exact b.h
 have k:=af (f.o.trans (g.mono f.o.size));clear i g c;go_wp2;go_ret2;exact⟨rfl,k.o⟩
theorem Mh (h:jv w v) (x1 x2:Int):aH 20 #[v,aa x1,aa x2] w (eY w (.tuple #[iD 0 0 0,.bool false,aa 0])):=by
 obtain⟨a,sz,g,i,c,d,f⟩:=Bp w x1 x2;refine(Gr x1 x2 (fun r b u=>r=none/\b=0/\u=wD w x1 x2) ((EC (h.below a) _).mono ?_)).mono ?_
 .rintro e j ⟨rfl,rfl⟩;exact⟨none,0,rfl,f,d,c,rfl,rfl,rfl⟩
 .rintro e w' ⟨r,b,u,rfl,⟨rfl,rfl,rfl⟩,rfl⟩;exact⟨rfl,xq a.drew (by omega) _⟩
end
theorem Gw (u x q x1 x2 y1 y2 t:Int) (w:World):
  aH 8 #[iD u x q,.agg #[aa x1,aa x2,aa y1,aa y2,ai t]] w (eY w (.bool true)):=by
 have ax:=af (fun W=>QA W);obtain⟨w2,d⟩:∃w2,w2=(w.alloc (.cells #[aa u,aa x,ai q] 29)).alloc (.cells #[aa x1,aa x2,aa y1,aa y2,ai t] 38):=⟨_,rfl⟩;have g:Below w.heap.size w w2:=by rw[d];exact((aB _ _).alloc (ay _) _).alloc (by simp) _
 have n:w2.heap[w.heap.size]? =some (wG (u,x,q)):=by rw[d];exact Dz w (.cells #[aa u,aa x,ai q] 29) _
 have aw:w2.heap[w.heap.size+1]? =some (JI (x1,x2,y1,y2,t)):=by rw[d];exact xx w (.cells #[aa u,aa x,ai q] 29) (.cells #[aa x1,aa x2,aa y1,aa y2,ai t] 38)
 have ag:=af d.symm;have Q:=af g;have S:=af n;have Z:=af aw;clear d g n aw;go_enter func8,ntmps8
 go_upto_region 1 with fail
 rw[ag.o];clear ag
 go_wp2_with fail
 obtain⟨w4,E⟩:∃w4,w4=(w2.alloc (.cells #[.pointer none,.pointer none,aG,aa 0] uR)).alloc (.cells #[.pointer none,ah w2.heap.size] 24):=⟨_,rfl⟩;have f:Below w2.heap.size w2 w4:=by rw[E];exact((aB _ _).alloc (ay _) _).alloc (by simp) _
 have ap:w4.heap[w2.heap.size]? =some (.cells #[.pointer none,.pointer none,aG,aa 0] uR (0,0)):=by rw[E];exact Dz w2 _ _
 have ao:w4.heap[w2.heap.size+1]? =some (.cells #[.pointer none,ah w2.heap.size] 24 (0,0)):=by rw[E];exact xx w2 (.cells #[.pointer none,.pointer none,aG,aa 0] uR) _
 have ak:=af ap;have aj:=af ao;have R:=af (Q.o.trans (f.mono Q.o.size));have M:=af ((aL f S.o).trans S.o);have O:=af ((aL f Z.o).trans Z.o);rw[<-E];clear E f ap ao S Z Q
 go_loopw [26] (fun ab wr=>∃i:Nat,ab=.int .i64 i/\i<=2/\Hid (Below w4.heap.size w4 wr)) (fun ab _=>2-(intOf ab).toNat)
 case atStart=>exact⟨0,rfl,bf _,aB _ _⟩
 case round=>
  obtain⟨i,rfl,hi,p⟩:=hrel;obtain⟨j,e⟩:∃aO:World,aO=wr:=⟨_,rfl⟩;subst e;by_cases aR:i<2
  .obtain⟨v,aP,h⟩:∃v,j.cell? (ae (w2.heap.size+1) i)=some v/\Hid (∀W,Below j.heap.size j W->jv W v):=by
    have al:=(aL p.o aj.o).trans aj.o;have am:=(aL p.o ak.o).trans ak.o;have aE:i=0\/i=1:=by omega
    rcases aE with rfl|rfl
    .exact⟨.pointer none,by simp[World.cell?,al],fun W _=>.inl rfl⟩
    .exact⟨ah w2.heap.size,by simp[World.cell?,al],fun W b=>.inr ⟨_,_,_,_,rfl,(aL b am).trans am⟩⟩
   have N:Hid (∀W,Below j.heap.size j W->W.heap[w.heap.size]? =some (wG (u,x,q))):=fun W b=>(aL b ((aL p.o M.o).trans M.o)).trans ((aL p.o M.o).trans M.o);have D:Hid (∀W,Below j.heap.size j W->W.heap[w.heap.size+1]? =some (JI (x1,x2,y1,y2,t))):=fun W b=>(aL b ((aL p.o O.o).trans O.o)).trans ((aL p.o O.o).trans O.o);have H:Hid (Below j.heap.size j j):=aB _ _;have aQ:(i:Int)<2:=by omega
   obtain⟨r,s,n⟩:=gp (N.o j H.o);simp only at r s n;have a:=af (Su (h.o j H.o) u x q)
   go_wp2_with fail
   refine a.o.mono ?_;rintro e P ⟨rfl,b⟩;have y:=af (H.o.trans (b.mono H.o.size));clear b;clear a r s n;clear aP;obtain⟨r,s,n⟩:=gp (N.o P y.o);simp only at r s n;have a:=af (QB (h.o P y.o) q)
   go_wp2_with fail
   refine a.o.mono ?_;rintro e G ⟨rfl,c⟩;have d:=c.symm;clear c;subst d;clear a r s n;obtain⟨r,s,n⟩:=gp (N.o P y.o);simp only at r s n;have a:=af (Sr (h.o P y.o) q)
   go_wp2_with fail
   refine a.o.mono ?_;rintro e B ⟨rfl,b⟩;have ac:=af (y.o.trans (b.mono y.o.size));clear b;clear a r s n;have A:Hid (Below B.heap.size B (B.alloc (.cells #[aa 0,aa 0,ai 0] 29))):=(aB _ _).alloc (ay _) _;have T:Hid ((B.alloc (.cells #[aa 0,aa 0,ai 0] 29)).heap[B.heap.size]? =some (wG (0,0,0))):=di _ _
   go_upto_region 7 with fail
   generalize B.alloc (.cells #[aa 0,aa 0,ai 0] 29)=aq at*;have I:=af (ac.o.trans (A.o.mono ac.o.size));clear A;obtain⟨k,l,g,m,f⟩:=mU (D.o aq I.o);simp only at k l g m f;have a:=af (Mg (h.o aq I.o) x1 x2 y1 y2 t)
   go_wp2_with fail
   refine a.o.mono ?_;rintro e ar ⟨rfl,b⟩;have J:=af (I.o.trans (b.mono I.o.size));have U:=af ((aL b T.o).trans T.o);clear T;clear b;clear a k l g m f;obtain⟨k,l,g,m,f⟩:=mU (D.o ar J.o);simp only at k l g m f;have a:=af (OQ (h.o ar J.o) x1 x2 y1 y2 t)
   go_wp2_with fail
   refine a.o.mono ?_;rintro e au ⟨rfl,b⟩;have K:=af (J.o.trans (b.mono J.o.size));have V:=af ((aL b U.o).trans U.o);clear U;clear b;clear a k l g m f;obtain⟨k,l,g,m,f⟩:=mU (D.o au K.o);simp only at k l g m f;have a:=af (Sq (h.o au K.o) x1 x2 y1)
   go_wp2_with fail
   refine a.o.mono ?_;rintro e av ⟨rfl,b⟩;have L:=af (K.o.trans (b.mono K.o.size));have X:=af ((aL b V.o).trans V.o);clear V;clear b;clear a k l g m f;obtain⟨k,l,g,m,f⟩:=mU (D.o av L.o);simp only at k l g m f;have a:=af (Mh (h.o av L.o) x1 x2)
   go_wp2_with fail
   refine a.o.mono ?_;rintro e C ⟨rfl,b⟩;have ad:=af (L.o.trans (b.mono L.o.size));have Y:=af ((aL b X.o).trans X.o);clear X;clear b;clear a k l g m f;have A:Hid (Below C.heap.size C (C.alloc (.cells #[aa 0,aa 0,ai 0] 29))):=(aB _ _).alloc (ay _) _;have aC:Hid ((C.alloc (.cells #[aa 0,aa 0,ai 0] 29)).heap[C.heap.size]? =some (wG (0,0,0))):=di _ _
   go_upto_region 11 with fail
   generalize C.alloc (.cells #[aa 0,aa 0,ai 0] 29)=F at*;have z:=af (ad.o.trans (A.o.mono ad.o.size));have aD:=af ((aL A.o Y.o).trans Y.o);clear Y;clear A;have a:=af (Sn (h.o F z.o))
   go_wp2_with fail
   refine a.o.mono ?_;rintro e G ⟨rfl,c⟩;have d:=c.symm;clear c;subst d;clear a;have a:=af (Sm (h.o F z.o))
   go_wp2_with fail
   refine a.o.mono ?_;rintro e G ⟨rfl,c⟩;have d:=c.symm;clear c;subst d;clear a;have a:=af (Mf (h.o F z.o))
   go_wp2_with fail
   refine a.o.mono ?_;rintro e G ⟨rfl,c⟩;have d:=c.symm;clear c;subst d;clear a;have a:=af (QC (h.o F z.o))
   go_wp2_with fail
   refine a.o.mono ?_;rintro e G ⟨rfl,c⟩;have d:=c.symm;clear c;subst d;clear a;have a:=af (Ji (h.o F z.o))
   go_wp2_with fail
   refine a.o.mono ?_;rintro e G ⟨rfl,c⟩;have d:=c.symm;clear c;subst d;clear a;obtain⟨aF,aI,aJ⟩:=gp aD.o;obtain⟨aK,aM,aN⟩:=gp aC.o;simp only at aF aI aJ aK aM aN;have az:=af (p.o.trans (z.o.mono p.o.size));clear N D h;go_wp2;go_roundw
   case rel=>exact⟨i+1,by go_num,by omega,az⟩
   case measure=>simp[intOf];omega
  .obtain rfl:i=2:=by omega
   go_wp2_with fail
   refine(ax.o _).mono ?_;rintro e aS ⟨rfl,an⟩;have aA:=af ((R.o.trans (p.o.mono R.o.size)).trans (an.mono (by have:=R.o.size;have:=p.o.size;omega)));clear an;go_wp2;go_ret;exact⟨rfl,aA.o⟩
end
end Go.Proofs.YtkjdbndekceffaaGreat
