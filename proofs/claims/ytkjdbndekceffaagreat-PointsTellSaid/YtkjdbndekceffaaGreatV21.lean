/- Made small by a program. -/
import Derived.Test.YtkjdbndekceffaaGreatV20
set_option linter.unusedSimpArgs false
set_option linter.unusedVariables false
set_option maxRecDepth 100000
set_option maxHeartbeats 16000000
namespace Go.Proofs.YtkjdbndekceffaaGreat
open Tryz
section
open Go.RowKit Go.Sort Go.Shelf Go.Lib Go.Maps
attribute [local irreducible] wpQuiet
attribute [local go_sem] Oper.dZ
theorem WI:bL [(0,0,1),(2,5,2),(2,1,3)]=[(2,5,2)]:=by
 refine(kF ai).unique ⟨by simp[kY],fun p=>?_⟩;have⟨x,y,i⟩:=p;constructor
 .intro h;simp only[gW,vX,iO,or_false]at h;rcases h with⟨rfl,rfl,rfl⟩<;>exact⟨ai,ai⟩
 .rintro⟨h,a⟩;simp only[gW,vX,iO,or_false]at h;rcases h with⟨rfl,rfl,rfl⟩|⟨rfl,rfl,rfl⟩|⟨rfl,rfl,rfl⟩<;>first|(exfalso;revert a;decide)|decide
theorem WJ:bL [(0,0,1),(2,1,3)]=[(2,1,3)]:=by
 refine(kF ai).unique ⟨by simp[kY],fun p=>?_⟩;have⟨x,y,i⟩:=p;constructor
 .intro h;simp only[gW,vX,iO,or_false]at h;rcases h with⟨rfl,rfl,rfl⟩<;>exact⟨ai,ai⟩
 .rintro⟨h,a⟩;simp only[gW,vX,iO,or_false]at h;rcases h with⟨rfl,rfl,rfl⟩|⟨rfl,rfl,rfl⟩<;>first|(exfalso;revert a;decide)|decide
theorem Jt {l:List Int} (h:l.Pairwise (·<=·)):dh l=l:=xP h (qE _)
theorem TD:o7 [(0,0,1),(2,5,2),(2,1,3)] 1 9=some (2,1,3):=by
 refine ET (l:=[(0,0,1),(2,5,2),(2,1,3)]) (qE _) ai (GN _ _ _) ⟨ai,ai,?_⟩;decide
theorem WK:dh (ids (([(0,0,1),(2,5,2),(2,1,3)]:List Pt).filter (sj 0 2 1 5)))=[2,3]:=by
 rw[show ids (([(0,0,1),(2,5,2),(2,1,3)]:List Pt).filter (sj 0 2 1 5))=[2,3] by decide];exact Jt ai
theorem WL:dh (ids (([(0,0,1),(2,5,2),(2,1,3)]:List Pt).filter (oV 0 9 1)))=[1,3]:=by
 rw[show ids (([(0,0,1),(2,5,2),(2,1,3)]:List Pt).filter (oV 0 9 1))=[1,3] by decide];exact Jt ai
theorem WM:dh (ids (([(0,0,1),(2,5,2),(2,1,3)]:List Pt).filter (AX 2 1 3)))=[2,3]:=by
 rw[show ids (([(0,0,1),(2,5,2),(2,1,3)]:List Pt).filter (AX 2 1 3))=[2,3] by decide];exact Jt ai
theorem Vt:dh (ids [((2:Int),(5:Int),(2:Int))])=[2]:=Jt ai
theorem Vu:dh (ids [((2:Int),(1:Int),(3:Int))])=[3]:=Jt ai
def MJ:List Pt:=[(0,0,1),(2,5,2),(2,1,3)]
theorem Ms.one {n:Nat} (h:Ms 0 n):n=1:=by
 obtain⟨i,q,rfl,h⟩:=h;rcases i with _|i
 .rfl
 .have:2<=2^(i+1):=by rw[qH];have:=qK (n:=i) (show 0<2 by decide);omega
  have:(2^(i+1):Nat)<=2^(i+1)+2^(i+1+1)*q:=Nat.le_add_right _ _;omega
theorem Ms.two {n:Nat} (h:Ms 1 n):n=2:=by
 obtain⟨i,q,rfl,h⟩:=h;rcases i with _|_|i
 .simp at h;omega
 .rfl
 .have:4<=2^(i+1+1):=by rw[qH,qH];have:=qK (n:=i) (show 0<2 by decide);omega
  have:(2^(i+1+1):Nat)<=2^(i+1+1)+2^(i+1+1+1)*q:=Nat.le_add_right _ _;omega
theorem Ms.three {n:Nat} (h:Ms 2 n):n=1:=by
 obtain⟨i,q,rfl,h⟩:=h;rcases i with _|_|i
 .rfl
 .simp at h;omega
 .have:4<=2^(i+1+1):=by rw[qH,qH];have:=qK (n:=i) (show 0<2 by decide);omega
  have:(2^(i+1+1):Nat)<=2^(i+1+1)+2^(i+1+1+1)*q:=Nat.le_add_right _ _;omega
theorem TE (w:World):aK 21 #[] w (gD w (.bool true)):=by
 have bs:=af (TZ w);go_enter func21,ntmps21
 go_wp2_with fail
 refine bs.o.mono ?_;rintro e w1 ⟨Pb,rfl,hP,cc⟩;have bu:=af hP;have aL:=af cc;have bZ:Hid (bV bX 3 (w1.alloc (.cells #[ae 0,ae 0,ak 1,ae 2,ae 5,ak 2,ae 2,ae 1,ak 3] 29)) (some (ag w1.heap.size 0)) MJ):=bV.lit (sz:=3) bq w1 29 MJ w1.heap.size rfl;have aV:Hid (Below w1.heap.size w1 (w1.alloc (.cells #[ae 0,ae 0,ak 1,ae 2,ae 5,ak 2,ae 2,ae 1,ak 3] 29))):=(aJ _ _).alloc (aA _) _;have ci:(w1.alloc (.cells #[ae 0,ae 0,ak 1,ae 2,ae 5,ak 2,ae 2,ae 1,ak 3] 29)).heap.size=w1.heap.size+1:=ax
 go_wp2_with fail
 generalize w1.alloc (.cells #[ae 0,ae 0,ak 1,ae 2,ae 5,ak 2,ae 2,ae 1,ak 3] 29)=w2 at*;have ce:=aL.o.size
 go_loopw [25] (fun aG wr=>∃(i:Nat) (G:Nat->Prop) (wk:Int),aG=.int .i64 i/\i<=3/\w2.heap.size<=wr.heap.size/\Hid (dG wr Pb G i (MJ.take i) i wk 0)/\Hid (∀k,G k->w.heap.size<=k/\k<wr.heap.size/\k≠w1.heap.size)/\Hid (Below w.heap.size w wr)/\Hid (bV bX 3 wr (some (ag w1.heap.size 0)) MJ)) (fun aG _=>3-(intOf aG).toNat)
 case atStart=>exact⟨0,_,0,rfl,aT _,aA _,bu.o.below aV.o,fun k H=>⟨H.1,by have:=H.2;omega,by have:=H.2;omega⟩,aL.o.trans (aV.o.mono ce),bZ⟩
 case round=>
  obtain⟨i,G,wk,rfl,hi,cj,V,u,t,an⟩:=hrel;by_cases cl:i<3
  .have cd:i=0\/i=1\/i=2:=aa;have⟨b,off,aE,ck,F⟩:=an.o.get ai;injection aE with aE;injection aE with ca cb _;subst ca cb;rcases cd with rfl|rfl|rfl
   .have N:=F 0 ai 0 aa;have x1:=F 0 ai 1 aa;have x2:=F 0 ai 2 aa
    replace N:wr.cell? (ag w1.heap.size 0)=some (ae 0):=N
    replace x1:wr.cell? (ag w1.heap.size 1)=some (ae 0):=x1
    replace x2:wr.cell? (ag w1.heap.size 2)=some (ak 1):=x2
    obtain⟨p,e⟩:∃p:World,p=wr:=⟨_,rfl⟩;subst e;obtain⟨A,L⟩:∃A,A=p.alloc (.cells #[ae 0,ae 0,ak 1] 29):=⟨_,rfl⟩;have K:Below p.heap.size p A:=by rw[L];exact(aJ _ _).alloc (aA _) _
    have S:=af (uV (V.o.below K) ai 0 0 1 ⟨ai,ai,ai⟩ ai);have y:=af K;have T:=af L.symm
    go_wp2_with fail
    rw[T.o];refine S.o.mono ?_;rintro e w4 ⟨n,ab,rfl,Z,M⟩;obtain rfl:=Ms.one ab;have U:=af Z;have J:=af M;have a6:=y.o.size;have a5:=M.size;go_wp2;go_roundw
    case rel=>exact⟨1,_,_,rfl,ai,aa,U.o,fun k H=>H.elim (fun h=>by have:=u.o k h;exact⟨this.1,aa,this.2.2⟩) fun h=>by have:=t.o.size;exact⟨aa,h.2,aa⟩,(t.o.trans (y.o.mono t.o.size)).trans (J.o.toBelow (by have:=t.o.size;omega) (fun k h=>(u.o k h).1)),((an.o.below y.o).Jz J.o fun x e h=>by injection e with e;rw[<-e]at h;exact(u.o _ h).2.2 rfl)⟩
    case measure=>simp[intOf]
   .have N:=F 1 ai 0 aa;have x1:=F 1 ai 1 aa;have x2:=F 1 ai 2 aa
    replace N:wr.cell? (ag w1.heap.size 3)=some (ae 2):=N
    replace x1:wr.cell? (ag w1.heap.size 4)=some (ae 5):=x1
    replace x2:wr.cell? (ag w1.heap.size 5)=some (ak 2):=x2
    obtain⟨p,e⟩:∃p:World,p=wr:=⟨_,rfl⟩;subst e;obtain⟨A,L⟩:∃A,A=p.alloc (.cells #[ae 2,ae 5,ak 2] 29):=⟨_,rfl⟩;have K:Below p.heap.size p A:=by rw[L];exact(aJ _ _).alloc (aA _) _
    have S:=af (uV (V.o.below K) ai 2 5 2 ⟨ai,ai,ai⟩ ai);have y:=af K;have T:=af L.symm
    go_wp2_with fail
    rw[T.o];refine S.o.mono ?_;rintro e w4 ⟨n,ab,rfl,Z,M⟩;obtain rfl:=Ms.two ab;have U:=af Z;have J:=af M;have a6:=y.o.size;have a5:=M.size;go_wp2;go_roundw
    case rel=>exact⟨2,_,_,rfl,ai,aa,U.o,fun k H=>H.elim (fun h=>by have:=u.o k h;exact⟨this.1,aa,this.2.2⟩) fun h=>by have:=t.o.size;exact⟨aa,h.2,aa⟩,(t.o.trans (y.o.mono t.o.size)).trans (J.o.toBelow (by have:=t.o.size;omega) (fun k h=>(u.o k h).1)),((an.o.below y.o).Jz J.o fun x e h=>by injection e with e;rw[<-e]at h;exact(u.o _ h).2.2 rfl)⟩
    case measure=>simp[intOf]
   .have N:=F 2 ai 0 aa;have x1:=F 2 ai 1 aa;have x2:=F 2 ai 2 aa
    replace N:wr.cell? (ag w1.heap.size 6)=some (ae 2):=N
    replace x1:wr.cell? (ag w1.heap.size 7)=some (ae 1):=x1
    replace x2:wr.cell? (ag w1.heap.size 8)=some (ak 3):=x2
    obtain⟨p,e⟩:∃p:World,p=wr:=⟨_,rfl⟩;subst e;obtain⟨A,L⟩:∃A,A=p.alloc (.cells #[ae 2,ae 1,ak 3] 29):=⟨_,rfl⟩;have K:Below p.heap.size p A:=by rw[L];exact(aJ _ _).alloc (aA _) _
    have S:=af (uV (V.o.below K) ai 2 1 3 ⟨ai,ai,ai⟩ ai);have y:=af K;have T:=af L.symm
    go_wp2_with fail
    rw[T.o];refine S.o.mono ?_;rintro e w4 ⟨n,ab,rfl,Z,M⟩;obtain rfl:=Ms.three ab;have U:=af Z;have J:=af M;have a6:=y.o.size;have a5:=M.size;go_wp2;go_roundw
    case rel=>exact⟨3,_,_,rfl,ai,aa,U.o,fun k H=>H.elim (fun h=>by have:=u.o k h;exact⟨this.1,aa,this.2.2⟩) fun h=>by have:=t.o.size;exact⟨aa,h.2,aa⟩,(t.o.trans (y.o.mono t.o.size)).trans (J.o.toBelow (by have:=t.o.size;omega) (fun k h=>(u.o k h).1)),((an.o.below y.o).Jz J.o fun x e h=>by injection e with e;rw[<-e]at h;exact(u.o _ h).2.2 rfl)⟩
    case measure=>simp[intOf]
  .obtain rfl:i=3:=aa;obtain⟨wp,e⟩:∃wp:World,wp=wr:=⟨_,rfl⟩;subst e;have bw:Hid (dG wp Pb G 3 [(0,0,1),(2,5,2),(2,1,3)] 3 wk 0):=V.o;have D:=af (u.o Pb V.o.facts.2.2.2.2.2.2.2);have ba:Hid (Below w.heap.size w wp):=t.o;have aM:Hid (∀k,G k->w.heap.size<=k/\k<wp.heap.size):=fun k h=>⟨(u.o k h).1,(u.o k h).2.1⟩;have cn:=t.o.size;have C:=Jf bw.o 0 2 1 5 0;rw[WK]at C;have d:=af C
   go_wp2_with fail
   refine d.o.mono ?_;rintro e a7 ⟨v,t1,rfl,s,-,f,hP⟩;have co:=f.size;have aW:=af (bN s (show wp.heap.size<=wp.heap.size by omega));obtain⟨b1,b6,rfl,-,-,-⟩:=Rd.aD (l:=[2,3]) s;have bx:=af hP;have bb:=af (ba.o.trans (f.toBelow (show w.heap.size<=wp.heap.size by omega) (fun k h=>by have:=D.o;omega)));have C:=Mx bx.o 0 9 1;rw[WL]at C;have d:=af C
   go_wp2_with fail
   refine d.o.mono ?_;rintro e a9 ⟨v,t2,rfl,s,-,f,hP⟩;have cv:=f.size;have aX:=af (aU aW.o f (fun z e h=>by have:=(aW.o.lt z e).1;have:=D.o;omega));have a0:=af (bN s (show wp.heap.size<=a7.heap.size by omega));obtain⟨b3,a4,rfl,-,-,-⟩:=Rd.aD (l:=[1,3]) s;have bD:=af hP;have bj:=af (bb.o.trans (f.toBelow (show w.heap.size<=a7.heap.size by omega) (fun k h=>by have:=D.o;omega)));have C:=Jg bD.o 2 1 3 ai;rw[WM]at C;have d:=af C
   go_wp2_with fail
   refine d.o.mono ?_;rintro e cf ⟨v,t3,rfl,s,-,f,hP⟩;have cw:=f.size;have aY:=af (aU aX.o f (fun z e h=>by have:=(aX.o.lt z e).1;have:=D.o;omega));have a1:=af (aU a0.o f (fun z e h=>by have:=(a0.o.lt z e).1;have:=D.o;omega));have a3:=af (bN s (show wp.heap.size<=a9.heap.size by omega));obtain⟨b4,b8,rfl,-,-,-⟩:=Rd.aD (l:=[2,3]) s;have bE:=af hP;have bk:=af (bj.o.trans (f.toBelow (show w.heap.size<=a9.heap.size by omega) (fun k h=>by have:=D.o;omega)));have C:=Jj bE.o 1 9;rw[TD]at C;have d:=af C
   go_wp2_with fail
   refine d.o.mono ?_;rintro e B ⟨t4,rfl,-,f,hP⟩;have cx:=f.size;have bM:=af (aU aY.o f (fun z e h=>by have:=(aY.o.lt z e).1;have:=D.o;omega));have bP:=af (aU a1.o f (fun z e h=>by have:=(a1.o.lt z e).1;have:=D.o;omega));have bR:=af (aU a3.o f (fun z e h=>by have:=(a3.o.lt z e).1;have:=D.o;omega));have bF:=af hP;have bl:=af (bk.o.trans (f.toBelow (show w.heap.size<=cf.heap.size by omega) (fun k h=>by have:=D.o;omega)));have a:Hid (Below B.heap.size B (B.alloc (.cells #[ae 2,ae 1,ak 3] 29))):=(aJ _ _).alloc (aA _) _;have ao:Hid ((B.alloc (.cells #[ae 2,ae 1,ak 3] 29)).heap[B.heap.size]? =some (vD (2,1,3))):=bY _ _;have b0:Hid (B.heap.size+1=(B.alloc (.cells #[ae 2,ae 1,ak 3] 29)).heap.size):=by show _=_;simp
   go_wp2_with fail
   generalize B.alloc (.cells #[ae 2,ae 1,ak 3] 29)=ah at*;have cy:=a.o.size;have aZ:=af (az bM.o a.o);have bQ:=af (az bP.o a.o);have bS:=af (az bR.o a.o);have bG:=af (bF.o.below a.o);have bm:=af (bl.o.trans (a.o.mono (show w.heap.size<=B.heap.size by omega)));have q:Below ah.heap.size ah (ah.alloc (.cells #[ak 2,ak 3] 27)):=(aJ _ _).alloc (aA _) _;obtain⟨_,_,j,-,-,I⟩:=Rd.aD (l:=[2,3]) aZ.o;injection j with j _ E;subst j E;have c:=nT b1 (some (ag (B.heap.size+1) 0)) [2,3] [2,3] 2 2 b6 2 _ rfl rfl (I.below q) (Rd.lit (enc:=Value.int .u32) ah 27 [2,3] _ b0.o) ai ai;rw[show decide (([2,3]:List Int)=[2,3])=true from rfl]at c;have d:=af c;have g:=af q;refine d.o.mono ?_;rintro e Q ⟨rfl,m⟩;have ap:=af ((aP m ((aP g.o ao.o).trans ao.o)).trans ((aP g.o ao.o).trans ao.o));have a:=g.o.trans (m.mono g.o.size);have cz:=a.size;have bO:=af (az aZ.o a);have a2:=af (az bQ.o a);have bT:=af (az bS.o a);have bH:=af (bG.o.below a);have bn:=af (bm.o.trans (a.mono (show w.heap.size<=ah.heap.size by omega)));have q:Below Q.heap.size Q (Q.alloc (.cells #[ak 1,ak 3] 27)):=(aJ _ _).alloc (aA _) _;obtain⟨_,_,j,-,-,I⟩:=Rd.aD (l:=[1,3]) a2.o;injection j with j _ E;subst j E;have c:=nT b3 (some (ag Q.heap.size 0)) [1,3] [1,3] 2 2 a4 2 _ rfl rfl (I.below q) (Rd.lit (enc:=Value.int .u32) Q 27 [1,3] _ rfl) ai ai;rw[show decide (([1,3]:List Int)=[1,3])=true from rfl]at c;have d:=af c;have g:=af q
   go_wp2_with fail
   refine d.o.mono ?_;rintro e R ⟨rfl,m⟩;have aq:=af ((aP m ((aP g.o ap.o).trans ap.o)).trans ((aP g.o ap.o).trans ap.o));have a:=g.o.trans (m.mono g.o.size);have cA:=a.size;have cg:=af (az bO.o a);have ch:=af (az a2.o a);have bU:=af (az bT.o a);have bI:=af (bH.o.below a);have bo:=af (bn.o.trans (a.mono (show w.heap.size<=Q.heap.size by omega)));have q:Below R.heap.size R (R.alloc (.cells #[ak 2,ak 3] 27)):=(aJ _ _).alloc (aA _) _;obtain⟨_,_,j,-,-,I⟩:=Rd.aD (l:=[2,3]) bU.o;injection j with j _ E;subst j E;have c:=nT b4 (some (ag R.heap.size 0)) [2,3] [2,3] 2 2 b8 2 _ rfl rfl (I.below q) (Rd.lit (enc:=Value.int .u32) R 27 [2,3] _ rfl) ai ai;rw[show decide (([2,3]:List Int)=[2,3])=true from rfl]at c;have d:=af c;have g:=af q
   go_wp2_with fail
   refine d.o.mono ?_;rintro e aH ⟨rfl,m⟩;have bv:=af ((aP m ((aP g.o aq.o).trans aq.o)).trans ((aP g.o aq.o).trans aq.o));have a:=g.o.trans (m.mono g.o.size);have cB:=a.size;have bJ:=af (bI.o.below a);have bp:=af (bo.o.trans (a.mono (show w.heap.size<=R.heap.size by omega)));have a4:aH.cell? (ag B.heap.size 2)=some (ak 3):=(fD bv.o).2.2;have aS:Hid (∀k,G k->w.heap.size<=k/\k<aH.heap.size):=fun k h=>⟨(aM.o k h).1,by have:=(aM.o k h).2;omega⟩;have d:=af (MG bJ.o ai)
   go_wp2_with fail
   refine d.o.mono ?_;rintro e P ⟨v,al,rfl,s,hP,f,Y⟩;rw[WI,Vt]at s;have cC:=f.size;obtain⟨b5,b9,rfl,-,-,-⟩:=Rd.aD (l:=[2]) s;have bW:=af s;have aR:Hid (∀k,al k->w.heap.size<=k/\k<P.heap.size):=fun k h=>⟨(Y k h).1.elim (fun h=>(aS.o k h).1) (fun h=>aa),(Y k h).2.1⟩;have br:=af (bp.o.trans (f.toBelow (show w.heap.size<=aH.heap.size by omega) (fun k h=>(aS.o k h).1)));have bK:=af hP;have q:Below P.heap.size P (P.alloc (.cells #[ak 2] 27)):=(aJ _ _).alloc (aA _) _;obtain⟨_,_,j,-,-,I⟩:=Rd.aD (l:=[2]) bW.o;injection j with j _ E;subst j E;have c:=nT b5 (some (ag P.heap.size 0)) [2] [2] 1 1 b9 1 _ rfl rfl (I.below q) (Rd.lit (enc:=Value.int .u32) P 27 [2] _ rfl) ai ai;rw[show decide (([2]:List Int)=[2])=true from rfl]at c;have d:=af c;have g:=af q
   go_wp2_with fail
   refine d.o.mono ?_;rintro e au ⟨rfl,m⟩;have a:=g.o.trans (m.mono g.o.size);have cp:=a.size;have bz:=af (bK.o.below a);have bc:=af (br.o.trans (a.mono (show w.heap.size<=P.heap.size by omega)));have aw:Hid (∀k,al k->w.heap.size<=k/\k<au.heap.size):=fun k h=>⟨(aR.o k h).1,by have:=(aR.o k h).2;omega⟩;have d:=af (xc bz.o ai 2 5 2 ai)
   go_wp2_with fail
   refine d.o.mono ?_;rintro e ac ⟨q,aB,rfl,hP,f,hd⟩;obtain⟨rfl,rfl⟩:q=0/\aB=3:=by
    rcases hd with⟨h,W,X⟩|⟨h,W,X⟩
    .exact absurd h ai
    .exact⟨W,X⟩
   have cq:=f.size;have am:Hid (∀k,(al k\/au.heap.size<=k/\k<ac.heap.size)->w.heap.size<=k/\k<ac.heap.size):=fun k h=>h.elim (fun h=>⟨(aw.o k h).1,by have:=(aw.o k h).2;omega⟩) (fun h=>⟨aa,h.2⟩);have bd:=af (bc.o.trans (f.toBelow (show w.heap.size<=au.heap.size by omega) (fun k h=>(aw.o k h).1)));have ar:=af hP;rw[show(List.filter (fun r=>decide (r≠((2:Int),(5:Int),(2:Int)))) _)=[(0,0,1),(2,1,3)]from rfl]at ar;generalize aF:(fun k=>al k\/au.heap.size<=k/\k<ac.heap.size)=aI at ar
   replace am:Hid (∀k,aI k->w.heap.size<=k/\k<ac.heap.size):=fun k h=>am.o k (by rw[<-aF]at h;exact h)
   have d:=af (AL ar.o 9 9 3 ai)
   go_wp2_with fail
   refine d.o.mono ?_;rintro e a8 ⟨rfl,m⟩;have cr:=m.size;have aN:Hid (∀k,aI k->w.heap.size<=k/\k<a8.heap.size):=fun k h=>⟨(am.o k h).1,by have:=(am.o k h).2;omega⟩;have be:=af (bd.o.trans (m.mono (show w.heap.size<=ac.heap.size by omega)));have bA:=af (ar.o.below m);have d:=af (MG bA.o ai)
   go_wp2_with fail
   refine d.o.mono ?_;rintro e O ⟨v,aj,rfl,s,hP,f,Y⟩;rw[WJ,Vu]at s;have cs:=f.size;obtain⟨b2,b7,rfl,-,-,-⟩:=Rd.aD (l:=[3]) s;have bL:=af s;have aO:Hid (∀k,aj k->w.heap.size<=k/\k<O.heap.size):=fun k h=>⟨(Y k h).1.elim (fun h=>(aN.o k h).1) (fun h=>aa),(Y k h).2.1⟩;have bf:=af (be.o.trans (f.toBelow (show w.heap.size<=a8.heap.size by omega) (fun k h=>(aN.o k h).1)));have bB:=af hP;have q:Below O.heap.size O (O.alloc (.cells #[ak 3] 27)):=(aJ _ _).alloc (aA _) _;obtain⟨_,_,j,-,-,I⟩:=Rd.aD (l:=[3]) bL.o;injection j with j _ E;subst j E;have c:=nT b2 (some (ag O.heap.size 0)) [3] [3] 1 1 b7 1 _ rfl rfl (I.below q) (Rd.lit (enc:=Value.int .u32) O 27 [3] _ rfl) ai ai;rw[show decide (([3]:List Int)=[3])=true from rfl]at c;have d:=af c;have g:=af q
   go_wp2_with fail
   refine d.o.mono ?_;rintro e av ⟨rfl,m⟩;have a:=g.o.trans (m.mono g.o.size);have ct:=a.size;have bC:=af (bB.o.below a);have bg:=af (bf.o.trans (a.mono (show w.heap.size<=O.heap.size by omega)));have ay:Hid (∀k,aj k->w.heap.size<=k/\k<av.heap.size):=fun k h=>⟨(aO.o k h).1,by have:=(aO.o k h).2;omega⟩;have d:=af (xc bC.o ai 0 0 1 ai)
   go_wp2_with fail
   refine d.o.mono ?_;rintro e ad ⟨q,aB,rfl,hP,f,hd⟩;obtain⟨rfl,rfl⟩:q=1/\aB=1:=by
    rcases hd with⟨h,W,X⟩|⟨h,W,X⟩
    .exact⟨W.trans ai,X.trans ai⟩
    .exact absurd h ai
   have cu:=f.size;have aQ:Hid (∀k,(aj k\/av.heap.size<=k/\k<ad.heap.size)->w.heap.size<=k/\k<ad.heap.size):=fun k h=>h.elim (fun h=>⟨(ay.o k h).1,by have:=(ay.o k h).2;omega⟩) (fun h=>⟨aa,h.2⟩);have bh:=af (bg.o.trans (f.toBelow (show w.heap.size<=av.heap.size by omega) (fun k h=>(ay.o k h).1)));have aC:=af hP;rw[show(List.filter (fun r=>decide (r≠((0:Int),(0:Int),(1:Int)))) _)=[(2,1,3)]from rfl]at aC;generalize aF:(fun k=>aj k\/av.heap.size<=k/\k<ad.heap.size)=bt at aC
   replace aQ:Hid (∀k,bt k->w.heap.size<=k/\k<ad.heap.size):=fun k h=>aQ.o k (by rw[<-aF]at h;exact h)
   have d:=af (Rf aC.o)
   go_wp2_with fail
   refine d.o.mono ?_;rintro e cm ⟨rfl,m⟩;have bi:=af (bh.o.trans (m.mono (show w.heap.size<=ad.heap.size by omega)));go_wp2;go_ret;exact⟨rfl,bi.o⟩
theorem OL {A B:List Pt} {p:Pt} (h:(A++p::B).Nodup):A++B=(A++p::B).filter fun q=>decide (q≠p):=by
 obtain⟨d,b,c⟩:=oG.1 h;rw[mF]at b;rw[kW,lT,aN ax,kV.2 fun q a=>by simpa using c q a p ny,kV.2 fun q a=>by
  simp only[bO,ne_eq];rintro rfl;exact b.1 a]
theorem Rs {L:List Pt} (hu:(ids L).Nodup) {k:Nat} (a:k<L.length):L.take k++L.drop (k+1)=uA L L[k].2.2:=by
 have e:L.take k++L[k]::L.drop (k+1)=L:=by rw[<-ky a,jd]
 have h:=OL (A:=L.take k) (p:=L[k]) (B:=L.drop (k+1)) (by rw[e];exact wN hu);rw[e]at h;rw[h,Jm hu (bC a)]
def Vv (o:Vp):Obj:=.cells #[.int .u8 o.1,ae o.2.1.1,ae o.2.1.2.1,ak o.2.1.2.2,ae o.2.2.1.1,ae o.2.2.1.2.1,ae o.2.2.1.2.2.1,ae o.2.2.1.2.2.2.1,ak o.2.2.1.2.2.2.2,.int .u8 o.2.2.2] 49 (0,0)
theorem gP {W:World} {b:Nat} {a j k i d e f g ob c:Int} (h:W.heap[b]? =some (Vv (a,(j,k,i),(d,e,f,g,ob),c))):W.cell? (ag b 0)=some (.int .u8 a)/\W.cell? (ag b 1)=some (ae j)/\W.cell? (ag b 2)=some (ae k)/\W.cell? (ag b 3)=some (ak i)/\W.cell? (ag b 4)=some (ae d)/\W.cell? (ag b 5)=some (ae e)/\W.cell? (ag b 6)=some (ae f)/\W.cell? (ag b 7)=some (ae g)/\W.cell? (ag b 8)=some (ak ob)/\W.cell? (ag b 9)=some (.int .u8 c):=by
 simp[World.cell?,h,Vv]
def WN (w:World) (w2s Pb mm:Nat) (W:World) (L:List Pt) (N wk:Int) (la:Option Addr) (n lc:Nat) (e:Ending) (w':World):Prop:=
 e=.returned (.bool true)/\W.heap.size<=w'.heap.size/\∃(G':Nat->Prop) (Eg:Int),w'.ownsRow w2s 29 3 (.slice la n lc) n (L.flatMap bX)/\dG w' Pb G' mm L N wk Eg/\(∀k,G' k->w.heap.size<=k/\k<w'.heap.size/\(Value.slice la n lc).ownBlock≠some k)/\Below w.heap.size w w'
theorem yE {w W:World} {w2s Pb l n lc:Nat} {G:Nat->Prop} {L:List Pt} {N wk eT:Int} {la:Option Addr} (F:L.length=n) (c:W.ownsRow w2s 29 3 (.slice la n lc) n (L.flatMap bX)) (hP:dG W Pb G l L N wk eT) (E:l<=5000) (a:∀k,G k->w.heap.size<=k/\k<W.heap.size/\(Value.slice la n lc).ownBlock≠some k) (f:Below w.heap.size w W) (m u v t p q r s ob o:Int) (wf:Vq (m,(u,v,t),(p,q,r,s,ob),o)):
  aK 27 #[aj Pb,.slice la n lc,.agg #[.int .u8 m,ae u,ae v,ak t,ae p,ae q,ae r,ae s,ak ob,.int .u8 o]] W (WN w w2s Pb l W L N wk la n lc):=by
 subst F;obtain⟨_,_,d,-,-,y⟩:=bV.aD bq ai c;injection d with d _ _;rw[<-d]at y;have H:∀x,la=some x->¬G x.block:=by
  rintro x rfl B;have b:=a _ B;rcases c.2 with⟨e,-⟩|⟨g,I,J,e,-⟩
  .injection e with e;cases e
  .injection e with e _ _;have e:=BU e;subst e;exact b.2.2 rfl
 refine(TC hP E (fun k j=>(a k j).2.1) la lc y H m u v t p q r s ob o wf).mono ?_;rintro e w' ⟨rfl,i,z,Eg,D,C⟩;refine⟨rfl,i.size,z,Eg,aU c i (fun A e h=>(a A h).2.2 e),D,fun k j=>?_,f.trans (i.toBelow f.size fun k h=>(a k h).1)⟩;have b:=C k j;rcases b.1 with h|h
 .exact⟨(a k h).1,b.2,(a k h).2.2⟩
 .exact⟨bA f.size h,b.2,fun e=>by have:=(c.lt k e).2;omega⟩
theorem Ju (a:Option Addr) (l:List Vp) (n c:Nat) (w:World) (cl:l.length=n) (h:bV OG 10 w a l) (b7:∀o∈l,Vq o) (b6:n<=c):
  aK 6 #[.slice a n c] w (gD w (.bool true)):=by
 subst cl;have cd:=af (fun W=>TE W);obtain⟨m,a4,ca,cH⟩:∃m:Nat,min (l.length:Int) 80=(m:Int)/\m<=l.length/\m<=80:=⟨min l.length 80,aa,aa,aa⟩;have bS:=af a4;have bc:=af h;have bO:=af b7;have bG:=af (TZ w);clear a4 h b7;go_enter func6,ntmps6
 go_wp2_with fail
 refine bG.o.mono ?_;rintro e w2 ⟨Pb,rfl,hP,bi⟩;have bL:=af bi;have cf:=af hP;have cL:=bi.size;clear bG hP bi;have a4:min (l.length:Int) 80=(m:Int):=bS.o
 go_wp2_with (refine wM WC (bc.o.below bL.o) b6 0 m (aT _) ca rfl _ _ _ rfl rfl rfl rfl ?_;intro ch bl;simp only[Cf,jY]at bl |-)
 have cj:(l.take m).length=m:=aH;have bP:Hid (∀q∈l.take m,Vq q):=fun q a6=>bO.o q (List.mem_of_mem_take a6);have b0:Hid (∀W,Below w.heap.size w W->bV OG 10 W ch (l.take m)):=fun W b3=>bl W (bc.o.below b3);clear bl a4 bS bc bO ca b6;generalize l.take m=P at*;subst cj
 go_loopw [4,19] (fun lv br wr=>∃(i:Nat) (L:List Pt) (la:Option Addr) (lc:Nat) (G:Nat->Prop) (ab:Nat) (N wk eT:Int),br=.int .i64 i/\lv=.slice la L.length lc/\i<=P.length/\w2.heap.size<=wr.heap.size/\Hid (L.length<=i/\ab<=i)/\Hid (wr.ownsRow w2.heap.size 29 3 (.slice la L.length lc) L.length (L.flatMap bX))/\Hid (dG wr Pb G ab L N wk eT)/\Hid (∀k,G k->w.heap.size<=k/\k<wr.heap.size/\(Value.slice la L.length lc).ownBlock≠some k)/\Hid (Below w.heap.size w wr)) (fun _ br _=>P.length-(intOf br).toNat)
 case atStart=>exact⟨0,[],none,0,_,0,0,0,0,rfl,rfl,aT _,aA _,⟨aA _,aA _⟩,cZ _ _ _ _,cf,fun k hk=>⟨hk.1,hk.2,by simp[Value.ownBlock]⟩,bL⟩
 case round=>
  obtain⟨i,L,la,lc,G,ab,N,wk,eT,rfl,rfl,hi,cu,T,bb,b1,bR,ad⟩:=hrel;by_cases S:i<P.length
  .obtain⟨U,e⟩:∃U:World,U=wr:=⟨_,rfl⟩;subst e;obtain⟨cp,cP,b2,cw,R⟩:=(b0.o _ ad.o).get aa;have bv:=R i S 0 aa;have v1:=R i S 1 aa;have bw:=R i S 2 aa;have bx:=R i S 3 aa;have bz:=R i S 4 aa;have bA:=R i S 5 aa;have a7:=R i S 6 aa;have bB:=R i S 7 aa;have bD:=R i S 8 aa;have bE:=R i S 9 aa;simp only[OG,eG,eQ,df]at bv v1 bw bx bz bA a7 bB bD bE;have ap:=af (bP.o P[i] (bC S));have bI:=af b2;clear R b2;generalize P[i]=q at*;obtain⟨C,⟨A,B,f⟩,⟨aI,aL,aM,aP,ob⟩,aG⟩:=q;simp only at bv v1 bw bx bz bA a7 bB bD bE;have cE:(i:Int)<(P.length:Int):=aa;have cv:L.length<=80:=by have:=T.o.1;omega
   have cI:ab<=80:=by have:=T.o.2;omega
   obtain rfl:=bI.o;clear bI;obtain⟨w3,a2⟩:∃w3,w3=U.alloc (.cells #[.int .u8 C,ae A,ae B,ak f,ae aI,ae aL,ae aM,ae aP,ak ob,.int .u8 aG] 49):=⟨_,rfl⟩;have aX:Below U.heap.size U w3:=by rw[a2];exact(aJ _ _).alloc (aA _) _
   have bf:w3.heap[U.heap.size]? =some (Vv (C,(A,B,f),(aI,aL,aM,aP,ob),aG)):=by rw[a2];exact bY U _
   have bK:=a2.symm;have cM:=aX.size;have bd:=af bf;have ba:=af (az bb.o aX);have bW:=af (b1.o.below aX);have a9:=af (ad.o.trans (aX.mono ad.o.size));have aW:Hid (bV bX 3 w3 la L):=by
    obtain⟨_,_,aq,-,-,h9⟩:=bV.aD bq ai ba.o;injection aq with aq _ _;rw[aq];exact h9
   obtain⟨p,r,s,t,u,v,x,y,z,d⟩:=gP bf;have bF:=af (DL la L L.length lc w3 rfl aW.o aa f);have cJ:0<=C/\C<=255:=by
    have:=ap.o.1;simp[Lit.wf,IntKind.min,IntKind.max,IntKind.signed,IntKind.bits]at this;omega
   have aC:Hid (∀k,(Value.slice la L.length lc).ownBlock=some k->w2.heap.size<=k/\k<U.heap.size):=fun k hk=>bb.o.lt k hk;clear a2 aX bf bb b1 b0 bP
   go_upto_region 6 with fail
   (try rw[bK])
   clear bK bv v1 bw bx bz bA a7 bB bD bE
   go_wp2_with fail
   refine bF.o.mono ?_;rintro e w4 ⟨ck,aE⟩;have bp:=(bg.1 bd.o).1;have cO:=aE.size;have E:=af ((aE.block _ bp).trans bd.o);have Y:=af (az ba.o aE);have V:=af (bW.o.below aE);have D:=af (a9.o.trans (aE.mono a9.o.size));have g:Hid (∀k,G k->w.heap.size<=k/\k<U.heap.size/\(Value.slice la L.length lc).ownBlock≠some k):=bR;have cx:=ad.o.size;have cN:U.heap.size<w3.heap.size:=bp;clear bF bd ba bW a9 aW aE bR ad p r s t u v x y z d bp;rcases ck with⟨aF,rfl⟩|⟨k,hk,bj,rfl⟩
   .have co:=af aF;have au:decide (f∉ids L)=true:=aQ aF;have av:decide (f∈ids L)=false:=aQ aF;have ar:addN L (A,B,f)=L++[(A,B,f)]:=aN aF;have Z:=Jl aF;clear aF;by_cases hd:C%2=0
    .have d1:(C%2==0)=true:=by rw[hd];rfl
     have d:=Rj V.o aa (A,B,f) ap.o.2.1;rw[ar,show decide ((A,B,f).2.2∉ids L)=true from au]at d;have H:=af d;clear d ar Z au av hd;obtain⟨p,r,s,t,u,v,x,y,z,d⟩:=gP E.o
     go_wp2_with fail
     refine H.o.mono ?_;rintro e X ⟨q,ao,rfl,O,j,a6,-⟩;have cK:1<=q:=a6 rfl;have ci:decide ((q:Int)<1)=false:=aH;have cq:decide (q<1)=false:=aH;have cr:decide (q=0)=false:=aH;have cs:decide (q<=0)=false:=aH;have bm:=j.size;have F:=af (bu j E.o (fun h9=>by have:=(g.o _ h9).2.1;omega));have aR:=af (aU Y.o j (fun ay e h9=>(g.o ay h9).2.2 e));have aV:=af O;have ah:=af (D.o.trans (j.toBelow D.o.size (fun k h9=>(g.o k h9).1)));have bo:=ah.o.size;clear O j H a6 E Y V D p r s t u v x y z d;obtain⟨p,r,s,t,u,v,x,y,z,d⟩:=gP F.o
     go_upto_region 12 with fail
     go_wp2_with (at_builtin;go_loud (refine cB uB w2.heap.size aR.o [.int .i64 A,.int .i64 B,.int .u32 f] rfl (by simp[Value.oneCell']) rfl _ _ rfl rfl _ rfl dE aa aa ?_;intro cQ w6 bk b8 b5;obtain⟨aw,cc,rfl,cz,cA,cC,cD⟩:=aS bk aa;have be:aB (fun k=>(Value.slice la L.length lc).ownBlock=some k) X w6:=((aB.refl _ X).grown b8 fun k e=>.inl e);have a1:=af (bu be F.o (fun e=>by have:=aC.o _ e;omega));have a0:=af be;have bU:=af bk;have bM:=af b5;clear be bk b8 b5 p r s t u v x y z d;obtain⟨p,r,s,t,u,v,x,y,z,d⟩:=gP a1.o))
     have cm:=a0.o.size;have bT:Hid (∀k,(G k\/w4.heap.size<=k/\k<X.heap.size)->aw≠k):=by
      rintro k h9 rfl;rcases gy bM.o with e|⟨b,e,b3⟩
      .have ct:=aC.o aw (e.symm.trans rfl);rcases h9 with h9|h9
       .exact(g.o aw h9).2.2 (e.symm.trans rfl)
       .omega
      .have:aw=b:=by injection e
       rcases h9 with h9|h9
       .have:=(g.o aw h9).2.1;omega
       .omega
     have I:=af (yE (w:=w) (w2s:=w2.heap.size) (n:=L.length+1) (L:=L++[(A,B,f)]) (la:=some (ag aw 0)) (lc:=cc) ax (by rw[gZ];exact bU.o) (aV.o.kept a0.o (fun k hk e=>by
       rcases hk with hk|hk
       .exact(g.o k hk).2.2 e
       .have:=aC.o k e;omega)) aH (fun k hk=>⟨by rcases hk with hk|hk;exact(g.o k hk).1;omega,by rcases hk with hk|hk;have:=(g.o k hk).2.1;omega;omega,fun e=>bT.o k hk (by injection e)⟩) (ah.o.trans (a0.o.toBelow bo (fun k e=>by have:=aC.o k e;omega))) C A B f aI aL aM aP ob aG ap.o)
     clear a0 bU bM bT aV ah F a1 aR
     go_wp2_with fail
     refine I.o.mono ?_;rintro e a8 ⟨rfl,bn,ac,t9,M,Q,K,J⟩;have am:=af M;have an:=af Q;have al:=af K;have aj:=af J;clear M Q K J I;go_wp2;go_roundw
     case rel=>exact⟨i+1,L++[(A,B,f)],some (ag aw 0),cc,ac,ab+1,ao,wk+q,t9,by go_num,by rw[bQ];rfl,aa,aa,⟨by have:=T.o.1;rw[bQ];simp;omega,by have:=T.o.2;omega⟩,by rw[bQ];exact am.o,an.o,by rw[bQ];exact al.o,aj.o⟩
     case measure=>exact bZ
    .have d1:(C%2==0)=false:=aQ hd;have d:=ME V.o aa f;rw[Z,av]at d;have H:=af d;clear d ar Z au av hd;obtain⟨p,r,s,t,u,v,x,y,z,d⟩:=gP E.o
     go_wp2_with fail
     refine H.o.mono ?_;rintro e X ⟨q,ao,rfl,O,j,-,aZ⟩;obtain rfl:q=0:=aZ rfl;have bm:=j.size;have F:=af (bu j E.o (fun h9=>by have:=(g.o _ h9).2.1;omega));have I:=af (yE (w:=w) (w2s:=w2.heap.size) (n:=L.length) (L:=L) (la:=la) (lc:=lc) rfl (aU Y.o j (fun ay e h9=>(g.o ay h9).2.2 e)) O aH (fun k hk=>⟨by rcases hk with hk|hk;exact(g.o k hk).1;omega,by rcases hk with hk|hk;have:=(g.o k hk).2.1;omega;omega,fun e=>by
       rcases hk with hk|hk
       .exact(g.o k hk).2.2 e
       .have:=aC.o k e;omega⟩) (D.o.trans (j.toBelow D.o.size (fun k h9=>(g.o k h9).1))) C A B f aI aL aM aP ob aG ap.o)
     clear O j H aZ E Y V D p r s t u v x y z d;obtain⟨p,r,s,t,u,v,x,y,z,d⟩:=gP F.o
     go_wp2_with fail
     refine I.o.mono ?_;rintro e a8 ⟨rfl,bn,ac,t9,M,Q,K,J⟩;have am:=af M;have an:=af Q;have al:=af K;have aj:=af J;clear M Q K J I;go_wp2;go_roundw
     case rel=>exact⟨i+1,L,la,lc,ac,ab,ao,wk+((0:Nat):Int),t9,by go_num,rfl,aa,aa,⟨by have:=T.o.1;omega,by have:=T.o.2;omega⟩,am.o,an.o,al.o,aj.o⟩
     case measure=>exact bZ
   .have a3:f∈ids L:=by rw[<-bj];exact sF (bC hk)
    have au:decide (f∉ids L)=false:=aQ a3;have av:decide (f∈ids L)=true:=aQ a3;have ar:addN L (A,B,f)=L:=aO a3;have Z:=Rs V.o.facts.2.2.2.1 hk;rw[bj]at Z;have cF:decide ((k:Int)>=0)=true:=ax;have cG:decide ((k:Int)<0)=false:=ax;have cn:=af hk;clear a3 bj hk;by_cases hd:C%2=0
    .have d1:(C%2==0)=true:=by rw[hd];rfl
     have d:=Rj V.o aa (A,B,f) ap.o.2.1;rw[ar,show decide ((A,B,f).2.2∉ids L)=false from au]at d;have H:=af d;clear d ar Z au av hd;obtain⟨p,r,s,t,u,v,x,y,z,d⟩:=gP E.o
     go_wp2_with fail
     refine H.o.mono ?_;rintro e X ⟨q,ao,rfl,O,j,-,aZ⟩;obtain rfl:q=0:=aZ rfl;have bm:=j.size;have F:=af (bu j E.o (fun h9=>by have:=(g.o _ h9).2.1;omega));have I:=af (yE (w:=w) (w2s:=w2.heap.size) (n:=L.length) (L:=L) (la:=la) (lc:=lc) rfl (aU Y.o j (fun ay e h9=>(g.o ay h9).2.2 e)) O aH (fun k hk=>⟨by rcases hk with hk|hk;exact(g.o k hk).1;omega,by rcases hk with hk|hk;have:=(g.o k hk).2.1;omega;omega,fun e=>by
       rcases hk with hk|hk
       .exact(g.o k hk).2.2 e
       .have:=aC.o k e;omega⟩) (D.o.trans (j.toBelow D.o.size (fun k h9=>(g.o k h9).1))) C A B f aI aL aM aP ob aG ap.o)
     clear O j H aZ E Y V D p r s t u v x y z d;obtain⟨p,r,s,t,u,v,x,y,z,d⟩:=gP F.o
     go_wp2_with fail
     refine I.o.mono ?_;rintro e a8 ⟨rfl,bn,ac,t9,M,Q,K,J⟩;have am:=af M;have an:=af Q;have al:=af K;have aj:=af J;clear M Q K J I;go_wp2;go_roundw
     case rel=>exact⟨i+1,L,la,lc,ac,ab,ao,wk+((0:Nat):Int),t9,by go_num,rfl,aa,aa,⟨by have:=T.o.1;omega,by have:=T.o.2;omega⟩,am.o,an.o,al.o,aj.o⟩
     case measure=>exact bZ
    .have d1:(C%2==0)=false:=aQ hd;have d:=ME V.o aa f;rw[av]at d;have H:=af d;have bJ:=af Z;clear d ar Z au av hd;obtain⟨p,r,s,t,u,v,x,y,z,d⟩:=gP E.o
     go_wp2_with fail
     refine H.o.mono ?_;rintro e X ⟨q,ao,rfl,O,j,-,-⟩;have ci:decide ((q:Int)<0)=false:=ax;have bm:=j.size;have F:=af (bu j E.o (fun h9=>by have:=(g.o _ h9).2.1;omega));have aR:=af (aU Y.o j (fun ay e h9=>(g.o ay h9).2.2 e));have aV:=af O;have ah:=af (D.o.trans (j.toBelow D.o.size (fun k h9=>(g.o k h9).1)));have bo:=ah.o.size;have aW:Hid (bV bX 3 X la L):=by
      obtain⟨_,_,aq,-,-,h9⟩:=bV.aD bq ai aR.o;injection aq with aq _ _;rw[aq];exact h9
     have bh:=Ei la L L.length lc X rfl aW.o aa k;rw[bJ.o]at bh;have bH:=af bh;clear bh O j H E Y V D aR aW bJ p r s t u v x y z d;obtain⟨p,r,s,t,u,v,x,y,z,d⟩:=gP F.o
     go_wp2_with fail
     refine bH.o.mono ?_;rintro e w6 ⟨a7,rfl,a5,aY⟩;have cm:=aY.size;have cb:=(bg.1 F.o).1;have a1:=af ((aY.block _ cb).trans F.o);obtain⟨bs,bt,rfl⟩:=fK a5;have b9:∀k,(Value.slice bs (uA L f).length bt).ownBlock=some k->X.heap.size<=k:=fun k hk=>(a5.lt k hk).1;have I:=af (yE (w:=w) (w2s:=w2.heap.size) (n:=(uA L f).length) (L:=uA L f) (la:=bs) (lc:=bt) rfl (bN a5 aa) (aV.o.below aY) aH (fun k hk=>⟨by rcases hk with hk|hk;exact(g.o k hk).1;omega,by rcases hk with hk|hk;have:=(g.o k hk).2.1;omega;omega,fun e=>by
       have:=b9 k e;rcases hk with hk|hk
       .have:=(g.o k hk).2.1;omega
       .omega⟩) (ah.o.trans (aY.mono bo)) C A B f aI aL aM aP ob aG ap.o)
     have cy:(uA L f).length<=L.length:=fq _ _;clear a5 aY b9 bH F aV ah cb p r s t u v x y z d;obtain⟨p,r,s,t,u,v,x,y,z,d⟩:=gP a1.o;generalize uA L f=cg at*
     go_wp2_with fail
     refine I.o.mono ?_;rintro e a8 ⟨rfl,bn,ac,t9,M,Q,K,J⟩;have am:=af M;have an:=af Q;have al:=af K;have aj:=af J;clear M Q K J I;go_wp2;go_roundw
     case rel=>exact⟨i+1,cg,bs,bt,ac,ab+1,ao,wk+q,t9,by go_num,rfl,aa,aa,⟨by have:=T.o.1;omega,by have:=T.o.2;omega⟩,am.o,an.o,al.o,aj.o⟩
     case measure=>exact bZ
  .obtain rfl:i=P.length:=aa
   go_wp2_with fail
   refine(cd.o _).mono ?_;rintro e a8 ⟨rfl,b4⟩;have ce:=af (ad.o.trans (b4.mono ad.o.size));clear b4;go_wp2;go_ret;exact⟨rfl,ce.o⟩
end
section
open Go.RowKit Go.ChangeShapes Go.WideShapes Go.Deep
theorem TF:Tryz.prog.cellsOf 79=4/\Tryz.prog.cellsOf 4=1/\Tryz.prog.cellsOf 29=3/\Tryz.prog.cellsOf 2=1/\Tryz.prog.cellsOf 27=1:=⟨aL,aL,aL,aL,aL⟩
theorem Rt {H:Type} {enc:TypeId×Value->H} {w:World} {base:Nat} {spare:Nat->Bool} {held:Bool} {fuel:Nat} {a b c:Value} {x:DataW H×List MemPlace} (h:DataW.trod enc prog w base spare held fuel 29 [a,b,c]=some x):
  ∃p:Int×Int×Int,a=.int .i64 p.1/\b=.int .i64 p.2.1/\c=.int .u32 p.2.2/\(Lit.int .i64 p.1).wf=true/\(Lit.int .i64 p.2.1).wf=true/\(Lit.int .u32 p.2.2).wf=true:=by
 obtain⟨-,-,-,m1,m2⟩:=TF;obtain⟨o,y1,y2,n,-,-,t0,t1,t2⟩:=trod_struct3 underlying29 h;simp only[m1,m2,jY,vM,qo,lh]at t0 t1 t2;have⟨k,d,_,g⟩:=oI underlying2 t0;have⟨l,e,_,i⟩:=oI underlying2 t1;have⟨m,f,_,j⟩:=oI underlying27 t2;simp only[sU,tC]at d e f;exact⟨(k,l,m),d,e,f,g,i,j⟩
theorem MK:Tryz.prog.cellsOf 49=10/\Tryz.prog.cellsOf 5=1/\Tryz.prog.cellsOf 29=3/\Tryz.prog.cellsOf 38=5/\Tryz.prog.cellsOf 2=1/\Tryz.prog.cellsOf 27=1:=⟨aL,aL,aL,aL,aL,aL⟩
section
variable {H:Type} {enc:TypeId×Value->H} {w:World} {base:Nat} {spare:Nat->Bool} {held:Bool} {fuel:Nat}
theorem DR {P:Program} {t:TypeId} {a:Array Field} {cs:List Value} {x:DataW H×List MemPlace} (ht:P.underlying t=some (.struct a)) (h:DataW.trod enc P w base spare held fuel t cs=some x):
  ∃n,∀(i:Nat) (f:Field),a[i]? =some f->∃y,DataW.trod enc P w base spare held n f.type ((cs.drop f.offset).take (P.cellsOf f.type))=some y:=by
 have⟨xs,n,_,_,_,d,b⟩:=DataW.trod_struct ht h;refine⟨n,fun i f hi=>?_⟩;have c:i<a.size:=(bg.1 hi).1;exact⟨xs[i]'aa,(b i f hi).trans (cK aa)⟩
theorem Ru {b c d e f:Value} {x:DataW H×List MemPlace} (h:DataW.trod enc prog w base spare held fuel 38 [b,c,d,e,f]=some x):
  ∃p:Bx,b=.int .i64 p.1/\c=.int .i64 p.2.1/\d=.int .i64 p.2.2.1/\e=.int .i64 p.2.2.2.1/\f=.int .u32 p.2.2.2.2/\p.wf:=by
 obtain⟨-,-,-,-,m1,m2⟩:=MK;have⟨n,a⟩:=DR underlying38 h;have⟨A,t0⟩:=a 0 _ rfl;simp only[yP,ni,m1,jY,qo,lh]at t0;have⟨t,g,_,m⟩:=oI underlying2 t0;simp only[sU,tC]at g;have⟨y1,t1⟩:=a 1 _ rfl;simp only[yP,ni,vJ,m1,jY,vM,qo,lh]at t1;have⟨u,i,_,o⟩:=oI underlying2 t1;simp only[sU,tC]at i;have⟨y2,t2⟩:=a 2 _ rfl;simp only[yP,ni,vJ,m1,jY,vM,qo,lh]at t2;have⟨v,j,_,q⟩:=oI underlying2 t2;simp only[sU,tC]at j;have⟨B,t3⟩:=a 3 _ rfl;simp only[yP,ni,vJ,m1,jY,vM,qo,lh]at t3;have⟨y,k,_,r⟩:=oI underlying2 t3;simp only[sU,tC]at k;have⟨C,t4⟩:=a 4 _ rfl;simp only[yP,ni,vJ,m2,jY,vM,qo,lh]at t4;have⟨z,l,_,s⟩:=oI underlying27 t4;simp only[sU,tC]at l;exact⟨(t,u,v,y,z),g,i,j,k,l,m,o,q,r,s⟩
end
theorem Ls {H:Type} {enc:TypeId×Value->H} {w:World} {base:Nat} {spare:Nat->Bool} {held:Bool} {fuel:Nat} {a:Option Addr} {g o:Nat} {x:DataW H×List MemPlace} (h:DataW.trod enc prog w base spare held fuel 47 [.slice a g o]=some x):
  ∃l:List Vp,l.length=g/\bV OG 10 w a l/\g<=o/\o<=maxLen/\∀x∈l,Vq x:=by
 obtain⟨Y,m0,m3,X,-,-⟩:=MK;rcases open_slice underlying47 h with⟨f,_⟩|⟨ad,aw,ar,m,n,D,ab,f,_,Q,S,T,_,hi⟩
 .simp at f;obtain⟨rfl,rfl,rfl⟩:=f;exact⟨[],rfl,.nil,aA _,aT _,ax⟩
 .simp at f;obtain⟨rfl,rfl,rfl⟩:=f;have av:g<=m:=by rw[T];split<;>omega
  have⟨l,R,hp⟩:=Sq g (fun i (p:Vp)=>w.cell? (ad.add (i*10+0))=some (.int .u8 p.1)/\w.cell? (ad.add (i*10+1))=some (ae p.2.1.1)/\w.cell? (ad.add (i*10+2))=some (ae p.2.1.2.1)/\w.cell? (ad.add (i*10+3))=some (ak p.2.1.2.2)/\w.cell? (ad.add (i*10+4))=some (ae p.2.2.1.1)/\w.cell? (ad.add (i*10+5))=some (ae p.2.2.1.2.1)/\w.cell? (ad.add (i*10+6))=some (ae p.2.2.1.2.2.1)/\w.cell? (ad.add (i*10+7))=some (ae p.2.2.1.2.2.2.1)/\w.cell? (ad.add (i*10+8))=some (ak p.2.2.1.2.2.2.2)/\w.cell? (ad.add (i*10+9))=some (.int .u8 p.2.2.2)/\Vq p) (fun i au=>by
   have⟨z,y,ht⟩:=hi i aa;rw[Y]at y;have⟨_,O,e⟩:=World.cells?_some y
   match z,O with
   |[ac,af,ah,aj,al,am,an,ao,ap,aq],_=>
    have⟨ay,k⟩:=DR underlying49 ht;have⟨az,t0⟩:=k 0 _ rfl;have⟨y1,t1⟩:=k 1 _ rfl;have⟨y2,t2⟩:=k 2 _ rfl;have⟨aB,t3⟩:=k 3 _ rfl;simp only[yP,ni,vJ,m0,m3,X,jY,vM,qo,lh]at t0 t1 t2 t3;have⟨b,r,_,K⟩:=oI underlying5 t0;simp only[sU,tC]at r;have⟨p,A,B,C,L⟩:=Rt t1;have⟨q,E,F,G,I,J,M⟩:=Ru t2;have⟨d,s,_,N⟩:=oI underlying5 t3;simp only[sU,tC]at s;subst r A B C E F G I J s;exact⟨(b,p,q,d),by simpa[oL]using e 0 ai,by simpa[oL]using e 1 ai,by simpa[oL]using e 2 ai,by simpa[oL]using e 3 ai,by simpa[oL]using e 4 ai,by simpa[oL]using e 5 ai,by simpa[oL]using e 6 ai,by simpa[oL]using e 7 ai,by simpa[oL]using e 8 ai,by simpa[oL]using e 9 ai,K,L,M,N⟩)
  refine⟨l,R,?_,Q,S,fun x W=>?_⟩
  .by_cases t:l=[]
   .exact .inl t
   .obtain⟨b,off,Z⟩:=ad;have U:0<l.length:=Bv.2 t;have u:=(hp 0 U).1;have V:Z=none:=by simpa[Addr.add]using World.cell?_spot u
    subst V;have v:∀i,((ag b off):Addr).add i=(ag b (off+i)):=fun i=>by unfold Addr.add;split<;>simp_all
    refine .inr ⟨b,off,rfl,?_,fun i hi j P=>?_⟩
    .have:=iF w _ u;rw[v]at this;exact this
    .have c:=hp i hi;simp only[v]at c;rw[vW]
     match j,P with
     |0,_=>exact c.1
     |1,_=>exact c.2.1
     |2,_=>exact c.2.2.1
     |3,_=>exact c.2.2.2.1
     |4,_=>exact c.2.2.2.2.1
     |5,_=>exact c.2.2.2.2.2.1
     |6,_=>exact c.2.2.2.2.2.2.1
     |7,_=>exact c.2.2.2.2.2.2.2.1
     |8,_=>exact c.2.2.2.2.2.2.2.2.1
     |9,_=>exact c.2.2.2.2.2.2.2.2.2.1
  .obtain⟨i,hi,rfl⟩:=iN W;exact(hp i hi).2.2.2.2.2.2.2.2.2.2
end
end Go.Proofs.YtkjdbndekceffaaGreat
