/- Made small by a program. -/
import Derived.Test.YtkjdbndekceffaaGreatZ18
set_option linter.unusedSimpArgs false
set_option linter.unusedVariables false
set_option maxRecDepth 100000
set_option maxHeartbeats 16000000
namespace Go.Proofs.YtkjdbndekceffaaGreat
open Tryz
section
open Go.RowKit Go.Sort Go.Shelf Go.Lib Go.Maps
attribute [local irreducible] wpQuiet
attribute [local go_sem] Oper.eF
theorem Va:bM [(0,0,1),(2,5,2),(2,1,3)]=[(2,5,2)]:=by
 refine(lh ai).unique ⟨by simp[kE],fun p=>?_⟩;have⟨x,y,i⟩:=p;constructor
 .intro h;simp only[gU,rM,iA,or_false]at h;rcases h with⟨rfl,rfl,rfl⟩<;>exact⟨ai,ai⟩
 .rintro⟨h,a⟩;simp only[gU,rM,iA,or_false]at h;rcases h with⟨rfl,rfl,rfl⟩|⟨rfl,rfl,rfl⟩|⟨rfl,rfl,rfl⟩<;>first|(exfalso;revert a;decide)|decide
theorem Vb:bM [(0,0,1),(2,1,3)]=[(2,1,3)]:=by
 refine(lh ai).unique ⟨by simp[kE],fun p=>?_⟩;have⟨x,y,i⟩:=p;constructor
 .intro h;simp only[gU,rM,iA,or_false]at h;rcases h with⟨rfl,rfl,rfl⟩<;>exact⟨ai,ai⟩
 .rintro⟨h,a⟩;simp only[gU,rM,iA,or_false]at h;rcases h with⟨rfl,rfl,rfl⟩|⟨rfl,rfl,rfl⟩<;>first|(exfalso;revert a;decide)|decide
theorem H5 {l:List Int} (h:l.Pairwise (·<=·)):dE l=l:=zV h (pG _)
theorem RI:mo [(0,0,1),(2,5,2),(2,1,3)] 1 9=some (2,1,3):=by
 refine y5 (l:=[(0,0,1),(2,5,2),(2,1,3)]) (pG _) ai (xx _ _ _) ⟨ai,ai,?_⟩;decide
theorem Vd:dE (ids (([(0,0,1),(2,5,2),(2,1,3)]:List Pt).filter (H8 0 2 1 5)))=[2,3]:=by
 rw[show ids (([(0,0,1),(2,5,2),(2,1,3)]:List Pt).filter (H8 0 2 1 5))=[2,3] by decide];exact H5 ai
theorem Ve:dE (ids (([(0,0,1),(2,5,2),(2,1,3)]:List Pt).filter (Ia 0 9 1)))=[1,3]:=by
 rw[show ids (([(0,0,1),(2,5,2),(2,1,3)]:List Pt).filter (Ia 0 9 1))=[1,3] by decide];exact H5 ai
theorem Vf:dE (ids (([(0,0,1),(2,5,2),(2,1,3)]:List Pt).filter (Hr 2 1 3)))=[2,3]:=by
 rw[show ids (([(0,0,1),(2,5,2),(2,1,3)]:List Pt).filter (Hr 2 1 3))=[2,3] by decide];exact H5 ai
theorem TU:dE (ids [((2:Int),(5:Int),(2:Int))])=[2]:=H5 ai
theorem TV:dE (ids [((2:Int),(1:Int),(3:Int))])=[3]:=H5 ai
def Le:List Pt:=[(0,0,1),(2,5,2),(2,1,3)]
theorem K3.one {n:Nat} (h:K3 0 n):n=1:=by
 obtain⟨i,q,rfl,h⟩:=h;rcases i with _|i
 .rfl
 .have:2<=2^(i+1):=by rw[pK];have:=pR (n:=i) (show 0<2 by decide);omega
  have:(2^(i+1):Nat)<=2^(i+1)+2^(i+1+1)*q:=Nat.le_add_right _ _;omega
theorem K3.two {n:Nat} (h:K3 1 n):n=2:=by
 obtain⟨i,q,rfl,h⟩:=h;rcases i with _|_|i
 .simp at h;omega
 .rfl
 .have:4<=2^(i+1+1):=by rw[pK,pK];have:=pR (n:=i) (show 0<2 by decide);omega
  have:(2^(i+1+1):Nat)<=2^(i+1+1)+2^(i+1+1+1)*q:=Nat.le_add_right _ _;omega
theorem K3.three {n:Nat} (h:K3 2 n):n=1:=by
 obtain⟨i,q,rfl,h⟩:=h;rcases i with _|_|i
 .rfl
 .simp at h;omega
 .have:4<=2^(i+1+1):=by rw[pK,pK];have:=pR (n:=i) (show 0<2 by decide);omega
  have:(2^(i+1+1):Nat)<=2^(i+1+1)+2^(i+1+1+1)*q:=Nat.le_add_right _ _;omega
theorem RJ (w:World):aK 21 #[] w (fV w (.bool true)):=by
 have bs:=ag (PX w);go_enter func21,ntmps21
 go_wp2_with fail
 refine bs.o.mono ?_;rintro e w1 ⟨Pb,rfl,hP,ca⟩;have bu:=ag hP;have aL:=ag ca;have bW:Hid (bQ bX 3 (w1.alloc (.cells #[af 0,af 0,ay 1,af 2,af 5,ay 2,af 2,af 1,ay 3] 29)) (some (ae w1.heap.size 0)) Le):=bQ.lit (sz:=3) bg w1 29 Le w1.heap.size rfl;have aU:Hid (Below w1.heap.size w1 (w1.alloc (.cells #[af 0,af 0,ay 1,af 2,af 5,ay 2,af 2,af 1,ay 3] 29))):=(aJ _ _).alloc (aB _) _;have cg:(w1.alloc (.cells #[af 0,af 0,ay 1,af 2,af 5,ay 2,af 2,af 1,ay 3] 29)).heap.size=w1.heap.size+1:=aA
 go_wp2_with fail
 generalize w1.alloc (.cells #[af 0,af 0,ay 1,af 2,af 5,ay 2,af 2,af 1,ay 3] 29)=w2 at*;have cc:=aL.o.size
 go_loopw [25] (fun aF wr=>∃(i:Nat) (G:Nat->Prop) (wk:Int),aF=.int .i64 i/\i<=3/\w2.heap.size<=wr.heap.size/\Hid (ed wr Pb G i (Le.take i) i wk 0)/\Hid (∀k,G k->w.heap.size<=k/\k<wr.heap.size/\k≠w1.heap.size)/\Hid (Below w.heap.size w wr)/\Hid (bQ bX 3 wr (some (ae w1.heap.size 0)) Le)) (fun aF _=>3-(intOf aF).toNat)
 case atStart=>exact⟨0,_,0,rfl,aX _,aB _,bu.o.below aU.o,fun k H=>⟨H.1,by have:=H.2;omega,by have:=H.2;omega⟩,aL.o.trans (aU.o.mono cc),bW⟩
 case round=>
  obtain⟨i,G,wk,rfl,hi,ch,V,u,t,am⟩:=hrel;by_cases cj:i<3
  .have cb:i=0\/i=1\/i=2:=aa;have⟨b,off,aD,ci,F⟩:=am.o.get ai;injection aD with aD;injection aD with b8 b9 _;subst b8 b9;rcases cb with rfl|rfl|rfl
   .have N:=F 0 ai 0 aa;have x1:=F 0 ai 1 aa;have x2:=F 0 ai 2 aa
    replace N:wr.cell? (ae w1.heap.size 0)=some (af 0):=N
    replace x1:wr.cell? (ae w1.heap.size 1)=some (af 0):=x1
    replace x2:wr.cell? (ae w1.heap.size 2)=some (ay 1):=x2
    obtain⟨p,e⟩:∃p:World,p=wr:=⟨_,rfl⟩;subst e;obtain⟨A,L⟩:∃A,A=p.alloc (.cells #[af 0,af 0,ay 1] 29):=⟨_,rfl⟩;have K:Below p.heap.size p A:=by rw[L];exact(aJ _ _).alloc (aB _) _
    have S:=ag (tY (V.o.below K) ai 0 0 1 ⟨ai,ai,ai⟩ ai);have y:=ag K;have T:=ag L.symm
    go_wp2_with fail
    rw[T.o];refine S.o.mono ?_;rintro e w4 ⟨n,ab,rfl,Z,M⟩;obtain rfl:=K3.one ab;have U:=ag Z;have J:=ag M;have a6:=y.o.size;have a5:=M.size;go_wp2;go_roundw
    case rel=>exact⟨1,_,_,rfl,ai,aa,U.o,fun k H=>H.elim (fun h=>by have:=u.o k h;exact⟨this.1,aa,this.2.2⟩) fun h=>by have:=t.o.size;exact⟨aa,h.2,aa⟩,(t.o.trans (y.o.mono t.o.size)).trans (J.o.toBelow (by have:=t.o.size;omega) (fun k h=>(u.o k h).1)),((am.o.below y.o).R9 J.o fun x e h=>by injection e with e;rw[<-e]at h;exact(u.o _ h).2.2 rfl)⟩
    case measure=>simp[intOf]
   .have N:=F 1 ai 0 aa;have x1:=F 1 ai 1 aa;have x2:=F 1 ai 2 aa
    replace N:wr.cell? (ae w1.heap.size 3)=some (af 2):=N
    replace x1:wr.cell? (ae w1.heap.size 4)=some (af 5):=x1
    replace x2:wr.cell? (ae w1.heap.size 5)=some (ay 2):=x2
    obtain⟨p,e⟩:∃p:World,p=wr:=⟨_,rfl⟩;subst e;obtain⟨A,L⟩:∃A,A=p.alloc (.cells #[af 2,af 5,ay 2] 29):=⟨_,rfl⟩;have K:Below p.heap.size p A:=by rw[L];exact(aJ _ _).alloc (aB _) _
    have S:=ag (tY (V.o.below K) ai 2 5 2 ⟨ai,ai,ai⟩ ai);have y:=ag K;have T:=ag L.symm
    go_wp2_with fail
    rw[T.o];refine S.o.mono ?_;rintro e w4 ⟨n,ab,rfl,Z,M⟩;obtain rfl:=K3.two ab;have U:=ag Z;have J:=ag M;have a6:=y.o.size;have a5:=M.size;go_wp2;go_roundw
    case rel=>exact⟨2,_,_,rfl,ai,aa,U.o,fun k H=>H.elim (fun h=>by have:=u.o k h;exact⟨this.1,aa,this.2.2⟩) fun h=>by have:=t.o.size;exact⟨aa,h.2,aa⟩,(t.o.trans (y.o.mono t.o.size)).trans (J.o.toBelow (by have:=t.o.size;omega) (fun k h=>(u.o k h).1)),((am.o.below y.o).R9 J.o fun x e h=>by injection e with e;rw[<-e]at h;exact(u.o _ h).2.2 rfl)⟩
    case measure=>simp[intOf]
   .have N:=F 2 ai 0 aa;have x1:=F 2 ai 1 aa;have x2:=F 2 ai 2 aa
    replace N:wr.cell? (ae w1.heap.size 6)=some (af 2):=N
    replace x1:wr.cell? (ae w1.heap.size 7)=some (af 1):=x1
    replace x2:wr.cell? (ae w1.heap.size 8)=some (ay 3):=x2
    obtain⟨p,e⟩:∃p:World,p=wr:=⟨_,rfl⟩;subst e;obtain⟨A,L⟩:∃A,A=p.alloc (.cells #[af 2,af 1,ay 3] 29):=⟨_,rfl⟩;have K:Below p.heap.size p A:=by rw[L];exact(aJ _ _).alloc (aB _) _
    have S:=ag (tY (V.o.below K) ai 2 1 3 ⟨ai,ai,ai⟩ ai);have y:=ag K;have T:=ag L.symm
    go_wp2_with fail
    rw[T.o];refine S.o.mono ?_;rintro e w4 ⟨n,ab,rfl,Z,M⟩;obtain rfl:=K3.three ab;have U:=ag Z;have J:=ag M;have a6:=y.o.size;have a5:=M.size;go_wp2;go_roundw
    case rel=>exact⟨3,_,_,rfl,ai,aa,U.o,fun k H=>H.elim (fun h=>by have:=u.o k h;exact⟨this.1,aa,this.2.2⟩) fun h=>by have:=t.o.size;exact⟨aa,h.2,aa⟩,(t.o.trans (y.o.mono t.o.size)).trans (J.o.toBelow (by have:=t.o.size;omega) (fun k h=>(u.o k h).1)),((am.o.below y.o).R9 J.o fun x e h=>by injection e with e;rw[<-e]at h;exact(u.o _ h).2.2 rfl)⟩
    case measure=>simp[intOf]
  .obtain rfl:i=3:=aa;obtain⟨wp,e⟩:∃wp:World,wp=wr:=⟨_,rfl⟩;subst e;have bw:Hid (ed wp Pb G 3 [(0,0,1),(2,5,2),(2,1,3)] 3 wk 0):=V.o;have D:=ag (u.o Pb V.o.facts.2.2.2.2.2.2.2);have ba:Hid (Below w.heap.size w wp):=t.o;have aM:Hid (∀k,G k->w.heap.size<=k/\k<wp.heap.size):=fun k h=>⟨(u.o k h).1,(u.o k h).2.1⟩;have cl:=t.o.size;have C:=Cq bw.o 0 2 1 5 0;rw[Vd]at C;have d:=ag C
   go_wp2_with fail
   refine d.o.mono ?_;rintro e a7 ⟨v,t1,rfl,s,-,f,hP⟩;have cm:=f.size;have aV:=ag (eB s (show wp.heap.size<=wp.heap.size by omega));obtain⟨bZ,b4,rfl,-,-,-⟩:=Rd.aI (l:=[2,3]) s;have bx:=ag hP;have bb:=ag (ba.o.trans (f.toBelow (show w.heap.size<=wp.heap.size by omega) (fun k h=>by have:=D.o;omega)));have C:=Fw bx.o 0 9 1;rw[Ve]at C;have d:=ag C
   go_wp2_with fail
   refine d.o.mono ?_;rintro e a9 ⟨v,t2,rfl,s,-,f,hP⟩;have ct:=f.size;have aW:=ag (aT aV.o f (fun z e h=>by have:=(aV.o.lt z e).1;have:=D.o;omega));have a0:=ag (eB s (show wp.heap.size<=a7.heap.size by omega));obtain⟨b1,a4,rfl,-,-,-⟩:=Rd.aI (l:=[1,3]) s;have bD:=ag hP;have bk:=ag (bb.o.trans (f.toBelow (show w.heap.size<=a7.heap.size by omega) (fun k h=>by have:=D.o;omega)));have C:=Cr bD.o 2 1 3 ai;rw[Vf]at C;have d:=ag C
   go_wp2_with fail
   refine d.o.mono ?_;rintro e cd ⟨v,t3,rfl,s,-,f,hP⟩;have cu:=f.size;have aY:=ag (aT aW.o f (fun z e h=>by have:=(aW.o.lt z e).1;have:=D.o;omega));have a1:=ag (aT a0.o f (fun z e h=>by have:=(a0.o.lt z e).1;have:=D.o;omega));have a3:=ag (eB s (show wp.heap.size<=a9.heap.size by omega));obtain⟨b2,b6,rfl,-,-,-⟩:=Rd.aI (l:=[2,3]) s;have bE:=ag hP;have bl:=ag (bk.o.trans (f.toBelow (show w.heap.size<=a9.heap.size by omega) (fun k h=>by have:=D.o;omega)));have C:=Hw bE.o 1 9;rw[RI]at C;have d:=ag C
   go_wp2_with fail
   refine d.o.mono ?_;rintro e B ⟨t4,rfl,-,f,hP⟩;have cv:=f.size;have bM:=ag (aT aY.o f (fun z e h=>by have:=(aY.o.lt z e).1;have:=D.o;omega));have bO:=ag (aT a1.o f (fun z e h=>by have:=(a1.o.lt z e).1;have:=D.o;omega));have bR:=ag (aT a3.o f (fun z e h=>by have:=(a3.o.lt z e).1;have:=D.o;omega));have bF:=ag hP;have bm:=ag (bl.o.trans (f.toBelow (show w.heap.size<=cd.heap.size by omega) (fun k h=>by have:=D.o;omega)));have a:Hid (Below B.heap.size B (B.alloc (.cells #[af 2,af 1,ay 3] 29))):=(aJ _ _).alloc (aB _) _;have an:Hid ((B.alloc (.cells #[af 2,af 1,ay 3] 29)).heap[B.heap.size]? =some (yH (2,1,3))):=cB _ _;have bY:Hid (B.heap.size+1=(B.alloc (.cells #[af 2,af 1,ay 3] 29)).heap.size):=by show _=_;simp
   go_wp2_with fail
   generalize B.alloc (.cells #[af 2,af 1,ay 3] 29)=ah at*;have cw:=a.o.size;have aZ:=ag (az bM.o a.o);have bP:=ag (az bO.o a.o);have bS:=ag (az bR.o a.o);have bG:=ag (bF.o.below a.o);have bn:=ag (bm.o.trans (a.o.mono (show w.heap.size<=B.heap.size by omega)));have q:Below ah.heap.size ah (ah.alloc (.cells #[ay 2,ay 3] 27)):=(aJ _ _).alloc (aB _) _;obtain⟨_,_,j,-,-,I⟩:=Rd.aI (l:=[2,3]) aZ.o;injection j with j _ E;subst j E;have c:=qE bZ (some (ae (B.heap.size+1) 0)) [2,3] [2,3] 2 2 b4 2 _ rfl rfl (I.below q) (Rd.lit (enc:=Value.int .u32) ah 27 [2,3] _ bY.o) ai ai;rw[show decide (([2,3]:List Int)=[2,3])=true from rfl]at c;have d:=ag c;have g:=ag q;refine d.o.mono ?_;rintro e Q ⟨rfl,m⟩;have ao:=ag ((aS m ((aS g.o an.o).trans an.o)).trans ((aS g.o an.o).trans an.o));have a:=g.o.trans (m.mono g.o.size);have cx:=a.size;have bN:=ag (az aZ.o a);have a2:=ag (az bP.o a);have bT:=ag (az bS.o a);have bH:=ag (bG.o.below a);have bo:=ag (bn.o.trans (a.mono (show w.heap.size<=ah.heap.size by omega)));have q:Below Q.heap.size Q (Q.alloc (.cells #[ay 1,ay 3] 27)):=(aJ _ _).alloc (aB _) _;obtain⟨_,_,j,-,-,I⟩:=Rd.aI (l:=[1,3]) a2.o;injection j with j _ E;subst j E;have c:=qE b1 (some (ae Q.heap.size 0)) [1,3] [1,3] 2 2 a4 2 _ rfl rfl (I.below q) (Rd.lit (enc:=Value.int .u32) Q 27 [1,3] _ rfl) ai ai;rw[show decide (([1,3]:List Int)=[1,3])=true from rfl]at c;have d:=ag c;have g:=ag q
   go_wp2_with fail
   refine d.o.mono ?_;rintro e R ⟨rfl,m⟩;have ap:=ag ((aS m ((aS g.o ao.o).trans ao.o)).trans ((aS g.o ao.o).trans ao.o));have a:=g.o.trans (m.mono g.o.size);have cy:=a.size;have ce:=ag (az bN.o a);have cf:=ag (az a2.o a);have bU:=ag (az bT.o a);have bI:=ag (bH.o.below a);have bp:=ag (bo.o.trans (a.mono (show w.heap.size<=Q.heap.size by omega)));have q:Below R.heap.size R (R.alloc (.cells #[ay 2,ay 3] 27)):=(aJ _ _).alloc (aB _) _;obtain⟨_,_,j,-,-,I⟩:=Rd.aI (l:=[2,3]) bU.o;injection j with j _ E;subst j E;have c:=qE b2 (some (ae R.heap.size 0)) [2,3] [2,3] 2 2 b6 2 _ rfl rfl (I.below q) (Rd.lit (enc:=Value.int .u32) R 27 [2,3] _ rfl) ai ai;rw[show decide (([2,3]:List Int)=[2,3])=true from rfl]at c;have d:=ag c;have g:=ag q
   go_wp2_with fail
   refine d.o.mono ?_;rintro e aG ⟨rfl,m⟩;have bv:=ag ((aS m ((aS g.o ap.o).trans ap.o)).trans ((aS g.o ap.o).trans ap.o));have a:=g.o.trans (m.mono g.o.size);have cz:=a.size;have bJ:=ag (bI.o.below a);have bq:=ag (bp.o.trans (a.mono (show w.heap.size<=R.heap.size by omega)));have a4:aG.cell? (ae B.heap.size 2)=some (ay 3):=(gD bv.o).2.2;have aR:Hid (∀k,G k->w.heap.size<=k/\k<aG.heap.size):=fun k h=>⟨(aM.o k h).1,by have:=(aM.o k h).2;omega⟩;have d:=ag (P9 bJ.o ai)
   go_wp2_with fail
   refine d.o.mono ?_;rintro e P ⟨v,ak,rfl,s,hP,f,Y⟩;rw[Va,TU]at s;have cA:=f.size;obtain⟨b3,b7,rfl,-,-,-⟩:=Rd.aI (l:=[2]) s;have bV:=ag s;have aQ:Hid (∀k,ak k->w.heap.size<=k/\k<P.heap.size):=fun k h=>⟨(Y k h).1.elim (fun h=>(aR.o k h).1) (fun h=>aa),(Y k h).2.1⟩;have br:=ag (bq.o.trans (f.toBelow (show w.heap.size<=aG.heap.size by omega) (fun k h=>(aR.o k h).1)));have bK:=ag hP;have q:Below P.heap.size P (P.alloc (.cells #[ay 2] 27)):=(aJ _ _).alloc (aB _) _;obtain⟨_,_,j,-,-,I⟩:=Rd.aI (l:=[2]) bV.o;injection j with j _ E;subst j E;have c:=qE b3 (some (ae P.heap.size 0)) [2] [2] 1 1 b7 1 _ rfl rfl (I.below q) (Rd.lit (enc:=Value.int .u32) P 27 [2] _ rfl) ai ai;rw[show decide (([2]:List Int)=[2])=true from rfl]at c;have d:=ag c;have g:=ag q
   go_wp2_with fail
   refine d.o.mono ?_;rintro e ar ⟨rfl,m⟩;have a:=g.o.trans (m.mono g.o.size);have cn:=a.size;have bz:=ag (bK.o.below a);have bc:=ag (br.o.trans (a.mono (show w.heap.size<=P.heap.size by omega)));have av:Hid (∀k,ak k->w.heap.size<=k/\k<ar.heap.size):=fun k h=>⟨(aQ.o k h).1,by have:=(aQ.o k h).2;omega⟩;have d:=ag (vV bz.o ai 2 5 2 ai)
   go_wp2_with fail
   refine d.o.mono ?_;rintro e ac ⟨q,ax,rfl,hP,f,hd⟩;obtain⟨rfl,rfl⟩:q=0/\ax=3:=by
    rcases hd with⟨h,W,X⟩|⟨h,W,X⟩
    .exact absurd h ai
    .exact⟨W,X⟩
   have co:=f.size;have al:Hid (∀k,(ak k\/ar.heap.size<=k/\k<ac.heap.size)->w.heap.size<=k/\k<ac.heap.size):=fun k h=>h.elim (fun h=>⟨(av.o k h).1,by have:=(av.o k h).2;omega⟩) (fun h=>⟨aa,h.2⟩);have bd:=ag (bc.o.trans (f.toBelow (show w.heap.size<=ar.heap.size by omega) (fun k h=>(av.o k h).1)));have aq:=ag hP;rw[show(List.filter (fun r=>decide (r≠((2:Int),(5:Int),(2:Int)))) _)=[(0,0,1),(2,1,3)]from rfl]at aq;generalize aE:(fun k=>ak k\/ar.heap.size<=k/\k<ac.heap.size)=aH at aq
   replace al:Hid (∀k,aH k->w.heap.size<=k/\k<ac.heap.size):=fun k h=>al.o k (by rw[<-aE]at h;exact h)
   have d:=ag (zB aq.o 9 9 3 ai)
   go_wp2_with fail
   refine d.o.mono ?_;rintro e a8 ⟨rfl,m⟩;have cp:=m.size;have aN:Hid (∀k,aH k->w.heap.size<=k/\k<a8.heap.size):=fun k h=>⟨(al.o k h).1,by have:=(al.o k h).2;omega⟩;have be:=ag (bd.o.trans (m.mono (show w.heap.size<=ac.heap.size by omega)));have bA:=ag (aq.o.below m);have d:=ag (P9 bA.o ai)
   go_wp2_with fail
   refine d.o.mono ?_;rintro e O ⟨v,aj,rfl,s,hP,f,Y⟩;rw[Vb,TV]at s;have cq:=f.size;obtain⟨b0,b5,rfl,-,-,-⟩:=Rd.aI (l:=[3]) s;have bL:=ag s;have aO:Hid (∀k,aj k->w.heap.size<=k/\k<O.heap.size):=fun k h=>⟨(Y k h).1.elim (fun h=>(aN.o k h).1) (fun h=>aa),(Y k h).2.1⟩;have bf:=ag (be.o.trans (f.toBelow (show w.heap.size<=a8.heap.size by omega) (fun k h=>(aN.o k h).1)));have bB:=ag hP;have q:Below O.heap.size O (O.alloc (.cells #[ay 3] 27)):=(aJ _ _).alloc (aB _) _;obtain⟨_,_,j,-,-,I⟩:=Rd.aI (l:=[3]) bL.o;injection j with j _ E;subst j E;have c:=qE b0 (some (ae O.heap.size 0)) [3] [3] 1 1 b5 1 _ rfl rfl (I.below q) (Rd.lit (enc:=Value.int .u32) O 27 [3] _ rfl) ai ai;rw[show decide (([3]:List Int)=[3])=true from rfl]at c;have d:=ag c;have g:=ag q
   go_wp2_with fail
   refine d.o.mono ?_;rintro e au ⟨rfl,m⟩;have a:=g.o.trans (m.mono g.o.size);have cr:=a.size;have bC:=ag (bB.o.below a);have bh:=ag (bf.o.trans (a.mono (show w.heap.size<=O.heap.size by omega)));have aw:Hid (∀k,aj k->w.heap.size<=k/\k<au.heap.size):=fun k h=>⟨(aO.o k h).1,by have:=(aO.o k h).2;omega⟩;have d:=ag (vV bC.o ai 0 0 1 ai)
   go_wp2_with fail
   refine d.o.mono ?_;rintro e ad ⟨q,ax,rfl,hP,f,hd⟩;obtain⟨rfl,rfl⟩:q=1/\ax=1:=by
    rcases hd with⟨h,W,X⟩|⟨h,W,X⟩
    .exact⟨W.trans ai,X.trans ai⟩
    .exact absurd h ai
   have cs:=f.size;have aP:Hid (∀k,(aj k\/au.heap.size<=k/\k<ad.heap.size)->w.heap.size<=k/\k<ad.heap.size):=fun k h=>h.elim (fun h=>⟨(aw.o k h).1,by have:=(aw.o k h).2;omega⟩) (fun h=>⟨aa,h.2⟩);have bi:=ag (bh.o.trans (f.toBelow (show w.heap.size<=au.heap.size by omega) (fun k h=>(aw.o k h).1)));have aC:=ag hP;rw[show(List.filter (fun r=>decide (r≠((0:Int),(0:Int),(1:Int)))) _)=[(2,1,3)]from rfl]at aC;generalize aE:(fun k=>aj k\/au.heap.size<=k/\k<ad.heap.size)=bt at aC
   replace aP:Hid (∀k,bt k->w.heap.size<=k/\k<ad.heap.size):=fun k h=>aP.o k (by rw[<-aE]at h;exact h)
   have d:=ag (P5 aC.o)
   go_wp2_with fail
   refine d.o.mono ?_;rintro e ck ⟨rfl,m⟩;have bj:=ag (bi.o.trans (m.mono (show w.heap.size<=ad.heap.size by omega)));go_wp2;go_ret;exact⟨rfl,bj.o⟩
def y9 (l:List Pt):List Pt:=l.foldl addN []
theorem Qd (l:List Pt) (p:Pt):y9 (l++[p])=addN (y9 l) p:=by simp[y9,List.foldl_append]
theorem J8 (a:List Pt) (p:Pt):((ids a).Nodup->(ids (addN a p)).Nodup)/\(∀x,x∈ids (addN a p)↔x∈ids a\/x=p.2.2)/\(∀q∈addN a p,q∈a\/q=p)/\(addN a p).length<=a.length+1:=by
 unfold addN;by_cases h:p.2.2∈ids a
 .rw[aN h];exact⟨id,fun x=>⟨.inl,fun d=>d.elim id fun e=>e▸h⟩,fun q b=>.inl b,aa⟩
 .rw[aM h];refine⟨fun f=>?_,fun x=>by simp[ids],fun q b=>aP b,aA⟩;unfold ids at*;rw[bL,mI];refine⟨f,aA,fun x g y c=>?_⟩;simp at c;subst c;rintro rfl;exact h g
theorem DY:∀(l a:List Pt),(ids a).Nodup->(ids (l.foldl addN a)).Nodup/\(∀x,x∈ids (l.foldl addN a)↔x∈ids a\/x∈ids l)/\(∀q∈l.foldl addN a,q∈a\/q∈l)/\(l.foldl addN a).length<=a.length+l.length
 |[],a,h=>⟨h,fun x=>by simp[ids],fun q b=>.inl b,aA⟩
 |p::l,a,h=>by
  obtain⟨f1,f2,f3,f4⟩:=J8 a p;obtain⟨c,d,e,f⟩:=DY l (addN a p) (f1 h);refine⟨c,fun x=>?_,fun q b=>?_,by simp only[uT,dY];omega⟩
  .rw[uT,d,f2];simp[ids,or_assoc]
  .rcases e q b with h1|h1
   .rcases f3 q h1 with h2|h2
    .exact .inl h2
    .exact .inr (by simp[h2])
   .exact .inr (kz _ h1)
theorem Qe (l:List Pt):(ids (y9 l)).Nodup/\(∀x,x∈ids (y9 l)↔x∈ids l)/\(∀q∈y9 l,q∈l)/\(y9 l).length<=l.length:=by
 obtain⟨b,c,d,a⟩:=DY l [] nS;exact⟨b,fun x=>(c x).trans (by simp[ids]),fun q e=>(d q e).elim (fun h=>by cases h) id,by rw[eZ,jL]at a;exact a⟩
def J9 (put bt:List Pt) (i:Nat) (L:List Pt):Prop:=
 (L.filter fun q=>decide (q.2.2∈ids put)).Perm (put.drop (put.length-i))/\∀q∈L,q.2.2∉ids put->q.2.2∈ids bt
theorem J9.nil (b a:List Pt):J9 b a 0 []:=⟨aA,fun _ h=>by cases h⟩
theorem J9.other {a b L:List Pt} {i:Nat} (h:J9 a b i L) {q:Pt} (e:q.2.2∉ids a) (c:q∈b):J9 a b i (addN L q):=by
 unfold addN;split
 .exact h
 .refine⟨?_,fun r hr d=>?_⟩
  .rw[kX,show([q].filter fun q=>decide (q.2.2∈ids a))=[] by simp[e],iJ];exact h.1
  .rcases bP.1 hr with hr|hr
   .exact h.2 r hr d
   .simp at hr;subst hr;exact nO c
theorem J9.next {a d L:List Pt} {i:Nat} (h:J9 a d i L) (hu:(ids a).Nodup) (hi:i<a.length):J9 a d (i+1) (L++[a[a.length-1-i]])/\a[a.length-1-i].2.2∉ids L:=by
 have g:a.length-(i+1)=a.length-1-i:=aa;have c:a[a.length-1-i].2.2∈ids a:=nO (bB _);have hd:a.drop (a.length-1-i)=a[a.length-1-i]::a.drop (a.length-i):=by
  rw[jJ aa];congr 2;omega
 refine⟨⟨?_,fun r hr f=>?_⟩,fun j=>?_⟩
 .rw[kX,show([a[a.length-1-i]].filter fun q=>decide (q.2.2∈ids a))=[a[a.length-1-i]] by simp[c],g,hd];exact(List.perm_append_singleton _ _).trans (h.1.cons _)
 .rcases bP.1 hr with hr|hr
  .exact h.2 r hr f
  .simp at hr;subst hr;exact absurd c f
 .obtain⟨q,l,e⟩:=dh.1 j;have k:q∈a.drop (a.length-i):=(h.1.mem_iff).1 (bF.2 ⟨l,by rw[e];simpa using c⟩);have b:(ids (a.drop (a.length-1-i))).Nodup:=(List.Sublist.map _ (List.drop_sublist _ _)).nodup hu;rw[hd]at b;unfold ids at b;rw[jK,lZ]at b;exact b.1 (dh.2 ⟨q,k,e⟩)
def zL (put bt:List Pt) (j:Nat) (L:List Pt):Prop:=
 (L.filter fun q=>decide (q.2.2∈ids put)).Perm put/\∀q∈L,q.2.2∉ids put->q.2.2∈ids (bt.drop j)
theorem J9.o {a b L:List Pt} (h:J9 a b a.length L):zL a b 0 L:=⟨aP h.1,fun q d c=>by simpa using h.2 q d c⟩
theorem zL.drop {b a L:List Pt} {j:Nat} (h:zL b a j L) (i:j<a.length) (k:a[j].2.2∉ids b):zL b a (j+1) (qX L a[j].2.2):=by
 refine⟨?_,fun q d g=>?_⟩
 .unfold qX;rw[pg];refine List.Perm.trans (List.Perm.of_eq (oD fun q d=>?_)) h.1;by_cases e:q.2.2∈ids b
  .have:q.2.2≠a[j].2.2:=fun f=>k (f▸e);simp[e,this]
  .simp[e]
 .have c:=bF.1 d;have h2:=h.2 q c.1 g;rw[jJ i]at h2;unfold ids at h2 |-;rw[jK,gU]at h2;rcases h2 with h2|h2
  .have:=c.2;simp[h2]at this
  .exact h2
theorem zL.stay {b a L:List Pt} {j:Nat} (h:zL b a j L) (d:j<a.length) (e:a[j].2.2∈ids b):zL b a (j+1) L:=by
 refine⟨h.1,fun q f c=>?_⟩;have h2:=h.2 q f c;rw[jJ d]at h2;unfold ids at h2 |-;rw[jK,gU]at h2;rcases h2 with h2|h2
 .exact absurd (h2▸e) c
 .exact h2
theorem zL.all {a b L:List Pt} (h:zL a b b.length L):L.Perm a:=by
 have e:(L.filter fun q=>decide (q.2.2∈ids a))=L:=lU.2 fun q d=>by
  rw[bO];refine Classical.byContradiction fun c=>?_;have:=h.2 q d c;simp[ids]at this
 rw[<-e];exact h.1
def H6 (D:DataW Unit) (l:List Int):Prop:=Tidy D/\∀x,D.atKey (.int .u32 x) (.lit (.int .i64 0))=.lit (.int .i64 (l.count x:Nat))
theorem H6.nil:H6 (.map []) []:=⟨tidy_empty,fun x=>rfl⟩
theorem H6.put {D:DataW Unit} {l:List Int} (h:H6 D l) (x:Int):H6 (D.put (.int .u32 x) (.lit (.int .i64 ((l.count x:Nat)+1)))) (l++[x]):=by
 have a:WideAt.IsKeyLit (Lit.int .u32 x):=trivial;refine⟨h.1.put a _,fun y=>?_⟩;by_cases e:y=x
 .subst e;rw[atKey_put_same h.1.isMap a];simp[List.count_append]
 .have c:(Lit.int .u32 y)≠(.int .u32 x):=fun b=>e (by injection b);rw[atKey_put_other c,h.2];have:(List.count y [x])=0:=List.count_eq_zero.2 (by simp[e]);simp[List.count_append,this]
def zC (mb:Nat) (l:List Int) (W:World):Prop:=∃(n:Nat) (D:DataW Unit),W.ownsMap prog 27 (plainElem prog 3) mb n D/\H6 D l
theorem RL {mb:Nat} {l:List Int}:St (zC mb l) (fun k=>k=mb):=fun W W' S e hS h=>by
 obtain⟨n,D,a,d⟩:=h;have g:=a.lt;obtain⟨c,b,f,r⟩:=a;exact⟨n,D,⟨c,b,(e.block mb g fun h=>hS mb h rfl).trans f,r⟩,d⟩
theorem zC.run {mb:Nat} {l:List Int} {W:World} (h:zC mb l W) {x:Int} (g:(Lit.int .u32 x).wf=true):(Instr.lookup 26 (.map (some mb)) (.int .u32 x) false).run prog W=.ok (.int .i64 (l.count x:Nat)) W:=by
 obtain⟨n,D,b,d⟩:=h;obtain⟨c,f,a,-⟩:=b.lookup_int (rU underlying27) underlying26 underlying3 (zeroValue3 _) (rR underlying27 g);rw[d.2]at a;have e:((l.count x:Nat):Int)=c:=by
  simp only[DataW.lit.injEq,Lit.int.injEq,nV]at a;exact a
 rw[e];exact f
theorem Cx {P:Program} {k:TypeId} {R:Value->Option (DataW Unit×List MemPlace)} {w w':World} {b n:Nat} {D:DataW Unit} (h:w.ownsMap P k R b n D) (e:w'.heap[b]? =w.heap[b]?):w'.ownsMap P k R b n D:=by
 obtain⟨c,a,d,r⟩:=h;exact⟨c,a,e.trans d,r⟩
theorem bQ.Ka {W:World} {b off k:Nat} {l:List Pt} (h:bQ bX 3 W (some (ae b off)) l) (f:k<l.length) {x y d:Int} (e:l[k]=(x,y,d)):W.cell? (ae b (off+k*3))=some (af x)/\W.cell? (ae b (off+k*3+1))=some (af y)/\W.cell? (ae b (off+k*3+2))=some (ay d):=by
 obtain⟨m,n,a,-,c⟩:=h.get aa;injection a with a;injection a with i j _;subst i j;have g:=c k f 0 aa;have x1:=c k f 1 aa;have x2:=c k f 2 aa;rw[e]at g x1 x2;exact⟨g,x1,x2⟩
theorem Nk (L:List Pt) (d:Int):(qX L d).length+(decide (d∈ids L)).toNat<=L.length:=by
 by_cases h:d∈ids L
 .obtain⟨p,hp,e⟩:=dh.1 h;have:(qX L d).length<L.length:=List.length_filter_lt_length_iff_exists.2 ⟨p,hp,by simp[e]⟩;rw[rH h];exact this
 .rw[Hz h,Es h];exact aB _
def Vg (w:World) (Pa:Nat) (ma:Nat) (La:List Pt) (Pb mb:Nat) (K:World->Prop) (put bt:List Pt) (i:Nat) (e:Ending) (w':World):Prop:=
 ∃(n m2:Nat) (b:Bool) (L2:List Pt),e=.returned (.tuple #[af n,.bool b])/\m2<=mb+1/\fK w w' Pb m2 L2 Pa ma La K/\J9 put bt i L2
theorem Nl {w W:World} {Pa ma Pb mb i:Nat} {La Lb b a:List Pt} {K:World->Prop} (h:fK w W Pb mb Lb Pa ma La K) (j:mb<5000) (c:J9 b a i Lb) {x y d:Int} (l:zi (x,y,d)) (k:d∉ids b) (g:(x,y,d)∈a):
  aK 12 #[aj Pb,iT x y d] W (Vg w Pa ma La Pb mb K b a i):=by
 refine(h.add j x y d l).mono ?_;rintro e w' ⟨n,rfl,f,-⟩;exact⟨n,_,_,_,rfl,by have:=Bool.toNat_le (decide (d∉ids Lb));omega,f,c.other (q:=(x,y,d)) k g⟩
theorem Cy {w W:World} {Pa ma Pb mb i:Nat} {La Lb a b:List Pt} {K:World->Prop} (h:fK w W Pb mb Lb Pa ma La K) (l:mb<5000) (k:J9 a b i Lb) (hu:(ids a).Nodup) (hi:i<a.length) (o:∀q∈a,zi q) {x y d:Int} (hp:a[a.length-1-i]=(x,y,d)):
  aK 12 #[aj Pb,iT x y d] W (Vg w Pa ma La Pb mb K a b (i+1)):=by
 have m:zi (x,y,d):=by rw[<-hp];exact o _ (bB _)
 obtain⟨c,f⟩:=k.next hu hi;rw[hp]at c f;refine(h.add l x y d m).mono ?_;rintro e w' ⟨n,rfl,g,-⟩;have j:addN Lb (x,y,d)=Lb++[(x,y,d)]:=aM f;rw[j]at g;exact⟨n,_,_,_,rfl,by have:=Bool.toNat_le (decide (d∉ids Lb));omega,g,c⟩
theorem FC (a:Option Addr) (l:List Pt) (n c:Nat) (cE:Option Addr) (z:List Pt) (cW cb:Nat) (du:Option Addr) (bx:List Bx) (cX dy:Nat) (bp:Int) (w:World) (eQ:l.length=n) (h:bQ bX 3 w a l) (dL:∀p∈l,zi p) (Q:n<=c) (eR:z.length=cW) (dI:bQ bX 3 w cE z) (dM:∀p∈z,zi p) (eM:cW<=9223372036854775807) (cQ:bx.length=cX) (dJ:bQ Uz 5 w du bx) (dK:cX<=dy) (d4:0<=bp):
  aK 3 #[.slice a n c,.slice cE cW cb,.slice du cX dy,.int .u8 bp] w (fV w (.bool true)):=by
 subst eQ eR cQ;have d7:=ag (fun W=>RJ W);obtain⟨m,cf,bR,dR⟩:∃m:Nat,min (l.length:Int) 40=(m:Int)/\m<=l.length/\m<=40:=⟨min l.length 40,aa,aa,aa⟩;obtain⟨bk,cg,dV,fn⟩:∃m:Nat,min (bx.length:Int) 6=(m:Int)/\m<=bx.length/\m<=6:=⟨min bx.length 6,aa,aa,aa⟩;have df:=ag cf;have dg:=ag cg;have cu:=ag h;have dc:=ag dL;have dl:=ag dI;have cr:=ag dM;have cv:=ag dJ;have c3:=ag (PX w);clear cf cg h dL dI dM dJ;go_enter func3,ntmps3
 go_wp2_with fail
 refine c3.o.mono ?_;rintro e w2 ⟨Pa,rfl,dz,cJ⟩;have dj:=ag dz;have ck:=ag cJ;have c4:=ag (PX w2);clear c3 dz cJ
 go_wp2_with fail
 refine c4.o.mono ?_;rintro e w3 ⟨Pb,rfl,dA,ce⟩;have eS:=ck.o.size;have fo:=ce.size;have b0:=ag (ck.o.trans (ce.mono eS));have bc:Hid (fK w w3 Pa 0 [] Pb 0 [] (fun _=>True)):=⟨_,_,fun _=>False,_,_,_,_,_,_,dj.o.below ce,dA,fun k s=>⟨s.1,by have:=s.2;omega,fun h=>by have:=s.2;have:=h.1;omega,fun h=>h⟩,fun k s=>⟨by have:=s.1;omega,s.2,fun h=>h⟩,fun _ h=>h.elim,b0.o,fun _ _ _ _ _ h=>h,trivial⟩;clear c4 dA ce dj ck;have cf:min (l.length:Int) 40=(m:Int):=df.o;have eP:=@vv prog
 go_wp2_with (refine qw pV (cu.o.below (b0.o.alloc aa _)) Q 0 m (aX _) bR rfl _ _ _ rfl rfl rfl rfl ?_;intro ex O;simp only[Nat.sub_zero,lK]at O |-)
 have cI:(l.take m).length=m:=aD;have cs:Hid (∀q∈l.take m,zi q):=fun q J=>dc.o q (List.mem_of_mem_take J);have ak:Hid (∀W,Below w.heap.size w W->bQ bX 3 W ex (l.take m)):=fun W H=>O W (cu.o.below H);clear O cf eP df cu dc bR Q;generalize l.take m=P at*;subst cI
 go_loopw [11,47] (fun v R wr=>∃(k:Nat) (pv:Value),R=.int .i64 k/\pv=v/\k<=P.length/\Hid (wr.ownsRow w3.heap.size 29 3 pv (y9 (P.take k)).length ((y9 (P.take k)).flatMap bX))/\Hid (∃D,wr.ownsMap prog 27 (plainElem prog 3) w3.heap.size k D/\H6 D (ids (P.take k)))/\Below w3.heap.size w3 wr/\Hid (pv.ownBlock≠some w3.heap.size)) (fun _ R _=>P.length-(intOf R).toNat)
 case atStart=>exact⟨0,_,rfl,rfl,aX _,dw _ _ _ _,⟨.map [],uK _ _ _ _,H6.nil⟩,(aJ _ _).alloc (aB _) _,by simp[Hid,Value.ownBlock]⟩
 case round=>
  obtain⟨k,pv,rfl,rfl,s,aY,bw,H,a7⟩:=hrel;by_cases bj:k<P.length
  .obtain⟨u,e⟩:∃u:World,u=wr:=⟨_,rfl⟩;subst e;obtain⟨b7,ch,bM,eH,al⟩:=(ak.o _ (b0.o.trans (H.mono aa))).get aa;have ad:=al k bj 0 aa;have x1:=al k bj 1 aa;have x2:=al k bj 2 aa;simp only[bX,fw,fD,dx]at ad x1 x2;have cF:P.take (k+1)=P.take k++[P[k]]:=gW bj;have iW:y9 (P.take (k+1))=addN (y9 (P.take k)) P[k]:=by rw[cF,Qd]
   have hid:ids (P.take (k+1))=ids (P.take k)++[P[k].2.2]:=by rw[cF];unfold ids;rw[bL];rfl
   have am:=Qe (P.take k);have cO:P[k].2.2∈ids (y9 (P.take k))↔0<List.count P[k].2.2 (ids (P.take k)):=by rw[am.2.1,List.count_pos_iff]
   have cK:List.count P[k].2.2 (ids (P.take k))<=k:=by
    have:=Ec (a:=P[k].2.2) (l:=ids (P.take k));simp[ids]at this;simp[ids];omega
   have fc:(y9 (P.take k)).length<=k:=by have:=am.2.2.2;simp at this;omega
   have b5:=ag (cs.o P[k] (bB bj));obtain⟨D,a4,bi⟩:=bw.o;have cH:=bi.put P[k].2.2;rw[<-hid]at cH;have bt:Hid (List.count P[k].2.2 (ids (P.take k))=0->y9 (P.take (k+1))=y9 (P.take k)++[P[k]]):=fun h=>by rw[iW];exact aM fun bh=>by have:=cO.1 bh;omega
   have bu:Hid (0<List.count P[k].2.2 (ids (P.take k))->y9 (P.take (k+1))=y9 (P.take k)):=fun h=>by rw[iW];exact aN (cO.2 h)
   have co:Hid (List.count P[k].2.2 (ids (P.take (k+1)))=List.count P[k].2.2 (ids (P.take k))+1):=by show _=_;rw[hid,List.count_append];simp
   have cq:=ag cH;have db:=ag bi;have S:=ag bM;clear al bM cF iW hid cO bi cH bw am;generalize y9 (P.take k)=L at*;generalize eG:ids (P.take k)=dq at*;obtain⟨q,J⟩:∃q,q=P[k]:=⟨_,rfl⟩;rw[<-J]at ad x1 x2 bt bu cq cK b5 co;clear J eG;obtain⟨bl,bm,ar⟩:=q;simp only at ad x1 x2 cK;obtain rfl:=S.o;clear S;have fj:(k:Int)<(P.length:Int):=aa;have eI:=H.size;obtain⟨ah,b8⟩:∃ah,ah=u.alloc (.cells #[af bl,af bm,ay ar] 29):=⟨_,rfl⟩;have bJ:Below u.heap.size u ah:=by rw[b8];exact(aJ _ _).alloc (aB _) _
   have b6:ah.heap[u.heap.size]? =some (yH (bl,bm,ar)):=by rw[b8];exact cB u _
   have c7:=b8.symm;have fp:=bJ.size;have fr:=(aZ.1 b6).1;obtain⟨t0,t1,t2⟩:=gD b6;simp only at t0 t1 t2;have eO:=a4.lt;have cR:=Cx a4 (bJ.block _ eO);have lk:=zC.run ⟨k,D,cR,db.o⟩ b5.o.2.2;have eL:Hid (keyOf prog 27 (.int .u32 ar)=some (.int .u32 ar)):=rR underlying27 b5.o.2.2;obtain⟨cn,ac⟩:∃cn,cn=List.count ar dq:=⟨_,rfl⟩;simp only[<-ac]at lk cK;have b1:=ag cq.o;rw[show List.count ((bl,bm,ar):Pt).2.2 dq=cn from ac.symm]at b1 bt bu co;have di:=ag (az aY.o bJ);have c8:=ag (H.trans (bJ.mono eI));have dp:=ag b6;clear b8 bJ b6 a4 db cq aY ac;have eJ:cn=0\/0<cn:=aa
   go_upto_region 7 with fail
   (try rw[c7])
   clear c7 ad x1 x2
   go_upto_region 8 with(at_mapUpdate;refine uF _ rfl _ _ _ 26 rfl 27 3 (rU underlying27) underlying26 _ w3.heap.size k _ rfl cR dD _ _ _ rfl rfl eL.o _ [] (rO underlying3 (by simp[Lit.wf,IntKind.min,IntKind.max,IntKind.bits,IntKind.signed];omega)) ?_;intro w6 cS dP;clear t0 t1 t2 lk)
   have bD:ax (fun k=>k=w3.heap.size) ah w6:=(ax.refl _ ah).grown dP fun k e=>.inl (by injection e with e;exact e.symm);have cD:=bz bD dp.o aa;have lk:=zC.run ⟨k+1,_,cS,b1.o⟩ b5.o.2.2;rw[co.o]at lk;have fq:=bD.size;obtain⟨t0,t1,t2⟩:=gD cD;simp only at t0 t1 t2;have aG:=ag (aT di.o bD (fun fa e h=>a7.o (by rw[e,h])));have cl:=ag (c8.o.trans (bD.toBelow aa (fun k h=>aa)));have ct:=ag cS;have e7:=ag cD;clear bD cD cS dP c8 dp di cR;rcases eJ with hc0|hc0
   .have d1:((cn:Int)+1==1)=true:=by simp[hc0]
    have d2:decide (cn=0)=true:=by simp[hc0]
    have b2:Hid (y9 (P.take (k+1))=L++[(bl,bm,ar)]):=bt.o hc0;clear bt bu hc0
    go_upto_region 9 with fail
    go_wp2_with (at_builtin;go_loud (refine bW pV w3.heap.size aG.o [.int .i64 bl,.int .i64 bm,.int .u32 ar] rfl (by simp[Value.oneCell']) rfl _ _ rfl rfl _ rfl dD aa aa ?_;intro cZ ci dW dO dH))
    have cC:ax (fun k=>pv.ownBlock=some k) w6 ci:=(ax.refl _ w6).grown dO fun k e=>.inl e;have dQ:∀k,pv.ownBlock=some k->w3.heap.size<=k:=fun k e=>(aG.o.lt k e).1;have el:=ag (Cx ct.o (cC.block w3.heap.size aa a7.o));have ee:=ag (cl.o.trans (cC.toBelow aa dQ));have em:Hid (cZ.ownBlock≠some w3.heap.size):=fun e=>by
     rcases fQ dH with bK|⟨b,bK,cJ⟩
     .exact a7.o (bK.symm.trans e)
     .rw[e]at bK;injection bK with bK;omega
    have en:Hid (ci.ownsRow w3.heap.size 29 3 cZ (y9 (P.take (k+1))).length ((y9 (P.take (k+1))).flatMap bX)):=by
     show World.ownsRow _ _ _ _ _ _ _;rw[b2.o,gZ,bS];exact dW
    clear cC dQ dW dO dH ct cl aG b2 a7 t0 t1 t2;go_wp2;go_roundw
    case rel=>exact⟨k+1,cZ,by go_num,rfl,aa,en,⟨_,el.o,b1.o⟩,ee.o,em⟩
    case measure=>exact dU
   .have d1:((cn:Int)+1==1)=false:=aD;have d2:decide (cn=0)=false:=aD;have b2:Hid (y9 (P.take (k+1))=L):=bu.o hc0;clear bt bu hc0;go_wp2;go_roundw
    case rel=>exact⟨k+1,pv,by go_num,rfl,aa,by rw[b2.o];exact aG.o,⟨_,ct.o,b1.o⟩,cl.o,a7⟩
    case measure=>exact dU
  .obtain rfl:k=P.length:=aa;have am:=Qe P;rw[jk]at aY bw;obtain⟨D,a4,bi⟩:=bw.o;obtain⟨cY,fy,eF,-,-,d3⟩:=bQ.aI bg ai aY.o;subst eF;have eN:=fun k e=>aY.o.lt k e;have bR:=a4.lt;have fk:w3.heap.size<=w3.heap.size:=aB _;have bF:=bc.o.put H (K2:=fun W=>bQ bX 3 W cY (y9 P)/\zC w3.heap.size (ids P) W) (TS.and RL) ⟨d3,_,D,a4,bi⟩ (fun k s=>by
    rcases s with s|rfl
    .have:=Cw aY.o k s;exact⟨this.1,this.2.1⟩
    .exact⟨aB _,bR⟩)
   obtain⟨u,e⟩:∃u:World,u=wr:=⟨_,rfl⟩;subst e;have cU:(y9 P).length<=40:=by have:=am.2.2.2;omega
   have bC:Hid (∀q∈y9 P,zi q):=fun q J=>cs.o q (am.2.2.1 q J);have a8:=ag am.1;have cp:Hid (∀x,(ids P).count x=0↔x∉ids (y9 P)):=fun x=>by rw[am.2.1,List.count_eq_zero]
   have ba:=ag bF;have cm:Hid (∀W,Below w.heap.size w W->bQ bX 3 W cE z):=fun W H=>dl.o.below H;clear bF a4 bi d3 aY bw am ak cs a7 H eN bR bc b0 dl bj;generalize y9 P=f at*;go_wp2
   go_loopw [68] (fun R wr=>∃(i ma mb:Nat) (Lb:List Pt),R=.int .i64 i/\i<=f.length/\ma<=i/\mb<=2*i/\Hid (fK w wr Pa ma (f.take i) Pb mb Lb (fun W=>True/\bQ bX 3 W cY f/\zC w3.heap.size (ids P) W))/\Hid (J9 f z i Lb)) (fun R _=>f.length-(intOf R).toNat)
   case atStart=>exact⟨0,0,0,[],rfl,aX _,aB _,aB _,by rw[xS];exact ba,J9.nil _ _⟩
   case round=>
    obtain⟨i,ma,mb,Lb,rfl,hi,fl,fm,I,aj⟩:=hrel;obtain⟨u,e⟩:∃u:World,u=wr:=⟨_,rfl⟩;subst e;by_cases an:i<f.length
    .have dN:=I.o.facts;obtain⟨b7,ch,bM,eH,al⟩:=dN.2.2.2.2.2.1.get aa;have ad:=al i an 0 aa;have x1:=al i an 1 aa;have x2:=al i an 2 aa;simp only[bX,fw,fD,dx]at ad x1 x2;have cV:f.take (i+1)=f.take i++[f[i]]:=gW an;have cP:f[i].2.2∉ids (f.take i):=by
      have bh:(ids (f.take (i+1))).Nodup:=(List.Sublist.map _ (List.take_sublist _ _)).nodup a8.o;rw[cV]at bh;unfold ids at bh |-;rw[bL,mI]at bh;exact fun h=>bh.2.2 _ h _ aA rfl
     have dB:addN (f.take i) f[i]=f.take (i+1):=by rw[cV];exact aM cP
     have g:=I.o.add aa f[i].1 f[i].2.1 f[i].2.2 (bC.o _ (bB an));rw[show addN (f.take i) (f[i].1,f[i].2.1,f[i].2.2)=f.take (i+1)from dB,show decide (f[i].2.2∉ids (f.take i))=true by simpa using cP]at g;have cQ:=aj.o.next;have a5:=ag g;have S:=ag bM;have fe:(i:Int)<(f.length:Int):=aa;clear al bM cV cP dB g cQ dN;obtain⟨q,J⟩:∃q,q=f[i]:=⟨_,rfl⟩;rw[<-J]at ad x1 x2 a5;clear J;obtain⟨bl,bm,ar⟩:=q;simp only at ad x1 x2;obtain rfl:=S.o;clear S
     go_upto_region 14 with fail
     go_wp2_with fail
     refine a5.o.mono ?_;rintro e ah ⟨fx,rfl,bH,-⟩;have K:=ag bH.swap;obtain⟨fz,fA,rd,dX⟩:∃x y d,f[f.length-1-i]=(x,y,d):=⟨_,_,_,rfl⟩;have ak:=ag dX;clear bH a5 dX I;by_cases bO:i<z.length
     .obtain⟨B,d6,aR,dG,N⟩:=(cm.o _ K.o.facts.2.2.2.1).get aa;have U:=N i bO 0 aa;have y1:=N i bO 1 aa;have y2:=N i bO 2 aa;simp only[bX,fw,fD,dx]at U y1 y2;have eK:(i:Int)<(z.length:Int):=aa;have dk:Hid (z[i]∈z):=bB bO;have a9:=ag (cr.o z[i] (bB bO));have lk:=K.o.facts.2.2.2.2.2.2.run a9.o.2.2;have a6:=ag (cp.o z[i].2.2);have S:=ag aR;clear N aR;generalize z[i]=q at*;obtain⟨bn,bo,T⟩:=q;simp only at U y1 y2 lk;obtain rfl:=S.o;clear S;obtain⟨cn,ac⟩:∃cn,cn=List.count T (ids P):=⟨_,rfl⟩;rw[<-ac]at lk;have aE:Hid (cn=0↔T∉ids f):=by rw[ac];exact a6.o
      clear ac a6;by_cases Q:cn=0
      .have d1:((cn:Int)==0)=true:=by simp[Q]
       have d2:decide (cn=0)=true:=by simp[Q]
       have bs:=ag (Nl K.o aa aj.o a9.o (aE.o.1 Q) dk.o);clear Q K aj aE ad x1 x2
       go_wp2_with fail
       refine bs.o.mono ?_;rintro e w6 ⟨eT,fs,e9,e8,rfl,dS,ab,dr⟩;have Z:=ag ab;have aF:=ag dr;clear ab dr bs U y1 y2 lk;have aH:Hid (bQ bX 3 w6 (some (ae b7 ch)) f):=Z.o.facts.2.2.2.2.2.1;obtain⟨aS,aU,aV⟩:=aH.o.Ka (k:=f.length-1-i) aa ak.o;obtain⟨r,O⟩:∃r,r=f.length-1-i:=⟨_,rfl⟩;rw[<-O]at aS aU aV;have bU:(f.length:Int)-1-(i:Int)=(r:Int):=aa;have d0:(r:Int)<(f.length:Int):=aa;have bV:IntKind.i64.wrap ((f.length:Int)-1)=(f.length:Int)-1:=nR _ aa;have bY:IntKind.i64.wrap ((f.length:Int)-1-(i:Int))=(r:Int):=by rw[nR _ aa];exact bU
       have aC:=ag (Cy Z.o aa aF.o a8.o an bC.o ak.o);clear aH O
       go_wp2_with fail
       refine aC.o.mono ?_;rintro e cj ⟨d5,bZ,dv,bE,rfl,dT,aQ,aP⟩;have a2:=ag aQ.swap;have bv:=ag aP;clear aQ aP aC Z aF aS aU aV bV bY;go_wp2;go_roundw
       case rel=>exact⟨i+1,_,bZ,bE,by go_num,aa,(by show ma+1<=i+1;omega),aa,a2,bv⟩
       case measure=>exact dU
      .have d1:((cn:Int)==0)=false:=aD;have d2:decide (cn=0)=false:=aD;have Z:=K;have aF:=aj;clear K aj Q aE ad x1 x2 dk a9;have aH:Hid (bQ bX 3 ah (some (ae b7 ch)) f):=Z.o.facts.2.2.2.2.2.1;obtain⟨aS,aU,aV⟩:=aH.o.Ka (k:=f.length-1-i) aa ak.o;obtain⟨r,O⟩:∃r,r=f.length-1-i:=⟨_,rfl⟩;rw[<-O]at aS aU aV;have bU:(f.length:Int)-1-(i:Int)=(r:Int):=aa;have d0:(r:Int)<(f.length:Int):=aa;have bV:IntKind.i64.wrap ((f.length:Int)-1)=(f.length:Int)-1:=nR _ aa;have bY:IntKind.i64.wrap ((f.length:Int)-1-(i:Int))=(r:Int):=by rw[nR _ aa];exact bU
       have aC:=ag (Cy Z.o aa aF.o a8.o an bC.o ak.o);clear aH O
       go_wp2_with fail
       refine aC.o.mono ?_;rintro e cj ⟨d5,bZ,dv,bE,rfl,dT,aQ,aP⟩;have a2:=ag aQ.swap;have bv:=ag aP;clear aQ aP aC Z aF aS aU aV bV bY;go_wp2;go_roundw
       case rel=>exact⟨i+1,_,bZ,bE,by go_num,aa,(by show ma+1<=i+1;omega),aa,a2,bv⟩
       case measure=>exact dU
     .have eK:decide ((i:Int)<(z.length:Int))=false:=aD;have fd:decide (i<z.length)=false:=aD;have Z:=K;have aF:=aj;clear K aj;clear ad x1 x2;have aH:Hid (bQ bX 3 ah (some (ae b7 ch)) f):=Z.o.facts.2.2.2.2.2.1;obtain⟨aS,aU,aV⟩:=aH.o.Ka (k:=f.length-1-i) aa ak.o;obtain⟨r,O⟩:∃r,r=f.length-1-i:=⟨_,rfl⟩;rw[<-O]at aS aU aV;have bU:(f.length:Int)-1-(i:Int)=(r:Int):=aa;have d0:(r:Int)<(f.length:Int):=aa;have bV:IntKind.i64.wrap ((f.length:Int)-1)=(f.length:Int)-1:=nR _ aa;have bY:IntKind.i64.wrap ((f.length:Int)-1-(i:Int))=(r:Int):=by rw[nR _ aa];exact bU
      have aC:=ag (Cy Z.o aa aF.o a8.o an bC.o ak.o);clear aH O
      go_wp2_with fail
      refine aC.o.mono ?_;rintro e cj ⟨d5,bZ,dv,bE,rfl,dT,aQ,aP⟩;have a2:=ag aQ.swap;have bv:=ag aP;clear aQ aP aC Z aF aS aU aV bV bY;go_wp2;go_roundw
      case rel=>exact⟨i+1,_,bZ,bE,by go_num,aa,(by show ma+1<=i+1;omega),aa,a2,bv⟩
      case measure=>exact dU
    .obtain rfl:i=f.length:=aa;have eM:=I.o.swap.facts.2.2.1;have be:=I.o.swap;rw[jk]at be;have bb:=ag be;have dh:=ag aj.o.o;clear be I aj an ba;go_wp2
     go_loopw [110] (fun R wr=>∃(j m2:Nat) (M:List Pt),R=.int .i64 j/\j<=z.length/\m2+M.length<=160/\Hid (fK w wr Pb m2 M Pa ma f (fun W=>True/\bQ bX 3 W cY f/\zC w3.heap.size (ids P) W))/\Hid (zL f z j M)) (fun R _=>z.length-(intOf R).toNat)
     case atStart=>exact⟨0,mb,Lb,rfl,aX _,aa,bb,dh⟩
     case round=>
      clear bb dh;obtain⟨j,m2,M,rfl,fg,dR,I,HO⟩:=hrel;obtain⟨u,e⟩:∃u:World,u=wr:=⟨_,rfl⟩;subst e;by_cases a3:j<z.length
      .obtain⟨B,d6,aR,dG,N⟩:=(cm.o _ I.o.facts.2.2.2.1).get aa;have U:=N j a3 0 aa;have y1:=N j a3 1 aa;have y2:=N j a3 2 aa;simp only[bX,fw,fD,dx]at U y1 y2;have fh:(j:Int)<(z.length:Int):=aa;have a9:=ag (cr.o z[j] (bB a3));have a6:=ag (cp.o z[j].2.2);have b3:Hid (z[j].2.2∉ids f->zL f z (j+1) (qX M z[j].2.2)):=fun h=>HO.o.drop a3 h;have b4:Hid (z[j].2.2∈ids f->zL f z (j+1) M):=fun h=>HO.o.stay a3 h;have S:=ag aR;clear N aR HO;obtain⟨q,J⟩:∃q,q=z[j]:=⟨_,rfl⟩;rw[<-J]at U y1 y2 a9 a6 b3 b4;clear J;obtain⟨bn,bo,T⟩:=q;simp only at U y1 y2;obtain rfl:=S.o;clear S;have dY:Hid (Below u.heap.size u (u.alloc (.cells #[af bn,af bo,ay T] 29))):=(aJ _ _).alloc (aB _) _;have dd:Hid ((u.alloc (.cells #[af bn,af bo,ay T] 29)).heap[u.heap.size]? =some (yH (bn,bo,T))):=cB _ _
       go_upto_region 22 with fail
       generalize u.alloc (.cells #[af bn,af bo,ay T] 29)=ah at*;clear U y1 y2;have K:=ag (I.o.below dY.o);obtain⟨t0,t1,t2⟩:=gD dd.o;simp only at t0 t1 t2;have lk:=K.o.facts.2.2.2.2.2.2.run a9.o.2.2;obtain⟨cn,ac⟩:∃cn,cn=List.count T (ids P):=⟨_,rfl⟩;rw[show List.count ((bn,bo,T):Pt).2.2 (ids P)=cn from ac.symm]at lk;have aE:Hid (cn=0↔T∉ids f):=by rw[ac];exact a6.o
       clear ac a6 I dY dd;by_cases Q:cn=0
       .have d1:((cn:Int)==0)=true:=by simp[Q]
        have d2:decide (cn=0)=true:=by simp[Q]
        have aG:=ag (b3.o (aE.o.1 Q));have de:=ag (Nk M T);have bs:=ag (K.o.drop aa T);clear Q aE b3 b4 K
        go_wp2_with fail
        refine bs.o.mono ?_;rintro e w6 ⟨eT,rfl,ab,-⟩;have aO:=ag ab;have dS:m2+(decide (T∈ids M)).toNat+(qX M T).length<=160:=by have:=de.o;omega
        clear ab bs t0 t1 t2 lk de;go_wp2;go_roundw
        case rel=>exact⟨j+1,_,_,by go_num,aa,dS,aO,aG⟩
        case measure=>exact dU
       .have d1:((cn:Int)==0)=false:=aD;have d2:decide (cn=0)=false:=aD;have aG:=ag (b4.o (Classical.byContradiction fun h=>Q (aE.o.2 h)));clear Q aE b3 b4;go_wp2;go_roundw
        case rel=>exact⟨j+1,m2,M,by go_num,aa,dR,K,aG⟩
        case measure=>exact dU
      .obtain rfl:j=z.length:=aa;have cT:=HO.o.all;have ek:=cT.length_eq;have bA:=ag cT;have bG:=I.o.swap.less (K2:=fun _=>True) (fun _ _=>trivial) (fun X _=>fun _ _ _ _ _ _=>trivial);have aL:=ag bG;clear bG I HO cT a3;have fi:((f.length:Int)!=(f.length:Int))=false:=aA;have a5:=ag aL.o.len;have g:=aL.o.swap.len;rw[ek]at g;have CB:=ag g;obtain⟨A,b9⟩:∃A,TR f=A:=⟨_,rfl⟩;have eo:=ag b9;have ep:Hid (TR M=A):=by rw[<-b9];exact Qa bA.o a8.o
       have fb:A.length<=40:=by
        rw[<-b9];unfold TR;rw[iP];unfold ids;rw[bT];have:=tZ (l:=f);omega
       clear g b9
       go_upto_region 25 with fail
       go_wp2_with fail
       refine a5.o.mono ?_;rintro e w6 ⟨rfl,bN⟩;have cG:=bN.symm;clear bN;subst cG
       go_wp2_with fail
       refine CB.o.mono ?_;rintro e w6 ⟨rfl,bN⟩;have cG:=bN.symm;clear bN;subst cG;have c5:=ag (aL.o.Dm aa eo.o);clear a5 CB aL
       go_wp2_with fail
       refine c5.o.mono ?_;rintro e w6 ⟨e0,e2,rfl,ab,-⟩;have aO:=ag ab.swap;have c6:=ag (aO.o.Dm aa ep.o);clear ab c5
       go_wp2_with fail
       refine c6.o.mono ?_;rintro e ci ⟨e1,e3,rfl,bI,-⟩;have a0:=ag bI.swap;have s:=a0.o.facts.2.2.2.2;have g:=qE e0 e1 A A A.length A.length e2 e3 ci rfl rfl s.1.2 s.2 aa aa;rw[show decide (A=A)=true from rH rfl]at g;have c2:=ag g;clear bI c6 aO s g
       go_wp2_with fail
       refine c2.o.mono ?_;rintro e fB ⟨rfl,dC⟩;have a1:=ag ((a0.o.below dC).less (K2:=fun _=>True) (fun _ _=>trivial) (fun X _=>fun _ _ _ _ _ _=>trivial));have c9:=ag a1.o.facts.2.2.2.1;clear c2 a0 dC;have cg:min (bx.length:Int) 6=(bk:Int):=dg.o
       go_wp2_with (refine qw Vz (cv.o.below c9.o) dK 0 bk (aX _) dV rfl _ _ _ rfl rfl rfl rfl ?_;intro ey O;simp only[Nat.sub_zero,lK]at O |-)
       have cI:(bx.take bk).length=bk:=aD;have eq:Hid (∀W,Below w.heap.size w W->bQ Uz 5 W ey (bx.take bk)):=fun W H=>O W (cv.o.below H);clear O cg dg cv dV dK c9 cm cr bC cp;generalize bx.take bk=bd at*;subst cI
       go_loopw [150] (fun R wr=>∃i:Nat,R=.int .i64 i/\i<=bd.length/\Hid (fK w wr Pa ma f Pb m2 M (fun _=>True))) (fun R _=>bd.length-(intOf R).toNat)
       case atStart=>exact⟨0,rfl,aX _,a1⟩
       case round=>
        clear a1;obtain⟨i,rfl,hi,I⟩:=hrel;obtain⟨u,e⟩:∃u:World,u=wr:=⟨_,rfl⟩;subst e;by_cases bP:i<bd.length
        .obtain⟨B,d6,aR,dG,N⟩:=(eq.o _ I.o.facts.2.2.2.1).get aa;have U:=N i bP 0 aa;have y1:=N i bP 1 aa;have y2:=N i bP 2 aa;have c0:=N i bP 3 aa;have c1:=N i bP 4 aa;simp only[Uz,fw,fD,dx]at U y1 y2 c0 c1;have ff:(i:Int)<(bd.length:Int):=aa;have S:=ag aR;clear N aR;generalize bd[i]=q at*;obtain⟨x1,x2,V,Y,bf⟩:=q;simp only at U y1 y2 c0 c1;obtain rfl:=S.o;clear S;have dZ:Hid (Below u.heap.size u (u.alloc (.cells #[af x1,af x2,af V,af Y,ay bf] 38))):=(aJ _ _).alloc (aB _) _;have cA:Hid ((u.alloc (.cells #[af x1,af x2,af V,af Y,ay bf] 38)).heap[u.heap.size]? =some (OJ (x1,x2,V,Y,bf))):=cB _ _
         go_upto_region 30 with fail
         generalize u.alloc (.cells #[af x1,af x2,af V,af Y,ay bf] 38)=cj at*;clear U y1 y2 c0 c1;have cz:=ag (I.o.put dZ.o J7 cA.o (fun k s=>by subst s;exact⟨aB _,(aZ.1 cA.o).1⟩));clear I dZ cA;obtain⟨au,ca⟩:∃A,dE (ids (f.filter (H8 x1 x2 V Y)))=A:=⟨_,rfl⟩;obtain⟨av,cc⟩:∃A,dE (ids (f.filter (Hr x1 V bp)))=A:=⟨_,rfl⟩;obtain⟨aw,cd⟩:∃A,dE (ids (f.filter (Ia x1 x2 Y)))=A:=⟨_,rfl⟩;have ft:au.length<=40:=by rw[<-ca];exact vU cU _
         have fu:av.length<=40:=by rw[<-cc];exact vU cU _
         have fv:aw.length<=40:=by rw[<-cd];exact vU cU _
         have d8:=ag ca;have d9:=ag cc;have ea:=ag cd;have eb:Hid (dE (ids (M.filter (H8 x1 x2 V Y)))=au):=by rw[<-ca];exact y8 bA.o _
         have ec:Hid (dE (ids (M.filter (Hr x1 V bp)))=av):=by rw[<-cc];exact y8 bA.o _
         have ed:Hid (dE (ids (M.filter (Ia x1 x2 Y)))=aw):=by rw[<-cd];exact y8 bA.o _
         clear ca cc cd;obtain⟨ap,aq,ao,lb,cL,cM⟩:∃x y d b,(mo f x1 x2).getD (0,0,0)=(x,y,d)/\(mo f x1 x2).isSome=b:=⟨_,_,_,_,rfl,rfl⟩;have cN:=Qb bA.o a8.o x1 x2;have eg:=ag cL;have eh:=ag cM;have ei:Hid ((mo M x1 x2).getD (0,0,0)=(ap,aq,ao)):=by rw[cN];exact cL
         have ej:Hid ((mo M x1 x2).isSome=lb):=by rw[cN];exact cM
         clear cL cM cN;obtain⟨C,E,B,F,G⟩:=ig cz.o.facts.2.2.2.2.2;simp only at C E B F G;have g:=cz.o.told (fun h=>Cq h x1 x2 V Y bf);rw[d8.o]at g;have t:=ag g;clear g
         go_wp2_with fail
         refine t.o.mono ?_;rintro e fE ⟨er,ez,t1,rfl,bF,-⟩;have ba:=ag bF;clear t bF cz C E B F G;obtain⟨C,E,B,F,G⟩:=ig ba.o.facts.2.2.2.2.1.2;simp only at C E B F G;have g:=ba.o.swap.told (fun h=>Cq h x1 x2 V Y bf);rw[eb.o]at g;have t:=ag g;clear g
         go_wp2_with fail
         refine t.o.mono ?_;rintro e fF ⟨es,eA,t2,rfl,be,-⟩;have bb:=ag be.swap;clear t be ba C E B F G;obtain⟨C,E,B,F,G⟩:=ig bb.o.facts.2.2.2.2.1.1.2;simp only at C E B F G;have g:=bb.o.told (fun h=>Cr h x1 V bp d4);rw[d9.o]at g;have t:=ag g;clear g
         go_wp2_with fail
         refine t.o.mono ?_;rintro e fG ⟨et,eB,t3,rfl,ds,-⟩;have bc:=ag ds;clear t ds bb C E B F G;obtain⟨C,E,B,F,G⟩:=ig bc.o.facts.2.2.2.2.1.1.1.2;simp only at C E B F G;have g:=bc.o.swap.told (fun h=>Cr h x1 V bp d4);rw[ec.o]at g;have t:=ag g;clear g
         go_wp2_with fail
         refine t.o.mono ?_;rintro e fH ⟨eu,eC,t4,rfl,bG,-⟩;have aL:=ag bG.swap;clear t bG bc C E B F G;obtain⟨C,E,B,F,G⟩:=ig aL.o.facts.2.2.2.2.1.1.1.1.2;simp only at C E B F G;have g:=aL.o.told (fun h=>Fw h x1 x2 Y);rw[ea.o]at g;have t:=ag g;clear g
         go_wp2_with fail
         refine t.o.mono ?_;rintro e fI ⟨ev,eD,t5,rfl,bH,-⟩;have K:=ag bH;clear t bH aL C E B F G;obtain⟨C,E,B,F,G⟩:=ig K.o.facts.2.2.2.2.1.1.1.1.1.2;simp only at C E B F G;have g:=K.o.swap.told (fun h=>Fw h x1 x2 Y);rw[ed.o]at g;have t:=ag g;clear g
         go_wp2_with fail
         refine t.o.mono ?_;rintro e fJ ⟨ew,eE,t6,rfl,ab,-⟩;have aO:=ag ab.swap;clear t ab K C E B F G;obtain⟨C,E,B,F,G⟩:=ig aO.o.facts.2.2.2.2.1.1.1.1.1.1.2;simp only at C E B F G;have t:=ag (aO.o.lowest x1 x2 eg.o eh.o)
         go_wp2_with fail
         refine t.o.mono ?_;rintro e bq ⟨t7,rfl,bI,-⟩;have dm:=ag bI;clear t bI aO C E B F G;have J:Hid (Below bq.heap.size bq (bq.alloc (.cells #[af ap,af aq,ay ao] 29))):=(aJ _ _).alloc (aB _) _;have aW:Hid ((bq.alloc (.cells #[af ap,af aq,ay ao] 29)).heap[bq.heap.size]? =some (yH (ap,aq,ao))):=cB _ _
         go_upto_region 37 with fail
         generalize bq.alloc (.cells #[af ap,af aq,ay ao] 29)=fC at*;have a0:=ag (dm.o.put J.o J7 aW.o (fun k s=>by subst s;exact⟨aB _,(aZ.1 aW.o).1⟩));clear dm J aW;obtain⟨C,E,B,F,G⟩:=ig a0.o.facts.2.2.2.2.1.1.1.1.1.1.1.2;simp only at C E B F G;have t:=ag (a0.o.swap.lowest x1 x2 ei.o ej.o)
         go_wp2_with fail
         refine t.o.mono ?_;rintro e br ⟨t8,rfl,dt,-⟩;have dn:=ag dt.swap;clear t dt a0 C E B F G;have J:Hid (Below br.heap.size br (br.alloc (.cells #[af ap,af aq,ay ao] 29))):=(aJ _ _).alloc (aB _) _;have aW:Hid ((br.alloc (.cells #[af ap,af aq,ay ao] 29)).heap[br.heap.size]? =some (yH (ap,aq,ao))):=cB _ _
         go_upto_region 38 with fail
         generalize br.alloc (.cells #[af ap,af aq,ay ao] 29)=e4 at*;have a1:=ag (dn.o.put J.o J7 aW.o (fun k s=>by subst s;exact⟨aB _,(aZ.1 aW.o).1⟩));clear dn J aW;have s:=a1.o.facts.2.2.2.2;have g:=qE er es au au au.length au.length ez eA e4 rfl rfl s.1.1.1.1.1.1.1.2 s.1.1.1.1.1.1.2 aa aa;rw[show decide (au=au)=true from rH rfl]at g;have t:=ag g;clear g s
         go_wp2_with fail
         refine t.o.mono ?_;rintro e e5 ⟨rfl,H⟩;have cw:=ag (a1.o.below H);clear t H a1;have s:=cw.o.facts.2.2.2.2;have g:=qE et eu av av av.length av.length eB eC e5 rfl rfl s.1.1.1.1.1.2 s.1.1.1.1.2 aa aa;rw[show decide (av=av)=true from rH rfl]at g;have t:=ag g;clear g s
         go_wp2_with fail
         refine t.o.mono ?_;rintro e e6 ⟨rfl,H⟩;have cx:=ag (cw.o.below H);clear t H cw;have s:=cx.o.facts.2.2.2.2;have g:=qE ev ew aw aw aw.length aw.length eD eE e6 rfl rfl s.1.1.1.2 s.1.1.2 aa aa;rw[show decide (aw=aw)=true from rH rfl]at g;have t:=ag g;clear g s
         go_wp2_with fail
         refine t.o.mono ?_;rintro e fL ⟨rfl,H⟩;have cy:=ag (cx.o.below H);clear t H cx;have s:=cy.o.facts.2.2.2.2;obtain⟨eU,eV,eW⟩:=gD s.1.2;obtain⟨eX,eY,eZ⟩:=gD s.2;simp only at eU eV eW eX eY eZ;have a2:=ag (cy.o.less (K2:=fun _=>True) (fun _ _=>trivial) (fun X _=>fun _ _ _ _ _ _=>trivial));clear s cy;go_wp2;go_roundw
         case rel=>exact⟨i+1,by go_num,aa,a2⟩
         case measure=>exact dU
        .obtain rfl:i=bd.length:=aa;have da:=ag I.o.facts.2.2.2.1;clear I
         go_wp2_with fail
         refine(d7.o _).mono ?_;rintro e cj ⟨rfl,dF⟩;have ef:=ag (da.o.trans (dF.mono da.o.size));clear dF;go_wp2;go_ret;exact⟨rfl,ef.o⟩
end
end Go.Proofs.YtkjdbndekceffaaGreat
