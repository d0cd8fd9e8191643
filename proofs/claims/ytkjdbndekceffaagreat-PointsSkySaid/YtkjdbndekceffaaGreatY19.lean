/- Made small by a program. -/
import Derived.Test.YtkjdbndekceffaaGreatY18
set_option linter.unusedSimpArgs false
set_option linter.unusedVariables false
set_option maxRecDepth 100000
set_option maxHeartbeats 16000000
namespace Go.Proofs.YtkjdbndekceffaaGreat
open Tryz
section
open Go.RowKit Go.Sort Go.Shelf Go.Lib Go.Maps
attribute [local irreducible] wpQuiet
attribute [local go_sem] Oper.eT
theorem Hz (l l':List Int) (k:Nat) (h:l.take k=l'.take k) (a:k<l.length) (b:k<l'.length) (c:l[k]=l'[k]):l.take (k+1)=l'.take (k+1):=by
 rw[ig a,ig b,h,c]
theorem sO (a a':Option Addr) (l l':List Int) (n n' c J:Nat) (w:World) (M:l.length=n) (N:l'.length=n') (h:Rd (.int .u32) w a l) (h':Rd (.int .u32) w a' l') (V:n<=1000000) (W:n'<=1000000):
  aK 15 #[.slice a n c,.slice a' n' J] w (fV w (.bool (decide (l=l')))):=by
 subst M N;have G:=ag h;have H:=ag h';clear h h';generalize m:decide (l=l')=r;have d:=ag m;clear m;by_cases j:l.length=l'.length
 .have K:((l.length:Int)!=(l'.length:Int))=false:=by simp[j]
  have z:=ag j;clear j;go_enter func15,ntmps15;go_wp2
  go_loopw [13] (fun t wr=>∃k:Nat,t=.int .i64 k/\k<=l.length/\Below w.heap.size w wr/\Hid (l.take k=l'.take k)) (fun t _=>l.length-(intOf t).toNat)
  case atStart=>exact⟨0,rfl,bH _,aJ _ _,rfl⟩
  case round=>
   obtain⟨k,rfl,S,i,g⟩:=hrel;by_cases E:k<l.length
   .have F:k<l'.length:=by have:=z.o;omega
    obtain⟨b,off,A,Q,C⟩:=(G.o.below i).get aa;obtain⟨P,X,B,R,D⟩:=(H.o.below i).get aa;have Y:=C k E;have Z:=D k F;have T:(k:Int)<(l.length:Int):=aa;have U:(k:Int)<(l'.length:Int):=aa;have p:l[k]≠l'[k]->r=false:=fun O=>by
     rw[<-d.o];simp only[gY];intro e;subst e;exact O rfl
    have q:l[k]=l'[k]->Hid (l.take (k+1)=l'.take (k+1)):=fun L=>Hz l l' k g.o E F L;have x:=ag A;have y:=ag B;clear C D A B;generalize l[k]=u at*;generalize l'[k]=v at*;obtain rfl:=x.o;obtain rfl:=y.o;clear x y;by_cases f:u=v
    .have d0:(u !=v)=false:=by simp[f]
     have I:=q f;clear f p q g;go_wp2;go_region
     all_goals
      go_wp2;go_roundw
      case rel=>exact⟨k+1,by go_num,aa,i.drew,I⟩
      case measure=>exact dX
    .have d0:(u !=v)=true:=by simp[f]
     have m:=p f;subst m;clear f p q d g;go_wp2;go_region
     all_goals
      go_wp2;go_ret;exact⟨rfl,i.drew⟩
   .obtain rfl:k=l.length:=aa;have s:r=true:=by
     rw[<-d.o,bN];have:=g.o;rw[jK,z.o,jK]at this;exact this
    subst s;clear g d;go_wp2;go_ret;exact⟨rfl,i⟩
 .have K:((l.length:Int)!=(l'.length:Int))=true:=aF;have s:r=false:=by
   rw[<-d.o,gY];rintro rfl;exact j rfl
  subst s;clear d j;go_enter func15,ntmps15;go_wp2;go_ret;exact⟨rfl,aJ _ _⟩
theorem Vb:bF [(0,0,1),(2,5,2),(2,1,3)]=[(2,5,2)]:=by
 refine(gI ai).unique ⟨by simp[kH],fun p=>?_⟩;have⟨x,y,i⟩:=p;constructor
 .intro h;simp only[ic,uX,iA,or_false]at h;rcases h with⟨rfl,rfl,rfl⟩<;>exact⟨ai,ai⟩
 .rintro⟨h,a⟩;simp only[ic,uX,iA,or_false]at h;rcases h with⟨rfl,rfl,rfl⟩|⟨rfl,rfl,rfl⟩|⟨rfl,rfl,rfl⟩<;>first|(exfalso;revert a;decide)|decide
theorem Vd:bF [(0,0,1),(2,1,3)]=[(2,1,3)]:=by
 refine(gI ai).unique ⟨by simp[kH],fun p=>?_⟩;have⟨x,y,i⟩:=p;constructor
 .intro h;simp only[ic,uX,iA,or_false]at h;rcases h with⟨rfl,rfl,rfl⟩<;>exact⟨ai,ai⟩
 .rintro⟨h,a⟩;simp only[ic,uX,iA,or_false]at h;rcases h with⟨rfl,rfl,rfl⟩|⟨rfl,rfl,rfl⟩<;>first|(exfalso;revert a;decide)|decide
theorem HV {l:List Int} (h:l.Pairwise (·<=·)):dR l=l:=EO h (nS _)
theorem RH:ug [(0,0,1),(2,5,2),(2,1,3)] 1 9=some (2,1,3):=by
 refine DR (l:=[(0,0,1),(2,5,2),(2,1,3)]) (nS _) ai (Fx _ _ _) ⟨ai,ai,?_⟩;decide
theorem Ve:dR (ids (([(0,0,1),(2,5,2),(2,1,3)]:List Pt).filter (CK 0 2 1 5)))=[2,3]:=by
 rw[show ids (([(0,0,1),(2,5,2),(2,1,3)]:List Pt).filter (CK 0 2 1 5))=[2,3] by decide];exact HV ai
theorem Vf:dR (ids (([(0,0,1),(2,5,2),(2,1,3)]:List Pt).filter (KC 0 9 1)))=[1,3]:=by
 rw[show ids (([(0,0,1),(2,5,2),(2,1,3)]:List Pt).filter (KC 0 9 1))=[1,3] by decide];exact HV ai
theorem Vg:dR (ids (([(0,0,1),(2,5,2),(2,1,3)]:List Pt).filter (Nb 2 1 3)))=[2,3]:=by
 rw[show ids (([(0,0,1),(2,5,2),(2,1,3)]:List Pt).filter (Nb 2 1 3))=[2,3] by decide];exact HV ai
theorem TU:dR (ids [((2:Int),(5:Int),(2:Int))])=[2]:=HV ai
theorem TV:dR (ids [((2:Int),(1:Int),(3:Int))])=[3]:=HV ai
def Lc:List Pt:=[(0,0,1),(2,5,2),(2,1,3)]
theorem KX.one {n:Nat} (h:KX 0 n):n=1:=by
 obtain⟨i,q,rfl,h⟩:=h;rcases i with _|i
 .rfl
 .have:2<=2^(i+1):=by rw[pW];have:=p8 (n:=i) (show 0<2 by decide);omega
  have:(2^(i+1):Nat)<=2^(i+1)+2^(i+1+1)*q:=Nat.le_add_right _ _;omega
theorem KX.two {n:Nat} (h:KX 1 n):n=2:=by
 obtain⟨i,q,rfl,h⟩:=h;rcases i with _|_|i
 .simp at h;omega
 .rfl
 .have:4<=2^(i+1+1):=by rw[pW,pW];have:=p8 (n:=i) (show 0<2 by decide);omega
  have:(2^(i+1+1):Nat)<=2^(i+1+1)+2^(i+1+1+1)*q:=Nat.le_add_right _ _;omega
theorem KX.three {n:Nat} (h:KX 2 n):n=1:=by
 obtain⟨i,q,rfl,h⟩:=h;rcases i with _|_|i
 .rfl
 .simp at h;omega
 .have:4<=2^(i+1+1):=by rw[pW,pW];have:=p8 (n:=i) (show 0<2 by decide);omega
  have:(2^(i+1+1):Nat)<=2^(i+1+1)+2^(i+1+1+1)*q:=Nat.le_add_right _ _;omega
theorem RI (w:World):aK 21 #[] w (fV w (.bool true)):=by
 have br:=ag (Sb w);go_enter func21,ntmps21
 go_wp2_with fail
 refine br.o.mono ?_;rintro e w1 ⟨Pb,rfl,hP,b9⟩;have bt:=ag hP;have aL:=ag b9;have bW:Hid (bV dw 3 (w1.alloc (.cells #[ae 0,ae 0,ak 1,ae 2,ae 5,ak 2,ae 2,ae 1,ak 3] 29)) (some (af w1.heap.size 0)) Lc):=bV.lit (sz:=3) bf w1 29 Lc w1.heap.size rfl;have aS:Hid (Below w1.heap.size w1 (w1.alloc (.cells #[ae 0,ae 0,ak 1,ae 2,ae 5,ak 2,ae 2,ae 1,ak 3] 29))):=(aJ _ _).alloc (aB _) _;have cf:(w1.alloc (.cells #[ae 0,ae 0,ak 1,ae 2,ae 5,ak 2,ae 2,ae 1,ak 3] 29)).heap.size=w1.heap.size+1:=aA
 go_wp2_with fail
 generalize w1.alloc (.cells #[ae 0,ae 0,ak 1,ae 2,ae 5,ak 2,ae 2,ae 1,ak 3] 29)=w2 at*;have cb:=aL.o.size
 go_loopw [25] (fun aF wr=>∃(i:Nat) (G:Nat->Prop) (wk:Int),aF=.int .i64 i/\i<=3/\w2.heap.size<=wr.heap.size/\Hid (ek wr Pb G i (Lc.take i) i wk 0)/\Hid (∀k,G k->w.heap.size<=k/\k<wr.heap.size/\k≠w1.heap.size)/\Hid (Below w.heap.size w wr)/\Hid (bV dw 3 wr (some (af w1.heap.size 0)) Lc)) (fun aF _=>3-(intOf aF).toNat)
 case atStart=>exact⟨0,_,0,rfl,bH _,aB _,bt.o.below aS.o,fun k H=>⟨H.1,by have:=H.2;omega,by have:=H.2;omega⟩,aL.o.trans (aS.o.mono cb),bW⟩
 case round=>
  obtain⟨i,G,wk,rfl,hi,cg,V,u,t,an⟩:=hrel;by_cases ci:i<3
  .have ca:i=0\/i=1\/i=2:=aa;have⟨b,off,aD,ch,F⟩:=an.o.get ai;injection aD with aD;injection aD with b7 b8 _;subst b7 b8;rcases ca with rfl|rfl|rfl
   .have N:=F 0 ai 0 aa;have x1:=F 0 ai 1 aa;have x2:=F 0 ai 2 aa
    replace N:wr.cell? (af w1.heap.size 0)=some (ae 0):=N
    replace x1:wr.cell? (af w1.heap.size 1)=some (ae 0):=x1
    replace x2:wr.cell? (af w1.heap.size 2)=some (ak 1):=x2
    obtain⟨p,e⟩:∃p:World,p=wr:=⟨_,rfl⟩;subst e;obtain⟨A,L⟩:∃A,A=p.alloc (.cells #[ae 0,ae 0,ak 1] 29):=⟨_,rfl⟩;have K:Below p.heap.size p A:=by rw[L];exact(aJ _ _).alloc (aB _) _
    have S:=ag (tV (V.o.below K) ai 0 0 1 ⟨ai,ai,ai⟩ ai);have y:=ag K;have T:=ag L.symm
    go_wp2_with fail
    rw[T.o];refine S.o.mono ?_;rintro e w4 ⟨n,ab,rfl,Z,M⟩;obtain rfl:=KX.one ab;have U:=ag Z;have J:=ag M;have a5:=y.o.size;have a4:=M.size;go_wp2;go_roundw
    case rel=>exact⟨1,_,_,rfl,ai,aa,U.o,fun k H=>H.elim (fun h=>by have:=u.o k h;exact⟨this.1,aa,this.2.2⟩) fun h=>by have:=t.o.size;exact⟨aa,h.2,aa⟩,(t.o.trans (y.o.mono t.o.size)).trans (J.o.toBelow (by have:=t.o.size;omega) (fun k h=>(u.o k h).1)),((an.o.below y.o).TN J.o fun x e h=>by injection e with e;rw[<-e]at h;exact(u.o _ h).2.2 rfl)⟩
    case measure=>simp[intOf]
   .have N:=F 1 ai 0 aa;have x1:=F 1 ai 1 aa;have x2:=F 1 ai 2 aa
    replace N:wr.cell? (af w1.heap.size 3)=some (ae 2):=N
    replace x1:wr.cell? (af w1.heap.size 4)=some (ae 5):=x1
    replace x2:wr.cell? (af w1.heap.size 5)=some (ak 2):=x2
    obtain⟨p,e⟩:∃p:World,p=wr:=⟨_,rfl⟩;subst e;obtain⟨A,L⟩:∃A,A=p.alloc (.cells #[ae 2,ae 5,ak 2] 29):=⟨_,rfl⟩;have K:Below p.heap.size p A:=by rw[L];exact(aJ _ _).alloc (aB _) _
    have S:=ag (tV (V.o.below K) ai 2 5 2 ⟨ai,ai,ai⟩ ai);have y:=ag K;have T:=ag L.symm
    go_wp2_with fail
    rw[T.o];refine S.o.mono ?_;rintro e w4 ⟨n,ab,rfl,Z,M⟩;obtain rfl:=KX.two ab;have U:=ag Z;have J:=ag M;have a5:=y.o.size;have a4:=M.size;go_wp2;go_roundw
    case rel=>exact⟨2,_,_,rfl,ai,aa,U.o,fun k H=>H.elim (fun h=>by have:=u.o k h;exact⟨this.1,aa,this.2.2⟩) fun h=>by have:=t.o.size;exact⟨aa,h.2,aa⟩,(t.o.trans (y.o.mono t.o.size)).trans (J.o.toBelow (by have:=t.o.size;omega) (fun k h=>(u.o k h).1)),((an.o.below y.o).TN J.o fun x e h=>by injection e with e;rw[<-e]at h;exact(u.o _ h).2.2 rfl)⟩
    case measure=>simp[intOf]
   .have N:=F 2 ai 0 aa;have x1:=F 2 ai 1 aa;have x2:=F 2 ai 2 aa
    replace N:wr.cell? (af w1.heap.size 6)=some (ae 2):=N
    replace x1:wr.cell? (af w1.heap.size 7)=some (ae 1):=x1
    replace x2:wr.cell? (af w1.heap.size 8)=some (ak 3):=x2
    obtain⟨p,e⟩:∃p:World,p=wr:=⟨_,rfl⟩;subst e;obtain⟨A,L⟩:∃A,A=p.alloc (.cells #[ae 2,ae 1,ak 3] 29):=⟨_,rfl⟩;have K:Below p.heap.size p A:=by rw[L];exact(aJ _ _).alloc (aB _) _
    have S:=ag (tV (V.o.below K) ai 2 1 3 ⟨ai,ai,ai⟩ ai);have y:=ag K;have T:=ag L.symm
    go_wp2_with fail
    rw[T.o];refine S.o.mono ?_;rintro e w4 ⟨n,ab,rfl,Z,M⟩;obtain rfl:=KX.three ab;have U:=ag Z;have J:=ag M;have a5:=y.o.size;have a4:=M.size;go_wp2;go_roundw
    case rel=>exact⟨3,_,_,rfl,ai,aa,U.o,fun k H=>H.elim (fun h=>by have:=u.o k h;exact⟨this.1,aa,this.2.2⟩) fun h=>by have:=t.o.size;exact⟨aa,h.2,aa⟩,(t.o.trans (y.o.mono t.o.size)).trans (J.o.toBelow (by have:=t.o.size;omega) (fun k h=>(u.o k h).1)),((an.o.below y.o).TN J.o fun x e h=>by injection e with e;rw[<-e]at h;exact(u.o _ h).2.2 rfl)⟩
    case measure=>simp[intOf]
  .obtain rfl:i=3:=aa;obtain⟨wp,e⟩:∃wp:World,wp=wr:=⟨_,rfl⟩;subst e;have bv:Hid (ek wp Pb G 3 [(0,0,1),(2,5,2),(2,1,3)] 3 wk 0):=V.o;have D:=ag (u.o Pb V.o.facts.2.2.2.2.2.2.2);have a9:Hid (Below w.heap.size w wp):=t.o;have aM:Hid (∀k,G k->w.heap.size<=k/\k<wp.heap.size):=fun k h=>⟨(u.o k h).1,(u.o k h).2.1⟩;have ck:=t.o.size;have C:=Hg bv.o 0 2 1 5 0;rw[Ve]at C;have d:=ag C
   go_wp2_with fail
   refine d.o.mono ?_;rintro e a6 ⟨v,t1,rfl,s,-,f,hP⟩;have cl:=f.size;have aV:=ag (eF s (show wp.heap.size<=wp.heap.size by omega));obtain⟨bY,b3,rfl,-,-,-⟩:=Rd.aG (l:=[2,3]) s;have bw:=ag hP;have ba:=ag (a9.o.trans (f.toBelow (show w.heap.size<=wp.heap.size by omega) (fun k h=>by have:=D.o;omega)));have C:=RA bw.o 0 9 1;rw[Vf]at C;have d:=ag C
   go_wp2_with fail
   refine d.o.mono ?_;rintro e a8 ⟨v,t2,rfl,s,-,f,hP⟩;have cs:=f.size;have aW:=ag (aU aV.o f (fun z e h=>by have:=(aV.o.lt z e).1;have:=D.o;omega));have aZ:=ag (eF s (show wp.heap.size<=a6.heap.size by omega));obtain⟨b0,a3,rfl,-,-,-⟩:=Rd.aG (l:=[1,3]) s;have bC:=ag hP;have bj:=ag (ba.o.trans (f.toBelow (show w.heap.size<=a6.heap.size by omega) (fun k h=>by have:=D.o;omega)));have C:=PS bC.o 2 1 3 ai;rw[Vg]at C;have d:=ag C
   go_wp2_with fail
   refine d.o.mono ?_;rintro e cc ⟨v,t3,rfl,s,-,f,hP⟩;have ct:=f.size;have aX:=ag (aU aW.o f (fun z e h=>by have:=(aW.o.lt z e).1;have:=D.o;omega));have a0:=ag (aU aZ.o f (fun z e h=>by have:=(aZ.o.lt z e).1;have:=D.o;omega));have a2:=ag (eF s (show wp.heap.size<=a8.heap.size by omega));obtain⟨b1,b5,rfl,-,-,-⟩:=Rd.aG (l:=[2,3]) s;have bD:=ag hP;have bk:=ag (bj.o.trans (f.toBelow (show w.heap.size<=a8.heap.size by omega) (fun k h=>by have:=D.o;omega)));have C:=PV bD.o 1 9;rw[RH]at C;have d:=ag C
   go_wp2_with fail
   refine d.o.mono ?_;rintro e B ⟨t4,rfl,-,f,hP⟩;have cu:=f.size;have bM:=ag (aU aX.o f (fun z e h=>by have:=(aX.o.lt z e).1;have:=D.o;omega));have bO:=ag (aU a0.o f (fun z e h=>by have:=(a0.o.lt z e).1;have:=D.o;omega));have bQ:=ag (aU a2.o f (fun z e h=>by have:=(a2.o.lt z e).1;have:=D.o;omega));have bE:=ag hP;have bl:=ag (bk.o.trans (f.toBelow (show w.heap.size<=cc.heap.size by omega) (fun k h=>by have:=D.o;omega)));have a:Hid (Below B.heap.size B (B.alloc (.cells #[ae 2,ae 1,ak 3] 29))):=(aJ _ _).alloc (aB _) _;have ao:Hid ((B.alloc (.cells #[ae 2,ae 1,ak 3] 29)).heap[B.heap.size]? =some (zB (2,1,3))):=df _ _;have bX:Hid (B.heap.size+1=(B.alloc (.cells #[ae 2,ae 1,ak 3] 29)).heap.size):=by show _=_;simp
   go_wp2_with fail
   generalize B.alloc (.cells #[ae 2,ae 1,ak 3] 29)=ah at*;have cv:=a.o.size;have aY:=ag (az bM.o a.o);have bP:=ag (az bO.o a.o);have bR:=ag (az bQ.o a.o);have bF:=ag (bE.o.below a.o);have bm:=ag (bl.o.trans (a.o.mono (show w.heap.size<=B.heap.size by omega)));have q:Below ah.heap.size ah (ah.alloc (.cells #[ak 2,ak 3] 27)):=(aJ _ _).alloc (aB _) _;obtain⟨_,_,j,-,-,I⟩:=Rd.aG (l:=[2,3]) aY.o;injection j with j _ E;subst j E;have c:=sO bY (some (af (B.heap.size+1) 0)) [2,3] [2,3] 2 2 b3 2 _ rfl rfl (I.below q) (Rd.lit (enc:=Value.int .u32) ah 27 [2,3] _ bX.o) ai ai;rw[show decide (([2,3]:List Int)=[2,3])=true from rfl]at c;have d:=ag c;have g:=ag q;refine d.o.mono ?_;rintro e Q ⟨rfl,m⟩;have ap:=ag ((aT m ((aT g.o ao.o).trans ao.o)).trans ((aT g.o ao.o).trans ao.o));have a:=g.o.trans (m.mono g.o.size);have cw:=a.size;have bN:=ag (az aY.o a);have a1:=ag (az bP.o a);have bS:=ag (az bR.o a);have bG:=ag (bF.o.below a);have bn:=ag (bm.o.trans (a.mono (show w.heap.size<=ah.heap.size by omega)));have q:Below Q.heap.size Q (Q.alloc (.cells #[ak 1,ak 3] 27)):=(aJ _ _).alloc (aB _) _;obtain⟨_,_,j,-,-,I⟩:=Rd.aG (l:=[1,3]) a1.o;injection j with j _ E;subst j E;have c:=sO b0 (some (af Q.heap.size 0)) [1,3] [1,3] 2 2 a3 2 _ rfl rfl (I.below q) (Rd.lit (enc:=Value.int .u32) Q 27 [1,3] _ rfl) ai ai;rw[show decide (([1,3]:List Int)=[1,3])=true from rfl]at c;have d:=ag c;have g:=ag q
   go_wp2_with fail
   refine d.o.mono ?_;rintro e R ⟨rfl,m⟩;have aq:=ag ((aT m ((aT g.o ap.o).trans ap.o)).trans ((aT g.o ap.o).trans ap.o));have a:=g.o.trans (m.mono g.o.size);have cx:=a.size;have cd:=ag (az bN.o a);have ce:=ag (az a1.o a);have bT:=ag (az bS.o a);have bI:=ag (bG.o.below a);have bo:=ag (bn.o.trans (a.mono (show w.heap.size<=Q.heap.size by omega)));have q:Below R.heap.size R (R.alloc (.cells #[ak 2,ak 3] 27)):=(aJ _ _).alloc (aB _) _;obtain⟨_,_,j,-,-,I⟩:=Rd.aG (l:=[2,3]) bT.o;injection j with j _ E;subst j E;have c:=sO b1 (some (af R.heap.size 0)) [2,3] [2,3] 2 2 b5 2 _ rfl rfl (I.below q) (Rd.lit (enc:=Value.int .u32) R 27 [2,3] _ rfl) ai ai;rw[show decide (([2,3]:List Int)=[2,3])=true from rfl]at c;have d:=ag c;have g:=ag q
   go_wp2_with fail
   refine d.o.mono ?_;rintro e aH ⟨rfl,m⟩;have bu:=ag ((aT m ((aT g.o aq.o).trans aq.o)).trans ((aT g.o aq.o).trans aq.o));have a:=g.o.trans (m.mono g.o.size);have cy:=a.size;have bJ:=ag (bI.o.below a);have bp:=ag (bo.o.trans (a.mono (show w.heap.size<=R.heap.size by omega)));have a3:aH.cell? (af B.heap.size 2)=some (ak 3):=(jE bu.o).2.2;have aR:Hid (∀k,G k->w.heap.size<=k/\k<aH.heap.size):=fun k h=>⟨(aM.o k h).1,by have:=(aM.o k h).2;omega⟩;have d:=ag (Hy bJ.o ai)
   go_wp2_with fail
   refine d.o.mono ?_;rintro e P ⟨v,al,rfl,s,hP,f,Y⟩;rw[Vb,TU]at s;have cz:=f.size;obtain⟨b2,b6,rfl,-,-,-⟩:=Rd.aG (l:=[2]) s;have bU:=ag s;have aQ:Hid (∀k,al k->w.heap.size<=k/\k<P.heap.size):=fun k h=>⟨(Y k h).1.elim (fun h=>(aR.o k h).1) (fun h=>aa),(Y k h).2.1⟩;have bq:=ag (bp.o.trans (f.toBelow (show w.heap.size<=aH.heap.size by omega) (fun k h=>(aR.o k h).1)));have bK:=ag hP;have q:Below P.heap.size P (P.alloc (.cells #[ak 2] 27)):=(aJ _ _).alloc (aB _) _;obtain⟨_,_,j,-,-,I⟩:=Rd.aG (l:=[2]) bU.o;injection j with j _ E;subst j E;have c:=sO b2 (some (af P.heap.size 0)) [2] [2] 1 1 b6 1 _ rfl rfl (I.below q) (Rd.lit (enc:=Value.int .u32) P 27 [2] _ rfl) ai ai;rw[show decide (([2]:List Int)=[2])=true from rfl]at c;have d:=ag c;have g:=ag q
   go_wp2_with fail
   refine d.o.mono ?_;rintro e au ⟨rfl,m⟩;have a:=g.o.trans (m.mono g.o.size);have cm:=a.size;have bx:=ag (bK.o.below a);have bb:=ag (bq.o.trans (a.mono (show w.heap.size<=P.heap.size by omega)));have aw:Hid (∀k,al k->w.heap.size<=k/\k<au.heap.size):=fun k h=>⟨(aQ.o k h).1,by have:=(aQ.o k h).2;omega⟩;have d:=ag (vV bx.o ai 2 5 2 ai)
   go_wp2_with fail
   refine d.o.mono ?_;rintro e ac ⟨q,ay,rfl,hP,f,hd⟩;obtain⟨rfl,rfl⟩:q=0/\ay=3:=by
    rcases hd with⟨h,W,X⟩|⟨h,W,X⟩
    .exact absurd h ai
    .exact⟨W,X⟩
   have cn:=f.size;have am:Hid (∀k,(al k\/au.heap.size<=k/\k<ac.heap.size)->w.heap.size<=k/\k<ac.heap.size):=fun k h=>h.elim (fun h=>⟨(aw.o k h).1,by have:=(aw.o k h).2;omega⟩) (fun h=>⟨aa,h.2⟩);have bc:=ag (bb.o.trans (f.toBelow (show w.heap.size<=au.heap.size by omega) (fun k h=>(aw.o k h).1)));have ar:=ag hP;rw[show(List.filter (fun r=>decide (r≠((2:Int),(5:Int),(2:Int)))) _)=[(0,0,1),(2,1,3)]from rfl]at ar;generalize aE:(fun k=>al k\/au.heap.size<=k/\k<ac.heap.size)=aI at ar
   replace am:Hid (∀k,aI k->w.heap.size<=k/\k<ac.heap.size):=fun k h=>am.o k (by rw[<-aE]at h;exact h)
   have d:=ag (zw ar.o 9 9 3 ai)
   go_wp2_with fail
   refine d.o.mono ?_;rintro e a7 ⟨rfl,m⟩;have co:=m.size;have aN:Hid (∀k,aI k->w.heap.size<=k/\k<a7.heap.size):=fun k h=>⟨(am.o k h).1,by have:=(am.o k h).2;omega⟩;have bd:=ag (bc.o.trans (m.mono (show w.heap.size<=ac.heap.size by omega)));have bz:=ag (ar.o.below m);have d:=ag (Hy bz.o ai)
   go_wp2_with fail
   refine d.o.mono ?_;rintro e O ⟨v,aj,rfl,s,hP,f,Y⟩;rw[Vd,TV]at s;have cp:=f.size;obtain⟨bZ,b4,rfl,-,-,-⟩:=Rd.aG (l:=[3]) s;have bL:=ag s;have aO:Hid (∀k,aj k->w.heap.size<=k/\k<O.heap.size):=fun k h=>⟨(Y k h).1.elim (fun h=>(aN.o k h).1) (fun h=>aa),(Y k h).2.1⟩;have be:=ag (bd.o.trans (f.toBelow (show w.heap.size<=a7.heap.size by omega) (fun k h=>(aN.o k h).1)));have bA:=ag hP;have q:Below O.heap.size O (O.alloc (.cells #[ak 3] 27)):=(aJ _ _).alloc (aB _) _;obtain⟨_,_,j,-,-,I⟩:=Rd.aG (l:=[3]) bL.o;injection j with j _ E;subst j E;have c:=sO bZ (some (af O.heap.size 0)) [3] [3] 1 1 b4 1 _ rfl rfl (I.below q) (Rd.lit (enc:=Value.int .u32) O 27 [3] _ rfl) ai ai;rw[show decide (([3]:List Int)=[3])=true from rfl]at c;have d:=ag c;have g:=ag q
   go_wp2_with fail
   refine d.o.mono ?_;rintro e av ⟨rfl,m⟩;have a:=g.o.trans (m.mono g.o.size);have cq:=a.size;have bB:=ag (bA.o.below a);have bg:=ag (be.o.trans (a.mono (show w.heap.size<=O.heap.size by omega)));have ax:Hid (∀k,aj k->w.heap.size<=k/\k<av.heap.size):=fun k h=>⟨(aO.o k h).1,by have:=(aO.o k h).2;omega⟩;have d:=ag (vV bB.o ai 0 0 1 ai)
   go_wp2_with fail
   refine d.o.mono ?_;rintro e ad ⟨q,ay,rfl,hP,f,hd⟩;obtain⟨rfl,rfl⟩:q=1/\ay=1:=by
    rcases hd with⟨h,W,X⟩|⟨h,W,X⟩
    .exact⟨W.trans ai,X.trans ai⟩
    .exact absurd h ai
   have cr:=f.size;have aP:Hid (∀k,(aj k\/av.heap.size<=k/\k<ad.heap.size)->w.heap.size<=k/\k<ad.heap.size):=fun k h=>h.elim (fun h=>⟨(ax.o k h).1,by have:=(ax.o k h).2;omega⟩) (fun h=>⟨aa,h.2⟩);have bh:=ag (bg.o.trans (f.toBelow (show w.heap.size<=av.heap.size by omega) (fun k h=>(ax.o k h).1)));have aC:=ag hP;rw[show(List.filter (fun r=>decide (r≠((0:Int),(0:Int),(1:Int)))) _)=[(2,1,3)]from rfl]at aC;generalize aE:(fun k=>aj k\/av.heap.size<=k/\k<ad.heap.size)=bs at aC
   replace aP:Hid (∀k,bs k->w.heap.size<=k/\k<ad.heap.size):=fun k h=>aP.o k (by rw[<-aE]at h;exact h)
   have d:=ag (PW aC.o)
   go_wp2_with fail
   refine d.o.mono ?_;rintro e cj ⟨rfl,m⟩;have bi:=ag (bh.o.trans (m.mono (show w.heap.size<=ad.heap.size by omega)));go_wp2;go_ret;exact⟨rfl,bi.o⟩
def pz (w W:World) (Pb mm:Nat) (L:List Pt) (va:Value) (A:List Int) (X:List (Nat×Obj)):Prop:=
 ∃(G:Nat->Prop) (N wk eH:Int) (base:Nat),ek W Pb G mm L N wk eH/\W.ownsRow base 27 1 va A.length (A.map (Value.int .u32))/\(∀k,G k->w.heap.size<=k/\k<W.heap.size/\va.ownBlock≠some k)/\Below w.heap.size w W/\∀x∈X,W.heap[x.1]? =some x.2/\¬G x.1
section
variable {w W:World} {Pb mm:Nat} {L:List Pt} {va:Value} {A:List Int} {X:List (Nat×Obj)}
theorem pz.moved {G d:Nat->Prop} {n:Nat} {L':List Pt} {N wk eH:Int} {base:Nat} {W':World} {S:Nat->Prop} (m:W.ownsRow base 27 1 va A.length (A.map (Value.int .u32))) (a:∀k,G k->w.heap.size<=k/\k<W.heap.size/\va.ownBlock≠some k) (g:Below w.heap.size w W) (b:∀x∈X,W.heap[x.1]? =some x.2/\¬G x.1) (i:ay S W W') (hS:∀k,S k->G k) (hP:ek W' Pb d n L' N wk eH) (l:∀k,d k->(G k\/W.heap.size<=k)/\k<W'.heap.size):pz w W' Pb n L' va A X:=by
 refine⟨d,_,_,_,_,hP,aU m i (fun j e h=>(a j (hS j h)).2.2 e),fun k o=>?_,g.trans (i.toBelow g.size fun k h=>(a k (hS k h)).1),fun x c=>⟨bz i (b x c).1 (fun h=>(b x c).2 (hS _ h)),fun h=>?_⟩⟩
 .have f:=l k o;rcases f.1 with h|h
  .exact⟨(a k h).1,f.2,(a k h).2.2⟩
  .exact⟨bA g.size h,f.2,fun e=>by have:=(m.lt k e).2;omega⟩
 .rcases(l _ h).1 with h9|h9
  .exact(b x c).2 h9
  .have:=(aY.1 (b x c).1).1;omega
theorem pz.below (h:pz w W Pb mm L va A X) {W':World} (a:Below W.heap.size W W'):pz w W' Pb mm L va A X:=by
 obtain⟨G,N,wk,eH,base,hP,e,b,d,f⟩:=h;have:=a.size;exact pz.moved (S:=fun _=>False) e b d f ((ay.refl _ _).below a) (fun _ h=>h.elim) (hP.below a) fun k c=>⟨.inl c,by have:=(b k c).2.1;omega⟩
theorem pz.put (h:pz w W Pb mm L va A []) {W':World} (b:Below W.heap.size W W') {o:Obj} (g:W'.heap[W.heap.size]? =some o):pz w W' Pb mm L va A [(W.heap.size,o)]:=by
 obtain⟨G,N,wk,eH,base,hP,f,a,d,i⟩:=h;have:=b.size;refine⟨G,N,wk,eH,base,hP.below b,az f b,fun k c=>⟨(a k c).1,by have:=(a k c).2.1;omega,(a k c).2.2⟩,d.trans (b.mono d.size),fun x e=>?_⟩;rw[ji]at e;subst e;exact⟨g,fun h=>by have:=(a _ h).2.1;omega⟩
theorem pz.obj {b:Nat} {o:Obj} (h:pz w W Pb mm L va A [(b,o)]):W.heap[b]? =some o:=by
 obtain⟨G,N,wk,eH,base,hP,e,d,c,a⟩:=h;exact(a (b,o) (ji.2 rfl)).1
theorem pz.VZ (h:pz w W Pb mm L va A X):pz w W Pb mm L va A []:=by
 obtain⟨G,N,wk,eH,base,hP,c,b,a,d⟩:=h;exact⟨G,N,wk,eH,base,hP,c,b,a,fun _ h=>by cases h⟩
theorem pz.nd (h:pz w W Pb mm L va A X):(ids L).Nodup/\(∀q∈L,Be q)/\L.length<=mm/\Below w.heap.size w W/\∃base,W.ownsRow base 27 1 va A.length (A.map (Value.int .u32)):=by
 obtain⟨G,N,wk,eH,base,hP,c,d,b,e⟩:=h;have a:=hP.facts;exact⟨a.2.2.2.1,a.2.2.2.2.1,by have:=a.1;have:=a.2.2.1;omega,b,base,c⟩
def VK (w W:World) (Pb mm:Nat) (L:List Pt) (A:List Int) (e:Ending) (w':World):Prop:=
 ∃(a:Option Addr) (c:Nat),e=.returned (.slice a A.length c)/\pz w w' Pb mm L (.slice a A.length c) A []/\W.heap.size<=w'.heap.size
theorem Nn {G:Nat->Prop} {N wk eH:Int} (hP:ek W Pb G mm L N wk eH) (p:mm<=20000) (f:∀k,G k->w.heap.size<=k/\k<W.heap.size) (d:Below w.heap.size w W):aK 16 #[aj Pb] W (VK w W Pb mm L (Cu L)):=by
 refine(Hy hP p).mono ?_;rintro e w' ⟨v,j,rfl,i,n,g,m⟩;obtain⟨a,c,rfl,-,-,-⟩:=Rd.aG (l:=dR (ids (bF L))) i;refine⟨a,c,rfl,⟨j,N,wk,eH,_,n,i,fun k o=>?_,d.trans (g.toBelow d.size fun k h=>(f k h).1),fun _ h=>by cases h⟩,g.size⟩;have b:=m k o;rcases b.1 with h|h
 .exact⟨(f k h).1,b.2⟩
 .exact⟨bA d.size h,b.2⟩
def VL (w W:World) (Pb mm:Nat) (L:List Pt) (va:Value) (A:List Int) (X:List (Nat×Obj)) (B:List Int) (e:Ending) (w':World):Prop:=
 ∃(a:Option Addr) (c:Nat),e=.returned (.slice a B.length c)/\Rd (.int .u32) w' a B/\pz w w' Pb mm L va A X/\W.heap.size<=w'.heap.size
theorem pz.Cw (h:pz w W Pb mm L va A X) (o:mm<=20000) {B:List Int} (b:Cu L=B):aK 16 #[aj Pb] W (VL w W Pb mm L va A X B):=by
 subst b;obtain⟨G,N,wk,eH,base,hP,j,i,b,n⟩:=h;refine(Hy hP o).mono ?_;rintro e w' ⟨v,r,rfl,p,m,f,d⟩;obtain⟨a,c,rfl,-,-,q⟩:=Rd.aG (l:=dR (ids (bF L))) p;exact⟨a,c,rfl,q,pz.moved j i b n f (fun _ h=>h) m fun k g=>⟨(d k g).1,(d k g).2.1⟩,f.size⟩
def VM (w W:World) (Pb mm:Nat) (L:List Pt) (va:Value) (A:List Int) (B:List Int) (e:Ending) (w':World):Prop:=
 ∃(a:Option Addr) (c g:Nat) (o:Obj),e=.returned (.slice a B.length c)/\(∀W':World,W'.heap[g]? =some o->Rd (.int .u32) W' a B)/\pz w w' Pb mm L va A [(g,o)]/\W.heap.size<=w'.heap.size
theorem pz.VN (h:pz w W Pb mm L va A []) (K:mm<=20000) {B:List Int} (f:Cu L=B) (s:0<B.length):aK 16 #[aj Pb] W (VM w W Pb mm L va A B):=by
 subst f;obtain⟨G,N,wk,eH,base,hP,q,j,f,P⟩:=h;refine(Hy hP K).mono ?_;rintro e w' ⟨v,z,rfl,u,F,n,p⟩;obtain⟨g,O,o,-,I,-,-⟩:=aQ u s;obtain⟨a,c,rfl,-,-,M⟩:=Rd.aG (l:=dR (ids (bF L))) u;injection o with o _ _;subst o;have t:w'.heap[g]? =some w'.heap[g]:=H8 I;refine⟨_,c,g,w'.heap[g],rfl,fun W' r=>?_,?_,n.size⟩
 .obtain⟨b,off,d,Q,H⟩:=M.get s;injection d with d;injection d with d C _;subst d C;exact .inr ⟨g,0,rfl,(aY.1 r).1,fun i hi=>(dz (r.trans t.symm)).trans (H i hi)⟩
 .refine⟨z,_,_,_,_,F,aU q n (fun D e h=>(j D h).2.2 e),fun k J=>?_,f.trans (n.toBelow f.size fun k h=>(j k h).1),fun x y=>?_⟩
  .have m:=p k J;rcases m.1 with h|h
   .exact⟨(j k h).1,m.2.1,(j k h).2.2⟩
   .exact⟨bA f.size h,m.2.1,fun e=>by have:=(q.lt k e).2;omega⟩
  .rw[ji]at y;subst y;exact⟨t,fun E=>(p g E).2.2 rfl⟩
def Sd (w W:World) (Pb mm:Nat) (L:List Pt) (did:Bool) (va:Value) (A:List Int) (X:List (Nat×Obj)) (e:Ending) (w':World):Prop:=
 ∃n:Nat,e=.returned (.tuple #[ae n,.bool did])/\pz w w' Pb (mm+1) L va A X/\W.heap.size<=w'.heap.size
theorem pz.drop (h:pz w W Pb mm L va A X) (m:mm<5000) {d:Int} (hd:d∈ids L):aK 13 #[aj Pb,ak d] W (Sd w W Pb mm (kz L d) true va A X):=by
 obtain⟨G,N,wk,eH,base,hP,g,b,f,j⟩:=h;have c:=K9 hP m d;rw[xQ hd]at c;refine c.mono ?_;rintro e w' ⟨n,o,rfl,i,a,-,-⟩;exact⟨n,rfl,pz.moved g b f j a (fun _ h=>h) i fun k l=>l.elim (fun h=>⟨.inl h,bT (b k h).2.1 a.size⟩) fun h=>⟨.inr h.1,h.2⟩,a.size⟩
theorem pz.add (h:pz w W Pb mm L va A X) (o:mm<5000) (x y d:Int) (p:Be (x,y,d)) (f:d∉ids L):aK 12 #[aj Pb,iV x y d] W (Sd w W Pb mm (L++[(x,y,d)]) true va A X):=by
 obtain⟨G,N,wk,eH,base,hP,i,b,g,l⟩:=h;have c:=PY hP o (x,y,d) p;rw[show addN L (x,y,d)=L++[(x,y,d)]from aM f,show decide ((x,y,d).2.2∉ids L)=true by simpa using f]at c;refine c.mono ?_;rintro e w' ⟨n,q,rfl,j,a,-,-⟩;exact⟨n,rfl,pz.moved i b g l a (fun _ h=>h) j fun k m=>m.elim (fun h=>⟨.inl h,bT (b k h).2.1 a.size⟩) fun h=>⟨.inr h.1,h.2⟩,a.size⟩
def VO (w W:World) (Pb mm:Nat) (L:List Pt) (va:Value) (A:List Int) (X:List (Nat×Obj)) (x y d:Int) (b:Bool) (e:Ending) (w':World):Prop:=
 e=.returned (.tuple #[iV x y d,.bool b])/\pz w w' Pb mm L va A X/\W.heap.size<=w'.heap.size
theorem pz.get (h:pz w W Pb mm L va A X) (d0:Int) {x y d:Int} {b:Bool} (g:(sN L d0).getD (0,0,0)=(x,y,d)) (f:(sN L d0).isSome=b):aK 23 #[aj Pb,ak d0] W (VO w W Pb mm L va A X x y d b):=by
 have c:=h;obtain⟨G,N,wk,eH,base,hP,k,j,i,l⟩:=h;refine(U6 hP d0).mono ?_;rintro e w' ⟨rfl,a⟩;rw[g,f];exact⟨rfl,c.below a,a.size⟩
def VP (w W:World) (Pb mm:Nat) (L:List Pt) (va:Value) (A:List Int) (X:List (Nat×Obj)) (n:Nat) (e:Ending) (w':World):Prop:=
 ∃(a:Option Addr) (c:Nat) (t:Int),e=.returned (.tuple #[.slice a n c,ae t])/\pz w w' Pb mm L va A X/\W.heap.size<=w'.heap.size
theorem pz.rep (h:pz w W Pb mm L va A X) (x1 x2 y1 y2 d:Int):aK 17 #[aj Pb,.agg #[ae x1,ae x2,ae y1,ae y2,ak d]] W (VP w W Pb mm L va A X (L.filter (CK x1 x2 y1 y2)).length):=by
 obtain⟨G,N,wk,eH,base,hP,m,f,j,p⟩:=h;refine(Hg hP x1 x2 y1 y2 d).mono ?_;rintro e w' ⟨v,t,rfl,q,-,b,n⟩;obtain⟨a,c,rfl,-,-,-⟩:=Rd.aG (l:=dR (ids (L.filter (CK x1 x2 y1 y2)))) q;have i:(dR (ids (L.filter (CK x1 x2 y1 y2)))).length=(L.filter (CK x1 x2 y1 y2)).length:=by rw[iB];simp[ids]
 have o:=hP.facts.2.2.2.2.2.2.2;rw[i];exact⟨a,c,_,rfl,pz.moved m f j p b (fun k h=>by rw[h];exact o) n fun k g=>⟨.inl g,bT (f k g).2.1 b.size⟩,b.size⟩
theorem pz.row {n c:Nat} {a:Option Addr} (h:pz w W Pb mm L (.slice a n c) A X):Rd (.int .u32) W a A:=by
 obtain⟨_,d⟩:=h.nd.2.2.2.2;obtain⟨_,_,e,-,-,f⟩:=Rd.aG (l:=A) d;injection e with b g _;rw[b];exact f
end
theorem J4 {L:List Pt} {x y d:Int} (h:d∉ids L):kz (L++[(x,y,d)]) d=L:=by
 have:=Hq h;unfold kz at*;rw[lU,this];simp
theorem RJ {L:List Pt} {d:Int} (h:(sN L d).isSome=false):d∉ids L:=fun b=>by
 obtain⟨p,hp,e⟩:=cu.1 b;have a:sN L d=none:=aP h;unfold sN at a;have:=xJ.1 a p hp;simp[e]at this
theorem J5 (a:Option Addr) (l:List RB) (n c:Nat) (w:World) (de:l.length=n) (h:bV Fy 10 w a l) (cv:∀o∈l,Uc o) (ct:n<=c):
  aK 4 #[.slice a n c] w (fV w (.bool true)):=by
 subst de;have a4:=ag (fun W=>RI W);obtain⟨m,a2,bg,dI⟩:∃m:Nat,min (l.length:Int) 60=(m:Int)/\m<=l.length/\m<=60:=⟨min l.length 60,aa,aa,aa⟩;have b2:=ag a2;have a6:=ag h;have aS:=ag cv;have bO:=ag (Sb w);clear a2 h cv;go_enter func4,ntmps4
 go_wp2_with fail
 refine bO.o.mono ?_;rintro e w2 ⟨Pb,rfl,hP,bc⟩;have bX:=ag bc;have cN:=ag hP;have dK:=bc.size;clear bO hP bc;have a2:min (l.length:Int) 60=(m:Int):=b2.o
 go_wp2_with (refine vK U9 (a6.o.below bX.o) ct 0 m (bH _) bg rfl _ _ _ rfl rfl rfl rfl ?_;intro cW bi;simp only[Nat.sub_zero,kE]at bi |-)
 have db:(l.take m).length=m:=aF;have b0:Hid (∀q∈l.take m,Uc q):=fun q D=>aS.o q (List.mem_of_mem_take D);have b5:Hid (∀W,Below w.heap.size w W->bV Fy 10 W cW (l.take m)):=fun W s=>bi W (a6.o.below s);clear bi a2 b2 a6 aS bg ct;generalize l.take m=P at*;subst db
 go_loopw [30] (fun U wr=>∃(i:Nat) (G:Nat->Prop) (mm:Nat) (L:List Pt) (N wk eH:Int),U=.int .i64 i/\i<=P.length/\w2.heap.size<=wr.heap.size/\Hid (mm<=i)/\Hid (ek wr Pb G mm L N wk eH)/\Hid (∀k,G k->w.heap.size<=k/\k<wr.heap.size)/\Hid (Below w.heap.size w wr)) (fun U _=>P.length-(intOf U).toNat)
 case atStart=>exact⟨0,_,0,[],0,0,0,rfl,bH _,aB _,aB _,cN,fun k I=>⟨I.1,I.2⟩,bX⟩
 case round=>
  obtain⟨i,G,mm,L,N,wk,eH,rfl,hi,c8,aU,aX,ax,ah⟩:=hrel;by_cases E:i<P.length
  .obtain⟨r,e⟩:∃r:World,r=wr:=⟨_,rfl⟩;subst e;obtain⟨dr,dN,C,dc,z⟩:=(b5.o _ ah.o).get aa;have bm:=z i E 0 aa;have v1:=z i E 1 aa;have bn:=z i E 2 aa;have bo:=z i E 3 aa;have bp:=z i E 4 aa;have bq:=z i E 5 aa;have br:=z i E 6 aa;have bs:=z i E 7 aa;have bt:=z i E 8 aa;have bu:=z i E 9 aa;simp only[Fy,fG,dx,dH]at bm v1 bn bo bp bq br bs bt bu;have ch:=ag (b0.o P[i] (bG E));have au:=ag C;clear z C;generalize P[i]=q at*;obtain⟨V,⟨u,v,f⟩,⟨Y,Z,ab,ac,ob⟩,X⟩:=q;simp only at bm v1 bn bo bp bq br bs bt bu;have dC:(i:Int)<(P.length:Int):=aa;obtain rfl:=au.o;clear au;obtain⟨w3,aZ⟩:∃w3,w3=r.alloc (.cells #[.int .u8 V,ae u,ae v,ak f,ae Y,ae Z,ae ab,ae ac,ak ob,.int .u8 X] 49):=⟨_,rfl⟩;have a9:Below r.heap.size r w3:=by rw[aZ];exact(aJ _ _).alloc (aB _) _
   have H:w3.heap[r.heap.size]? =some (.cells #[.int .u8 V,ae u,ae v,ak f,ae Y,ae Z,ae ab,ae ac,ak ob,.int .u8 X] 49 (0,0)):=by rw[aZ];exact df r _
   have bS:=aZ.symm;have bN:=ag (show aK 22 #[aj Pb,.agg #[.int .u8 V,ae u,ae v,ak f,ae Y,ae Z,ae ab,ae ac,ak ob,.int .u8 X]] w3 _ from TR (aX.o.below a9) (by have:=aU.o;omega) (V,(u,v,f),(Y,Z,ab,ac,ob),X) ch.o);have bY:=ag a9;have cY:w3.cell? (af r.heap.size 0)=some (.int .u8 V):=aD H;have cZ:w3.cell? (af r.heap.size 1)=some (ae u):=aD H;have c0:w3.cell? (af r.heap.size 2)=some (ae v):=aD H;have c1:w3.cell? (af r.heap.size 3)=some (ak f):=aD H;have c2:w3.cell? (af r.heap.size 4)=some (ae Y):=aD H;have c3:w3.cell? (af r.heap.size 5)=some (ae Z):=aD H;have c4:w3.cell? (af r.heap.size 6)=some (ae ab):=aD H;have c5:w3.cell? (af r.heap.size 7)=some (ae ac):=aD H;have c6:w3.cell? (af r.heap.size 8)=some (ak ob):=aD H;have g:w3.cell? (af r.heap.size 9)=some (.int .u8 X):=aD H;generalize DU L (V,(u,v,f),(Y,Z,ab,ac,ob),X)=cT at*;generalize Nk L (V,(u,v,f),(Y,Z,ab,ac,ob),X)=ci at*;clear aZ a9 H ch
   go_upto_region 5 with fail
   (try rw[bS])
   clear bS bm v1 bn bo bp bq br bs bt bu
   go_wp2_with fail
   refine bN.o.mono ?_;rintro e w4 ⟨q,cU,rfl,cq,bb,-,-⟩;have dL:=bY.o.size;have dM:=bb.size;have dA:=ah.o.size;have cG:=ag ((ah.o.trans (bY.o.mono ah.o.size)).trans (bb.toBelow aa (fun k c9=>(ax.o k c9).1)));have cJ:Hid (∀k,(G k\/w3.heap.size<=k/\k<w4.heap.size)->w.heap.size<=k/\k<w4.heap.size):=fun k h=>h.elim (fun h=>⟨(ax.o k h).1,by have:=(ax.o k h).2;omega⟩) fun h=>⟨aa,h.2⟩;have cO:=ag cq;have cM:Hid (mm+ci.toNat<=i+1):=by have:=aU.o;have:=ci.toNat_le;show _<=_;omega
   clear cq bb bN cY cZ c0 c1 c2 c3 c4 c5 c6 g;go_wp2;go_roundw
   case rel=>exact⟨i+1,_,_,cT,cU,_,_,by go_num,aa,aa,cM,cO,cJ,cG⟩
   case measure=>exact dX
  .obtain rfl:i=P.length:=aa;clear E hi b5 b0;have dJ:mm<=60:=by have:=aU.o;omega
   clear aU;have a0:¬(P.length:Int)<(P.length:Int):=aa;have g:=Nn aX.o aa ax.o ah.o;have a3:=aX.o.facts;have dF:L.length<=60:=by have:=a3.1;have:=a3.2.2.1;omega
   have aV:=ag a3.2.2.2.1;obtain⟨A,ap⟩:∃A,A=Cu L:=⟨_,rfl⟩;rw[<-ap]at g;have dw:A.length<=60:=by
    rw[ap];unfold Cu;rw[iB];unfold ids;rw[bR];have:=pq (l:=L);omega
   have a5:Hid (A.Pairwise (·<·)):=by rw[ap];exact P6 aV.o
   have cK:Hid (∀x∈A,∃p∈L,p.2.2=x):=by rw[ap];exact fun x bj=>TS aV.o bj
   have bU:=ag ap;have bP:=ag g;clear g a3 ap aX ax ah c8
   go_upto_region 7 with fail
   go_wp2_with fail
   refine bP.o.mono ?_;rintro e dY ⟨cD,wc,rfl,ce,-⟩;have b8:=ag ce;clear bP ce;go_wp2
   go_loopw [42] (fun U wr=>∃(i m1:Nat) (L':List Pt),U=.int .i64 i/\i<=A.length/\m1<=60+2*i/\Hid (L'.Perm L)/\Hid (pz w wr Pb m1 L' (.slice cD A.length wc) A [])) (fun U _=>A.length-(intOf U).toNat)
   case atStart=>exact⟨0,mm,L,rfl,bH _,aa,nS _,b8⟩
   case round=>
    clear b8;obtain⟨i,m1,L',rfl,hi,bg,al,O⟩:=hrel;obtain⟨r,e⟩:∃r:World,r=wr:=⟨_,rfl⟩;subst e;by_cases bf:i<A.length
    .obtain⟨b,off,C,dc,z⟩:=O.o.row.get aa;have cF:=z i bf;have T:=O.o.nd.1;have cC:=O.o.nd.2.1;obtain⟨p,hp,bh⟩:=cK.o A[i] (bG bf);have aq:=al.o.mem_iff.2 hp;obtain⟨u,v,f⟩:=p;simp only at bh;rw[<-bh]at cF;have a0:sN L' f=some (u,v,f):=K8 T aq;have cx:f∈ids L':=rf aq;have cL:=ag cx;have cV:=ag (cC _ aq);have dq:=ag aq;have dp:=ag T;have dB:(i:Int)<(A.length:Int):=aa;have bw:=ag (O.o.get f (x:=u) (y:=v) (d:=f) (b:=true) (by rw[a0];rfl) (by rw[a0];rfl));have b4:Hid ((kz L' f++[(u,v,f)]).Perm L'):=Nl T aq;obtain⟨B,aL⟩:∃B,Cu (kz L' f)=B:=⟨_,rfl⟩;have cH:=ag aL;have ar:A=Cu L':=by rw[bU.o];exact(Cq al.o aV.o).symm
     have bT:Hid (∀x∈A,x≠f->x∈B):=by
      rw[ar,<-aL];exact fun x bj hd=>P7 T bj hd
     have cR:Hid (Cu (kz L' f++[(u,v,f)])=A):=by
      show _=_;rw[ar];exact Cq b4.o T
     have bZ:Hid (B.Pairwise (·<·)):=by rw[<-aL];exact P6 (Bw T _)
     have dy:B.length<=60:=by
      rw[<-aL];unfold Cu;rw[iB];unfold ids;rw[bR];have dt:=pq (l:=kz L' f);have du:(kz L' f).length<=L'.length:=gV _ _;have dv:=al.o.length_eq;omega
     have au:=ag C;clear z C hp bh aq a0 cx cC T ar aL;obtain rfl:=au.o;clear au
     go_upto_region 11 with fail
     go_wp2_with fail
     refine bw.o.mono ?_;rintro e w6 ⟨rfl,aE,-⟩;have D:Hid (Below w6.heap.size w6 (w6.alloc (.cells #[ae u,ae v,ak f] 29))):=(aJ _ _).alloc (aB _) _;have b1:Hid ((w6.alloc (.cells #[ae u,ae v,ak f] 29)).heap[w6.heap.size]? =some (zB (u,v,f))):=df _ _;have ay:=ag aE;clear aE bw O cF
     go_upto_region 12 with fail
     generalize w6.alloc (.cells #[ae u,ae v,ak f] 29)=aQ at*;have az:=ag (ay.o.put D.o b1.o);have bD:=ag (az.o.drop aa cL.o);clear D b1 ay
     go_wp2_with fail
     refine bD.o.mono ?_;rintro e dm ⟨dP,rfl,cg,-⟩;have Q:=ag cg;have bE:=ag (Q.o.Cw aa cH.o);clear cg bD az
     go_wp2_with fail
     refine bE.o.mono ?_;rintro e J ⟨wb,cb,rfl,cA,aG,-⟩;have R:=ag aG;have cQ:=ag cA;have b6:=ag R.o.row;clear aG cA bE Q;go_wp2
     go_loopw [12,59] (fun K bl wr=>∃k j:Nat,K=.int .i64 k/\bl=.int .i64 j/\k<=A.length/\j<=B.length/\Hid (Lb A B k j)/\Below J.heap.size J wr) (fun _ bl _=>B.length-(intOf bl).toNat)
     case atStart=>exact⟨0,0,rfl,rfl,bH _,bH _,fun _ _ _ _ _ h=>absurd h (jL _),aJ _ _⟩
     case round=>
      obtain⟨k,j,rfl,rfl,I,dD,t,s⟩:=hrel;by_cases a1:j<B.length
      .obtain⟨ds,dO,cj,dz,cu⟩:=(cQ.o.below s).get aa;have dn:=cu j a1;have dE:(j:Int)<(B.length:Int):=aa;obtain⟨y,bk⟩:∃y,y=B[j]:=⟨_,rfl⟩;rw[<-bk]at dn;have a8:=ag bk;have bQ:=ag cj;clear cu cj bk;obtain rfl:=bQ.o;clear bQ;go_wp2
       go_loopw [12] (fun K wr=>∃k:Nat,K=.int .i64 k/\k<=A.length/\Hid (Lb A B k j)/\Below J.heap.size J wr) (fun K _=>A.length-(intOf K).toNat)
       case atStart=>exact⟨k,rfl,I,t,s⟩
       case round=>
        clear I t s;obtain⟨k,rfl,I,t,s⟩:=hrel;by_cases S:k<A.length
        .obtain⟨cX,dg,C,bd,aN⟩:=(b6.o.below s).get aa;have x1:=aN k S;injection C with C;injection C with aH aI _;rw[<-aH,<-aI]at x1;have dd:(k:Int)<(A.length:Int):=aa;clear aN aH aI bd;have aT:Hid (A[k]<y->A[k]=f):=fun h=>P8 bT.o bZ.o t.o S fun _=>by rw[<-a8.o];exact h
         have aC:Hid (Lb A B (k+1) j):=J3 t.o;have aR:Hid (A[k]=y->Lb A B (k+1) (j+1)):=fun h=>TT a5.o t.o a1 S (by rw[<-a8.o];exact h);have aW:Hid (y<A[k]->Lb A B k (j+1)):=fun h=>Cr a5.o t.o a1 fun _=>by rw[<-a8.o];exact h
         generalize A[k]=x at*;clear t;by_cases aP:x<y
         .have hid:=aT.o aP;have d1:decide (x<y)=true:=by simp[aP]
          have d2:(x !=f)=false:=by simp[hid]
          clear hid aT aR aW aP;go_wp2;go_roundw
          case rel=>exact⟨k+1,by go_num,aa,aC,s⟩
          case measure=>exact dX
         .have d1:decide (x<y)=false:=aF;by_cases aO:x=y
          .have d3:(x==y)=true:=by simp[aO]
           have aw:=ag (aR.o aO);clear aT aC aW aR aO aP;go_wp2;go_roundw
           case rel=>exact⟨k+1,j+1,by go_num,by go_num,aa,aa,aw,s⟩
           case measure=>exact dX
          .have d3:(x==y)=false:=by simp[aO]
           have aw:=ag (aW.o aa);clear aT aC aW aR aO aP;go_wp2;go_roundw
           case rel=>exact⟨k,j+1,rfl,by go_num,aa,aa,aw,s⟩
           case measure=>exact dX
        .obtain rfl:k=A.length:=aa;have aw:=ag (Cr a5.o t.o a1 fun h=>absurd h (Nat.lt_irrefl _));clear t;go_wp2;go_roundw
         case rel=>exact⟨A.length,j+1,rfl,by go_num,aa,aa,aw,s⟩
         case measure=>exact dX
      .obtain rfl:j=B.length:=aa;go_wp2
       go_loopw [12] (fun K wr=>∃k:Nat,K=.int .i64 k/\k<=A.length/\Hid (Lb A B k B.length)/\Below J.heap.size J wr) (fun K _=>A.length-(intOf K).toNat)
       case atStart=>exact⟨k,rfl,I,t,s⟩
       case round=>
        clear I t s;obtain⟨k,rfl,I,t,s⟩:=hrel;by_cases S:k<A.length
        .obtain⟨cX,dg,C,bd,aN⟩:=(b6.o.below s).get aa;have x1:=aN k S;injection C with C;injection C with aH aI _;rw[<-aH,<-aI]at x1;have dd:(k:Int)<(A.length:Int):=aa;clear aN aH aI bd;have hid:A[k]=f:=P8 bT.o bZ.o t.o S fun h=>absurd h (Nat.lt_irrefl _);have aC:Hid (Lb A B (k+1) B.length):=J3 t.o;generalize A[k]=x at*;have d2:(x !=f)=false:=by simp[hid]
         clear t hid;go_wp2;go_roundw
         case rel=>exact⟨k+1,by go_num,aa,aC,s⟩
         case measure=>exact dX
        .obtain rfl:k=A.length:=aa;obtain⟨cE,e⟩:∃cE:World,cE=wr:=⟨_,rfl⟩;subst e;have am:=ag (R.o.below s);obtain⟨ck,cl,cm⟩:=jE am.o.obj;simp only at ck cl cm;have bF:=ag (am.o.add aa u v f cV.o J2);clear I t s S
         go_wp2_with fail
         refine bF.o.mono ?_;rintro e ad ⟨dh,rfl,ao,-⟩;have b7:=ag ao.VZ;have bI:=ag (b7.o.Cw aa cR.o);clear ao bF am ck cl cm
         go_wp2_with fail
         refine bI.o.mono ?_;rintro e dj ⟨bv,ba,rfl,cy,cc,-⟩;have an:=ag cc;have g:=sO bv (some (af b off)) A A A.length A.length ba wc dj rfl rfl cy an.o.row aa aa;rw[show decide (A=A)=true from xQ rfl]at g;have bJ:=ag g;clear cc g cy bI b7
         go_wp2_with fail
         refine bJ.o.mono ?_;rintro e dk ⟨rfl,aM⟩;have aY:=ag (an.o.below aM);have cP:=ag (b4.o.trans al.o);clear aM bJ an;go_wp2;go_roundw
         case rel=>exact⟨i+1,_,_,by go_num,aa,aa,cP,aY⟩
         case measure=>exact dX
    .obtain rfl:i=A.length:=aa;have ar:Cu L'=A:=by rw[bU.o];exact Cq al.o aV.o
     have cS:=ag ar;have dG:=al.o.length_eq;have bK:=ag (O.o.rep 9223372036854775807 9223372036854775807 9223372036854775807 9223372036854775807 0);clear ar bf hi
     go_upto_region 34 with fail
     go_wp2_with fail
     refine bK.o.mono ?_;rintro e w6 ⟨dR,dS,t6,rfl,aE,-⟩;have ay:=ag aE;obtain⟨co,cp,cn,c7,cw,be⟩:∃x y d b,(sN L' 4000000000).getD (0,0,0)=(x,y,d)/\(sN L' 4000000000).isSome=b:=⟨_,_,_,_,rfl,rfl⟩;have bL:=ag (ay.o.get 4000000000 cw be);have cI:=ag be;clear aE bK O cw be
     go_wp2_with fail
     refine bL.o.mono ?_;rintro e aQ ⟨rfl,cf,-⟩;have D:Hid (Below aQ.heap.size aQ (aQ.alloc (.cells #[ae co,ae cp,ak cn] 29))):=(aJ _ _).alloc (aB _) _;have az:=ag cf;clear cf bL ay
     go_upto_region 36 with fail
     generalize aQ.alloc (.cells #[ae co,ae cp,ak cn] 29)=dm at*;have Q:=ag (az.o.below D.o);clear az D;obtain⟨F,hF⟩:∃F,F=L'.filter (CK 9223372036854775807 9223372036854775807 9223372036854775807 9223372036854775807):=⟨_,rfl⟩;rw[<-hF];have aS:=ag hF;clear hF;cases c7 with
     |true=>
      go_wp2_with fail
      refine(a4.o _).mono ?_;rintro e J ⟨rfl,M⟩;have av:=ag (Q.o.below M).nd.2.2.2.1;clear M;go_wp2;go_ret;exact⟨rfl,av.o⟩
     |false=>
      by_cases da:0<F.length
      .have d1:decide ((0:Int)<(F.length:Int))=true:=aF;have d2:decide (0<F.length)=true:=aF
       go_wp2_with fail
       refine(a4.o _).mono ?_;rintro e J ⟨rfl,M⟩;have av:=ag (Q.o.below M).nd.2.2.2.1;clear M;go_wp2;go_ret;exact⟨rfl,av.o⟩
      .obtain rfl:F=[]:=gU aa;have b3:=ag (RJ cI.o);have bM:=ag (Q.o.add aa 9223372036854775807 9223372036854775807 4000000000 (by unfold Be;decide) b3.o);clear da
       go_wp2_with fail
       refine bM.o.mono ?_;rintro e J ⟨dQ,rfl,aG,-⟩;have R:=ag aG;have cB:=RG R.o.nd.1 (fun q D=>R.o.nd.2.1 q (Eb _ D)) aS.o.symm;have bx:=ag (R.o.VN aa cB aA);clear aG bM Q cB
       go_wp2_with fail
       refine bx.o.mono ?_;rintro e dV ⟨di,tc,dT,dU,rfl,cr,ca,-⟩;have am:=ag ca;have b9:=ag cr;have g:=am.o.drop aa (d:=4000000000) (by simp[ids]);rw[J4 b3.o]at g;have bz:=ag g;clear ca cr bx R g
       go_wp2_with fail
       refine bz.o.mono ?_;rintro e ad ⟨dh,rfl,ao,-⟩;have D:Below ad.heap.size ad (ad.alloc (.cells #[ak 4000000000] 27)):=(aJ _ _).alloc (aB _) _;have g:=sO di (some (af ad.heap.size 0)) [4000000000] [4000000000] 1 1 tc 1 (ad.alloc (.cells #[ak 4000000000] 27)) rfl rfl ((b9.o _ ao.obj).below D) (Rd.lit (enc:=Value.int .u32) ad 27 [4000000000] _ rfl) ai ai;rw[show decide (([4000000000]:List Int)=[4000000000])=true from rfl]at g;have bA:=ag g;have an:=ag (ao.VZ.below D);clear ao bz am g D b9
       go_wp2_with fail
       refine bA.o.mono ?_;rintro e dk ⟨rfl,aM⟩;have aY:=ag (an.o.below aM);have bB:=ag (aY.o.Cw aa cS.o);clear aM bA an
       go_wp2_with fail
       refine bB.o.mono ?_;rintro e dl ⟨bv,ba,rfl,cz,cd,-⟩;have a7:=ag cd;have g:=sO bv cD A A A.length A.length ba wc dl rfl rfl cz a7.o.row aa aa;rw[show decide (A=A)=true from xQ rfl]at g;have bC:=ag g;clear cd g cz bB aY
       go_wp2_with fail
       refine bC.o.mono ?_;rintro e dW ⟨rfl,cs⟩;have bW:=ag (a7.o.below cs).nd.2.2.2.1;clear cs bC a7
       go_wp2_with fail
       refine(a4.o _).mono ?_;rintro e J ⟨rfl,M⟩;have av:=ag (bW.o.trans (M.mono bW.o.size));clear M;go_wp2;go_ret;exact⟨rfl,av.o⟩
end
section
open Go.RowKit Go.ChangeShapes Go.WideShapes Go.Deep
theorem RL:Tryz.prog.cellsOf 79=4/\Tryz.prog.cellsOf 4=1/\Tryz.prog.cellsOf 29=3/\Tryz.prog.cellsOf 2=1/\Tryz.prog.cellsOf 27=1:=⟨aN,aN,aN,aN,aN⟩
theorem P9 {H:Type} {enc:TypeId×Value->H} {w:World} {base:Nat} {spare:Nat->Bool} {held:Bool} {fuel:Nat} {a b c:Value} {x:DataW H×List MemPlace} (h:DataW.trod enc prog w base spare held fuel 29 [a,b,c]=some x):
  ∃p:Int×Int×Int,a=.int .i64 p.1/\b=.int .i64 p.2.1/\c=.int .u32 p.2.2/\(Lit.int .i64 p.1).wf=true/\(Lit.int .i64 p.2.1).wf=true/\(Lit.int .u32 p.2.2).wf=true:=by
 obtain⟨-,-,-,m1,m2⟩:=RL;obtain⟨o,y1,y2,n,-,-,t0,t1,t2⟩:=trod_struct3 underlying29 h;simp only[m1,m2,kE,uI,pG,lK]at t0 t1 t2;have⟨k,d,_,g⟩:=nT underlying2 t0;have⟨l,e,_,i⟩:=nT underlying2 t1;have⟨m,f,_,j⟩:=nT underlying27 t2;simp only[rJ,rR]at d e f;exact⟨(k,l,m),d,e,f,g,i,j⟩
theorem Ld:Tryz.prog.cellsOf 49=10/\Tryz.prog.cellsOf 5=1/\Tryz.prog.cellsOf 29=3/\Tryz.prog.cellsOf 38=5/\Tryz.prog.cellsOf 2=1/\Tryz.prog.cellsOf 27=1:=⟨aN,aN,aN,aN,aN,aN⟩
section
variable {H:Type} {enc:TypeId×Value->H} {w:World} {base:Nat} {spare:Nat->Bool} {held:Bool} {fuel:Nat}
theorem Cs {P:Program} {t:TypeId} {a:Array Field} {cs:List Value} {x:DataW H×List MemPlace} (ht:P.underlying t=some (.struct a)) (h:DataW.trod enc P w base spare held fuel t cs=some x):
  ∃n,∀(i:Nat) (f:Field),a[i]? =some f->∃y,DataW.trod enc P w base spare held n f.type ((cs.drop f.offset).take (P.cellsOf f.type))=some y:=by
 have⟨xs,n,_,_,_,d,b⟩:=DataW.trod_struct ht h;refine⟨n,fun i f hi=>?_⟩;have c:i<a.size:=(aY.1 hi).1;exact⟨xs[i]'aa,(b i f hi).trans (bZ aa)⟩
theorem Qa {b c d e f:Value} {x:DataW H×List MemPlace} (h:DataW.trod enc prog w base spare held fuel 38 [b,c,d,e,f]=some x):
  ∃p:Bx,b=.int .i64 p.1/\c=.int .i64 p.2.1/\d=.int .i64 p.2.2.1/\e=.int .i64 p.2.2.2.1/\f=.int .u32 p.2.2.2.2/\p.wf:=by
 obtain⟨-,-,-,-,m1,m2⟩:=Ld;have⟨n,a⟩:=Cs underlying38 h;have⟨A,t0⟩:=a 0 _ rfl;simp only[xE,nA,m1,kE,pG,lK]at t0;have⟨t,g,_,m⟩:=nT underlying2 t0;simp only[rJ,rR]at g;have⟨y1,t1⟩:=a 1 _ rfl;simp only[xE,nA,uE,m1,kE,uI,pG,lK]at t1;have⟨u,i,_,o⟩:=nT underlying2 t1;simp only[rJ,rR]at i;have⟨y2,t2⟩:=a 2 _ rfl;simp only[xE,nA,uE,m1,kE,uI,pG,lK]at t2;have⟨v,j,_,q⟩:=nT underlying2 t2;simp only[rJ,rR]at j;have⟨B,t3⟩:=a 3 _ rfl;simp only[xE,nA,uE,m1,kE,uI,pG,lK]at t3;have⟨y,k,_,r⟩:=nT underlying2 t3;simp only[rJ,rR]at k;have⟨C,t4⟩:=a 4 _ rfl;simp only[xE,nA,uE,m2,kE,uI,pG,lK]at t4;have⟨z,l,_,s⟩:=nT underlying27 t4;simp only[rJ,rR]at l;exact⟨(t,u,v,y,z),g,i,j,k,l,m,o,q,r,s⟩
end
theorem J6 {H:Type} {enc:TypeId×Value->H} {w:World} {base:Nat} {spare:Nat->Bool} {held:Bool} {fuel:Nat} {a:Option Addr} {g o:Nat} {x:DataW H×List MemPlace} (h:DataW.trod enc prog w base spare held fuel 47 [.slice a g o]=some x):
  ∃l:List RB,l.length=g/\bV Fy 10 w a l/\g<=o/\o<=maxLen/\∀x∈l,Uc x:=by
 obtain⟨Y,m0,m3,X,-,-⟩:=Ld;rcases open_slice underlying47 h with⟨f,_⟩|⟨ad,aw,ar,m,n,D,ab,f,_,Q,S,T,_,hi⟩
 .simp at f;obtain⟨rfl,rfl,rfl⟩:=f;exact⟨[],rfl,.nil,aB _,bH _,aA⟩
 .simp at f;obtain⟨rfl,rfl,rfl⟩:=f;have av:g<=m:=by rw[T];split<;>omega
  have⟨l,R,hp⟩:=QP g (fun i (p:RB)=>w.cell? (ad.add (i*10+0))=some (.int .u8 p.1)/\w.cell? (ad.add (i*10+1))=some (ae p.2.1.1)/\w.cell? (ad.add (i*10+2))=some (ae p.2.1.2.1)/\w.cell? (ad.add (i*10+3))=some (ak p.2.1.2.2)/\w.cell? (ad.add (i*10+4))=some (ae p.2.2.1.1)/\w.cell? (ad.add (i*10+5))=some (ae p.2.2.1.2.1)/\w.cell? (ad.add (i*10+6))=some (ae p.2.2.1.2.2.1)/\w.cell? (ad.add (i*10+7))=some (ae p.2.2.1.2.2.2.1)/\w.cell? (ad.add (i*10+8))=some (ak p.2.2.1.2.2.2.2)/\w.cell? (ad.add (i*10+9))=some (.int .u8 p.2.2.2)/\Uc p) (fun i au=>by
   have⟨z,y,ht⟩:=hi i aa;rw[Y]at y;have⟨_,O,e⟩:=World.cells?_some y
   match z,O with
   |[ac,ag,ah,aj,al,am,an,ao,ap,aq],_=>
    have⟨ax,k⟩:=Cs underlying49 ht;have⟨ay,t0⟩:=k 0 _ rfl;have⟨y1,t1⟩:=k 1 _ rfl;have⟨y2,t2⟩:=k 2 _ rfl;have⟨az,t3⟩:=k 3 _ rfl;simp only[xE,nA,uE,m0,m3,X,kE,uI,pG,lK]at t0 t1 t2 t3;have⟨b,r,_,K⟩:=nT underlying5 t0;simp only[rJ,rR]at r;have⟨p,A,B,C,L⟩:=P9 t1;have⟨q,E,F,G,I,J,M⟩:=Qa t2;have⟨d,s,_,N⟩:=nT underlying5 t3;simp only[rJ,rR]at s;subst r A B C E F G I J s;exact⟨(b,p,q,d),by simpa[nV]using e 0 ai,by simpa[nV]using e 1 ai,by simpa[nV]using e 2 ai,by simpa[nV]using e 3 ai,by simpa[nV]using e 4 ai,by simpa[nV]using e 5 ai,by simpa[nV]using e 6 ai,by simpa[nV]using e 7 ai,by simpa[nV]using e 8 ai,by simpa[nV]using e 9 ai,K,L,M,N⟩)
  refine⟨l,R,?_,Q,S,fun x W=>?_⟩
  .by_cases t:l=[]
   .exact .inl t
   .obtain⟨b,off,Z⟩:=ad;have U:0<l.length:=Aa.2 t;have u:=(hp 0 U).1;have V:Z=none:=by simpa[Addr.add]using World.cell?_spot u
    subst V;have v:∀i,((af b off):Addr).add i=(af b (off+i)):=fun i=>by unfold Addr.add;split<;>simp_all
    refine .inr ⟨b,off,rfl,?_,fun i hi j P=>?_⟩
    .have:=gX w _ u;rw[v]at this;exact this
    .have c:=hp i hi;simp only[v]at c;rw[uW]
     match j,P with
     |0,_=>exact c.1
     |1,_=>exact c.2.1
     |2,_=>exact c.2.2.1
     |3,_=>exact c.2.2.2.1
     |4,_=>exact c.2.2.2.2.1
     |5,_=>exact c.2.2.2.2.2.1
     |6,_=>exact c.2.2.2.2.2.2.1
     |7,_=>exact c.2.2.2.2.2.2.2.1
     |8,_=>exact c.2.2.2.2.2.2.2.2.1
     |9,_=>exact c.2.2.2.2.2.2.2.2.2.1
  .obtain⟨i,hi,rfl⟩:=jb W;exact(hp i hi).2.2.2.2.2.2.2.2.2.2
end
end Go.Proofs.YtkjdbndekceffaaGreat
