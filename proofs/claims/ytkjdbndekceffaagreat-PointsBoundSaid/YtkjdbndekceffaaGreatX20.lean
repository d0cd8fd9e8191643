/- Made small by a program. -/
import Derived.Test.YtkjdbndekceffaaGreatX19
set_option linter.unusedSimpArgs false
set_option linter.unusedVariables false
set_option maxRecDepth 100000
set_option maxHeartbeats 16000000
namespace Go.Proofs.YtkjdbndekceffaaGreat
open Tryz
section
open Go.RowKit Go.Sort Go.Shelf Go.Lib Go.Maps
attribute [local irreducible] wpQuiet
attribute [local go_sem] Oper.fB
theorem Kz (B:List (Nat×Nat×List Pt)) (i:Nat):iO B=iO (B.take i)++iO (B.drop i):=by
 unfold iO;rw[<-gX,jJ]
theorem Ed {B:List (Nat×Nat×List Pt)} {i:Nat} (hi:i<B.length):iO (B.take (i+1))=iO (B.take i)++B[i].2.2:=by
 unfold iO;rw[ic hi,gX];simp
theorem CU (B:List (Nat×Nat×List Pt)) (i:Nat):(iO (B.take i)).Sublist (iO B):=by
 rw[Kz B i];exact List.sublist_append_left _ _
theorem R9 {l m:List Pt} (h:l.Sublist m) (a:lK m=true):lK l=true:=(iy l).2 (((iy m).1 a).sublist (h.map _))
theorem Iu {l m:List Pt} (h:l.Perm m) (a:lK m=true):lK l=true:=(iy l).2 ((show(ids l).Perm (ids m)from h.map _).nodup_iff.2 ((iy m).1 a))
theorem Qp {l m:List Pt} (h:l.Perm m) (a:lK m=true):bP l=bP m:=
 Ec (Iu h a) a fun p=>by rw[h.mem_iff,DD (fun q=>h.mem_iff) p]
theorem bY.Uk {α:Type} {enc:α->List Value} {sz:Nat} {w w':World} {a:Option Addr} {l:List α} {S:Nat->Prop} (h:bY enc sz w a l) (K:ax S w w') (hS:∀x,a=some x->¬S x.block):bY enc sz w' a l:=by
 rcases h with h|⟨b,off,rfl,c,d⟩
 .exact .inl h
 .have e:=K.block b c (hS _ rfl);exact .inr ⟨b,off,rfl,bX c K.size,fun i hi j f=>(dD e).trans (d i hi j f)⟩
section
variable {w:World} {Pb m:Nat} {G:Nat->Prop} {now:List Pt} {N wk eB:Int}
theorem nA.clip {w1:World} {F:Nat->Nat->Prop} {B:List (Nat×Nat×List Pt)} (W:nA w1 G F B):nA w1 G (fun j k=>F j k/\j<B.length) B:=
 ⟨fun j a=>by
  have:(fun k=>F j k/\j<B.length)=F j:=by funext k;simp[a]
  rw[this];exact W.bk j a,fun j k h=>W.Vi j k h.1,fun i j k b c=>W.ap i j k b.1 c.1⟩
theorem nA.asked {w1 w2 w3:World} {F:Nat->Nat->Prop} {B:List (Nat×Nat×List Pt)} (W:nA w1 (fun k=>∃j,F j k) F B) (hF:∀j k,F j k->j<B.length) {i:Nat} (hi:i<B.length) (l:Bk w2 (fun k=>F i k\/w1.heap.size<=k/\k<w2.heap.size) B[i].1 B[i].2.1 B[i].2.2) (K:ax (F i) w1 w2) (a:Below w2.heap.size w2 w3):
  nA w3 (fun k=>∃j,F j k\/j=i/\w1.heap.size<=k/\k<w2.heap.size) (fun j k=>F j k\/j=i/\w1.heap.size<=k/\k<w2.heap.size) B:=by
 have b:∀j k,F j k->k<w1.heap.size:=fun j k h=>(W.bk j (hF j k h)).lt k h;refine⟨fun j m=>?_,fun j k h=>⟨j,h⟩,?_⟩
 .by_cases e:j=i
  .subst e;have:(fun k=>F j k\/j=j/\w1.heap.size<=k/\k<w2.heap.size)=fun k=>F j k\/w1.heap.size<=k/\k<w2.heap.size:=by funext k;simp
   rw[this];exact l.below a
  .have:(fun k=>F j k\/j=i/\w1.heap.size<=k/\k<w2.heap.size)=F j:=by funext k;simp[e]
   rw[this];exact((W.bk j m).kept K fun k f g=>e (W.ap j i k f g)).below a
 .rintro j c k (h|⟨e,h,-⟩) (h'|⟨d,h',-⟩)
  .exact W.ap j c k h h'
  .have:=b j k h;omega
  .have:=b c k h';omega
  .rw[e,d]
def Vv (w:World) (Pb:Nat) (G:Nat->Prop) (m:Nat) (now:List Pt) (N wk eB:Int) (e:Ending) (w':World):Prop:=
 ∃(v:Value) (G':Nat->Prop),e=.returned v/\w'.ownsRow w.heap.size 27 1 v (eD (ids (bP now))).length ((eD (ids (bP now))).map (Value.int .u32))/\dN w' Pb G' m now N wk eB/\ax G w w'/\∀k,G' k->(G k\/w.heap.size<=k)/\k<w'.heap.size/\v.ownBlock≠some k
theorem SG (h:dN w Pb G m now N wk eB) (ce:m<=20000):
  aK 16 #[aj Pb] w (Vv w Pb G m now N wk eB):=by
 have ar:=h.facts;obtain⟨Hb,Ab,base,av,GH,SD,A,D,ALL,O,rfl,a3⟩:=h;have hu:lK (A.map (·.1))=true:=(iy _).2 ar.2.2.2.1;have aF:=ag (ko O.blk);have aG:=ag (Lp O.half.clip);have bH:w.cell? (af Pb 0)=some (aj Hb):=aD O.blk;have f:=ag O;have H:=ag a3;have aX:=ag hu;have a0:=ag ar.2.2.2.2.1;have bX:(A.map (·.1)).length<=20000:=aa;clear O a3 hu ar;go_enter func16,ntmps16
 go_wp2_with (go_at_call 55;refine aF.o.mono ?_;rintro e w1 ⟨rfl,a2⟩;have bL:=a2.symm;clear a2;subst bL)
 refine aG.o.mono ?_;rintro e w1 ⟨v,B,F,rfl,K,q,ao,Q,-,-,b6,a7⟩;have be:lK (iO B)=true:=Iu Q aX.o;have cd:(iO B).length<=20000:=by rw[Q.length_eq];exact bX
 have bf:Le (iO B):=fun p hp=>by
  obtain⟨c,bQ,rfl⟩:=dA.1 (Q.mem_iff.1 hp);exact(a0.o c.1 (rC bQ)).2.2
 obtain⟨co,cq,rfl,-,-,-⟩:=Rd.aJ (enc:=SA) K;have aU:=ag K;have bo:=ag q;have aZ:=ag ao;have br:=ag a7;have bB:Hid (bP (iO B)=bP (A.map (·.1))):=Qp Q aX.o;have bC:=ag be;have bE:=ag bf;have cf:=q.size;have ab:Hid (∀j k,F j k->GH k/\k<w.heap.size):=fun j k h=>ao.Vi j k h;clear K q ao Q a7 be bf aG aF bH a0
 go_wp2_with fail
 go_loopw [3,17] (fun av E wr=>∃(i:Nat) (S:List Pt) (J:Option Addr) (ac:Nat) (g:Nat->Nat->Prop),av=.slice J S.length ac/\E=.int .i64 i/\i<=B.length/\S.length<=ac/\Hid (S=bP (iO (B.take i)))/\Hid (bY dw 3 wr J S)/\Hid (∀x,J=some x->∀j k,g j k->k≠x.block)/\Hid (nA wr (fun k=>∃j,g j k) g B)/\Hid (∀j k,g j k->j<B.length/\(F j k\/w1.heap.size<=k))/\Hid (ax (fun k=>∃j,F j k) w1 wr)) (fun _ E _=>B.length-(intOf E).toNat)
 case atStart=>exact⟨0,[],none,0,fun j k=>F j k/\j<B.length,rfl,rfl,bD _,bD _,by show[]=_;simp[iO,R8],.inl rfl,(fun x e=>by cases e),⟨aZ.o.clip.bk,fun j k h=>⟨j,h⟩,aZ.o.clip.ap⟩,fun j k h=>⟨h.2,.inl h.1⟩,ax.refl _ _⟩
 case round=>
  obtain⟨i,S,J,ac,g,rfl,rfl,hi,bO,n,aV,aQ,t,r,s⟩:=hrel;by_cases d:i<B.length
  .have bd:=aR aU.o s.o (fun X e h9=>by
    obtain⟨j,h9⟩:=h9;have u:=(aU.o.lt X e).1;have y:=(ab.o j X h9).2;omega)
   obtain⟨cp,cr,ah,-,-,bc⟩:=Rd.aJ (enc:=SA) bd;injection ah with ah _ bK;subst ah bK;obtain⟨b4,b5,V,-,z⟩:=bc.get aa;have bl:=z i d;have Z:=ag (V3 (t.o.bk i d));have aM:=ag (fun w2 w3 u y al=>t.o.asked (w2:=w2) (w3:=w3) (fun j k h=>(r.o j k h).1) d u y al);have aW:=ag (Ed d);have Y:=(CU B (i+1)).length_le;have C:lK (iO (B.take (i+1)))=true:=R9 (CU B (i+1)) bC.o;have R:Le (iO (B.take (i+1))):=fun p hp=>bE.o p ((CU B (i+1)).subset hp);rw[Ed d]at C R Y;unfold SA at bl;subst V;generalize B[i]=b at*;obtain⟨tb,n0,lb⟩:=b;simp only at bl Z aM aW C R Y;clear z bc bd;have cb:(i:Int)<(B.length:Int):=aa;rw[bS]at Y;have am:=(xI.1 C).1;have an:=(xI.1 C).2.1;have bV:=zn (l:=iO (B.take i));have bW:=zn (l:=lb);have aC:=ag (fun(W:World) (T:Option Addr) (U:Nat) (u:bY dw 3 W J S) (y:bY dw 3 W T (bP lb)) (al:(bP lb).length<=U)=>by
    have h:=Na J T S (bP lb) S.length (bP lb).length ac U W rfl rfl bO al u y (by have:=n.o;subst this;omega) (by have:=n.o;subst this;exact Lx am fun p hp=>R p (IX _ hp)) (Lx an fun p hp=>R p (List.mem_append_right _ hp)) (by have:=n.o;subst this;exact CS am) (CS an) (by have:=n.o;subst this;exact Eb C);have e:bP (S++bP lb)=bP (iO (B.take (i+1))):=by rw[aW.o,n.o];exact Qo C
    rw[e]at h;exact h)
   clear C R Y am an bV bW
   go_wp2_with fail
   refine Z.o.mono ?_;rintro e w2 ⟨T,U,rfl,a8,ba,a5,au⟩;have bp:=ag a5;have ad:=ag au;have aE:=ag (aC.o w2 T U (aV.o.Uk au fun x ay h=>aQ.o x ay i _ h rfl) ba a8);clear a5 au ba a8 aC Z
   go_wp2_with fail
   refine aE.o.mono ?_;rintro e w3 ⟨cn,rfl,aw,a6⟩;obtain⟨bF,bI,rfl,-,bT,bb⟩:=bY.aJ bg ai aw;have bu:=ag aw;have aN:=ag a6;have bx:=ag bb;have cg:=ad.o.size;have cj:=s.o.size;clear aw a6 bb aE;go_wp2;go_roundw
   case rel=>
    refine⟨i+1,_,bF,bI,fun j k=>g j k\/j=i/\wr.heap.size<=k/\k<w2.heap.size,rfl,by go_num,aa,bT,rfl,bx.o,fun x ay j k h=>?_,aM.o w2 w3 bp.o ad.o aN.o,fun j k h=>?_,?_⟩
    .have u:=(bu.o.lt x.block (by rw[ay];rfl)).1;rcases h with h|⟨-,-,h⟩
     .have y:=(t.o.bk j (r.o j k h).1).lt k h;omega
     .omega
    .rcases h with h|⟨rfl,h,-⟩
     .exact r.o j k h
     .exact⟨d,.inr aa⟩
    .refine(ax.strip (((s.o.mono fun k h=>.inl h)).trans (ad.o.mono fun k h=>?_))).below aN.o;rcases(r.o i k h).2 with h9|h9
     .exact .inl ⟨i,h9⟩
     .exact .inr h9
   case measure=>exact eT
  .obtain rfl:i=B.length:=aa;rw[jO]at n;have b8:S.length<=20000:=by have u:=n.o;have y:=zn (l:=iO B);rw[<-u]at y;omega
   have ch:=s.o.size;have I:Hid (ax GH w wr):=((ax.refl GH w).below bo.o).trans (s.o.mono fun k h=>by
    obtain⟨j,h⟩:=h;exact(ab.o j k h).1)
   have aq:∀k,av.ownBlock=some k->k<w.heap.size:=fun k e=>(f.o.row.lt k e).2;have b7:=(aY.1 f.o.blk).1;have a:=f.o.rq;have P:∀j k,g j k->k<wr.heap.size/\(GH k\/w.heap.size<=k):=fun j k h=>⟨(t.o.bk j (r.o j k h).1).lt k h,(r.o j k h).2.imp (fun h=>(ab.o j k h).1) fun h=>aa⟩;have bw:Hid (dN wr Pb (fun k=>(G k\/w.heap.size<=k)/\k<wr.heap.size) m (A.map (·.1)) N wk eB):=by
    refine⟨Hb,Ab,base,av,fun k=>(GH k/\k<w.heap.size)\/∃j,g j k,SD,A,D,ALL,⟨bq I.o f.o.blk (fun h=>(a.1 Pb h).2.1 rfl),aR f.o.row I.o (fun X e h=>(a.1 X h).2.2.1 e),br.o wr g _ s.o ⟨t.o.bk,fun j k h=>.inr ⟨j,h⟩,t.o.ap⟩ (fun k h=>.inl h) (fun j k h=>(r.o j k h).2),f.o.dir.kept I.o (fun k h h9=>(a.1 k h9).1 h),bA f.o.hb I.o.size,f.o.few,f.o.fwd,f.o.bwd,⟨fun k hk=>?_,fun k hk=>⟨(a.2.1 k hk).1,(a.2.1 k hk).2.1,by have:=(a.2.1 k hk).2.2;omega⟩,a.2.2⟩⟩,rfl,fun k hk=>?_⟩
    .have hq:GH k\/w.heap.size<=k:=hk.elim (fun h=>.inl h.1) fun⟨j,h⟩=>(P j k h).2;have a9:k<wr.heap.size:=hk.elim (fun h=>by have:=h.2;omega) fun⟨j,h⟩=>(P j k h).1;rcases hq with hq|hq
     .exact⟨(a.1 k hq).1,(a.1 k hq).2.1,(a.1 k hq).2.2.1,a9⟩
     .exact⟨fun h=>by have:=(a.2.1 k h).2.2;omega,aa,fun e=>by have:=aq k e;omega,a9⟩
    .rcases hk with hk|hk|rfl|hk
     .rcases hk with hk|⟨j,hk⟩
      .exact⟨.inl (H.o k (.inl hk.1)),by have:=hk.2;omega⟩
      .exact⟨(P j k hk).2.imp (fun h=>H.o k (.inl h)) id,(P j k hk).1⟩
     .exact⟨.inl (H.o k (.inr (.inl hk))),by have:=(a.2.1 k hk).2.2;omega⟩
     .exact⟨.inl (H.o k (.inr (.inr (.inl rfl)))),aa⟩
     .exact⟨.inl (H.o k (.inr (.inr (.inr hk)))),by have:=aq k hk;omega⟩
   have ca:¬(B.length:Int)<(B.length:Int):=aa;have bt:Hid (ax G w wr):=I.o.mono fun k h=>H.o k (.inl h);clear I a P aq;have bz:Hid (S=bP (A.map (·.1))):=n.o.trans bB.o;clear n aQ t r s;obtain⟨w4,bN⟩:∃w4:World,w4=wr:=⟨_,rfl⟩;subst bN
   go_wp2_with fail
   go_loopw [6,31] (fun v E wr=>∃i:Nat,E=.int .i64 i/\i<=S.length/\Hid (wr.ownsRow w4.heap.size 27 1 v (ids (S.take i)).length ((ids (S.take i)).map (Value.int .u32)))/\Below w4.heap.size w4 wr) (fun _ E _=>S.length-(intOf E).toNat)
   case atStart=>exact⟨0,rfl,bD _,by simp[ids];exact dx _ _ _ _,aI _ _⟩
   case round=>
    obtain⟨i,rfl,hi,HO,q⟩:=hrel;have b1:=q.size;have bZ:(ids (S.take i)).length<=20000:=by
     unfold ids;rw[bR,eH];omega
    by_cases d:i<S.length
    .obtain⟨b,off,V,b9,z⟩:=(aV.o.below q).get aa;have bj:=z i d 0 aa;have x1:=z i d 1 aa;have x2:=z i d 2 aa;simp only[dw,fZ,dC,dK]at bj x1 x2;have aO:Hid (ids (S.take (i+1))=ids (S.take i)++[S[i].2.2]):=by
      show _=_;unfold ids;rw[ic d,bM];rfl
     have aL:=ag V;clear z V;generalize S[i]=p at*;obtain⟨bh,bi,az⟩:=p;simp only at bj x1 x2 aO;obtain rfl:=aL.o;clear aL;generalize ids (S.take i)=L at*;have cc:(i:Int)<(S.length:Int):=aa;have aS:=ag (HO.o.alloc (.cells #[ae bh,ae bi,ak az] 29));have bm:=q.alloc b1 (.cells #[ae bh,ae bi,ak az] 29)
     go_wp2_with (at_builtin;refine vD uw w4.heap.size aS.o [.int .u32 az] rfl (by simp[Value.oneCell']) rfl _ _ rfl rfl _ (by show aA (wr.heap.size+1) 1 1=_;simp) dJ aa aH ?_;intro cm w6 b0 bU;have bG:=dB bm aS.o bU aH (aB _))
     go_roundw
     case rel=>
      refine⟨i+1,by go_num,aa,?_,bG⟩;show World.ownsRow _ _ _ _ _ _ _;rw[aO.o,bM,bS];exact b0
     case measure=>exact eT
    .obtain rfl:i=S.length:=aa;have M:=HO.o;rw[jO]at M bZ;have bn:=ag (zY M aa);have aT:=ag M;obtain⟨ck,cl,rfl,-,-,-⟩:=Rd.aJ M;have bs:=ag q;clear M HO q
     go_wp2_with (go_at_call 64;refine bn.o.mono ?_;rintro e b3 ⟨rfl,K,a4⟩;have bv:=ag K;have aP:=ag a4;clear K a4)
     go_ret;have ci:=aP.o.size;have a1:ax (fun _=>False) w4 b3:=ax.strip ((((ax.refl (fun _=>False) w4).below bs.o).mono fun k h=>.inl h).trans (aP.o.mono fun k h=>.inr (aT.o.lt k h).1));have bJ:eD (ids S)=eD (ids (bP (A.map (·.1)))):=by rw[<-bz.o]
     have b2:(eD (ids S)).length=(ids S).length:=gV _;refine⟨_,fun k=>(G k\/w.heap.size<=k)/\k<w4.heap.size,rfl,?_,bw.o.kept a1 fun _ _ h=>h,bt.o.trans (a1.mono fun _ h=>h.elim),fun k hk=>⟨hk.1,aa,fun e=>by have:=(aT.o.lt k e).1;omega⟩⟩;rw[<-bJ,b2];exact dm bv.o aa
end
theorem Vw:bP [(0,0,1),(2,5,2),(2,1,3)]=[(2,5,2)]:=by
 refine(lu ai).unique ⟨by simp[kI],fun p=>?_⟩;have⟨x,y,i⟩:=p;constructor
 .intro h;simp only[gZ,uY,iC,or_false]at h;rcases h with⟨rfl,rfl,rfl⟩<;>exact⟨ai,ai⟩
 .rintro⟨h,a⟩;simp only[gZ,uY,iC,or_false]at h;rcases h with⟨rfl,rfl,rfl⟩|⟨rfl,rfl,rfl⟩|⟨rfl,rfl,rfl⟩<;>first|(exfalso;revert a;decide)|decide
theorem Vx:bP [(0,0,1),(2,1,3)]=[(2,1,3)]:=by
 refine(lu ai).unique ⟨by simp[kI],fun p=>?_⟩;have⟨x,y,i⟩:=p;constructor
 .intro h;simp only[gZ,uY,iC,or_false]at h;rcases h with⟨rfl,rfl,rfl⟩<;>exact⟨ai,ai⟩
 .rintro⟨h,a⟩;simp only[gZ,uY,iC,or_false]at h;rcases h with⟨rfl,rfl,rfl⟩|⟨rfl,rfl,rfl⟩<;>first|(exfalso;revert a;decide)|decide
theorem Iw {l:List Int} (h:l.Pairwise (·<=·)):eD l=l:=E8 h (pR _)
theorem Sa:sW [(0,0,1),(2,5,2),(2,1,3)] 1 9=some (2,1,3):=by
 refine D9 (l:=[(0,0,1),(2,5,2),(2,1,3)]) (pR _) ai (FQ _ _ _) ⟨ai,ai,?_⟩;decide
theorem Vy:eD (ids (([(0,0,1),(2,5,2),(2,1,3)]:List Pt).filter (Dc 0 2 1 5)))=[2,3]:=by
 rw[show ids (([(0,0,1),(2,5,2),(2,1,3)]:List Pt).filter (Dc 0 2 1 5))=[2,3] by decide];exact Iw ai
theorem Vz:eD (ids (([(0,0,1),(2,5,2),(2,1,3)]:List Pt).filter (xw 0 9 1)))=[1,3]:=by
 rw[show ids (([(0,0,1),(2,5,2),(2,1,3)]:List Pt).filter (xw 0 9 1))=[1,3] by decide];exact Iw ai
theorem VA:eD (ids (([(0,0,1),(2,5,2),(2,1,3)]:List Pt).filter (FM 2 1 3)))=[2,3]:=by
 rw[show ids (([(0,0,1),(2,5,2),(2,1,3)]:List Pt).filter (FM 2 1 3))=[2,3] by decide];exact Iw ai
theorem Uq:eD (ids [((2:Int),(5:Int),(2:Int))])=[2]:=Iw ai
theorem Ur:eD (ids [((2:Int),(1:Int),(3:Int))])=[3]:=Iw ai
def LA:List Pt:=[(0,0,1),(2,5,2),(2,1,3)]
theorem Lm.one {n:Nat} (h:Lm 0 n):n=1:=by
 obtain⟨i,q,rfl,h⟩:=h;rcases i with _|i
 .rfl
 .have:2<=2^(i+1):=by rw[nX];have:=pY (n:=i) (show 0<2 by decide);omega
  have:(2^(i+1):Nat)<=2^(i+1)+2^(i+1+1)*q:=Nat.le_add_right _ _;omega
theorem Lm.two {n:Nat} (h:Lm 1 n):n=2:=by
 obtain⟨i,q,rfl,h⟩:=h;rcases i with _|_|i
 .simp at h;omega
 .rfl
 .have:4<=2^(i+1+1):=by rw[nX,nX];have:=pY (n:=i) (show 0<2 by decide);omega
  have:(2^(i+1+1):Nat)<=2^(i+1+1)+2^(i+1+1+1)*q:=Nat.le_add_right _ _;omega
theorem Lm.three {n:Nat} (h:Lm 2 n):n=1:=by
 obtain⟨i,q,rfl,h⟩:=h;rcases i with _|_|i
 .rfl
 .simp at h;omega
 .have:4<=2^(i+1+1):=by rw[nX,nX];have:=pY (n:=i) (show 0<2 by decide);omega
  have:(2^(i+1+1):Nat)<=2^(i+1+1)+2^(i+1+1+1)*q:=Nat.le_add_right _ _;omega
theorem Sb (w:World):aK 21 #[] w (fw w (.bool true)):=by
 have br:=ag (SC w);go_enter func21,ntmps21
 go_wp2_with fail
 refine br.o.mono ?_;rintro e w1 ⟨Pb,rfl,hP,ca⟩;have bt:=ag hP;have aL:=ag ca;have bV:Hid (bY dw 3 (w1.alloc (.cells #[ae 0,ae 0,ak 1,ae 2,ae 5,ak 2,ae 2,ae 1,ak 3] 29)) (some (af w1.heap.size 0)) LA):=bY.lit (sz:=3) bg w1 29 LA w1.heap.size rfl;have aU:Hid (Below w1.heap.size w1 (w1.alloc (.cells #[ae 0,ae 0,ak 1,ae 2,ae 5,ak 2,ae 2,ae 1,ak 3] 29))):=(aI _ _).alloc (aB _) _;have cg:(w1.alloc (.cells #[ae 0,ae 0,ak 1,ae 2,ae 5,ak 2,ae 2,ae 1,ak 3] 29)).heap.size=w1.heap.size+1:=ay
 go_wp2_with fail
 generalize w1.alloc (.cells #[ae 0,ae 0,ak 1,ae 2,ae 5,ak 2,ae 2,ae 1,ak 3] 29)=w2 at*;have cc:=aL.o.size
 go_loopw [25] (fun aF wr=>∃(i:Nat) (G:Nat->Prop) (wk:Int),aF=.int .i64 i/\i<=3/\w2.heap.size<=wr.heap.size/\Hid (dN wr Pb G i (LA.take i) i wk 0)/\Hid (∀k,G k->w.heap.size<=k/\k<wr.heap.size/\k≠w1.heap.size)/\Hid (Below w.heap.size w wr)/\Hid (bY dw 3 wr (some (af w1.heap.size 0)) LA)) (fun aF _=>3-(intOf aF).toNat)
 case atStart=>exact⟨0,_,0,rfl,bD _,aB _,bt.o.below aU.o,fun k H=>⟨H.1,by have:=H.2;omega,by have:=H.2;omega⟩,aL.o.trans (aU.o.mono cc),bV⟩
 case round=>
  obtain⟨i,G,wk,rfl,hi,ch,V,u,t,an⟩:=hrel;by_cases cj:i<3
  .have cb:i=0\/i=1\/i=2:=aa;have⟨b,off,aD,ci,F⟩:=an.o.get ai;injection aD with aD;injection aD with b8 b9 _;subst b8 b9;rcases cb with rfl|rfl|rfl
   .have N:=F 0 ai 0 aa;have x1:=F 0 ai 1 aa;have x2:=F 0 ai 2 aa
    replace N:wr.cell? (af w1.heap.size 0)=some (ae 0):=N
    replace x1:wr.cell? (af w1.heap.size 1)=some (ae 0):=x1
    replace x2:wr.cell? (af w1.heap.size 2)=some (ak 1):=x2
    obtain⟨p,e⟩:∃p:World,p=wr:=⟨_,rfl⟩;subst e;obtain⟨A,L⟩:∃A,A=p.alloc (.cells #[ae 0,ae 0,ak 1] 29):=⟨_,rfl⟩;have K:Below p.heap.size p A:=by rw[L];exact(aI _ _).alloc (aB _) _
    have S:=ag (uk (V.o.below K) ai 0 0 1 ⟨ai,ai,ai⟩ ai);have y:=ag K;have T:=ag L.symm
    go_wp2_with fail
    rw[T.o];refine S.o.mono ?_;rintro e w4 ⟨n,ab,rfl,Z,M⟩;obtain rfl:=Lm.one ab;have U:=ag Z;have J:=ag M;have a5:=y.o.size;have a4:=M.size;go_wp2;go_roundw
    case rel=>exact⟨1,_,_,rfl,ai,aa,U.o,fun k H=>H.elim (fun h=>by have:=u.o k h;exact⟨this.1,aa,this.2.2⟩) fun h=>by have:=t.o.size;exact⟨aa,h.2,aa⟩,(t.o.trans (y.o.mono t.o.size)).trans (J.o.toBelow (by have:=t.o.size;omega) (fun k h=>(u.o k h).1)),((an.o.below y.o).Uk J.o fun x e h=>by injection e with e;rw[<-e]at h;exact(u.o _ h).2.2 rfl)⟩
    case measure=>simp[intOf]
   .have N:=F 1 ai 0 aa;have x1:=F 1 ai 1 aa;have x2:=F 1 ai 2 aa
    replace N:wr.cell? (af w1.heap.size 3)=some (ae 2):=N
    replace x1:wr.cell? (af w1.heap.size 4)=some (ae 5):=x1
    replace x2:wr.cell? (af w1.heap.size 5)=some (ak 2):=x2
    obtain⟨p,e⟩:∃p:World,p=wr:=⟨_,rfl⟩;subst e;obtain⟨A,L⟩:∃A,A=p.alloc (.cells #[ae 2,ae 5,ak 2] 29):=⟨_,rfl⟩;have K:Below p.heap.size p A:=by rw[L];exact(aI _ _).alloc (aB _) _
    have S:=ag (uk (V.o.below K) ai 2 5 2 ⟨ai,ai,ai⟩ ai);have y:=ag K;have T:=ag L.symm
    go_wp2_with fail
    rw[T.o];refine S.o.mono ?_;rintro e w4 ⟨n,ab,rfl,Z,M⟩;obtain rfl:=Lm.two ab;have U:=ag Z;have J:=ag M;have a5:=y.o.size;have a4:=M.size;go_wp2;go_roundw
    case rel=>exact⟨2,_,_,rfl,ai,aa,U.o,fun k H=>H.elim (fun h=>by have:=u.o k h;exact⟨this.1,aa,this.2.2⟩) fun h=>by have:=t.o.size;exact⟨aa,h.2,aa⟩,(t.o.trans (y.o.mono t.o.size)).trans (J.o.toBelow (by have:=t.o.size;omega) (fun k h=>(u.o k h).1)),((an.o.below y.o).Uk J.o fun x e h=>by injection e with e;rw[<-e]at h;exact(u.o _ h).2.2 rfl)⟩
    case measure=>simp[intOf]
   .have N:=F 2 ai 0 aa;have x1:=F 2 ai 1 aa;have x2:=F 2 ai 2 aa
    replace N:wr.cell? (af w1.heap.size 6)=some (ae 2):=N
    replace x1:wr.cell? (af w1.heap.size 7)=some (ae 1):=x1
    replace x2:wr.cell? (af w1.heap.size 8)=some (ak 3):=x2
    obtain⟨p,e⟩:∃p:World,p=wr:=⟨_,rfl⟩;subst e;obtain⟨A,L⟩:∃A,A=p.alloc (.cells #[ae 2,ae 1,ak 3] 29):=⟨_,rfl⟩;have K:Below p.heap.size p A:=by rw[L];exact(aI _ _).alloc (aB _) _
    have S:=ag (uk (V.o.below K) ai 2 1 3 ⟨ai,ai,ai⟩ ai);have y:=ag K;have T:=ag L.symm
    go_wp2_with fail
    rw[T.o];refine S.o.mono ?_;rintro e w4 ⟨n,ab,rfl,Z,M⟩;obtain rfl:=Lm.three ab;have U:=ag Z;have J:=ag M;have a5:=y.o.size;have a4:=M.size;go_wp2;go_roundw
    case rel=>exact⟨3,_,_,rfl,ai,aa,U.o,fun k H=>H.elim (fun h=>by have:=u.o k h;exact⟨this.1,aa,this.2.2⟩) fun h=>by have:=t.o.size;exact⟨aa,h.2,aa⟩,(t.o.trans (y.o.mono t.o.size)).trans (J.o.toBelow (by have:=t.o.size;omega) (fun k h=>(u.o k h).1)),((an.o.below y.o).Uk J.o fun x e h=>by injection e with e;rw[<-e]at h;exact(u.o _ h).2.2 rfl)⟩
    case measure=>simp[intOf]
  .obtain rfl:i=3:=aa;obtain⟨wp,e⟩:∃wp:World,wp=wr:=⟨_,rfl⟩;subst e;have bv:Hid (dN wp Pb G 3 [(0,0,1),(2,5,2),(2,1,3)] 3 wk 0):=V.o;have D:=ag (u.o Pb V.o.facts.2.2.2.2.2.2.2);have a9:Hid (Below w.heap.size w wp):=t.o;have aM:Hid (∀k,G k->w.heap.size<=k/\k<wp.heap.size):=fun k h=>⟨(u.o k h).1,(u.o k h).2.1⟩;have cl:=t.o.size;have C:=Ij bv.o 0 2 1 5 0;rw[Vy]at C;have d:=ag C
   go_wp2_with fail
   refine d.o.mono ?_;rintro e a6 ⟨v,t1,rfl,s,-,f,hP⟩;have cm:=f.size;have aV:=ag (dm s (show wp.heap.size<=wp.heap.size by omega));obtain⟨bZ,b4,rfl,-,-,-⟩:=Rd.aJ (l:=[2,3]) s;have bw:=ag hP;have ba:=ag (a9.o.trans (f.toBelow (show w.heap.size<=wp.heap.size by omega) (fun k h=>by have:=D.o;omega)));have C:=Lu bw.o 0 9 1;rw[Vz]at C;have d:=ag C
   go_wp2_with fail
   refine d.o.mono ?_;rintro e a8 ⟨v,t2,rfl,s,-,f,hP⟩;have ct:=f.size;have aW:=ag (aR aV.o f (fun z e h=>by have:=(aV.o.lt z e).1;have:=D.o;omega));have aZ:=ag (dm s (show wp.heap.size<=a6.heap.size by omega));obtain⟨b1,a3,rfl,-,-,-⟩:=Rd.aJ (l:=[1,3]) s;have bC:=ag hP;have bj:=ag (ba.o.trans (f.toBelow (show w.heap.size<=a6.heap.size by omega) (fun k h=>by have:=D.o;omega)));have C:=Ik bC.o 2 1 3 ai;rw[VA]at C;have d:=ag C
   go_wp2_with fail
   refine d.o.mono ?_;rintro e cd ⟨v,t3,rfl,s,-,f,hP⟩;have cu:=f.size;have aX:=ag (aR aW.o f (fun z e h=>by have:=(aW.o.lt z e).1;have:=D.o;omega));have a0:=ag (aR aZ.o f (fun z e h=>by have:=(aZ.o.lt z e).1;have:=D.o;omega));have a2:=ag (dm s (show wp.heap.size<=a8.heap.size by omega));obtain⟨b2,b6,rfl,-,-,-⟩:=Rd.aJ (l:=[2,3]) s;have bE:=ag hP;have bk:=ag (bj.o.trans (f.toBelow (show w.heap.size<=a8.heap.size by omega) (fun k h=>by have:=D.o;omega)));have C:=Io bE.o 1 9;rw[Sa]at C;have d:=ag C
   go_wp2_with fail
   refine d.o.mono ?_;rintro e B ⟨t4,rfl,-,f,hP⟩;have cv:=f.size;have bM:=ag (aR aX.o f (fun z e h=>by have:=(aX.o.lt z e).1;have:=D.o;omega));have bO:=ag (aR a0.o f (fun z e h=>by have:=(a0.o.lt z e).1;have:=D.o;omega));have bQ:=ag (aR a2.o f (fun z e h=>by have:=(a2.o.lt z e).1;have:=D.o;omega));have bF:=ag hP;have bl:=ag (bk.o.trans (f.toBelow (show w.heap.size<=cd.heap.size by omega) (fun k h=>by have:=D.o;omega)));have a:Hid (Below B.heap.size B (B.alloc (.cells #[ae 2,ae 1,ak 3] 29))):=(aI _ _).alloc (aB _) _;have ao:Hid ((B.alloc (.cells #[ae 2,ae 1,ak 3] 29)).heap[B.heap.size]? =some (Ai (2,1,3))):=bW _ _;have bX:Hid (B.heap.size+1=(B.alloc (.cells #[ae 2,ae 1,ak 3] 29)).heap.size):=by show _=_;simp
   go_wp2_with fail
   generalize B.alloc (.cells #[ae 2,ae 1,ak 3] 29)=ah at*;have cw:=a.o.size;have aY:=ag (az bM.o a.o);have bP:=ag (az bO.o a.o);have bR:=ag (az bQ.o a.o);have bG:=ag (bF.o.below a.o);have bm:=ag (bl.o.trans (a.o.mono (show w.heap.size<=B.heap.size by omega)));have q:Below ah.heap.size ah (ah.alloc (.cells #[ak 2,ak 3] 27)):=(aI _ _).alloc (aB _) _;obtain⟨_,_,j,-,-,I⟩:=Rd.aJ (l:=[2,3]) aY.o;injection j with j _ E;subst j E;have c:=CQ bZ (some (af (B.heap.size+1) 0)) [2,3] [2,3] 2 2 b4 2 _ rfl rfl (I.below q) (Rd.lit (enc:=Value.int .u32) ah 27 [2,3] _ bX.o) ai ai;rw[show decide (([2,3]:List Int)=[2,3])=true from rfl]at c;have d:=ag c;have g:=ag q;refine d.o.mono ?_;rintro e Q ⟨rfl,m⟩;have ap:=ag ((aP m ((aP g.o ao.o).trans ao.o)).trans ((aP g.o ao.o).trans ao.o));have a:=g.o.trans (m.mono g.o.size);have cx:=a.size;have bN:=ag (az aY.o a);have a1:=ag (az bP.o a);have bS:=ag (az bR.o a);have bH:=ag (bG.o.below a);have bn:=ag (bm.o.trans (a.mono (show w.heap.size<=ah.heap.size by omega)));have q:Below Q.heap.size Q (Q.alloc (.cells #[ak 1,ak 3] 27)):=(aI _ _).alloc (aB _) _;obtain⟨_,_,j,-,-,I⟩:=Rd.aJ (l:=[1,3]) a1.o;injection j with j _ E;subst j E;have c:=CQ b1 (some (af Q.heap.size 0)) [1,3] [1,3] 2 2 a3 2 _ rfl rfl (I.below q) (Rd.lit (enc:=Value.int .u32) Q 27 [1,3] _ rfl) ai ai;rw[show decide (([1,3]:List Int)=[1,3])=true from rfl]at c;have d:=ag c;have g:=ag q
   go_wp2_with fail
   refine d.o.mono ?_;rintro e R ⟨rfl,m⟩;have aq:=ag ((aP m ((aP g.o ap.o).trans ap.o)).trans ((aP g.o ap.o).trans ap.o));have a:=g.o.trans (m.mono g.o.size);have cy:=a.size;have ce:=ag (az bN.o a);have cf:=ag (az a1.o a);have bT:=ag (az bS.o a);have bI:=ag (bH.o.below a);have bo:=ag (bn.o.trans (a.mono (show w.heap.size<=Q.heap.size by omega)));have q:Below R.heap.size R (R.alloc (.cells #[ak 2,ak 3] 27)):=(aI _ _).alloc (aB _) _;obtain⟨_,_,j,-,-,I⟩:=Rd.aJ (l:=[2,3]) bT.o;injection j with j _ E;subst j E;have c:=CQ b2 (some (af R.heap.size 0)) [2,3] [2,3] 2 2 b6 2 _ rfl rfl (I.below q) (Rd.lit (enc:=Value.int .u32) R 27 [2,3] _ rfl) ai ai;rw[show decide (([2,3]:List Int)=[2,3])=true from rfl]at c;have d:=ag c;have g:=ag q
   go_wp2_with fail
   refine d.o.mono ?_;rintro e aG ⟨rfl,m⟩;have bu:=ag ((aP m ((aP g.o aq.o).trans aq.o)).trans ((aP g.o aq.o).trans aq.o));have a:=g.o.trans (m.mono g.o.size);have cz:=a.size;have bJ:=ag (bI.o.below a);have bp:=ag (bo.o.trans (a.mono (show w.heap.size<=R.heap.size by omega)));have a3:aG.cell? (af B.heap.size 2)=some (ak 3):=(kS bu.o).2.2;have aT:Hid (∀k,G k->w.heap.size<=k/\k<aG.heap.size):=fun k h=>⟨(aM.o k h).1,by have:=(aM.o k h).2;omega⟩;have d:=ag (SG bJ.o ai)
   go_wp2_with fail
   refine d.o.mono ?_;rintro e P ⟨v,al,rfl,s,hP,f,Y⟩;rw[Vw,Uq]at s;have cA:=f.size;obtain⟨b3,b7,rfl,-,-,-⟩:=Rd.aJ (l:=[2]) s;have bU:=ag s;have aS:Hid (∀k,al k->w.heap.size<=k/\k<P.heap.size):=fun k h=>⟨(Y k h).1.elim (fun h=>(aT.o k h).1) (fun h=>aa),(Y k h).2.1⟩;have bq:=ag (bp.o.trans (f.toBelow (show w.heap.size<=aG.heap.size by omega) (fun k h=>(aT.o k h).1)));have bK:=ag hP;have q:Below P.heap.size P (P.alloc (.cells #[ak 2] 27)):=(aI _ _).alloc (aB _) _;obtain⟨_,_,j,-,-,I⟩:=Rd.aJ (l:=[2]) bU.o;injection j with j _ E;subst j E;have c:=CQ b3 (some (af P.heap.size 0)) [2] [2] 1 1 b7 1 _ rfl rfl (I.below q) (Rd.lit (enc:=Value.int .u32) P 27 [2] _ rfl) ai ai;rw[show decide (([2]:List Int)=[2])=true from rfl]at c;have d:=ag c;have g:=ag q
   go_wp2_with fail
   refine d.o.mono ?_;rintro e au ⟨rfl,m⟩;have a:=g.o.trans (m.mono g.o.size);have cn:=a.size;have bx:=ag (bK.o.below a);have bb:=ag (bq.o.trans (a.mono (show w.heap.size<=P.heap.size by omega)));have aw:Hid (∀k,al k->w.heap.size<=k/\k<au.heap.size):=fun k h=>⟨(aS.o k h).1,by have:=(aS.o k h).2;omega⟩;have d:=ag (wm bx.o ai 2 5 2 ai)
   go_wp2_with fail
   refine d.o.mono ?_;rintro e ac ⟨q,aA,rfl,hP,f,hd⟩;obtain⟨rfl,rfl⟩:q=0/\aA=3:=by
    rcases hd with⟨h,W,X⟩|⟨h,W,X⟩
    .exact absurd h ai
    .exact⟨W,X⟩
   have co:=f.size;have am:Hid (∀k,(al k\/au.heap.size<=k/\k<ac.heap.size)->w.heap.size<=k/\k<ac.heap.size):=fun k h=>h.elim (fun h=>⟨(aw.o k h).1,by have:=(aw.o k h).2;omega⟩) (fun h=>⟨aa,h.2⟩);have bc:=ag (bb.o.trans (f.toBelow (show w.heap.size<=au.heap.size by omega) (fun k h=>(aw.o k h).1)));have ar:=ag hP;rw[show(List.filter (fun r=>decide (r≠((2:Int),(5:Int),(2:Int)))) _)=[(0,0,1),(2,1,3)]from rfl]at ar;generalize aE:(fun k=>al k\/au.heap.size<=k/\k<ac.heap.size)=aH at ar
   replace am:Hid (∀k,aH k->w.heap.size<=k/\k<ac.heap.size):=fun k h=>am.o k (by rw[<-aE]at h;exact h)
   have d:=ag (zO ar.o 9 9 3 ai)
   go_wp2_with fail
   refine d.o.mono ?_;rintro e a7 ⟨rfl,m⟩;have cp:=m.size;have aN:Hid (∀k,aH k->w.heap.size<=k/\k<a7.heap.size):=fun k h=>⟨(am.o k h).1,by have:=(am.o k h).2;omega⟩;have bd:=ag (bc.o.trans (m.mono (show w.heap.size<=ac.heap.size by omega)));have bz:=ag (ar.o.below m);have d:=ag (SG bz.o ai)
   go_wp2_with fail
   refine d.o.mono ?_;rintro e O ⟨v,aj,rfl,s,hP,f,Y⟩;rw[Vx,Ur]at s;have cq:=f.size;obtain⟨b0,b5,rfl,-,-,-⟩:=Rd.aJ (l:=[3]) s;have bL:=ag s;have aO:Hid (∀k,aj k->w.heap.size<=k/\k<O.heap.size):=fun k h=>⟨(Y k h).1.elim (fun h=>(aN.o k h).1) (fun h=>aa),(Y k h).2.1⟩;have be:=ag (bd.o.trans (f.toBelow (show w.heap.size<=a7.heap.size by omega) (fun k h=>(aN.o k h).1)));have bA:=ag hP;have q:Below O.heap.size O (O.alloc (.cells #[ak 3] 27)):=(aI _ _).alloc (aB _) _;obtain⟨_,_,j,-,-,I⟩:=Rd.aJ (l:=[3]) bL.o;injection j with j _ E;subst j E;have c:=CQ b0 (some (af O.heap.size 0)) [3] [3] 1 1 b5 1 _ rfl rfl (I.below q) (Rd.lit (enc:=Value.int .u32) O 27 [3] _ rfl) ai ai;rw[show decide (([3]:List Int)=[3])=true from rfl]at c;have d:=ag c;have g:=ag q
   go_wp2_with fail
   refine d.o.mono ?_;rintro e av ⟨rfl,m⟩;have a:=g.o.trans (m.mono g.o.size);have cr:=a.size;have bB:=ag (bA.o.below a);have bf:=ag (be.o.trans (a.mono (show w.heap.size<=O.heap.size by omega)));have ax:Hid (∀k,aj k->w.heap.size<=k/\k<av.heap.size):=fun k h=>⟨(aO.o k h).1,by have:=(aO.o k h).2;omega⟩;have d:=ag (wm bB.o ai 0 0 1 ai)
   go_wp2_with fail
   refine d.o.mono ?_;rintro e ad ⟨q,aA,rfl,hP,f,hd⟩;obtain⟨rfl,rfl⟩:q=1/\aA=1:=by
    rcases hd with⟨h,W,X⟩|⟨h,W,X⟩
    .exact⟨W.trans ai,X.trans ai⟩
    .exact absurd h ai
   have cs:=f.size;have aQ:Hid (∀k,(aj k\/av.heap.size<=k/\k<ad.heap.size)->w.heap.size<=k/\k<ad.heap.size):=fun k h=>h.elim (fun h=>⟨(ax.o k h).1,by have:=(ax.o k h).2;omega⟩) (fun h=>⟨aa,h.2⟩);have bh:=ag (bf.o.trans (f.toBelow (show w.heap.size<=av.heap.size by omega) (fun k h=>(ax.o k h).1)));have aC:=ag hP;rw[show(List.filter (fun r=>decide (r≠((0:Int),(0:Int),(1:Int)))) _)=[(2,1,3)]from rfl]at aC;generalize aE:(fun k=>aj k\/av.heap.size<=k/\k<ad.heap.size)=bs at aC
   replace aQ:Hid (∀k,bs k->w.heap.size<=k/\k<ad.heap.size):=fun k h=>aQ.o k (by rw[<-aE]at h;exact h)
   have d:=ag (CO aC.o)
   go_wp2_with fail
   refine d.o.mono ?_;rintro e ck ⟨rfl,m⟩;have bi:=ag (bh.o.trans (m.mono (show w.heap.size<=ad.heap.size by omega)));go_wp2;go_ret;exact⟨rfl,bi.o⟩
def addN (now:List Pt) (p:Pt):List Pt:=if p.2.2∈ids now then now else now++[p]
def zP (now:List Pt) (d:Int):List Pt:=now.filter fun q=>decide (q.2.2≠d)
theorem Qq {now:List Pt} {d:Int} (h:d∉ids now):zP now d=now:=by
 unfold zP;rw[lY];intro q a;simp only[bQ,ne_eq];rintro rfl;exact h (rC a)
theorem Qr {now:List Pt} (hu:(ids now).Nodup) {p:Pt} (hp:p∈now):(now.filter fun q=>decide (q≠p))=zP now p.2.2:=by
 unfold zP;refine qQ fun q a=>?_;simp only[ne_eq,decide_not,Bool.not_inj_iff];rw[mU,bQ,bQ];refine⟨fun e=>by rw[e],fun e=>?_⟩;rcases fo (dz.1 hu) a hp with h|h|h
 .exact h
 .exact absurd e h
 .exact absurd e.symm h
section
variable {w:World} {Pb m:Nat} {G:Nat->Prop} {now:List Pt} {N wk eB:Int}
def Iy (w:World) (Pb:Nat) (G:Nat->Prop) (m:Nat) (Wd:List Pt) (did:Bool) (wk eB:Int) (lo:Nat) (e:Ending) (w':World):Prop:=
 ∃(n:Nat) (N':Int),e=.returned (.tuple #[ae n,.bool did])/\dN w' Pb (fun k=>G k\/w.heap.size<=k/\k<w'.heap.size) (m+did.toNat) Wd N' (wk+n) eB/\ax G w w'/\(did=true->lo<=n)/\(did=false->n=0)
theorem Us (h:dN w Pb G m now N wk eB) (f:m<5000) (p:Pt) (i:FX p):
  aK 12 #[aj Pb,jc p.1 p.2.1 p.2.2] w (Iy w Pb G m (addN now p) (decide (p.2.2∉ids now)) wk eB 1):=by
 by_cases a:p.2.2∈ids now
 .refine(zO h p.1 p.2.1 p.2.2 a).mono ?_;rintro e w' ⟨rfl,c⟩;have b:decide (p.2.2∉ids now)=false:=by simp[a]
  unfold addN;rw[aO a,b];exact⟨0,N,rfl,by rw[show wk+((0:Nat):Int)=wk by omega];exact(h.below c).more fun k h=>.inl h,(ax.refl _ _).below c,(fun h=>by cases h),fun _=>rfl⟩
 .refine(uk h f p.1 p.2.1 p.2.2 i a).mono ?_;rintro e w' ⟨n,g,rfl,hP,d⟩;have b:decide (p.2.2∉ids now)=true:=by simp[a]
  unfold addN;rw[aN a,b];exact⟨n,_,rfl,hP,d,fun _=>g.pos,fun h=>by cases h⟩
theorem Sc (h:dN w Pb G m now N wk eB) (i:m<5000) (d:Int):
  aK 13 #[aj Pb,ak d] w (Iy w Pb G m (zP now d) (decide (d∈ids now)) wk eB 0):=by
 by_cases a:d∈ids now
 .obtain⟨p,hp,rfl⟩:=dA.1 a;refine(wm h i p.1 p.2.1 p.2.2 hp).mono ?_;rintro e w' ⟨n,f,rfl,hP,g,-⟩;have b:decide (p.2.2∈ids now)=true:=by simp[a]
  rw[b,<-Qr h.facts.2.2.2.1 hp];exact⟨n,f,rfl,hP,g,fun _=>bD _,fun h=>by cases h⟩
 .refine(NA h d a).mono ?_;rintro e w' ⟨rfl,c⟩;have b:decide (d∈ids now)=false:=by simp[a]
  rw[Qq a,b];exact⟨0,N,rfl,by rw[show wk+((0:Nat):Int)=wk by omega];exact(h.below c).more fun k h=>.inl h,(ax.refl _ _).below c,(fun h=>by cases h),fun _=>rfl⟩
abbrev Qx:=Int×Pt×Bx×Int
def FV (o:Qx):List Value:=[.int .u8 o.1,.int .i64 o.2.1.1,.int .i64 o.2.1.2.1,.int .u32 o.2.1.2.2,.int .i64 o.2.2.1.1,.int .i64 o.2.2.1.2.1,.int .i64 o.2.2.1.2.2.1,.int .i64 o.2.2.1.2.2.2.1,.int .u32 o.2.2.1.2.2.2.2,.int .u8 o.2.2.2]
theorem VB:eP prog 47 49 10 80:=.mk' (z:=.agg (FV (0,(0,0,0),(0,0,0,0,0),0)).toArray) underlying47 aM rfl ai
def UB (o:Qx):Prop:=(Lit.int .u8 o.1).wf=true/\FX o.2.1/\Bx.wf o.2.2.1/\(Lit.int .u8 o.2.2.2).wf=true
def xJ (now:List Pt) (o:Qx):List Pt:=if o.1%2=0 then addN now o.2.1 else zP now o.2.1.2.2
theorem NC (now:List Pt) (o:Qx):(xJ now o).length<=now.length+1:=by
 unfold xJ addN zP;split
 .split
  .omega
  .simp
 .exact bA (fO _ _) aa
def ND (now:List Pt) (o:Qx):Bool:=if o.1%2=0 then decide (o.2.1.2.2∉ids now)else decide (o.2.1.2.2∈ids now)
theorem Ut (h:dN w Pb G m now N wk eB) (B:m<5000) (o:Qx) (t:UB o):
  aK 22 #[aj Pb,.agg (FV o).toArray] w (Iy w Pb G m (xJ now o) (ND now o) wk eB 0):=by
 obtain⟨b,⟨c,d,a⟩,⟨x1,x2,y1,y2,g⟩,i⟩:=o;obtain⟨w1,r⟩:∃w1,w1=w.alloc (.cells #[.int .u8 b,ae c,ae d,ak a,ae x1,ae x2,ae y1,ae y2,ak g,.int .u8 i] 49):=⟨_,rfl⟩;have f:Below w.heap.size w w1:=by rw[r];exact(aI _ _).alloc (aB _) _
 have j:w1.heap[w.heap.size]? =some (.cells #[.int .u8 b,ae c,ae d,ak a,ae x1,ae x2,ae y1,ae y2,ak g,.int .u8 i] 49 (0,0)):=by rw[r];exact bW w _
 have J:w1.cell? (af w.heap.size 0)=some (.int .u8 b):=aD j;have K:w1.cell? (af w.heap.size 1)=some (ae c):=aD j;have L:w1.cell? (af w.heap.size 2)=some (ae d):=aD j;have M:w1.cell? (af w.heap.size 3)=some (ak a):=aD j;have P:=f.size;have A:Hid (∀(y:List Pt) (x:Bool) (lo:Nat) (e:Ending) (w':World),Iy w1 Pb G m y x wk eB lo e w'->Iy w Pb G m y x wk eB 0 e w'):=by
  rintro y x lo e w' ⟨n,l,E,hP,D,O,I⟩;exact⟨n,l,E,hP.more fun k F=>F.imp id fun h=>⟨aa,h.2⟩,((ax.refl G w).below f).trans D,fun _=>bD _,I⟩
 have H:0<=b/\b<=255:=by
  have:=t.1;simp[Lit.wf,IntKind.min,IntKind.max,IntKind.signed,IntKind.bits]at this;omega
 have C:Int.tmod b 2=b%2:=Int.tmod_eq_emod_of_nonneg H.1;have z:=ag r.symm;by_cases hd:b%2=0
 .have u:=ag (Us (h.below f) B (c,d,a) t.2.1);have p:xJ now (b,(c,d,a),(x1,x2,y1,y2,g),i)=addN now (c,d,a):=by unfold xJ;exact aO hd
  have q:ND now (b,(c,d,a),(x1,x2,y1,y2,g),i)=decide (a∉ids now):=by unfold ND;exact aO hd
  rw[p,q];clear q;generalize decide (a∉ids now)=bd at*;have d1:(b%2==0)=true:=by rw[hd];rfl
  clear h t p C hd f j r;go_enter func22,ntmps22
  go_upto_region 1 with fail
  simp only[FV];rw[z.o]
  go_wp2_with fail
  refine u.o.mono ?_;intro e w2 hS;obtain⟨n,l,rfl,s⟩:=A.o _ _ _ _ _ hS;have v:=ag s;clear hS s;go_wp2;go_ret2;exact⟨n,l,rfl,v.o⟩
 .have u:=ag (Sc (h.below f) B a);have p:xJ now (b,(c,d,a),(x1,x2,y1,y2,g),i)=zP now a:=by unfold xJ;exact aN hd
  have q:ND now (b,(c,d,a),(x1,x2,y1,y2,g),i)=decide (a∈ids now):=by unfold ND;exact aN hd
  rw[p,q];clear q;generalize decide (a∈ids now)=bd at*;have d1:(b%2==0)=false:=aQ hd;clear h t p C hd f j r;go_enter func22,ntmps22
  go_upto_region 1 with fail
  simp only[FV];rw[z.o]
  go_wp2_with fail
  refine u.o.mono ?_;intro e w2 hS;obtain⟨n,l,rfl,s⟩:=A.o _ _ _ _ _ hS;have v:=ag s;clear hS s;go_wp2;go_ret2;exact⟨n,l,rfl,v.o⟩
end
theorem Ee:eY 14:=bO func14 aM rfl
theorem FW (a:Option Addr) (l:List Qx) (n c:Nat) (w:World) (eR:l.length=n) (h:bY FV 10 w a l) (dV:∀o∈l,UB o) (dU:n<=c):
  aK 7 #[.slice a n c] w (fw w (.bool true)):=by
 subst eR;have d8:=ag (fun W=>Sb W);obtain⟨m,a2,dY,fi⟩:∃m:Nat,min (l.length:Int) 200=(m:Int)/\m<=l.length/\m<=200:=⟨min l.length 200,aa,aa,aa⟩;have de:=ag a2;have bH:=ag h;have dc:=ag dV;have cZ:=ag (SC w);clear a2 h dV;go_enter func7,ntmps7
 go_wp2_with fail
 refine cZ.o.mono ?_;rintro e w2 ⟨Pb,rfl,hP,ch⟩;have c3:=ag ch;have en:=ag hP;have fc:=hP.facts.2.2.2.2.2.2.2;have fk:=ch.size;clear cZ hP ch;have a2:min (l.length:Int) 200=(m:Int):=de.o
 go_wp2_with (refine vN VB (bH.o.below c3.o) dU 0 m (bD _) dY rfl _ _ _ rfl rfl rfl rfl ?_;intro et ci;simp only[Nat.sub_zero,kF]at ci |-)
 have eQ:(l.take m).length=m:=aH;have ei:Hid (∀q∈l.take m,UB q):=fun q ab=>dc.o q (List.mem_of_mem_take ab);have eo:Hid (∀W,Below w.heap.size w W->bY FV 10 W et (l.take m)):=fun W f=>ci W (bH.o.below f);clear ci a2 de bH dc dY dU;generalize l.take m=P at*;subst eQ
 go_loopw [4,5,6,35] (fun ck pv tv cj wr=>∃(i:Nat) (G:Nat->Prop) (al:Nat) (L:List Pt) (N wk eB:Int),ck=.int .i64 al/\pv=.int .i64 wk/\tv=.int .i64 eB/\cj=.int .i64 i/\i<=P.length/\w2.heap.size<=wr.heap.size/\Hid (al<=i/\L.length<=i)/\Hid (dN wr Pb G al L N wk eB)/\Hid (∀k,G k->w.heap.size<=k/\k<wr.heap.size)/\Hid (Below w.heap.size w wr)) (fun _ _ _ cj _=>P.length-(intOf cj).toNat)
 case atStart=>exact⟨0,_,0,[],0,0,0,rfl,rfl,rfl,rfl,bD _,aB _,⟨aB _,aB _⟩,en,fun k dW=>⟨dW.1,dW.2⟩,c3⟩
 case round=>
  obtain⟨i,G,al,L,N,wk,eB,rfl,rfl,rfl,rfl,hi,fb,aL,dh,aq,ad⟩:=hrel;by_cases Y:i<P.length
  .obtain⟨r,e⟩:∃r:World,r=wr:=⟨_,rfl⟩;subst e;obtain⟨fa,fs,dP,fd,X⟩:=(eo.o _ ad.o).get aa;have cs:=X i Y 0 aa;have v1:=X i Y 1 aa;have ct:=X i Y 2 aa;have cu:=X i Y 3 aa;have cw:=X i Y 4 aa;have cx:=X i Y 5 aa;have cy:=X i Y 6 aa;have cz:=X i Y 7 aa;have cA:=X i Y 8 aa;have cB:=X i Y 9 aa;simp only[FV,fZ,dC,dK]at cs v1 ct cu cw cx cy cz cA cB;have b8:=ag (ei.o P[i] (bF Y));have c0:=ag dP;clear X dP;generalize P[i]=q at*;obtain⟨Q,⟨S,T,R⟩,⟨j,u,t,y,ob⟩,E⟩:=q;simp only at cs v1 ct cu cw cx cy cz cA cB;have fg:(i:Int)<(P.length:Int):=aa;obtain rfl:=c0.o;clear c0;obtain⟨w3,aZ⟩:∃w3,w3=r.alloc (.cells #[.int .u8 Q,ae S,ae T,ak R,ae j,ae u,ae t,ae y,ak ob,.int .u8 E] 49):=⟨_,rfl⟩;have B:Below r.heap.size r w3:=by rw[aZ];exact(aI _ _).alloc (aB _) _
   have U:w3.heap[r.heap.size]? =some (.cells #[.int .u8 Q,ae S,ae T,ak R,ae j,ae u,ae t,ae y,ak ob,.int .u8 E] 49 (0,0)):=by rw[aZ];exact bW r _
   have c1:=aZ.symm;have cX:=ag (show aK 22 #[aj Pb,.agg #[.int .u8 Q,ae S,ae T,ak R,ae j,ae u,ae t,ae y,ak ob,.int .u8 E]] w3 _ from Ut (dh.o.below B) (by have:=aL.o.1;omega) (Q,(S,T,R),(j,u,t,y,ob),E) b8.o);have dd:Hid ((xJ L (Q,(S,T,R),(j,u,t,y,ob),E)).length<=L.length+1):=NC _ _;have df:Hid (0<=E):=by
    have:=b8.o.2.2.2;simp[Lit.wf,IntKind.min,IntKind.max,IntKind.signed,IntKind.bits]at this;exact this.1
   have c4:=ag B;have bI:=ag U;have eu:w3.cell? (af r.heap.size 0)=some (.int .u8 Q):=aD U;have dJ:w3.cell? (af r.heap.size 1)=some (ae S):=aD U;have dL:w3.cell? (af r.heap.size 2)=some (ae T):=aD U;have dM:w3.cell? (af r.heap.size 3)=some (ak R):=aD U;have ev:w3.cell? (af r.heap.size 4)=some (ae j):=aD U;have ew:w3.cell? (af r.heap.size 5)=some (ae u):=aD U;have ex:w3.cell? (af r.heap.size 6)=some (ae t):=aD U;have ey:w3.cell? (af r.heap.size 7)=some (ae y):=aD U;have ez:w3.cell? (af r.heap.size 8)=some (ak ob):=aD U;have eA:w3.cell? (af r.heap.size 9)=some (.int .u8 E):=aD U;generalize xJ L (Q,(S,T,R),(j,u,t,y,ob),E)=z at*;generalize ND L (Q,(S,T,R),(j,u,t,y,ob),E)=b9 at*;clear aZ B U b8
   go_upto_region 7 with fail
   (try rw[c1])
   clear c1 cs v1 ct cu cw cx cy cz cA cB
   go_wp2_with fail
   refine cX.o.mono ?_;rintro e w4 ⟨q,aW,rfl,dS,a0,-,-⟩;have fl:=c4.o.size;have fm:=a0.size;have bd:=ag ((ad.o.trans (c4.o.mono ad.o.size)).trans (a0.toBelow (by have:=ad.o.size;omega) (fun k cb=>by have:=(aq.o k cb).1;omega)));have ar:=ag (bq a0 bI.o (fun cb=>by have:=(aq.o _ cb).2;omega));have ac:Hid (∀k,(G k\/w3.heap.size<=k/\k<w4.heap.size)->w.heap.size<=k/\k<w4.heap.size/\k≠r.heap.size):=fun k h=>h.elim (fun h=>⟨(aq.o k h).1,by have:=(aq.o k h).2;omega,by have:=(aq.o k h).2;omega⟩) fun h=>⟨by have:=ad.o.size;omega,h.2,by have:=(aY.1 bI.o).1;omega⟩;have ai:=ag dS;generalize dR:(fun k=>G k\/w3.heap.size<=k/\k<w4.heap.size)=D at ai
   replace ac:Hid (∀k,D k->w.heap.size<=k/\k<w4.heap.size/\k≠r.heap.size):=fun k h=>ac.o k (by rw[<-dR]at h;exact h)
   have fe:=ad.o.size;clear dR dS a0 cX eu dJ dL dM ev ew ex ey ez eA bI dh aq ad;obtain⟨M,av⟩:∃M:Nat,M=al+b9.toNat:=⟨_,rfl⟩;have aN:Hid (M<=i+1/\z.length<=i+1):=⟨by have:=aL.o.1;have:=b9.toNat_le;omega,by have:=aL.o.2;have:=dd.o;omega⟩
   go_upto_if 45 with fail
   go_cut [4]from 46 to 47 (fun ck bb=>ck=.int .i64 (M:Nat)/\bb=w4)
   case first=>
    have fj:al<=200:=by have:=aL.o.1;omega
    cases b9 with
    |true=>
     have fn:IntKind.i64.wrap ((al:Int)+1)=(M:Int):=by rw[iQ _ aa,av];simp
     clear av aN;go_wp2;go_meet;exact⟨rfl,rfl⟩
    |false=>
     have dO:al=M:=by rw[av];simp
     have eh:=ag dO;clear av aN dO;go_wp2;go_meet;exact⟨by rw[eh.o],rfl⟩
   case rest=>
    obtain⟨rfl,aU⟩:=hcut;have ca:=aU.symm;clear aU;subst ca;rw[<-av]at ai;clear av aL dd;have ap:=ai.o.facts;have eP:M<=200:=by have:=aN.o.1;omega
    have cf:z.length<=200:=by have:=aN.o.2;omega
    have eV:=ap.2.2.2.2.2.1;have eW:=ap.2.2.2.2.2.2.1 8 aa;have em:=ag ap.1;have ah:=ag ap.2.1;have di:=ag (Kw ap.2.2.2.2.2.2.1 aa);have aO:=ag (ac.o Pb ap.2.2.2.2.2.2.2);have ao:aW<=400:=by have:=ah.o;omega
    obtain⟨aS,cg⟩:∃aS,aS=wk+(q:Int):=⟨_,rfl⟩;have eU:IntKind.i64.wrap (wk+(q:Int))=aS:=by rw[iQ _ aa];exact cg.symm
    rw[<-cg]at ai di eV eW;clear ap cg
    go_upto_region 11 with fail
    clear eU
    go_cut [11,12]from 51 to 54 (fun eZ cv bb=>eZ=.int .i64 (z.length:Nat)/\cv=aj w4.heap.size/\Hid (Below w4.heap.size w4 bb)/\Hid (bb.heap[w4.heap.size]? =some (OX (j,u,t,y,ob))))
    case first=>
     have ea:=ag (SE (ai.o.below (w':=w4.drew) (aI _ _).drew));have eb:=ag (SE (ai.o.below (w':=(w4.alloc (.cells #[ae 0,ae 0,ae 0,ae 0,ak 0] 38)).drew) ((aI _ _).alloc (aB _) _).drew));have eX:=(aY.1 ar.o).1;have c2:Hid ((w4.alloc (.cells #[ae 0,ae 0,ae 0,ae 0,ak 0] 38)).drew.heap[r.heap.size]? =some (.cells #[.int .u8 Q,ae S,ae T,ak R,ae j,ae u,ae t,ae y,ak ob,.int .u8 E] 49 (0,0))):=(bL w4 _ _ eX).trans ar.o;have eK:∀p:iD (fun W:World=>W.heap[r.heap.size]? =some (.cells #[.int .u8 Q,ae S,ae T,ak R,ae j,ae u,ae t,ae y,ak ob,.int .u8 E] 49 (0,0))),p.W.cell? (af r.heap.size 4)=some (ae j):=fun p=>aD p.h;have eL:∀p:iD (fun W:World=>W.heap[r.heap.size]? =some (.cells #[.int .u8 Q,ae S,ae T,ak R,ae j,ae u,ae t,ae y,ak ob,.int .u8 E] 49 (0,0))),p.W.cell? (af r.heap.size 5)=some (ae u):=fun p=>aD p.h;have eM:∀p:iD (fun W:World=>W.heap[r.heap.size]? =some (.cells #[.int .u8 Q,ae S,ae T,ak R,ae j,ae u,ae t,ae y,ak ob,.int .u8 E] 49 (0,0))),p.W.cell? (af r.heap.size 6)=some (ae t):=fun p=>aD p.h;have eN:∀p:iD (fun W:World=>W.heap[r.heap.size]? =some (.cells #[.int .u8 Q,ae S,ae T,ak R,ae j,ae u,ae t,ae y,ak ob,.int .u8 E] 49 (0,0))),p.W.cell? (af r.heap.size 7)=some (ae y):=fun p=>aD p.h;have eO:∀p:iD (fun W:World=>W.heap[r.heap.size]? =some (.cells #[.int .u8 Q,ae S,ae T,ak R,ae j,ae u,ae t,ae y,ak ob,.int .u8 E] 49 (0,0))),p.W.cell? (af r.heap.size 8)=some (ak ob):=fun p=>aD p.h;refine au (fun W=>∃p:iD (fun W:World=>W.heap[r.heap.size]? =some (.cells #[.int .u8 Q,ae S,ae T,ak R,ae j,ae u,ae t,ae y,ak ob,.int .u8 E] 49 (0,0))),W=p.W) [6] [(0,false),(2,false),(3,true)] ⟨⟨w4.drew,ar.o⟩,rfl⟩ 4 ?_;clear eK eL eM eN eO;refine ig 1 4 rfl rfl (fun K b=>?_) (fun K b=>?_)
     .refine aT Ee rfl _ _ rfl (vals:=#[aj Pb]) rfl ea.o ?_;rintro e V ⟨rfl,rfl⟩;refine⟨_,rfl,?_⟩;refine b _ _ (fun h _=>h) ?_;clear b K;refine aC 4 rfl fun K b=>?_;go_simp;refine b _ _ (fun _ _=>⟨⟨_,c2.o⟩,rfl⟩) ?_;clear b K;refine aC 5 rfl fun K b=>?_;go_simp;refine b _ _ (fun h _=>h) ?_;clear b K;refine aG [6] ?_;refine rE rfl 38 (.tmp 12) (.tmp 54) rfl rfl w4.heap.size #[ae j,ae u,ae t,ae y,ak ob] rfl rfl _ _ (jr w4 (.cells #[ae 0,ae 0,ae 0,ae 0,ak 0] 38)) aM rfl (by simp[Value.oneCell']) ?_;have bc:=ag (yu (((aI w4.heap.size w4).alloc (aB _) (.cells #[ae 0,ae 0,ae 0,ae 0,ak 0] 38)).drew) (aB w4.heap.size) #[ae j,ae u,ae t,ae y,ak ob]);have bm:=ag (p8 _ w4.heap.size _ #[ae j,ae u,ae t,ae y,ak ob] _ _ (jr w4 (.cells #[ae 0,ae 0,ae 0,ae 0,ak 0] 38)))
      go_wp2_with fail
      go_meet;exact⟨rfl,rfl,bc,bm⟩
     .go_simp;refine b _ _ (fun _ _=>⟨⟨_,c2.o⟩,rfl⟩) ?_;clear b K;refine aC 1 rfl fun K b=>?_;refine aT Ee rfl _ _ rfl (vals:=#[aj Pb]) rfl eb.o ?_;rintro e V ⟨rfl,rfl⟩;refine⟨_,rfl,?_⟩;refine b _ _ (fun h _=>h) ?_;clear b K;refine aC 5 rfl fun K b=>?_;go_simp;refine b _ _ (fun h _=>h) ?_;clear b K;refine aG [6] ?_;refine rE rfl 38 (.tmp 12) (.tmp 54) rfl rfl w4.heap.size #[ae j,ae u,ae t,ae y,ak ob] rfl rfl _ _ (jr w4 (.cells #[ae 0,ae 0,ae 0,ae 0,ak 0] 38)) aM rfl (by simp[Value.oneCell']) ?_;have bc:=ag (yu (((aI w4.heap.size w4).alloc (aB _) (.cells #[ae 0,ae 0,ae 0,ae 0,ak 0] 38)).drew) (aB w4.heap.size) #[ae j,ae u,ae t,ae y,ak ob]);have bm:=ag (p8 _ w4.heap.size _ #[ae j,ae u,ae t,ae y,ak ob] _ _ (jr w4 (.cells #[ae 0,ae 0,ae 0,ae 0,ak 0] 38)))
      go_wp2_with fail
      go_meet;exact⟨rfl,rfl,bc,bm⟩
    case rest=>
     obtain⟨rfl,rfl,aF,aV⟩:=hcut;obtain⟨V,e⟩:∃V:World,V=wc:=⟨_,rfl⟩;subst e;have fD:=aF.o.size;have ff:=(aY.1 aV.o).1;have dg:=ag (ai.o.below aF.o);have be:=ag (bd.o.trans (aF.o.mono bd.o.size));have dj:=ag ((aP aF.o ar.o).trans ar.o);have an:Hid (∀k,D k->w.heap.size<=k/\k<V.heap.size):=fun k h=>⟨(ac.o k h).1,by have:=(ac.o k h).2.1;omega⟩;have g:Hid (w.heap.size<=Pb/\Pb<V.heap.size/\Pb≠r.heap.size/\Pb<w4.heap.size):=⟨aO.o.1,by have:=aO.o.2.1;omega,aO.o.2.2,aO.o.2.1⟩;have fo:w.heap.size<=V.heap.size:=be.o.size;clear ai bd ar ac aO aF;obtain⟨ay,cc⟩:∃A,A=eD (ids (z.filter (Dc j u t y))):=⟨_,rfl⟩;obtain⟨aA,cd⟩:∃A,A=eD (ids (z.filter (xw j u t))):=⟨_,rfl⟩;obtain⟨aE,ce⟩:∃A,A=eD (ids (z.filter (FM j t E))):=⟨_,rfl⟩;have fp:ay.length<=200:=by rw[cc];exact wh cf _
     have fq:aA.length<=200:=by rw[cd];exact wh cf _
     have fr:aE.length<=200:=by rw[ce];exact wh cf _
     have ec:=ag cc;have ed:=ag cd;have ee:=ag ce;clear cc cd ce;obtain⟨F,H,I,B,J⟩:=iX aV.o;simp only at F H I B J;have C:=(by have c:=Ij dg.o j u t y ob;rw[<-ec.o]at c;exact c:Calls _ _ _ _ (CK _ _ _ _ _ _ _ _ ay));have d:=ag C;clear C
     go_wp2_with fail
     refine d.o.mono ?_;rintro e cC ⟨v,t1,rfl,Z,O,b,hP⟩;have fE:=b.size;have c5:=ag O;have bf:=ag (bq b aV.o (fun h=>by have:=g.o;omega));clear aV;have dk:=ag (bq b dj.o (fun h=>by have:=g.o;omega));clear dj;have bR:=ag (dm Z (show V.heap.size<=V.heap.size by omega));obtain⟨e7,dJ,rfl,-,-,-⟩:=Rd.aJ (l:=ay) Z;clear Z;have dq:=ag hP;have cF:=ag (be.o.trans (b.toBelow (show w.heap.size<=V.heap.size by omega) (fun k h=>by have:=g.o;omega)));clear dg be b hP O d;have bn:Hid (∀k,D k->w.heap.size<=k/\k<cC.heap.size):=fun k h=>⟨(an.o k h).1,by have:=(an.o k h).2;omega⟩;clear an;clear F H I B J;obtain⟨F,H,I,B,J⟩:=iX bf.o;simp only at F H I B J;have C:=(by have c:=Lu dq.o j u t;rw[<-ed.o]at c;exact c:Calls _ _ _ _ (CK _ _ _ _ _ _ _ _ aA));have d:=ag C;clear C
     go_wp2_with fail
     refine d.o.mono ?_;rintro e a8 ⟨v,t2,rfl,Z,O,b,hP⟩;have fP:=b.size;have c6:=ag O;have bS:=ag (aR bR.o b (fun x e h=>by have:=(bR.o.lt x e).1;have:=g.o;omega));clear bR;have bg:=ag (bq b bf.o (fun h=>by have:=g.o;omega));clear bf;have bJ:=ag (bq b dk.o (fun h=>by have:=g.o;omega));clear dk;have bZ:=ag (dm Z (show V.heap.size<=cC.heap.size by omega));obtain⟨e8,dL,rfl,-,-,-⟩:=Rd.aJ (l:=aA) Z;clear Z;have dy:=ag hP;have cP:=ag (cF.o.trans (b.toBelow (show w.heap.size<=cC.heap.size by omega) (fun k h=>by have:=g.o;omega)));clear dq cF b hP O d;have bz:Hid (∀k,D k->w.heap.size<=k/\k<a8.heap.size):=fun k h=>⟨(bn.o k h).1,by have:=(bn.o k h).2;omega⟩;clear bn;clear F H I B J;obtain⟨F,H,I,B,J⟩:=iX bg.o;simp only at F H I B J;have cl:a8.cell? (af r.heap.size 9)=some (.int .u8 E):=aD bJ.o;have C:=(by have c:=Ik dy.o j t E df.o;rw[<-ee.o]at c;exact c:Calls _ _ _ _ (CK _ _ _ _ _ _ _ _ aE));have d:=ag C;clear C
     go_wp2_with fail
     refine d.o.mono ?_;rintro e d5 ⟨v,t3,rfl,Z,O,b,hP⟩;have fQ:=b.size;have c7:=ag O;have bT:=ag (aR bS.o b (fun x e h=>by have:=(bS.o.lt x e).1;have:=g.o;omega));clear bS;have b0:=ag (aR bZ.o b (fun x e h=>by have:=(bZ.o.lt x e).1;have:=g.o;omega));clear bZ;have bh:=ag (bq b bg.o (fun h=>by have:=g.o;omega));clear bg;have dl:=ag (bq b bJ.o (fun h=>by have:=g.o;omega));clear bJ;have b4:=ag (dm Z (show V.heap.size<=a8.heap.size by omega));obtain⟨e9,dM,rfl,-,-,-⟩:=Rd.aJ (l:=aE) Z;clear Z;have dz:=ag hP;have cQ:=ag (cP.o.trans (b.toBelow (show w.heap.size<=a8.heap.size by omega) (fun k h=>by have:=g.o;omega)));clear dy cP b hP O d;have bA:Hid (∀k,D k->w.heap.size<=k/\k<d5.heap.size):=fun k h=>⟨(bz.o k h).1,by have:=(bz.o k h).2;omega⟩;clear bz;clear F H I B J;clear cl;obtain⟨F,H,I,B,J⟩:=iX bh.o;simp only at F H I B J;have C:=R7 dz.o j u t y ob;have d:=ag C;clear C
     go_wp2_with fail
     refine d.o.mono ?_;rintro e d6 ⟨t4,rfl,O,b,hP⟩;have fR:=b.size;have c8:=ag O;have bU:=ag (aR bT.o b (fun x e h=>by have:=(bT.o.lt x e).1;have:=g.o;omega));clear bT;have b1:=ag (aR b0.o b (fun x e h=>by have:=(b0.o.lt x e).1;have:=g.o;omega));clear b0;have b5:=ag (aR b4.o b (fun x e h=>by have:=(b4.o.lt x e).1;have:=g.o;omega));clear b4;have bi:=ag (bq b bh.o (fun h=>by have:=g.o;omega));clear bh;have dn:=ag (bq b dl.o (fun h=>by have:=g.o;omega));clear dl;have dA:=ag hP;have cR:=ag (cQ.o.trans (b.toBelow (show w.heap.size<=d5.heap.size by omega) (fun k h=>by have:=g.o;omega)));clear dz cQ b hP O d;have ac:Hid (∀k,D k->w.heap.size<=k/\k<d6.heap.size):=fun k h=>⟨(bA.o k h).1,by have:=(bA.o k h).2;omega⟩;clear bA;clear F H I B J;obtain⟨F,H,I,B,J⟩:=iX bi.o;simp only at F H I B J;have C:=Vs dA.o j u t;have d:=ag C;clear C
     go_wp2_with fail
     refine d.o.mono ?_;rintro e cE ⟨t5,rfl,O,b,hP⟩;have fS:=b.size;have c9:=ag O;have bV:=ag (aR bU.o b (fun x e h=>by have:=(bU.o.lt x e).1;have:=g.o;omega));clear bU;have b2:=ag (aR b1.o b (fun x e h=>by have:=(b1.o.lt x e).1;have:=g.o;omega));clear b1;have b6:=ag (aR b5.o b (fun x e h=>by have:=(b5.o.lt x e).1;have:=g.o;omega));clear b5;have bj:=ag (bq b bi.o (fun h=>by have:=g.o;omega));clear bi;have bK:=ag (bq b dn.o (fun h=>by have:=g.o;omega));clear dn;have dB:=ag hP;have cS:=ag (cR.o.trans (b.toBelow (show w.heap.size<=d6.heap.size by omega) (fun k h=>by have:=g.o;omega)));clear dA cR b hP O d;have an:Hid (∀k,D k->w.heap.size<=k/\k<cE.heap.size):=fun k h=>⟨(ac.o k h).1,by have:=(ac.o k h).2;omega⟩;clear ac;clear F H I B J;obtain⟨F,H,I,B,J⟩:=iX bj.o;simp only at F H I B J;have cl:cE.cell? (af r.heap.size 9)=some (.int .u8 E):=aD bK.o;have C:=Nt dB.o j t E df.o;have d:=ag C;clear C
     go_wp2_with fail
     refine d.o.mono ?_;rintro e d7 ⟨t6,rfl,O,b,hP⟩;have fT:=b.size;have da:=ag O;have bX:=ag (aR bV.o b (fun x e h=>by have:=(bV.o.lt x e).1;have:=g.o;omega));clear bV;have b3:=ag (aR b2.o b (fun x e h=>by have:=(b2.o.lt x e).1;have:=g.o;omega));clear b2;have b7:=ag (aR b6.o b (fun x e h=>by have:=(b6.o.lt x e).1;have:=g.o;omega));clear b6;have bk:=ag (bq b bj.o (fun h=>by have:=g.o;omega));clear bj;have dp:=ag (bq b bK.o (fun h=>by have:=g.o;omega));clear bK;have dD:=ag hP;have cT:=ag (cS.o.trans (b.toBelow (show w.heap.size<=cE.heap.size by omega) (fun k h=>by have:=g.o;omega)));clear dB cS b hP O d;have bB:Hid (∀k,D k->w.heap.size<=k/\k<d7.heap.size):=fun k h=>⟨(an.o k h).1,by have:=(an.o k h).2;omega⟩;clear an;clear F H I B J;clear cl;obtain⟨lo,dX⟩:∃o,o=sW z j u:=⟨_,rfl⟩;obtain⟨F,H,I,B,J⟩:=iX bk.o;simp only at F H I B J;have C:=(by have c:=Io dD.o j u;rw[<-dX]at c;exact c:Calls _ _ _ _ (SF _ _ _ _ _ _ _ _ lo));have d:=ag C;clear C
     go_wp2_with fail
     refine d.o.mono ?_;rintro e am ⟨t7,rfl,O,b,hP⟩;have fU:=b.size;have db:=ag O;have dG:=ag (aR bX.o b (fun x e h=>by have:=(bX.o.lt x e).1;have:=g.o;omega));clear bX;have dH:=ag (aR b3.o b (fun x e h=>by have:=(b3.o.lt x e).1;have:=g.o;omega));clear b3;have dI:=ag (aR b7.o b (fun x e h=>by have:=(b7.o.lt x e).1;have:=g.o;omega));clear b7;have bl:=ag (bq b bk.o (fun h=>by have:=g.o;omega));clear bk;have bM:=ag (bq b dp.o (fun h=>by have:=g.o;omega));clear dp;have dE:=ag hP;have cU:=ag (cT.o.trans (b.toBelow (show w.heap.size<=d7.heap.size by omega) (fun k h=>by have:=g.o;omega)));clear dD cT b hP O d;have bC:Hid (∀k,D k->w.heap.size<=k/\k<am.heap.size):=fun k h=>⟨(bB.o k h).1,by have:=(bB.o k h).2;omega⟩;clear bB;clear F H I B J;clear dX;have ab:Hid (Below am.heap.size am (am.alloc (.cells #[ae (lo.getD (0,0,0)).1,ae (lo.getD (0,0,0)).2.1,ak (lo.getD (0,0,0)).2.2] 29))):=(aI _ _).alloc (aB _) _;have ek:Hid ((am.alloc (.cells #[ae (lo.getD (0,0,0)).1,ae (lo.getD (0,0,0)).2.1,ak (lo.getD (0,0,0)).2.2] 29)).heap[am.heap.size]? =some (Ai ((lo.getD (0,0,0)).1,(lo.getD (0,0,0)).2.1,(lo.getD (0,0,0)).2.2))):=bW _ _
     go_upto_region 19 with fail
     generalize am.alloc (.cells #[ae (lo.getD (0,0,0)).1,ae (lo.getD (0,0,0)).2.1,ak (lo.getD (0,0,0)).2.2] 29)=a9 at*;have fV:=ab.o.size;have eq:=ag (az dG.o ab.o);clear dG;have er:=ag (az dH.o ab.o);clear dH;have es:=ag (az dI.o ab.o);clear dI;have eg:=ag ((aP ab.o bl.o).trans bl.o);clear bl;have ep:=ag ((aP ab.o bM.o).trans bM.o);clear bM;have bQ:=ag (dE.o.below ab.o);have cV:=ag (cU.o.trans (ab.o.mono (show w.heap.size<=am.heap.size by omega)));clear dE cU;have bE:Hid (∀k,D k->w.heap.size<=k/\k<a9.heap.size):=fun k h=>⟨(bC.o k h).1,by have:=(bC.o k h).2;omega⟩;clear bC;clear ab;clear eg ep ek;clear eq er es;have u1:=jI c5.o ao aa;have u2:=jI c6.o ao aa;have u3:=jI c7.o ao aa;have u4:=jI c8.o ao aa;have u5:=jI c9.o ao aa;have u6:=jI da.o ao aa;have u7:=jI db.o ao aa;obtain⟨cm,eC⟩:∃s:Nat,s=t1+t2:=⟨_,rfl⟩;have y2:IntKind.i64.wrap ((t1:Int)+(t2:Int))=(cm:Int):=by rw[iQ _ aa];omega
     obtain⟨cn,eE⟩:∃s:Nat,s=cm+t3:=⟨_,rfl⟩;have e0:IntKind.i64.wrap ((cm:Int)+(t3:Int))=(cn:Int):=by rw[iQ _ aa];omega
     obtain⟨co,eF⟩:∃s:Nat,s=cn+t4:=⟨_,rfl⟩;have e1:IntKind.i64.wrap ((cn:Int)+(t4:Int))=(co:Int):=by rw[iQ _ aa];omega
     obtain⟨cp,eG⟩:∃s:Nat,s=co+t5:=⟨_,rfl⟩;have e2:IntKind.i64.wrap ((co:Int)+(t5:Int))=(cp:Int):=by rw[iQ _ aa];omega
     obtain⟨cq,eH⟩:∃s:Nat,s=cp+t6:=⟨_,rfl⟩;have e3:IntKind.i64.wrap ((cp:Int)+(t6:Int))=(cq:Int):=by rw[iQ _ aa];omega
     obtain⟨cr,eI⟩:∃s:Nat,s=cq+t7:=⟨_,rfl⟩;have e4:IntKind.i64.wrap ((cq:Int)+(t7:Int))=(cr:Int):=by rw[iQ _ aa];omega
     obtain⟨aQ,a1⟩:∃aQ,aQ=wrap64 (eB+(cr:Int)):=⟨_,rfl⟩;have e5:IntKind.i64.wrap (eB+(cr:Int))=aQ:=by rw[IntWalk.i64_left];exact a1.symm
     have dZ:wrap64 (wrap64 (wrap64 (wrap64 (wrap64 (wrap64 (wrap64 (eB+(t1:Int))+(t2:Int))+(t3:Int))+(t4:Int))+(t5:Int))+(t6:Int))+(t7:Int))=aQ:=by
      rw[a1];simp only[Ky];congr 1;omega
     rw[dZ]at bQ;have e6:=ag a1;clear dZ a1 eC eE eF eG eH eI
     go_upto_region 20 with fail
     clear y2 e0 e1 e2 e3 e4 e5;have d:=ag ((show aK 30 #[ae ay.length,ae t1,ae z.length] a9 _ from CP ay.length t1 z.length aa aa aa (kV c5.o (by have:=ah.o;omega) aa) a9))
     go_wp2_with fail
     refine d.o.mono ?_;rintro e ba ⟨rfl,f⟩;have fW:=f.size;have dF:=ag (bQ.o.below f);have cW:=ag (cV.o.trans (f.mono (show w.heap.size<=a9.heap.size by omega)));clear bQ cV;have bG:Hid (∀k,D k->w.heap.size<=k/\k<ba.heap.size):=fun k h=>⟨(bE.o k h).1,by have:=(bE.o k h).2;omega⟩;clear bE;clear f d;have d:=ag ((show aK 30 #[ae aA.length,ae t2,ae z.length] ba _ from CP aA.length t2 z.length aa aa aa (kV c6.o (by have:=ah.o;omega) aa) ba))
     go_wp2_with fail
     refine d.o.mono ?_;rintro e a3 ⟨rfl,f⟩;have fF:=f.size;have dr:=ag (dF.o.below f);have cG:=ag (cW.o.trans (f.mono (show w.heap.size<=ba.heap.size by omega)));clear dF cW;have bo:Hid (∀k,D k->w.heap.size<=k/\k<a3.heap.size):=fun k h=>⟨(bG.o k h).1,by have:=(bG.o k h).2;omega⟩;clear bG;clear f d;have d:=ag ((show aK 30 #[ae aE.length,ae t3,ae z.length] a3 _ from CP aE.length t3 z.length aa aa aa (kV c7.o (by have:=ah.o;omega) aa) a3))
     go_wp2_with fail
     refine d.o.mono ?_;rintro e a4 ⟨rfl,f⟩;have fG:=f.size;have ds:=ag (dr.o.below f);have cH:=ag (cG.o.trans (f.mono (show w.heap.size<=a3.heap.size by omega)));clear dr cG;have bp:Hid (∀k,D k->w.heap.size<=k/\k<a4.heap.size):=fun k h=>⟨(bo.o k h).1,by have:=(bo.o k h).2;omega⟩;clear bo;clear f d;have d:=ag ((show aK 30 #[ae 0,ae t4,ae z.length] a4 _ from CP 0 t4 z.length aa aa aa (kV c8.o (by have:=ah.o;omega) aa) a4))
     go_wp2_with fail
     refine d.o.mono ?_;rintro e a5 ⟨rfl,f⟩;have fH:=f.size;have dt:=ag (ds.o.below f);have cI:=ag (cH.o.trans (f.mono (show w.heap.size<=a4.heap.size by omega)));clear ds cH;have br:Hid (∀k,D k->w.heap.size<=k/\k<a5.heap.size):=fun k h=>⟨(bp.o k h).1,by have:=(bp.o k h).2;omega⟩;clear bp;clear f d;have d:=ag ((show aK 30 #[ae 0,ae t5,ae z.length] a5 _ from CP 0 t5 z.length aa aa aa (kV c9.o (by have:=ah.o;omega) aa) a5))
     go_wp2_with fail
     refine d.o.mono ?_;rintro e a6 ⟨rfl,f⟩;have fI:=f.size;have du:=ag (dt.o.below f);have cJ:=ag (cI.o.trans (f.mono (show w.heap.size<=a5.heap.size by omega)));clear dt cI;have bs:Hid (∀k,D k->w.heap.size<=k/\k<a6.heap.size):=fun k h=>⟨(br.o k h).1,by have:=(br.o k h).2;omega⟩;clear br;clear f d;have d:=ag ((show aK 30 #[ae 0,ae t6,ae z.length] a6 _ from CP 0 t6 z.length aa aa aa (kV da.o (by have:=ah.o;omega) aa) a6))
     go_wp2_with fail
     refine d.o.mono ?_;rintro e a7 ⟨rfl,f⟩;have fJ:=f.size;have dv:=ag (du.o.below f);have cK:=ag (cJ.o.trans (f.mono (show w.heap.size<=a6.heap.size by omega)));clear du cJ;have bt:Hid (∀k,D k->w.heap.size<=k/\k<a7.heap.size):=fun k h=>⟨(bs.o k h).1,by have:=(bs.o k h).2;omega⟩;clear bs;clear f d;have d:=ag ((show aK 30 #[ae 0,ae t7,ae z.length] a7 _ from CP 0 t7 z.length aa aa aa (kV db.o (by have:=ah.o;omega) aa) a7))
     go_wp2_with fail
     refine d.o.mono ?_;rintro e d1 ⟨rfl,f⟩;have fK:=f.size;have bN:=ag (dv.o.below f);have cL:=ag (cK.o.trans (f.mono (show w.heap.size<=a7.heap.size by omega)));clear dv cK;have bu:Hid (∀k,D k->w.heap.size<=k/\k<d1.heap.size):=fun k h=>⟨(bt.o k h).1,by have:=(bt.o k h).2;omega⟩;clear bt;clear f d
     go_upto_region 22 with fail
     have d:=ag (Un bN.o)
     go_wp2_with fail
     refine d.o.mono ?_;rintro e cD ⟨rfl,f⟩;have fL:=f.size;have dw:=ag (bN.o.below f);have cM:=ag (cL.o.trans (f.mono (show w.heap.size<=d1.heap.size by omega)));clear bN cL;have bv:Hid (∀k,D k->w.heap.size<=k/\k<cD.heap.size):=fun k h=>⟨(bu.o k h).1,by have:=(bu.o k h).2;omega⟩;clear bu;clear f d;have fh:=Ip (n:=(M:Int)+1) aa;have cY:=ag (UT ((M:Int)+1) cD aa);generalize nM ((M:Int)+1)=k at*;have ft:IntKind.i64.wrap ((M:Int)+1)=(M:Int)+1:=iQ _ aa;obtain⟨aw,dQ⟩:∃aw:Nat,aw=k+2:=⟨_,rfl⟩;have fu:IntKind.i64.wrap ((k:Int)+2)=(aw:Int):=by rw[iQ _ aa];omega
     obtain⟨ax,aX⟩:∃ax:Nat,ax=M*aw:=⟨_,rfl⟩;have eS:ax<=200*66:=by rw[aX];exact Nat.mul_le_mul eP aa
     have fv:IntKind.i64.wrap ((M:Int)*(aw:Int))=(ax:Int):=by
      have:((M:Int)*(aw:Int))=(ax:Int):=by rw[aX];simp
      rw[this,iQ _ aa]
     have fx:decide ((ax:Int)<aS)=false:=by
      have:=di.o;rw[<-dQ,<-aX]at this;simp only[gT];omega
     have fy:decide (aW<(z.length:Int))=false:=by have:=em.o;simp only[gT];omega
     obtain⟨d0,eJ⟩:∃k:Nat,k=2*z.length:=⟨_,rfl⟩;have fz:IntKind.i64.wrap (2*(z.length:Int))=(d0:Int):=by rw[iQ _ aa];omega
     have fA:decide ((d0:Int)<aW)=false:=by have:=ah.o;simp only[gT];omega
     clear dQ aX eS eJ;have d:=ag (cY.o)
     go_wp2_with fail
     refine d.o.mono ?_;rintro e d2 ⟨rfl,f⟩;have fM:=f.size;have bO:=ag (dw.o.below f);have cN:=ag (cM.o.trans (f.mono (show w.heap.size<=cD.heap.size by omega)));clear dw cM;have bw:Hid (∀k,D k->w.heap.size<=k/\k<d2.heap.size):=fun k h=>⟨(bv.o k h).1,by have:=(bv.o k h).2;omega⟩;clear bv;clear f d;clear cY;have d:=ag (CO bO.o)
     go_wp2_with fail
     refine d.o.mono ?_;rintro e d3 ⟨rfl,f⟩;have fN:=f.size;have bP:=ag (bO.o.below f);have cO:=ag (cN.o.trans (f.mono (show w.heap.size<=d2.heap.size by omega)));clear bO cN;have bx:Hid (∀k,D k->w.heap.size<=k/\k<d3.heap.size):=fun k h=>⟨(bw.o k h).1,by have:=(bw.o k h).2;omega⟩;clear bw;clear f d;have d:=ag (CO bP.o)
     go_wp2_with fail
     refine d.o.mono ?_;rintro e d4 ⟨rfl,f⟩;have fO:=f.size;have dx:=ag (bP.o.below f);have d9:=ag (cO.o.trans (f.mono (show w.heap.size<=d3.heap.size by omega)));clear bP cO;have ej:Hid (∀k,D k->w.heap.size<=k/\k<d4.heap.size):=fun k h=>⟨(bx.o k h).1,by have:=(bx.o k h).2;omega⟩;clear bx;clear f d;have d:=ag (Ny dx.o)
     go_wp2_with fail
     refine d.o.mono ?_;rintro e fC ⟨rfl,aU⟩;have ca:=aU.symm;clear aU;subst ca;clear d;have el:=ag aN.o;have eY:w2.heap.size<=d4.heap.size:=aa;go_wp2;go_roundw
     case rel=>exact⟨i+1,D,M,z,aW,aS,aQ,rfl,rfl,rfl,by go_num,aa,eY,el,dx,ej,d9⟩
     case measure=>exact eT
  .obtain rfl:i=P.length:=aa
   go_wp2_with fail
   refine(d8.o _).mono ?_;rintro e fB ⟨rfl,dT⟩;have ef:=ag (ad.o.trans (dT.mono ad.o.size));clear dT;go_wp2;go_ret;exact⟨rfl,ef.o⟩
end
section
open Go.RowKit Go.ChangeShapes Go.WideShapes Go.Deep
theorem Sd:Tryz.prog.cellsOf 79=4/\Tryz.prog.cellsOf 4=1/\Tryz.prog.cellsOf 29=3/\Tryz.prog.cellsOf 2=1/\Tryz.prog.cellsOf 27=1:=⟨aM,aM,aM,aM,aM⟩
theorem Qs {H:Type} {enc:TypeId×Value->H} {w:World} {base:Nat} {spare:Nat->Bool} {held:Bool} {fuel:Nat} {a b c:Value} {x:DataW H×List MemPlace} (h:DataW.trod enc prog w base spare held fuel 29 [a,b,c]=some x):
  ∃p:Int×Int×Int,a=.int .i64 p.1/\b=.int .i64 p.2.1/\c=.int .u32 p.2.2/\(Lit.int .i64 p.1).wf=true/\(Lit.int .i64 p.2.1).wf=true/\(Lit.int .u32 p.2.2).wf=true:=by
 obtain⟨-,-,-,m1,m2⟩:=Sd;obtain⟨o,y1,y2,n,-,-,t0,t1,t2⟩:=trod_struct3 underlying29 h;simp only[m1,m2,kF,uL,pz,lQ]at t0 t1 t2;have⟨k,d,_,g⟩:=nV underlying2 t0;have⟨l,e,_,i⟩:=nV underlying2 t1;have⟨m,f,_,j⟩:=nV underlying27 t2;simp only[rP,rV]at d e f;exact⟨(k,l,m),d,e,f,g,i,j⟩
theorem LB:Tryz.prog.cellsOf 49=10/\Tryz.prog.cellsOf 5=1/\Tryz.prog.cellsOf 29=3/\Tryz.prog.cellsOf 38=5/\Tryz.prog.cellsOf 2=1/\Tryz.prog.cellsOf 27=1:=⟨aM,aM,aM,aM,aM,aM⟩
section
variable {H:Type} {enc:TypeId×Value->H} {w:World} {base:Nat} {spare:Nat->Bool} {held:Bool} {fuel:Nat}
theorem CV {P:Program} {t:TypeId} {a:Array Field} {cs:List Value} {x:DataW H×List MemPlace} (ht:P.underlying t=some (.struct a)) (h:DataW.trod enc P w base spare held fuel t cs=some x):
  ∃n,∀(i:Nat) (f:Field),a[i]? =some f->∃y,DataW.trod enc P w base spare held n f.type ((cs.drop f.offset).take (P.cellsOf f.type))=some y:=by
 have⟨xs,n,_,_,_,d,b⟩:=DataW.trod_struct ht h;refine⟨n,fun i f hi=>?_⟩;have c:i<a.size:=(aY.1 hi).1;exact⟨xs[i]'aa,(b i f hi).trans (cB aa)⟩
theorem Qt {b c d e f:Value} {x:DataW H×List MemPlace} (h:DataW.trod enc prog w base spare held fuel 38 [b,c,d,e,f]=some x):
  ∃p:Bx,b=.int .i64 p.1/\c=.int .i64 p.2.1/\d=.int .i64 p.2.2.1/\e=.int .i64 p.2.2.2.1/\f=.int .u32 p.2.2.2.2/\p.wf:=by
 obtain⟨-,-,-,-,m1,m2⟩:=LB;have⟨n,a⟩:=CV underlying38 h;have⟨A,t0⟩:=a 0 _ rfl;simp only[xS,nE,m1,kF,pz,lQ]at t0;have⟨t,g,_,m⟩:=nV underlying2 t0;simp only[rP,rV]at g;have⟨y1,t1⟩:=a 1 _ rfl;simp only[xS,nE,uH,m1,kF,uL,pz,lQ]at t1;have⟨u,i,_,o⟩:=nV underlying2 t1;simp only[rP,rV]at i;have⟨y2,t2⟩:=a 2 _ rfl;simp only[xS,nE,uH,m1,kF,uL,pz,lQ]at t2;have⟨v,j,_,q⟩:=nV underlying2 t2;simp only[rP,rV]at j;have⟨B,t3⟩:=a 3 _ rfl;simp only[xS,nE,uH,m1,kF,uL,pz,lQ]at t3;have⟨y,k,_,r⟩:=nV underlying2 t3;simp only[rP,rV]at k;have⟨C,t4⟩:=a 4 _ rfl;simp only[xS,nE,uH,m2,kF,uL,pz,lQ]at t4;have⟨z,l,_,s⟩:=nV underlying27 t4;simp only[rP,rV]at l;exact⟨(t,u,v,y,z),g,i,j,k,l,m,o,q,r,s⟩
end
theorem KA {H:Type} {enc:TypeId×Value->H} {w:World} {base:Nat} {spare:Nat->Bool} {held:Bool} {fuel:Nat} {a:Option Addr} {g o:Nat} {x:DataW H×List MemPlace} (h:DataW.trod enc prog w base spare held fuel 47 [.slice a g o]=some x):
  ∃l:List Qx,l.length=g/\bY FV 10 w a l/\g<=o/\o<=maxLen/\∀x∈l,UB x:=by
 obtain⟨Y,m0,m3,X,-,-⟩:=LB;rcases open_slice underlying47 h with⟨f,_⟩|⟨ad,aw,ar,m,n,D,ab,f,_,Q,S,T,_,hi⟩
 .simp at f;obtain⟨rfl,rfl,rfl⟩:=f;exact⟨[],rfl,.nil,aB _,bD _,ay⟩
 .simp at f;obtain⟨rfl,rfl,rfl⟩:=f;have av:g<=m:=by rw[T];split<;>omega
  have⟨l,R,hp⟩:=Rc g (fun i (p:Qx)=>w.cell? (ad.add (i*10+0))=some (.int .u8 p.1)/\w.cell? (ad.add (i*10+1))=some (ae p.2.1.1)/\w.cell? (ad.add (i*10+2))=some (ae p.2.1.2.1)/\w.cell? (ad.add (i*10+3))=some (ak p.2.1.2.2)/\w.cell? (ad.add (i*10+4))=some (ae p.2.2.1.1)/\w.cell? (ad.add (i*10+5))=some (ae p.2.2.1.2.1)/\w.cell? (ad.add (i*10+6))=some (ae p.2.2.1.2.2.1)/\w.cell? (ad.add (i*10+7))=some (ae p.2.2.1.2.2.2.1)/\w.cell? (ad.add (i*10+8))=some (ak p.2.2.1.2.2.2.2)/\w.cell? (ad.add (i*10+9))=some (.int .u8 p.2.2.2)/\UB p) (fun i au=>by
   have⟨z,y,ht⟩:=hi i aa;rw[Y]at y;have⟨_,O,e⟩:=World.cells?_some y
   match z,O with
   |[ac,ag,ah,aj,al,am,an,ao,ap,aq],_=>
    have⟨ax,k⟩:=CV underlying49 ht;have⟨az,t0⟩:=k 0 _ rfl;have⟨y1,t1⟩:=k 1 _ rfl;have⟨y2,t2⟩:=k 2 _ rfl;have⟨aA,t3⟩:=k 3 _ rfl;simp only[xS,nE,uH,m0,m3,X,kF,uL,pz,lQ]at t0 t1 t2 t3;have⟨b,r,_,K⟩:=nV underlying5 t0;simp only[rP,rV]at r;have⟨p,A,B,C,L⟩:=Qs t1;have⟨q,E,F,G,I,J,M⟩:=Qt t2;have⟨d,s,_,N⟩:=nV underlying5 t3;simp only[rP,rV]at s;subst r A B C E F G I J s;exact⟨(b,p,q,d),by simpa[nY]using e 0 ai,by simpa[nY]using e 1 ai,by simpa[nY]using e 2 ai,by simpa[nY]using e 3 ai,by simpa[nY]using e 4 ai,by simpa[nY]using e 5 ai,by simpa[nY]using e 6 ai,by simpa[nY]using e 7 ai,by simpa[nY]using e 8 ai,by simpa[nY]using e 9 ai,K,L,M,N⟩)
  refine⟨l,R,?_,Q,S,fun x W=>?_⟩
  .by_cases t:l=[]
   .exact .inl t
   .obtain⟨b,off,Z⟩:=ad;have U:0<l.length:=Aw.2 t;have u:=(hp 0 U).1;have V:Z=none:=by simpa[Addr.add]using World.cell?_spot u
    subst V;have v:∀i,((af b off):Addr).add i=(af b (off+i)):=fun i=>by unfold Addr.add;split<;>simp_all
    refine .inr ⟨b,off,rfl,?_,fun i hi j P=>?_⟩
    .have:=gW w _ u;rw[v]at this;exact this
    .have c:=hp i hi;simp only[v]at c;rw[uX]
     match j,P with
     |0,_=>exact c.1
     |1,_=>exact c.2.1
     |2,_=>exact c.2.2.1
     |3,_=>exact c.2.2.2.1
     |4,_=>exact c.2.2.2.2.1
     |5,_=>exact c.2.2.2.2.2.1
     |6,_=>exact c.2.2.2.2.2.2.1
     |7,_=>exact c.2.2.2.2.2.2.2.1
     |8,_=>exact c.2.2.2.2.2.2.2.2.1
     |9,_=>exact c.2.2.2.2.2.2.2.2.2.1
  .obtain⟨i,hi,rfl⟩:=jo W;exact(hp i hi).2.2.2.2.2.2.2.2.2.2
end
end Go.Proofs.YtkjdbndekceffaaGreat
