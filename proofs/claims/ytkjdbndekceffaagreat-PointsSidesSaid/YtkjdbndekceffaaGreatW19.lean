/- Made small by a program. -/
import Derived.Test.YtkjdbndekceffaaGreatW18
set_option linter.unusedSimpArgs false
set_option linter.unusedVariables false
set_option maxRecDepth 100000
set_option maxHeartbeats 16000000
namespace Go.Proofs.YtkjdbndekceffaaGreat
open Tryz
section
open Go.RowKit Go.Sort Go.Shelf Go.Lib Go.Maps
attribute [local irreducible] wpQuiet
attribute [local go_sem] Oper.fw
theorem Kg (B:List (Nat×Nat×List Pt)) (i:Nat):iN B=iN (B.take i)++iN (B.drop i):=by
 unfold iN;rw[<-gZ,jD]
theorem Ed {B:List (Nat×Nat×List Pt)} {i:Nat} (hi:i<B.length):iN (B.take (i+1))=iN (B.take i)++B[i].2.2:=by
 unfold iN;rw[ik hi,gZ];simp
theorem CQ (B:List (Nat×Nat×List Pt)) (i:Nat):(iN (B.take i)).Sublist (iN B):=by
 rw[Kg B i];exact List.sublist_append_left _ _
theorem RX {l m:List Pt} (h:l.Sublist m) (a:lF m=true):lF l=true:=(iy l).2 (((iy m).1 a).sublist (h.map _))
theorem Ih {l m:List Pt} (h:l.Perm m) (a:lF m=true):lF l=true:=(iy l).2 ((show(ids l).Perm (ids m)from h.map _).nodup_iff.2 ((iy m).1 a))
theorem Qk {l m:List Pt} (h:l.Perm m) (a:lF m=true):bN l=bN m:=
 Ec (Ih h a) a fun p=>by rw[h.mem_iff,Dy (fun q=>h.mem_iff) p]
theorem bW.Uc {α:Type} {enc:α->List Value} {sz:Nat} {w w':World} {a:Option Addr} {l:List α} {S:Nat->Prop} (h:bW enc sz w a l) (K:ay S w w') (hS:∀x,a=some x->¬S x.block):bW enc sz w' a l:=by
 rcases h with h|⟨b,off,rfl,c,d⟩
 .exact .inl h
 .have e:=K.block b c (hS _ rfl);exact .inr ⟨b,off,rfl,bX c K.size,fun i hi j f=>(dC e).trans (d i hi j f)⟩
section
variable {w:World} {Pb m:Nat} {G:Nat->Prop} {now:List Pt} {N wk fD:Int}
theorem nA.clip {w1:World} {F:Nat->Nat->Prop} {B:List (Nat×Nat×List Pt)} (W:nA w1 G F B):nA w1 G (fun j k=>F j k/\j<B.length) B:=
 ⟨fun j a=>by
  have:(fun k=>F j k/\j<B.length)=F j:=by funext k;simp[a]
  rw[this];exact W.bk j a,fun j k h=>W.U7 j k h.1,fun i j k b c=>W.ap i j k b.1 c.1⟩
theorem nA.asked {w1 w2 w3:World} {F:Nat->Nat->Prop} {B:List (Nat×Nat×List Pt)} (W:nA w1 (fun k=>∃j,F j k) F B) (hF:∀j k,F j k->j<B.length) {i:Nat} (hi:i<B.length) (l:Bk w2 (fun k=>F i k\/w1.heap.size<=k/\k<w2.heap.size) B[i].1 B[i].2.1 B[i].2.2) (K:ay (F i) w1 w2) (a:Below w2.heap.size w2 w3):
  nA w3 (fun k=>∃j,F j k\/j=i/\w1.heap.size<=k/\k<w2.heap.size) (fun j k=>F j k\/j=i/\w1.heap.size<=k/\k<w2.heap.size) B:=by
 have b:∀j k,F j k->k<w1.heap.size:=fun j k h=>(W.bk j (hF j k h)).lt k h;refine⟨fun j m=>?_,fun j k h=>⟨j,h⟩,?_⟩
 .by_cases e:j=i
  .subst e;have:(fun k=>F j k\/j=j/\w1.heap.size<=k/\k<w2.heap.size)=fun k=>F j k\/w1.heap.size<=k/\k<w2.heap.size:=by funext k;simp
   rw[this];exact l.below a
  .have:(fun k=>F j k\/j=i/\w1.heap.size<=k/\k<w2.heap.size)=F j:=by funext k;simp[e]
   rw[this];exact((W.bk j m).kept K fun k f g=>e (W.ap j i k f g)).below a
 .rintro j c k (h|⟨e,h,-⟩) (h'|⟨d,h',-⟩)
  .exact W.ap j c k h h'
  .have:=b j k h;omega
  .have:=b c k h';omega
  .rw[e,d]
def Vm (w:World) (Pb:Nat) (G:Nat->Prop) (m:Nat) (now:List Pt) (N wk fD:Int) (e:Ending) (w':World):Prop:=
 ∃(v:Value) (G':Nat->Prop),e=.returned v/\w'.ownsRow w.heap.size 27 1 v (eu (ids (bN now))).length ((eu (ids (bN now))).map (Value.int .u32))/\ek w' Pb G' m now N wk fD/\ay G w w'/\∀k,G' k->(G k\/w.heap.size<=k)/\k<w'.heap.size/\v.ownBlock≠some k
theorem Sv (h:ek w Pb G m now N wk fD) (cf:m<=20000):
  aK 16 #[aj Pb] w (Vm w Pb G m now N wk fD):=by
 have aq:=h.facts;obtain⟨Hb,Ab,base,av,GH,SD,A,D,ALL,O,rfl,a4⟩:=h;have hu:lF (A.map (·.1))=true:=(iy _).2 aq.2.2.2.1;have aH:=af (mo O.blk);have aI:=af (K7 O.half.clip);have bH:w.cell? (ag Pb 0)=some (aj Hb):=aF O.blk;have f:=af O;have H:=af a4;have aX:=af hu;have a1:=af aq.2.2.2.2.1;have bZ:(A.map (·.1)).length<=20000:=aa;clear O a4 hu aq;go_enter func16,ntmps16
 go_wp2_with (go_at_call 55;refine aH.o.mono ?_;rintro e w1 ⟨rfl,a3⟩;have bM:=a3.symm;clear a3;subst bM)
 refine aI.o.mono ?_;rintro e w1 ⟨v,B,F,rfl,K,q,an,Q,-,-,b7,a8⟩;have bf:lF (iN B)=true:=Ih Q aX.o;have ce:(iN B).length<=20000:=by rw[Q.length_eq];exact bZ
 have bh:KW (iN B):=fun p hp=>by
  obtain⟨c,bS,rfl⟩:=dm.1 (Q.mem_iff.1 hp);exact(a1.o c.1 (nU bS)).2.2
 obtain⟨cp,cr,rfl,-,-,-⟩:=Rd.aD (enc:=Sn) K;have aU:=af K;have bp:=af q;have a0:=af an;have bs:=af a8;have bC:Hid (bN (iN B)=bN (A.map (·.1))):=Qk Q aX.o;have bD:=af bf;have bE:=af bh;have cg:=q.size;have ab:Hid (∀j k,F j k->GH k/\k<w.heap.size):=fun j k h=>an.U7 j k h;clear K q an Q a8 bf bh aI aH bH a1
 go_wp2_with fail
 go_loopw [3,17] (fun av E wr=>∃(i:Nat) (S:List Pt) (J:Option Addr) (ac:Nat) (g:Nat->Nat->Prop),av=.slice J S.length ac/\E=.int .i64 i/\i<=B.length/\S.length<=ac/\Hid (S=bN (iN (B.take i)))/\Hid (bW dw 3 wr J S)/\Hid (∀x,J=some x->∀j k,g j k->k≠x.block)/\Hid (nA wr (fun k=>∃j,g j k) g B)/\Hid (∀j k,g j k->j<B.length/\(F j k\/w1.heap.size<=k))/\Hid (ay (fun k=>∃j,F j k) w1 wr)) (fun _ E _=>B.length-(intOf E).toNat)
 case atStart=>exact⟨0,[],none,0,fun j k=>F j k/\j<B.length,rfl,rfl,aY _,aY _,by show[]=_;simp[iN,RV],.inl rfl,(fun x e=>by cases e),⟨a0.o.clip.bk,fun j k h=>⟨j,h⟩,a0.o.clip.ap⟩,fun j k h=>⟨h.2,.inl h.1⟩,ay.refl _ _⟩
 case round=>
  obtain⟨i,S,J,ac,g,rfl,rfl,hi,bR,n,aV,aQ,t,r,s⟩:=hrel;by_cases d:i<B.length
  .have be:=aR aU.o s.o (fun X e h9=>by
    obtain⟨j,h9⟩:=h9;have u:=(aU.o.lt X e).1;have y:=(ab.o j X h9).2;omega)
   obtain⟨cq,cs,ah,-,-,bd⟩:=Rd.aD (enc:=Sn) be;injection ah with ah _ bK;subst ah bK;obtain⟨b5,b6,V,-,z⟩:=bd.get aa;have bm:=z i d;have Z:=af (VP (t.o.bk i d));have aM:=af (fun w2 w3 u y ak=>t.o.asked (w2:=w2) (w3:=w3) (fun j k h=>(r.o j k h).1) d u y ak);have aW:=af (Ed d);have Y:=(CQ B (i+1)).length_le;have C:lF (iN (B.take (i+1)))=true:=RX (CQ B (i+1)) bD.o;have R:KW (iN (B.take (i+1))):=fun p hp=>bE.o p ((CQ B (i+1)).subset hp);rw[Ed d]at C R Y;unfold Sn at bm;subst V;generalize B[i]=b at*;obtain⟨tb,n0,lb⟩:=b;simp only at bm Z aM aW C R Y;clear z bd be;have cc:(i:Int)<(B.length:Int):=aa;rw[bQ]at Y;have al:=(xG.1 C).1;have am:=(xG.1 C).2.1;have bX:=zm (l:=iN (B.take i));have bY:=zm (l:=lb);have aC:=af (fun(W:World) (T:Option Addr) (U:Nat) (u:bW dw 3 W J S) (y:bW dw 3 W T (bN lb)) (ak:(bN lb).length<=U)=>by
    have h:=MX J T S (bN lb) S.length (bN lb).length ac U W rfl rfl bR ak u y (by have:=n.o;subst this;omega) (by have:=n.o;subst this;exact Lg al fun p hp=>R p (II _ hp)) (Lg am fun p hp=>R p (List.mem_append_right _ hp)) (by have:=n.o;subst this;exact CP al) (CP am) (by have:=n.o;subst this;exact Eb C);have e:bN (S++bN lb)=bN (iN (B.take (i+1))):=by rw[aW.o,n.o];exact Qj C
    rw[e]at h;exact h)
   clear C R Y al am bX bY
   go_wp2_with fail
   refine Z.o.mono ?_;rintro e w2 ⟨T,U,rfl,a9,bb,a6,ar⟩;have br:=af a6;have ad:=af ar;have aE:=af (aC.o w2 T U (aV.o.Uc ar fun x ax h=>aQ.o x ax i _ h rfl) bb a9);clear a6 ar bb a9 aC Z
   go_wp2_with fail
   refine aE.o.mono ?_;rintro e w3 ⟨co,rfl,aw,a7⟩;obtain⟨bF,bI,rfl,-,bT,bc⟩:=bW.aD bg ai aw;have bv:=af aw;have aN:=af a7;have bz:=af bc;have ch:=ad.o.size;have ck:=s.o.size;clear aw a7 bc aE;go_wp2;go_roundw
   case rel=>
    refine⟨i+1,_,bF,bI,fun j k=>g j k\/j=i/\wr.heap.size<=k/\k<w2.heap.size,rfl,by go_num,aa,bT,rfl,bz.o,fun x ax j k h=>?_,aM.o w2 w3 br.o ad.o aN.o,fun j k h=>?_,?_⟩
    .have u:=(bv.o.lt x.block (by rw[ax];rfl)).1;rcases h with h|⟨-,-,h⟩
     .have y:=(t.o.bk j (r.o j k h).1).lt k h;omega
     .omega
    .rcases h with h|⟨rfl,h,-⟩
     .exact r.o j k h
     .exact⟨d,.inr aa⟩
    .refine(ay.strip (((s.o.mono fun k h=>.inl h)).trans (ad.o.mono fun k h=>?_))).below aN.o;rcases(r.o i k h).2 with h9|h9
     .exact .inl ⟨i,h9⟩
     .exact .inr h9
   case measure=>exact eO
  .obtain rfl:i=B.length:=aa;rw[jL]at n;have b9:S.length<=20000:=by have u:=n.o;have y:=zm (l:=iN B);rw[<-u]at y;omega
   have ci:=s.o.size;have I:Hid (ay GH w wr):=((ay.refl GH w).below bp.o).trans (s.o.mono fun k h=>by
    obtain⟨j,h⟩:=h;exact(ab.o j k h).1)
   have ao:∀k,av.ownBlock=some k->k<w.heap.size:=fun k e=>(f.o.row.lt k e).2;have b8:=(aZ.1 f.o.blk).1;have a:=f.o.rq;have P:∀j k,g j k->k<wr.heap.size/\(GH k\/w.heap.size<=k):=fun j k h=>⟨(t.o.bk j (r.o j k h).1).lt k h,(r.o j k h).2.imp (fun h=>(ab.o j k h).1) fun h=>aa⟩;have bx:Hid (ek wr Pb (fun k=>(G k\/w.heap.size<=k)/\k<wr.heap.size) m (A.map (·.1)) N wk fD):=by
    refine⟨Hb,Ab,base,av,fun k=>(GH k/\k<w.heap.size)\/∃j,g j k,SD,A,D,ALL,⟨bq I.o f.o.blk (fun h=>(a.1 Pb h).2.1 rfl),aR f.o.row I.o (fun X e h=>(a.1 X h).2.2.1 e),bs.o wr g _ s.o ⟨t.o.bk,fun j k h=>.inr ⟨j,h⟩,t.o.ap⟩ (fun k h=>.inl h) (fun j k h=>(r.o j k h).2),f.o.dir.kept I.o (fun k h h9=>(a.1 k h9).1 h),bB f.o.hb I.o.size,f.o.few,f.o.fwd,f.o.bwd,⟨fun k hk=>?_,fun k hk=>⟨(a.2.1 k hk).1,(a.2.1 k hk).2.1,by have:=(a.2.1 k hk).2.2;omega⟩,a.2.2⟩⟩,rfl,fun k hk=>?_⟩
    .have hq:GH k\/w.heap.size<=k:=hk.elim (fun h=>.inl h.1) fun⟨j,h⟩=>(P j k h).2;have ba:k<wr.heap.size:=hk.elim (fun h=>by have:=h.2;omega) fun⟨j,h⟩=>(P j k h).1;rcases hq with hq|hq
     .exact⟨(a.1 k hq).1,(a.1 k hq).2.1,(a.1 k hq).2.2.1,ba⟩
     .exact⟨fun h=>by have:=(a.2.1 k h).2.2;omega,aa,fun e=>by have:=ao k e;omega,ba⟩
    .rcases hk with hk|hk|rfl|hk
     .rcases hk with hk|⟨j,hk⟩
      .exact⟨.inl (H.o k (.inl hk.1)),by have:=hk.2;omega⟩
      .exact⟨(P j k hk).2.imp (fun h=>H.o k (.inl h)) id,(P j k hk).1⟩
     .exact⟨.inl (H.o k (.inr (.inl hk))),by have:=(a.2.1 k hk).2.2;omega⟩
     .exact⟨.inl (H.o k (.inr (.inr (.inl rfl)))),aa⟩
     .exact⟨.inl (H.o k (.inr (.inr (.inr hk)))),by have:=ao k hk;omega⟩
   have cb:¬(B.length:Int)<(B.length:Int):=aa;have bu:Hid (ay G w wr):=I.o.mono fun k h=>H.o k (.inl h);clear I a P ao;have bA:Hid (S=bN (A.map (·.1))):=n.o.trans bC.o;clear n aQ t r s;obtain⟨w4,bP⟩:∃w4:World,w4=wr:=⟨_,rfl⟩;subst bP
   go_wp2_with fail
   go_loopw [6,31] (fun v E wr=>∃i:Nat,E=.int .i64 i/\i<=S.length/\Hid (wr.ownsRow w4.heap.size 27 1 v (ids (S.take i)).length ((ids (S.take i)).map (Value.int .u32)))/\Below w4.heap.size w4 wr) (fun _ E _=>S.length-(intOf E).toNat)
   case atStart=>exact⟨0,rfl,aY _,by simp[ids];exact dA _ _ _ _,aJ _ _⟩
   case round=>
    obtain⟨i,rfl,hi,HO,q⟩:=hrel;have b2:=q.size;have b0:(ids (S.take i)).length<=20000:=by
     unfold ids;rw[bU,eQ];omega
    by_cases d:i<S.length
    .obtain⟨b,off,V,ca,z⟩:=(aV.o.below q).get aa;have bl:=z i d 0 aa;have x1:=z i d 1 aa;have x2:=z i d 2 aa;simp only[dw,fI,dz,dI]at bl x1 x2;have aO:Hid (ids (S.take (i+1))=ids (S.take i)++[S[i].2.2]):=by
      show _=_;unfold ids;rw[ik d,bL];rfl
     have aL:=af V;clear z V;generalize S[i]=p at*;obtain⟨bi,bj,aA⟩:=p;simp only at bl x1 x2 aO;obtain rfl:=aL.o;clear aL;generalize ids (S.take i)=L at*;have cd:(i:Int)<(S.length:Int):=aa;have aS:=af (HO.o.alloc (.cells #[ae bi,ae bj,au aA] 29));have bn:=q.alloc b2 (.cells #[ae bi,ae bj,au aA] 29)
     go_wp2_with (at_builtin;refine vD um w4.heap.size aS.o [.int .u32 aA] rfl (by simp[Value.oneCell']) rfl _ _ rfl rfl _ (by show az (wr.heap.size+1) 1 1=_;simp) dJ aa aG ?_;intro cn w6 b1 bV;have bG:=dB bn aS.o bV aG (aB _))
     go_roundw
     case rel=>
      refine⟨i+1,by go_num,aa,?_,bG⟩;show World.ownsRow _ _ _ _ _ _ _;rw[aO.o,bL,bQ];exact b1
     case measure=>exact eO
    .obtain rfl:i=S.length:=aa;have M:=HO.o;rw[jL]at M b0;have bo:=af (zW M aa);have aT:=af M;obtain⟨cl,cm,rfl,-,-,-⟩:=Rd.aD M;have bt:=af q;clear M HO q
     go_wp2_with (go_at_call 64;refine bo.o.mono ?_;rintro e b4 ⟨rfl,K,a5⟩;have bw:=af K;have aP:=af a5;clear K a5)
     go_ret;have cj:=aP.o.size;have a2:ay (fun _=>False) w4 b4:=ay.strip ((((ay.refl (fun _=>False) w4).below bt.o).mono fun k h=>.inl h).trans (aP.o.mono fun k h=>.inr (aT.o.lt k h).1));have bJ:eu (ids S)=eu (ids (bN (A.map (·.1)))):=by rw[<-bA.o]
     have b3:(eu (ids S)).length=(ids S).length:=jm _;refine⟨_,fun k=>(G k\/w.heap.size<=k)/\k<w4.heap.size,rfl,?_,bx.o.kept a2 fun _ _ h=>h,bu.o.trans (a2.mono fun _ h=>h.elim),fun k hk=>⟨hk.1,aa,fun e=>by have:=(aT.o.lt k e).1;omega⟩⟩;rw[<-bJ,b3];exact bO bw.o aa
end
theorem Vn:bN [(0,0,1),(2,5,2),(2,1,3)]=[(2,5,2)]:=by
 refine(kZ ai).unique ⟨by simp[kG],fun p=>?_⟩;have⟨x,y,i⟩:=p;constructor
 .intro h;simp only[ic,uZ,iC,or_false]at h;rcases h with⟨rfl,rfl,rfl⟩<;>exact⟨ai,ai⟩
 .rintro⟨h,a⟩;simp only[ic,uZ,iC,or_false]at h;rcases h with⟨rfl,rfl,rfl⟩|⟨rfl,rfl,rfl⟩|⟨rfl,rfl,rfl⟩<;>first|(exfalso;revert a;decide)|decide
theorem Vo:bN [(0,0,1),(2,1,3)]=[(2,1,3)]:=by
 refine(kZ ai).unique ⟨by simp[kG],fun p=>?_⟩;have⟨x,y,i⟩:=p;constructor
 .intro h;simp only[ic,uZ,iC,or_false]at h;rcases h with⟨rfl,rfl,rfl⟩<;>exact⟨ai,ai⟩
 .rintro⟨h,a⟩;simp only[ic,uZ,iC,or_false]at h;rcases h with⟨rfl,rfl,rfl⟩|⟨rfl,rfl,rfl⟩<;>first|(exfalso;revert a;decide)|decide
theorem Ii {l:List Int} (h:l.Pairwise (·<=·)):eu l=l:=E8 h (pU _)
theorem RY:qN [(0,0,1),(2,5,2),(2,1,3)] 1 9=some (2,1,3):=by
 refine D9 (l:=[(0,0,1),(2,5,2),(2,1,3)]) (pU _) ai (xE _ _ _) ⟨ai,ai,?_⟩;decide
theorem Vp:eu (ids (([(0,0,1),(2,5,2),(2,1,3)]:List Pt).filter (DN 0 2 1 5)))=[2,3]:=by
 rw[show ids (([(0,0,1),(2,5,2),(2,1,3)]:List Pt).filter (DN 0 2 1 5))=[2,3] by decide];exact Ii ai
theorem Vq:eu (ids (([(0,0,1),(2,5,2),(2,1,3)]:List Pt).filter (qK 0 9 1)))=[1,3]:=by
 rw[show ids (([(0,0,1),(2,5,2),(2,1,3)]:List Pt).filter (qK 0 9 1))=[1,3] by decide];exact Ii ai
theorem Vr:eu (ids (([(0,0,1),(2,5,2),(2,1,3)]:List Pt).filter (zU 2 1 3)))=[2,3]:=by
 rw[show ids (([(0,0,1),(2,5,2),(2,1,3)]:List Pt).filter (zU 2 1 3))=[2,3] by decide];exact Ii ai
theorem Uf:eu (ids [((2:Int),(5:Int),(2:Int))])=[2]:=Ii ai
theorem Ug:eu (ids [((2:Int),(1:Int),(3:Int))])=[3]:=Ii ai
def Lh:List Pt:=[(0,0,1),(2,5,2),(2,1,3)]
theorem K6.one {n:Nat} (h:K6 0 n):n=1:=by
 obtain⟨i,q,rfl,h⟩:=h;rcases i with _|i
 .rfl
 .have:2<=2^(i+1):=by rw[pY];have:=qa (n:=i) (show 0<2 by decide);omega
  have:(2^(i+1):Nat)<=2^(i+1)+2^(i+1+1)*q:=Nat.le_add_right _ _;omega
theorem K6.two {n:Nat} (h:K6 1 n):n=2:=by
 obtain⟨i,q,rfl,h⟩:=h;rcases i with _|_|i
 .simp at h;omega
 .rfl
 .have:4<=2^(i+1+1):=by rw[pY,pY];have:=qa (n:=i) (show 0<2 by decide);omega
  have:(2^(i+1+1):Nat)<=2^(i+1+1)+2^(i+1+1+1)*q:=Nat.le_add_right _ _;omega
theorem K6.three {n:Nat} (h:K6 2 n):n=1:=by
 obtain⟨i,q,rfl,h⟩:=h;rcases i with _|_|i
 .rfl
 .simp at h;omega
 .have:4<=2^(i+1+1):=by rw[pY,pY];have:=qa (n:=i) (show 0<2 by decide);omega
  have:(2^(i+1+1):Nat)<=2^(i+1+1)+2^(i+1+1+1)*q:=Nat.le_add_right _ _;omega
theorem RZ (w:World):aK 21 #[] w (gm w (.bool true)):=by
 have bs:=af (Sr w);go_enter func21,ntmps21
 go_wp2_with fail
 refine bs.o.mono ?_;rintro e w1 ⟨Pb,rfl,hP,cb⟩;have bu:=af hP;have aL:=af cb;have bY:Hid (bW dw 3 (w1.alloc (.cells #[ae 0,ae 0,au 1,ae 2,ae 5,au 2,ae 2,ae 1,au 3] 29)) (some (ag w1.heap.size 0)) Lh):=bW.lit (sz:=3) bg w1 29 Lh w1.heap.size rfl;have aU:Hid (Below w1.heap.size w1 (w1.alloc (.cells #[ae 0,ae 0,au 1,ae 2,ae 5,au 2,ae 2,ae 1,au 3] 29))):=(aJ _ _).alloc (aB _) _;have ch:(w1.alloc (.cells #[ae 0,ae 0,au 1,ae 2,ae 5,au 2,ae 2,ae 1,au 3] 29)).heap.size=w1.heap.size+1:=aA
 go_wp2_with fail
 generalize w1.alloc (.cells #[ae 0,ae 0,au 1,ae 2,ae 5,au 2,ae 2,ae 1,au 3] 29)=w2 at*;have cd:=aL.o.size
 go_loopw [25] (fun aG wr=>∃(i:Nat) (G:Nat->Prop) (wk:Int),aG=.int .i64 i/\i<=3/\w2.heap.size<=wr.heap.size/\Hid (ek wr Pb G i (Lh.take i) i wk 0)/\Hid (∀k,G k->w.heap.size<=k/\k<wr.heap.size/\k≠w1.heap.size)/\Hid (Below w.heap.size w wr)/\Hid (bW dw 3 wr (some (ag w1.heap.size 0)) Lh)) (fun aG _=>3-(intOf aG).toNat)
 case atStart=>exact⟨0,_,0,rfl,aY _,aB _,bu.o.below aU.o,fun k H=>⟨H.1,by have:=H.2;omega,by have:=H.2;omega⟩,aL.o.trans (aU.o.mono cd),bY⟩
 case round=>
  obtain⟨i,G,wk,rfl,hi,ci,V,u,t,an⟩:=hrel;by_cases ck:i<3
  .have cc:i=0\/i=1\/i=2:=aa;have⟨b,off,aE,cj,F⟩:=an.o.get ai;injection aE with aE;injection aE with b9 ca _;subst b9 ca;rcases cc with rfl|rfl|rfl
   .have N:=F 0 ai 0 aa;have x1:=F 0 ai 1 aa;have x2:=F 0 ai 2 aa
    replace N:wr.cell? (ag w1.heap.size 0)=some (ae 0):=N
    replace x1:wr.cell? (ag w1.heap.size 1)=some (ae 0):=x1
    replace x2:wr.cell? (ag w1.heap.size 2)=some (au 1):=x2
    obtain⟨p,e⟩:∃p:World,p=wr:=⟨_,rfl⟩;subst e;obtain⟨A,L⟩:∃A,A=p.alloc (.cells #[ae 0,ae 0,au 1] 29):=⟨_,rfl⟩;have K:Below p.heap.size p A:=by rw[L];exact(aJ _ _).alloc (aB _) _
    have S:=af (ug (V.o.below K) ai 0 0 1 ⟨ai,ai,ai⟩ ai);have y:=af K;have T:=af L.symm
    go_wp2_with fail
    rw[T.o];refine S.o.mono ?_;rintro e w4 ⟨n,ab,rfl,Z,M⟩;obtain rfl:=K6.one ab;have U:=af Z;have J:=af M;have a6:=y.o.size;have a5:=M.size;go_wp2;go_roundw
    case rel=>exact⟨1,_,_,rfl,ai,aa,U.o,fun k H=>H.elim (fun h=>by have:=u.o k h;exact⟨this.1,aa,this.2.2⟩) fun h=>by have:=t.o.size;exact⟨aa,h.2,aa⟩,(t.o.trans (y.o.mono t.o.size)).trans (J.o.toBelow (by have:=t.o.size;omega) (fun k h=>(u.o k h).1)),((an.o.below y.o).Uc J.o fun x e h=>by injection e with e;rw[<-e]at h;exact(u.o _ h).2.2 rfl)⟩
    case measure=>simp[intOf]
   .have N:=F 1 ai 0 aa;have x1:=F 1 ai 1 aa;have x2:=F 1 ai 2 aa
    replace N:wr.cell? (ag w1.heap.size 3)=some (ae 2):=N
    replace x1:wr.cell? (ag w1.heap.size 4)=some (ae 5):=x1
    replace x2:wr.cell? (ag w1.heap.size 5)=some (au 2):=x2
    obtain⟨p,e⟩:∃p:World,p=wr:=⟨_,rfl⟩;subst e;obtain⟨A,L⟩:∃A,A=p.alloc (.cells #[ae 2,ae 5,au 2] 29):=⟨_,rfl⟩;have K:Below p.heap.size p A:=by rw[L];exact(aJ _ _).alloc (aB _) _
    have S:=af (ug (V.o.below K) ai 2 5 2 ⟨ai,ai,ai⟩ ai);have y:=af K;have T:=af L.symm
    go_wp2_with fail
    rw[T.o];refine S.o.mono ?_;rintro e w4 ⟨n,ab,rfl,Z,M⟩;obtain rfl:=K6.two ab;have U:=af Z;have J:=af M;have a6:=y.o.size;have a5:=M.size;go_wp2;go_roundw
    case rel=>exact⟨2,_,_,rfl,ai,aa,U.o,fun k H=>H.elim (fun h=>by have:=u.o k h;exact⟨this.1,aa,this.2.2⟩) fun h=>by have:=t.o.size;exact⟨aa,h.2,aa⟩,(t.o.trans (y.o.mono t.o.size)).trans (J.o.toBelow (by have:=t.o.size;omega) (fun k h=>(u.o k h).1)),((an.o.below y.o).Uc J.o fun x e h=>by injection e with e;rw[<-e]at h;exact(u.o _ h).2.2 rfl)⟩
    case measure=>simp[intOf]
   .have N:=F 2 ai 0 aa;have x1:=F 2 ai 1 aa;have x2:=F 2 ai 2 aa
    replace N:wr.cell? (ag w1.heap.size 6)=some (ae 2):=N
    replace x1:wr.cell? (ag w1.heap.size 7)=some (ae 1):=x1
    replace x2:wr.cell? (ag w1.heap.size 8)=some (au 3):=x2
    obtain⟨p,e⟩:∃p:World,p=wr:=⟨_,rfl⟩;subst e;obtain⟨A,L⟩:∃A,A=p.alloc (.cells #[ae 2,ae 1,au 3] 29):=⟨_,rfl⟩;have K:Below p.heap.size p A:=by rw[L];exact(aJ _ _).alloc (aB _) _
    have S:=af (ug (V.o.below K) ai 2 1 3 ⟨ai,ai,ai⟩ ai);have y:=af K;have T:=af L.symm
    go_wp2_with fail
    rw[T.o];refine S.o.mono ?_;rintro e w4 ⟨n,ab,rfl,Z,M⟩;obtain rfl:=K6.three ab;have U:=af Z;have J:=af M;have a6:=y.o.size;have a5:=M.size;go_wp2;go_roundw
    case rel=>exact⟨3,_,_,rfl,ai,aa,U.o,fun k H=>H.elim (fun h=>by have:=u.o k h;exact⟨this.1,aa,this.2.2⟩) fun h=>by have:=t.o.size;exact⟨aa,h.2,aa⟩,(t.o.trans (y.o.mono t.o.size)).trans (J.o.toBelow (by have:=t.o.size;omega) (fun k h=>(u.o k h).1)),((an.o.below y.o).Uc J.o fun x e h=>by injection e with e;rw[<-e]at h;exact(u.o _ h).2.2 rfl)⟩
    case measure=>simp[intOf]
  .obtain rfl:i=3:=aa;obtain⟨wp,e⟩:∃wp:World,wp=wr:=⟨_,rfl⟩;subst e;have bw:Hid (ek wp Pb G 3 [(0,0,1),(2,5,2),(2,1,3)] 3 wk 0):=V.o;have D:=af (u.o Pb V.o.facts.2.2.2.2.2.2.2);have ba:Hid (Below w.heap.size w wp):=t.o;have aM:Hid (∀k,G k->w.heap.size<=k/\k<wp.heap.size):=fun k h=>⟨(u.o k h).1,(u.o k h).2.1⟩;have cm:=t.o.size;have C:=xD bw.o 0 2 1 5 0;rw[Vp]at C;have d:=af C
   go_wp2_with fail
   refine d.o.mono ?_;rintro e a7 ⟨v,t1,rfl,s,-,f,hP⟩;have cn:=f.size;have aV:=af (bO s (show wp.heap.size<=wp.heap.size by omega));obtain⟨b0,b5,rfl,-,-,-⟩:=Rd.aD (l:=[2,3]) s;have bx:=af hP;have bb:=af (ba.o.trans (f.toBelow (show w.heap.size<=wp.heap.size by omega) (fun k h=>by have:=D.o;omega)));have C:=La bx.o 0 9 1;rw[Vq]at C;have d:=af C
   go_wp2_with fail
   refine d.o.mono ?_;rintro e a9 ⟨v,t2,rfl,s,-,f,hP⟩;have cu:=f.size;have aW:=af (aR aV.o f (fun z e h=>by have:=(aV.o.lt z e).1;have:=D.o;omega));have a0:=af (bO s (show wp.heap.size<=a7.heap.size by omega));obtain⟨b2,a4,rfl,-,-,-⟩:=Rd.aD (l:=[1,3]) s;have bD:=af hP;have bk:=af (bb.o.trans (f.toBelow (show w.heap.size<=a7.heap.size by omega) (fun k h=>by have:=D.o;omega)));have C:=CG bD.o 2 1 3 ai;rw[Vr]at C;have d:=af C
   go_wp2_with fail
   refine d.o.mono ?_;rintro e ce ⟨v,t3,rfl,s,-,f,hP⟩;have cv:=f.size;have aX:=af (aR aW.o f (fun z e h=>by have:=(aW.o.lt z e).1;have:=D.o;omega));have a1:=af (aR a0.o f (fun z e h=>by have:=(a0.o.lt z e).1;have:=D.o;omega));have a3:=af (bO s (show wp.heap.size<=a9.heap.size by omega));obtain⟨b3,b7,rfl,-,-,-⟩:=Rd.aD (l:=[2,3]) s;have bE:=af hP;have bl:=af (bk.o.trans (f.toBelow (show w.heap.size<=a9.heap.size by omega) (fun k h=>by have:=D.o;omega)));have C:=CL bE.o 1 9;rw[RY]at C;have d:=af C
   go_wp2_with fail
   refine d.o.mono ?_;rintro e B ⟨t4,rfl,-,f,hP⟩;have cw:=f.size;have bM:=af (aR aX.o f (fun z e h=>by have:=(aX.o.lt z e).1;have:=D.o;omega));have bP:=af (aR a1.o f (fun z e h=>by have:=(a1.o.lt z e).1;have:=D.o;omega));have bR:=af (aR a3.o f (fun z e h=>by have:=(a3.o.lt z e).1;have:=D.o;omega));have bF:=af hP;have bm:=af (bl.o.trans (f.toBelow (show w.heap.size<=ce.heap.size by omega) (fun k h=>by have:=D.o;omega)));have a:Hid (Below B.heap.size B (B.alloc (.cells #[ae 2,ae 1,au 3] 29))):=(aJ _ _).alloc (aB _) _;have ao:Hid ((B.alloc (.cells #[ae 2,ae 1,au 3] 29)).heap[B.heap.size]? =some (yR (2,1,3))):=bV _ _;have bZ:Hid (B.heap.size+1=(B.alloc (.cells #[ae 2,ae 1,au 3] 29)).heap.size):=by show _=_;simp
   go_wp2_with fail
   generalize B.alloc (.cells #[ae 2,ae 1,au 3] 29)=ah at*;have cx:=a.o.size;have aZ:=af (ak bM.o a.o);have bQ:=af (ak bP.o a.o);have bS:=af (ak bR.o a.o);have bG:=af (bF.o.below a.o);have bn:=af (bm.o.trans (a.o.mono (show w.heap.size<=B.heap.size by omega)));have q:Below ah.heap.size ah (ah.alloc (.cells #[au 2,au 3] 27)):=(aJ _ _).alloc (aB _) _;obtain⟨_,_,j,-,-,I⟩:=Rd.aD (l:=[2,3]) aZ.o;injection j with j _ E;subst j E;have c:=sS b0 (some (ag (B.heap.size+1) 0)) [2,3] [2,3] 2 2 b5 2 _ rfl rfl (I.below q) (Rd.lit (enc:=Value.int .u32) ah 27 [2,3] _ bZ.o) ai ai;rw[show decide (([2,3]:List Int)=[2,3])=true from rfl]at c;have d:=af c;have g:=af q;refine d.o.mono ?_;rintro e Q ⟨rfl,m⟩;have ap:=af ((aP m ((aP g.o ao.o).trans ao.o)).trans ((aP g.o ao.o).trans ao.o));have a:=g.o.trans (m.mono g.o.size);have cy:=a.size;have bN:=af (ak aZ.o a);have a2:=af (ak bQ.o a);have bT:=af (ak bS.o a);have bH:=af (bG.o.below a);have bo:=af (bn.o.trans (a.mono (show w.heap.size<=ah.heap.size by omega)));have q:Below Q.heap.size Q (Q.alloc (.cells #[au 1,au 3] 27)):=(aJ _ _).alloc (aB _) _;obtain⟨_,_,j,-,-,I⟩:=Rd.aD (l:=[1,3]) a2.o;injection j with j _ E;subst j E;have c:=sS b2 (some (ag Q.heap.size 0)) [1,3] [1,3] 2 2 a4 2 _ rfl rfl (I.below q) (Rd.lit (enc:=Value.int .u32) Q 27 [1,3] _ rfl) ai ai;rw[show decide (([1,3]:List Int)=[1,3])=true from rfl]at c;have d:=af c;have g:=af q
   go_wp2_with fail
   refine d.o.mono ?_;rintro e R ⟨rfl,m⟩;have aq:=af ((aP m ((aP g.o ap.o).trans ap.o)).trans ((aP g.o ap.o).trans ap.o));have a:=g.o.trans (m.mono g.o.size);have cz:=a.size;have cf:=af (ak bN.o a);have cg:=af (ak a2.o a);have bU:=af (ak bT.o a);have bI:=af (bH.o.below a);have bp:=af (bo.o.trans (a.mono (show w.heap.size<=Q.heap.size by omega)));have q:Below R.heap.size R (R.alloc (.cells #[au 2,au 3] 27)):=(aJ _ _).alloc (aB _) _;obtain⟨_,_,j,-,-,I⟩:=Rd.aD (l:=[2,3]) bU.o;injection j with j _ E;subst j E;have c:=sS b3 (some (ag R.heap.size 0)) [2,3] [2,3] 2 2 b7 2 _ rfl rfl (I.below q) (Rd.lit (enc:=Value.int .u32) R 27 [2,3] _ rfl) ai ai;rw[show decide (([2,3]:List Int)=[2,3])=true from rfl]at c;have d:=af c;have g:=af q
   go_wp2_with fail
   refine d.o.mono ?_;rintro e aH ⟨rfl,m⟩;have bv:=af ((aP m ((aP g.o aq.o).trans aq.o)).trans ((aP g.o aq.o).trans aq.o));have a:=g.o.trans (m.mono g.o.size);have cA:=a.size;have bJ:=af (bI.o.below a);have bq:=af (bp.o.trans (a.mono (show w.heap.size<=R.heap.size by omega)));have a4:aH.cell? (ag B.heap.size 2)=some (au 3):=(gW bv.o).2.2;have aT:Hid (∀k,G k->w.heap.size<=k/\k<aH.heap.size):=fun k h=>⟨(aM.o k h).1,by have:=(aM.o k h).2;omega⟩;have d:=af (Sv bJ.o ai)
   go_wp2_with fail
   refine d.o.mono ?_;rintro e P ⟨v,al,rfl,s,hP,f,Y⟩;rw[Vn,Uf]at s;have cB:=f.size;obtain⟨b4,b8,rfl,-,-,-⟩:=Rd.aD (l:=[2]) s;have bX:=af s;have aS:Hid (∀k,al k->w.heap.size<=k/\k<P.heap.size):=fun k h=>⟨(Y k h).1.elim (fun h=>(aT.o k h).1) (fun h=>aa),(Y k h).2.1⟩;have br:=af (bq.o.trans (f.toBelow (show w.heap.size<=aH.heap.size by omega) (fun k h=>(aT.o k h).1)));have bK:=af hP;have q:Below P.heap.size P (P.alloc (.cells #[au 2] 27)):=(aJ _ _).alloc (aB _) _;obtain⟨_,_,j,-,-,I⟩:=Rd.aD (l:=[2]) bX.o;injection j with j _ E;subst j E;have c:=sS b4 (some (ag P.heap.size 0)) [2] [2] 1 1 b8 1 _ rfl rfl (I.below q) (Rd.lit (enc:=Value.int .u32) P 27 [2] _ rfl) ai ai;rw[show decide (([2]:List Int)=[2])=true from rfl]at c;have d:=af c;have g:=af q
   go_wp2_with fail
   refine d.o.mono ?_;rintro e av ⟨rfl,m⟩;have a:=g.o.trans (m.mono g.o.size);have co:=a.size;have bz:=af (bK.o.below a);have bc:=af (br.o.trans (a.mono (show w.heap.size<=P.heap.size by omega)));have ax:Hid (∀k,al k->w.heap.size<=k/\k<av.heap.size):=fun k h=>⟨(aS.o k h).1,by have:=(aS.o k h).2;omega⟩;have d:=af (vZ bz.o ai 2 5 2 ai)
   go_wp2_with fail
   refine d.o.mono ?_;rintro e ac ⟨q,az,rfl,hP,f,hd⟩;obtain⟨rfl,rfl⟩:q=0/\az=3:=by
    rcases hd with⟨h,W,X⟩|⟨h,W,X⟩
    .exact absurd h ai
    .exact⟨W,X⟩
   have cp:=f.size;have am:Hid (∀k,(al k\/av.heap.size<=k/\k<ac.heap.size)->w.heap.size<=k/\k<ac.heap.size):=fun k h=>h.elim (fun h=>⟨(ax.o k h).1,by have:=(ax.o k h).2;omega⟩) (fun h=>⟨aa,h.2⟩);have bd:=af (bc.o.trans (f.toBelow (show w.heap.size<=av.heap.size by omega) (fun k h=>(ax.o k h).1)));have ar:=af hP;rw[show(List.filter (fun r=>decide (r≠((2:Int),(5:Int),(2:Int)))) _)=[(0,0,1),(2,1,3)]from rfl]at ar;generalize aF:(fun k=>al k\/av.heap.size<=k/\k<ac.heap.size)=aI at ar
   replace am:Hid (∀k,aI k->w.heap.size<=k/\k<ac.heap.size):=fun k h=>am.o k (by rw[<-aF]at h;exact h)
   have d:=af (zM ar.o 9 9 3 ai)
   go_wp2_with fail
   refine d.o.mono ?_;rintro e a8 ⟨rfl,m⟩;have cq:=m.size;have aN:Hid (∀k,aI k->w.heap.size<=k/\k<a8.heap.size):=fun k h=>⟨(am.o k h).1,by have:=(am.o k h).2;omega⟩;have be:=af (bd.o.trans (m.mono (show w.heap.size<=ac.heap.size by omega)));have bA:=af (ar.o.below m);have d:=af (Sv bA.o ai)
   go_wp2_with fail
   refine d.o.mono ?_;rintro e O ⟨v,aj,rfl,s,hP,f,Y⟩;rw[Vo,Ug]at s;have cr:=f.size;obtain⟨b1,b6,rfl,-,-,-⟩:=Rd.aD (l:=[3]) s;have bL:=af s;have aO:Hid (∀k,aj k->w.heap.size<=k/\k<O.heap.size):=fun k h=>⟨(Y k h).1.elim (fun h=>(aN.o k h).1) (fun h=>aa),(Y k h).2.1⟩;have bf:=af (be.o.trans (f.toBelow (show w.heap.size<=a8.heap.size by omega) (fun k h=>(aN.o k h).1)));have bB:=af hP;have q:Below O.heap.size O (O.alloc (.cells #[au 3] 27)):=(aJ _ _).alloc (aB _) _;obtain⟨_,_,j,-,-,I⟩:=Rd.aD (l:=[3]) bL.o;injection j with j _ E;subst j E;have c:=sS b1 (some (ag O.heap.size 0)) [3] [3] 1 1 b6 1 _ rfl rfl (I.below q) (Rd.lit (enc:=Value.int .u32) O 27 [3] _ rfl) ai ai;rw[show decide (([3]:List Int)=[3])=true from rfl]at c;have d:=af c;have g:=af q
   go_wp2_with fail
   refine d.o.mono ?_;rintro e aw ⟨rfl,m⟩;have a:=g.o.trans (m.mono g.o.size);have cs:=a.size;have bC:=af (bB.o.below a);have bh:=af (bf.o.trans (a.mono (show w.heap.size<=O.heap.size by omega)));have ay:Hid (∀k,aj k->w.heap.size<=k/\k<aw.heap.size):=fun k h=>⟨(aO.o k h).1,by have:=(aO.o k h).2;omega⟩;have d:=af (vZ bC.o ai 0 0 1 ai)
   go_wp2_with fail
   refine d.o.mono ?_;rintro e ad ⟨q,az,rfl,hP,f,hd⟩;obtain⟨rfl,rfl⟩:q=1/\az=1:=by
    rcases hd with⟨h,W,X⟩|⟨h,W,X⟩
    .exact⟨W.trans ai,X.trans ai⟩
    .exact absurd h ai
   have ct:=f.size;have aQ:Hid (∀k,(aj k\/aw.heap.size<=k/\k<ad.heap.size)->w.heap.size<=k/\k<ad.heap.size):=fun k h=>h.elim (fun h=>⟨(ay.o k h).1,by have:=(ay.o k h).2;omega⟩) (fun h=>⟨aa,h.2⟩);have bi:=af (bh.o.trans (f.toBelow (show w.heap.size<=aw.heap.size by omega) (fun k h=>(ay.o k h).1)));have aC:=af hP;rw[show(List.filter (fun r=>decide (r≠((0:Int),(0:Int),(1:Int)))) _)=[(2,1,3)]from rfl]at aC;generalize aF:(fun k=>aj k\/aw.heap.size<=k/\k<ad.heap.size)=bt at aC
   replace aQ:Hid (∀k,bt k->w.heap.size<=k/\k<ad.heap.size):=fun k h=>aQ.o k (by rw[<-aF]at h;exact h)
   have d:=af (Qd aC.o)
   go_wp2_with fail
   refine d.o.mono ?_;rintro e cl ⟨rfl,m⟩;have bj:=af (bi.o.trans (m.mono (show w.heap.size<=ad.heap.size by omega)));go_wp2;go_ret;exact⟨rfl,bj.o⟩
def addN (now:List Pt) (p:Pt):List Pt:=if p.2.2∈ids now then now else now++[p]
def zN (now:List Pt) (d:Int):List Pt:=now.filter fun q=>decide (q.2.2≠d)
theorem Ql {now:List Pt} {d:Int} (h:d∉ids now):zN now d=now:=by
 unfold zN;rw[lW];intro q a;simp only[dH,ne_eq];rintro rfl;exact h (nU a)
theorem Qm {now:List Pt} (hu:(ids now).Nodup) {p:Pt} (hp:p∈now):(now.filter fun q=>decide (q≠p))=zN now p.2.2:=by
 unfold zN;refine mJ fun q a=>?_;simp only[ne_eq,decide_not,Bool.not_inj_iff];rw[nH,dH,dH];refine⟨fun e=>by rw[e],fun e=>?_⟩;rcases eD (dx.1 hu) a hp with h|h|h
 .exact h
 .exact absurd e h
 .exact absurd e.symm h
section
variable {w:World} {Pb m:Nat} {G:Nat->Prop} {now:List Pt} {N wk fD:Int}
def Ij (w:World) (Pb:Nat) (G:Nat->Prop) (m:Nat) (VW:List Pt) (did:Bool) (wk fD:Int) (lo:Nat) (e:Ending) (w':World):Prop:=
 ∃(n:Nat) (N':Int),e=.returned (.tuple #[ae n,.bool did])/\ek w' Pb (fun k=>G k\/w.heap.size<=k/\k<w'.heap.size) (m+did.toNat) VW N' (wk+n) fD/\ay G w w'/\(did=true->lo<=n)/\(did=false->n=0)
theorem Uh (h:ek w Pb G m now N wk fD) (f:m<5000) (p:Pt) (i:BB p):
  aK 12 #[aj Pb,iZ p.1 p.2.1 p.2.2] w (Ij w Pb G m (addN now p) (decide (p.2.2∉ids now)) wk fD 1):=by
 by_cases a:p.2.2∈ids now
 .refine(zM h p.1 p.2.1 p.2.2 a).mono ?_;rintro e w' ⟨rfl,c⟩;have b:decide (p.2.2∉ids now)=false:=by simp[a]
  unfold addN;rw[aO a,b];exact⟨0,N,rfl,by rw[show wk+((0:Nat):Int)=wk by omega];exact(h.below c).more fun k h=>.inl h,(ay.refl _ _).below c,(fun h=>by cases h),fun _=>rfl⟩
 .refine(ug h f p.1 p.2.1 p.2.2 i a).mono ?_;rintro e w' ⟨n,g,rfl,hP,d⟩;have b:decide (p.2.2∉ids now)=true:=by simp[a]
  unfold addN;rw[aN a,b];exact⟨n,_,rfl,hP,d,fun _=>g.pos,fun h=>by cases h⟩
theorem R3 (h:ek w Pb G m now N wk fD) (i:m<5000) (d:Int):
  aK 13 #[aj Pb,au d] w (Ij w Pb G m (zN now d) (decide (d∈ids now)) wk fD 0):=by
 by_cases a:d∈ids now
 .obtain⟨p,hp,rfl⟩:=dm.1 a;refine(vZ h i p.1 p.2.1 p.2.2 hp).mono ?_;rintro e w' ⟨n,f,rfl,hP,g,-⟩;have b:decide (p.2.2∈ids now)=true:=by simp[a]
  rw[b,<-Qm h.facts.2.2.2.1 hp];exact⟨n,f,rfl,hP,g,fun _=>aY _,fun h=>by cases h⟩
 .refine(Nq h d a).mono ?_;rintro e w' ⟨rfl,c⟩;have b:decide (d∈ids now)=false:=by simp[a]
  rw[Ql a,b];exact⟨0,N,rfl,by rw[show wk+((0:Nat):Int)=wk by omega];exact(h.below c).more fun k h=>.inl h,(ay.refl _ _).below c,(fun h=>by cases h),fun _=>rfl⟩
abbrev Qr:=Int×Pt×Bx×Int
def FR (o:Qr):List Value:=[.int .u8 o.1,.int .i64 o.2.1.1,.int .i64 o.2.1.2.1,.int .u32 o.2.1.2.2,.int .i64 o.2.2.1.1,.int .i64 o.2.2.1.2.1,.int .i64 o.2.2.1.2.2.1,.int .i64 o.2.2.1.2.2.2.1,.int .u32 o.2.2.1.2.2.2.2,.int .u8 o.2.2.2]
theorem Vs:eH prog 47 49 10 80:=.mk' (z:=.agg (FR (0,(0,0,0),(0,0,0,0,0),0)).toArray) underlying47 aM rfl ai
def Uq (o:Qr):Prop:=(Lit.int .u8 o.1).wf=true/\BB o.2.1/\Bx.wf o.2.2.1/\(Lit.int .u8 o.2.2.2).wf=true
def xH (now:List Pt) (o:Qr):List Pt:=if o.1%2=0 then addN now o.2.1 else zN now o.2.1.2.2
theorem Nr (now:List Pt) (o:Qr):(xH now o).length<=now.length+1:=by
 unfold xH addN zN;split
 .split
  .omega
  .simp
 .exact bB (gD _ _) aa
def Ns (now:List Pt) (o:Qr):Bool:=if o.1%2=0 then decide (o.2.1.2.2∉ids now)else decide (o.2.1.2.2∈ids now)
theorem Ui (h:ek w Pb G m now N wk fD) (B:m<5000) (o:Qr) (t:Uq o):
  aK 22 #[aj Pb,.agg (FR o).toArray] w (Ij w Pb G m (xH now o) (Ns now o) wk fD 0):=by
 obtain⟨b,⟨c,d,a⟩,⟨x1,x2,y1,y2,g⟩,i⟩:=o;obtain⟨w1,r⟩:∃w1,w1=w.alloc (.cells #[.int .u8 b,ae c,ae d,au a,ae x1,ae x2,ae y1,ae y2,au g,.int .u8 i] 49):=⟨_,rfl⟩;have f:Below w.heap.size w w1:=by rw[r];exact(aJ _ _).alloc (aB _) _
 have j:w1.heap[w.heap.size]? =some (.cells #[.int .u8 b,ae c,ae d,au a,ae x1,ae x2,ae y1,ae y2,au g,.int .u8 i] 49 (0,0)):=by rw[r];exact bV w _
 have J:w1.cell? (ag w.heap.size 0)=some (.int .u8 b):=aF j;have K:w1.cell? (ag w.heap.size 1)=some (ae c):=aF j;have L:w1.cell? (ag w.heap.size 2)=some (ae d):=aF j;have M:w1.cell? (ag w.heap.size 3)=some (au a):=aF j;have P:=f.size;have A:Hid (∀(y:List Pt) (x:Bool) (lo:Nat) (e:Ending) (w':World),Ij w1 Pb G m y x wk fD lo e w'->Ij w Pb G m y x wk fD 0 e w'):=by
  rintro y x lo e w' ⟨n,l,E,hP,D,O,I⟩;exact⟨n,l,E,hP.more fun k F=>F.imp id fun h=>⟨aa,h.2⟩,((ay.refl G w).below f).trans D,fun _=>aY _,I⟩
 have H:0<=b/\b<=255:=by
  have:=t.1;simp[Lit.wf,IntKind.min,IntKind.max,IntKind.signed,IntKind.bits]at this;omega
 have C:Int.tmod b 2=b%2:=Int.tmod_eq_emod_of_nonneg H.1;have z:=af r.symm;by_cases hd:b%2=0
 .have u:=af (Uh (h.below f) B (c,d,a) t.2.1);have p:xH now (b,(c,d,a),(x1,x2,y1,y2,g),i)=addN now (c,d,a):=by unfold xH;exact aO hd
  have q:Ns now (b,(c,d,a),(x1,x2,y1,y2,g),i)=decide (a∉ids now):=by unfold Ns;exact aO hd
  rw[p,q];clear q;generalize decide (a∉ids now)=bd at*;have d1:(b%2==0)=true:=by rw[hd];rfl
  clear h t p C hd f j r;go_enter func22,ntmps22
  go_upto_region 1 with fail
  simp only[FR];rw[z.o]
  go_wp2_with fail
  refine u.o.mono ?_;intro e w2 hS;obtain⟨n,l,rfl,s⟩:=A.o _ _ _ _ _ hS;have v:=af s;clear hS s;go_wp2;go_ret2;exact⟨n,l,rfl,v.o⟩
 .have u:=af (R3 (h.below f) B a);have p:xH now (b,(c,d,a),(x1,x2,y1,y2,g),i)=zN now a:=by unfold xH;exact aN hd
  have q:Ns now (b,(c,d,a),(x1,x2,y1,y2,g),i)=decide (a∈ids now):=by unfold Ns;exact aN hd
  rw[p,q];clear q;generalize decide (a∈ids now)=bd at*;have d1:(b%2==0)=false:=aQ hd;clear h t p C hd f j r;go_enter func22,ntmps22
  go_upto_region 1 with fail
  simp only[FR];rw[z.o]
  go_wp2_with fail
  refine u.o.mono ?_;intro e w2 hS;obtain⟨n,l,rfl,s⟩:=A.o _ _ _ _ _ hS;have v:=af s;clear hS s;go_wp2;go_ret2;exact⟨n,l,rfl,v.o⟩
end
theorem FU (a:Option Addr) (l:List Qr) (n c:Nat) (x1 x2 y1 y2 a8:Int) (w:World) (ev:l.length=n) (h:bW FR 10 w a l) (dH:∀o∈l,Uq o) (dG:n<=c):
  aK 5 #[.slice a n c,.agg #[ae x1,ae x2,ae y1,ae y2,au a8]] w (gm w (.bool true)):=by
 subst ev;have bf:=af (fun W=>RZ W);obtain⟨m,bd,dL,eT⟩:∃m:Nat,min (l.length:Int) 60=(m:Int)/\m<=l.length/\m<=60:=⟨min l.length 60,aa,aa,aa⟩;have db:=af bd;have bz:=af h;have c9:=af dH;obtain⟨w1,a9⟩:∃w1,w1=w.alloc (.cells #[ae x1,ae x2,ae y1,ae y2,au a8] 38):=⟨_,rfl⟩;have r:Below w.heap.size w w1:=by rw[a9];exact(aJ _ _).alloc (aB _) _
 have dC:w1.heap[w.heap.size]? =some (KI (x1,x2,y1,y2,a8)):=by rw[a9];exact bV w _
 have c1:=af (Sr w1);have bh:=af r;have bA:=af dC;have c6:=af a9;clear bd h dH r dC a9;go_enter func5,ntmps5
 go_upto_region 1 with fail
 rw[<-c6.o];clear c6
 go_wp2_with fail
 refine c1.o.mono ?_;rintro e w2 ⟨Pb,rfl,hP,bc⟩;have es:=(aZ.1 bA.o).1;have c8:=af (bh.o.trans (bc.mono bh.o.size));have d1:=af ((bc.block _ es).trans bA.o);have dX:=af hP;have cp:=hP.facts.2.2.2.2.2.2.2;have eU:=bc.size;clear c1 hP bc bh bA;have bd:min (l.length:Int) 60=(m:Int):=db.o
 go_wp2_with (refine vM Vs (bz.o.below c8.o) dG 0 m (aY _) dL rfl _ _ _ rfl rfl rfl rfl ?_;intro ei cr;simp only[Nat.sub_zero,kD]at cr |-)
 have er:(l.take m).length=m:=aG;have dT:Hid (∀q∈l.take m,Uq q):=fun q D=>c9.o q (List.mem_of_mem_take D);have dZ:Hid (∀W,Below w.heap.size w W->bW FR 10 W ei (l.take m)):=fun W g=>cr W (bz.o.below g);clear cr bd db bz c9 dL dG;generalize l.take m=P at*;subst er
 go_loopw [40] (fun cs wr=>∃(i:Nat) (G:Nat->Prop) (be:Nat) (L:List Pt) (N wk:Int),cs=.int .i64 i/\i<=P.length/\w2.heap.size<=wr.heap.size/\Hid (be<=i/\L.length<=i)/\Hid (ek wr Pb G be L N wk 0)/\Hid (∀k,G k->w1.heap.size<=k/\k<wr.heap.size)/\Hid (Below w.heap.size w wr)/\Hid (wr.heap[w.heap.size]? =some (KI (x1,x2,y1,y2,a8)))) (fun cs _=>P.length-(intOf cs).toNat)
 case atStart=>exact⟨0,_,0,[],0,0,rfl,aY _,aB _,⟨aB _,aB _⟩,dX,fun k dJ=>⟨dJ.1,dJ.2⟩,c8,d1⟩
 case round=>
  obtain⟨i,G,be,L,N,wk,rfl,hi,eP,aQ,a5,aq,ap,aT⟩:=hrel;by_cases M:i<P.length
  .obtain⟨F,e⟩:∃F:World,F=wr:=⟨_,rfl⟩;subst e;obtain⟨eN,e1,dE,eQ,R⟩:=(dZ.o _ ap.o).get aa;have cx:=R i M 0 aa;have v1:=R i M 1 aa;have cy:=R i M 2 aa;have cz:=R i M 3 aa;have cA:=R i M 4 aa;have cB:=R i M 5 aa;have cC:=R i M 6 aa;have cD:=R i M 7 aa;have cE:=R i M 8 aa;have cF:=R i M 9 aa;simp only[FR,fI,dz,dI]at cx v1 cy cz cA cB cC cD cE cF;have dB:=af (dT.o P[i] (bF M));have c5:=af dE;clear R dE;generalize P[i]=q at*;obtain⟨Y,⟨am,an,al⟩,⟨ab,ac,ad,ah,ob⟩,Z⟩:=q;simp only at cx v1 cy cz cA cB cC cD cE cF;have eS:(i:Int)<(P.length:Int):=aa;obtain rfl:=c5.o;clear c5;obtain⟨w3,ba⟩:∃w3,w3=F.alloc (.cells #[.int .u8 Y,ae am,ae an,au al,ae ab,ae ac,ae ad,ae ah,au ob,.int .u8 Z] 49):=⟨_,rfl⟩;have j:Below F.heap.size F w3:=by rw[ba];exact(aJ _ _).alloc (aB _) _
   have O:w3.heap[F.heap.size]? =some (.cells #[.int .u8 Y,ae am,ae an,au al,ae ab,ae ac,ae ad,ae ah,au ob,.int .u8 Z] 49 (0,0)):=by rw[ba];exact bV F _
   have c7:=ba.symm;have c0:=af (show aK 22 #[aj Pb,.agg #[.int .u8 Y,ae am,ae an,au al,ae ab,ae ac,ae ad,ae ah,au ob,.int .u8 Z]] w3 _ from Ui (a5.o.below j) (by have:=aQ.o.1;omega) (Y,(am,an,al),(ab,ac,ad,ah,ob),Z) dB.o);have dU:Hid ((xH L (Y,(am,an,al),(ab,ac,ad,ah,ob),Z)).length<=L.length+1):=Nr _ _;have bi:=af j;have ej:w3.cell? (ag F.heap.size 0)=some (.int .u8 Y):=aF O;have ce:w3.cell? (ag F.heap.size 1)=some (ae am):=aF O;have cf:w3.cell? (ag F.heap.size 2)=some (ae an):=aF O;have cg:w3.cell? (ag F.heap.size 3)=some (au al):=aF O;have ch:w3.cell? (ag F.heap.size 4)=some (ae ab):=aF O;have ci:w3.cell? (ag F.heap.size 5)=some (ae ac):=aF O;have cj:w3.cell? (ag F.heap.size 6)=some (ae ad):=aF O;have el:w3.cell? (ag F.heap.size 7)=some (ae ah):=aF O;have em:w3.cell? (ag F.heap.size 8)=some (au ob):=aF O;have en:w3.cell? (ag F.heap.size 9)=some (.int .u8 Z):=aF O;generalize xH L (Y,(am,an,al),(ab,ac,ad,ah,ob),Z)=dc at*;generalize Ns L (Y,(am,an,al),(ab,ac,ad,ah,ob),Z)=dD at*;clear ba j O dB
   go_upto_region 6 with fail
   (try rw[c7])
   clear c7 cx v1 cy cz cA cB cC cD cE cF
   go_wp2_with fail
   refine c0.o.mono ?_;rintro e w4 ⟨q,d3,rfl,dF,bb,-,-⟩;have eV:=bi.o.size;have eW:=bb.size;have dQ:=af ((ap.o.trans (bi.o.mono ap.o.size)).trans (bb.toBelow (by have:=ap.o.size;omega) (fun k ck=>by have:=(aq.o k ck).1;omega)));have d2:=af (bq bb ((aP bi.o aT.o).trans aT.o) (fun ck=>by have:=(aq.o _ ck).1;omega));have aN:Hid (∀k,(G k\/w3.heap.size<=k/\k<w4.heap.size)->w1.heap.size<=k/\k<w4.heap.size):=fun k h=>h.elim (fun h=>⟨(aq.o k h).1,by have:=(aq.o k h).2;omega⟩) fun h=>⟨aa,h.2⟩;have dY:=af dF;have dV:Hid (be+dD.toNat<=i+1/\dc.length<=i+1):=⟨by have:=aQ.o.1;have:=dD.toNat_le;omega,by have:=aQ.o.2;have:=dU.o;omega⟩;clear dF bb c0 ej ce cf cg ch ci cj el em en;go_wp2;go_roundw
   case rel=>exact⟨i+1,_,_,dc,d3,_,by go_num,aa,aa,dV,dY,aN,dQ,d2⟩
   case measure=>exact eO
  .obtain rfl:i=P.length:=aa;clear M hi;have co:L.length<=60:=by have:=aQ.o.2;omega
   obtain⟨wp,e⟩:∃wp:World,wp=wr:=⟨_,rfl⟩;subst e;have cq:=a5.o.facts;have aS:=af cq.2.2.2.2.1;have dW:=af cq.2.2.2.1;have e2:=ap.o.size;have f:Hid (w1.heap.size<=Pb/\Pb<wp.heap.size):=⟨cp.1,by have:=cp.2;omega⟩;have eR:¬(P.length:Int)<(P.length:Int):=aa;obtain⟨I,cl⟩:∃A,A=eu (ids (L.filter (qK x1 x2 y2))):=⟨_,rfl⟩;obtain⟨J,cm⟩:∃A,A=eu (ids (L.filter (zU x1 y1 3))):=⟨_,rfl⟩;obtain⟨K,cn⟩:∃A,A=eu (ids (L.filter (zU x1 y1 0))):=⟨_,rfl⟩;have eY:I.length<=60:=by rw[cl];exact vY co _
   have eZ:J.length<=60:=by rw[cm];exact vY co _
   have e0:K.length<=60:=by rw[cn];exact vY co _
   have c2:=af cl;have c3:=af cm;have c4:=af cn;clear cl cm cn cq aQ cp;obtain⟨s,r,t,j,u⟩:=eG aT.o;simp only at s r t j u;have C:=(by have c:=La a5.o x1 x2 y2;rw[<-c2.o]at c;exact c:Calls _ _ _ _ (uE _ _ _ _ _ _ _ _ I));have d:=af C;clear C
   go_wp2_with fail
   refine d.o.mono ?_;rintro e cG ⟨v,t1,rfl,B,x,b,hP⟩;have e3:=b.size;have ez:=af x;have bB:=af (bq b aT.o (fun h=>by have:=f.o;omega));clear aT;have bR:=af (bO B (show wp.heap.size<=wp.heap.size by omega));obtain⟨ec,ce,rfl,-,-,-⟩:=Rd.aD (l:=I) B;clear B;have dd:=af hP;have cQ:=af (ap.o.trans (b.toBelow (show w.heap.size<=wp.heap.size by omega) (fun k h=>by have:=f.o;omega)));clear a5 ap b hP x d;have bj:Hid (∀k,G k->w1.heap.size<=k/\k<cG.heap.size):=fun k h=>⟨(aq.o k h).1,by have:=(aq.o k h).2;omega⟩;clear aq;clear s r t j u;obtain⟨s,r,t,j,u⟩:=eG bB.o;simp only at s r t j u;have C:=(by have c:=xD dd.o x1 x2 (-9223372036854775808) y2 0;rw[Qe aS.o,<-c2.o]at c;exact c:Calls _ _ _ _ (uE _ _ _ _ _ _ _ _ I));have d:=af C;clear C
   go_wp2_with fail
   refine d.o.mono ?_;rintro e cI ⟨v,t2,rfl,B,x,b,hP⟩;have e8:=b.size;have eC:=af x;have bS:=af (aR bR.o b (fun y e h=>by have:=(bR.o.lt y e).1;have:=f.o;omega));clear bR;have bC:=af (bq b bB.o (fun h=>by have:=f.o;omega));clear bB;have bZ:=af (bO B (show wp.heap.size<=cG.heap.size by omega));obtain⟨ed,cf,rfl,-,-,-⟩:=Rd.aD (l:=I) B;clear B;have dg:=af hP;have cT:=af (cQ.o.trans (b.toBelow (show w.heap.size<=cG.heap.size by omega) (fun k h=>by have:=f.o;omega)));clear dd cQ b hP x d;have bn:Hid (∀k,G k->w1.heap.size<=k/\k<cI.heap.size):=fun k h=>⟨(bj.o k h).1,by have:=(bj.o k h).2;omega⟩;clear bj;clear s r t j u;obtain⟨s,r,t,j,u⟩:=eG bC.o;simp only at s r t j u;have C:=(by have c:=CG dg.o x1 y1 3 ai;rw[<-c3.o]at c;exact c:Calls _ _ _ _ (uE _ _ _ _ _ _ _ _ J));have d:=af C;clear C
   go_wp2_with fail
   refine d.o.mono ?_;rintro e cJ ⟨v,t3,rfl,B,x,b,hP⟩;have e9:=b.size;have eD:=af x;have bT:=af (aR bS.o b (fun y e h=>by have:=(bS.o.lt y e).1;have:=f.o;omega));clear bS;have b0:=af (aR bZ.o b (fun y e h=>by have:=(bZ.o.lt y e).1;have:=f.o;omega));clear bZ;have bD:=af (bq b bC.o (fun h=>by have:=f.o;omega));clear bC;have b4:=af (bO B (show wp.heap.size<=cI.heap.size by omega));obtain⟨ee,cg,rfl,-,-,-⟩:=Rd.aD (l:=J) B;clear B;have dh:=af hP;have cU:=af (cT.o.trans (b.toBelow (show w.heap.size<=cI.heap.size by omega) (fun k h=>by have:=f.o;omega)));clear dg cT b hP x d;have bo:Hid (∀k,G k->w1.heap.size<=k/\k<cJ.heap.size):=fun k h=>⟨(bn.o k h).1,by have:=(bn.o k h).2;omega⟩;clear bn;clear s r t j u;obtain⟨s,r,t,j,u⟩:=eG bD.o;simp only at s r t j u;have C:=(by have c:=xD dh.o x1 9223372036854775807 y1 9223372036854775807 0;rw[Vj aS.o,<-c3.o]at c;exact c:Calls _ _ _ _ (uE _ _ _ _ _ _ _ _ J));have d:=af C;clear C
   go_wp2_with fail
   refine d.o.mono ?_;rintro e cK ⟨v,t4,rfl,B,x,b,hP⟩;have fa:=b.size;have eE:=af x;have bU:=af (aR bT.o b (fun y e h=>by have:=(bT.o.lt y e).1;have:=f.o;omega));clear bT;have b1:=af (aR b0.o b (fun y e h=>by have:=(b0.o.lt y e).1;have:=f.o;omega));clear b0;have b5:=af (aR b4.o b (fun y e h=>by have:=(b4.o.lt y e).1;have:=f.o;omega));clear b4;have bE:=af (bq b bD.o (fun h=>by have:=f.o;omega));clear bD;have b8:=af (bO B (show wp.heap.size<=cJ.heap.size by omega));obtain⟨ef,ch,rfl,-,-,-⟩:=Rd.aD (l:=J) B;clear B;have di:=af hP;have cV:=af (cU.o.trans (b.toBelow (show w.heap.size<=cJ.heap.size by omega) (fun k h=>by have:=f.o;omega)));clear dh cU b hP x d;have aN:Hid (∀k,G k->w1.heap.size<=k/\k<cK.heap.size):=fun k h=>⟨(bo.o k h).1,by have:=(bo.o k h).2;omega⟩;clear bo;clear s r t j u;obtain⟨s,r,t,j,u⟩:=eG bE.o;simp only at s r t j u;have C:=(by have c:=CG di.o x1 y1 0 ai;rw[<-c4.o]at c;exact c:Calls _ _ _ _ (uE _ _ _ _ _ _ _ _ K));have d:=af C;clear C
   go_wp2_with fail
   refine d.o.mono ?_;rintro e cL ⟨v,t5,rfl,B,x,b,hP⟩;have fb:=b.size;have eF:=af x;have bX:=af (aR bU.o b (fun y e h=>by have:=(bU.o.lt y e).1;have:=f.o;omega));clear bU;have b2:=af (aR b1.o b (fun y e h=>by have:=(b1.o.lt y e).1;have:=f.o;omega));clear b1;have b6:=af (aR b5.o b (fun y e h=>by have:=(b5.o.lt y e).1;have:=f.o;omega));clear b5;have b9:=af (aR b8.o b (fun y e h=>by have:=(b8.o.lt y e).1;have:=f.o;omega));clear b8;have bG:=af (bq b bE.o (fun h=>by have:=f.o;omega));clear bE;have cb:=af (bO B (show wp.heap.size<=cK.heap.size by omega));obtain⟨eg,ci,rfl,-,-,-⟩:=Rd.aD (l:=K) B;clear B;have dj:=af hP;have cW:=af (cV.o.trans (b.toBelow (show w.heap.size<=cK.heap.size by omega) (fun k h=>by have:=f.o;omega)));clear di cV b hP x d;have bp:Hid (∀k,G k->w1.heap.size<=k/\k<cL.heap.size):=fun k h=>⟨(aN.o k h).1,by have:=(aN.o k h).2;omega⟩;clear aN;clear s r t j u;obtain⟨s,r,t,j,u⟩:=eG bG.o;simp only at s r t j u;have C:=(by have c:=xD dj.o (-9223372036854775808) x1 (-9223372036854775808) y1 0;rw[RU aS.o,<-c4.o]at c;exact c:Calls _ _ _ _ (uE _ _ _ _ _ _ _ _ K));have d:=af C;clear C
   go_wp2_with fail
   refine d.o.mono ?_;rintro e cM ⟨v,t6,rfl,B,x,b,hP⟩;have fc:=b.size;have eH:=af x;have bY:=af (aR bX.o b (fun y e h=>by have:=(bX.o.lt y e).1;have:=f.o;omega));clear bX;have b3:=af (aR b2.o b (fun y e h=>by have:=(b2.o.lt y e).1;have:=f.o;omega));clear b2;have ds:=af (aR b6.o b (fun y e h=>by have:=(b6.o.lt y e).1;have:=f.o;omega));clear b6;have du:=af (aR b9.o b (fun y e h=>by have:=(b9.o.lt y e).1;have:=f.o;omega));clear b9;have dw:=af (aR cb.o b (fun y e h=>by have:=(cb.o.lt y e).1;have:=f.o;omega));clear cb;have bH:=af (bq b bG.o (fun h=>by have:=f.o;omega));clear bG;have dy:=af (bO B (show wp.heap.size<=cL.heap.size by omega));obtain⟨eh,cj,rfl,-,-,-⟩:=Rd.aD (l:=K) B;clear B;have dk:=af hP;have cX:=af (cW.o.trans (b.toBelow (show w.heap.size<=cL.heap.size by omega) (fun k h=>by have:=f.o;omega)));clear dj cW b hP x d;have br:Hid (∀k,G k->w1.heap.size<=k/\k<cM.heap.size):=fun k h=>⟨(bp.o k h).1,by have:=(bp.o k h).2;omega⟩;clear bp;clear s r t j u;obtain⟨_,_,z,-,-,V⟩:=Rd.aD (l:=I) bY.o;injection z with z _ Q;subst z Q;obtain⟨_,_,z,-,-,X⟩:=Rd.aD (l:=I) b3.o;injection z with z _ Q;subst z Q;have c:=sS ec ed I I I.length I.length ce cf cM rfl rfl V X aa aa;rw[show decide (I=I)=true from pV rfl]at c;have d:=af c;clear c V X
   go_wp2_with fail
   refine d.o.mono ?_;rintro e cN ⟨rfl,g⟩;have fd:=g.size;have dn:=af (ak bY.o g);clear bY;have dq:=af (ak b3.o g);clear b3;have b7:=af (ak ds.o g);clear ds;have ca:=af (ak du.o g);clear du;have dx:=af (ak dw.o g);clear dw;have dA:=af (ak dy.o g);clear dy;have bI:=af ((aP g bH.o).trans bH.o);clear bH;have dl:=af (dk.o.below g);have cY:=af (cX.o.trans (g.mono (show w.heap.size<=cM.heap.size by omega)));clear dk cX;have bs:Hid (∀k,G k->w1.heap.size<=k/\k<cN.heap.size):=fun k h=>⟨(br.o k h).1,by have:=(br.o k h).2;omega⟩;clear br;clear g d;obtain⟨_,_,z,-,-,V⟩:=Rd.aD (l:=J) b7.o;injection z with z _ Q;subst z Q;obtain⟨_,_,z,-,-,X⟩:=Rd.aD (l:=J) ca.o;injection z with z _ Q;subst z Q;have c:=sS ee ef J J J.length J.length cg ch cN rfl rfl V X aa aa;rw[show decide (J=J)=true from pV rfl]at c;have d:=af c;clear c V X
   go_wp2_with fail
   refine d.o.mono ?_;rintro e cO ⟨rfl,g⟩;have fe:=g.size;have dp:=af (ak dn.o g);clear dn;have dr:=af (ak dq.o g);clear dq;have dt:=af (ak b7.o g);clear b7;have dv:=af (ak ca.o g);clear ca;have cc:=af (ak dx.o g);clear dx;have cd:=af (ak dA.o g);clear dA;have bJ:=af ((aP g bI.o).trans bI.o);clear bI;have dm:=af (dl.o.below g);have cZ:=af (cY.o.trans (g.mono (show w.heap.size<=cN.heap.size by omega)));clear dl cY;have bt:Hid (∀k,G k->w1.heap.size<=k/\k<cO.heap.size):=fun k h=>⟨(bs.o k h).1,by have:=(bs.o k h).2;omega⟩;clear bs;clear g d;obtain⟨_,_,z,-,-,V⟩:=Rd.aD (l:=K) cc.o;injection z with z _ Q;subst z Q;obtain⟨_,_,z,-,-,X⟩:=Rd.aD (l:=K) cd.o;injection z with z _ Q;subst z Q;have c:=sS eg eh K K K.length K.length ci cj cO rfl rfl V X aa aa;rw[show decide (K=K)=true from pV rfl]at c;have d:=af c;clear c V X
   go_wp2_with fail
   refine d.o.mono ?_;rintro e cP ⟨rfl,g⟩;have ff:=g.size;have d6:=af (ak dp.o g);clear dp;have d7:=af (ak dr.o g);clear dr;have d8:=af (ak dt.o g);clear dt;have d9:=af (ak dv.o g);clear dv;have ea:=af (ak cc.o g);clear cc;have eb:=af (ak cd.o g);clear cd;have aE:=af ((aP g bJ.o).trans bJ.o);clear bJ;have a7:=af (dm.o.below g);have a1:=af (cZ.o.trans (g.mono (show w.heap.size<=cO.heap.size by omega)));clear dm cZ;have aC:Hid (∀k,G k->w1.heap.size<=k/\k<cP.heap.size):=fun k h=>⟨(bt.o k h).1,by have:=(bt.o k h).2;omega⟩;clear bt;clear g d;clear d6 d7 d8 d9 ea eb;cases aH:qN L x1 x2 with
   |none=>
    have bQ:=af (Qg aH 9223372036854775807);have bx:=af aH;clear aH;obtain⟨s,r,t,j,u⟩:=eG aE.o;simp only at s r t j u;have C:=(by have c:=CL a7.o x1 x2;rw[bx.o]at c;exact c:Calls _ _ _ _ (Qb _ _ _ _ _ _ _ _ none));have d:=af C;clear C
    go_wp2_with fail
    refine d.o.mono ?_;rintro e H ⟨t10,rfl,x,b,hP⟩;have ew:=b.size;have dR:=af x;have aw:=af (bq b aE.o (fun h=>by have:=f.o;omega));clear aE;have aU:=af hP;have aI:=af (a1.o.trans (b.toBelow (show w.heap.size<=cP.heap.size by omega) (fun k h=>by have:=f.o;omega)));clear a7 a1 b hP x d;have ar:Hid (∀k,G k->w1.heap.size<=k/\k<H.heap.size):=fun k h=>⟨(aC.o k h).1,by have:=(aC.o k h).2;omega⟩;clear aC;clear s r t j u;have D:Hid (Below H.heap.size H (H.alloc (.cells #[ae 0,ae 0,au 0] 29))):=(aJ _ _).alloc (aB _) _;have aO:Hid ((H.alloc (.cells #[ae 0,ae 0,au 0] 29)).heap[H.heap.size]? =some (yR (0,0,0))):=bV _ _
    go_upto_region 17 with fail
    generalize H.alloc (.cells #[ae 0,ae 0,au 0] 29)=aW at*;have ex:=D.o.size;have ax:=af ((aP D.o aw.o).trans aw.o);clear aw;have aV:=af (aU.o.below D.o);have aL:=af (aI.o.trans (D.o.mono (show w.heap.size<=H.heap.size by omega)));clear aU aI;have av:Hid (∀k,G k->w1.heap.size<=k/\k<aW.heap.size):=fun k h=>⟨(ar.o k h).1,by have:=(ar.o k h).2;omega⟩;clear ar;clear D;obtain⟨s,r,t,j,u⟩:=eG ax.o;simp only at s r t j u;have C:=(by have c:=Lb aV.o x1 x2 9223372036854775807;rw[bQ.o]at c;exact c:Calls _ _ _ _ (D8 _ _ _ _ _ _ _ _ (.bool false)));have d:=af C;clear C
    go_wp2_with fail
    refine d.o.mono ?_;rintro e aX ⟨t12,rfl,x,b,hP⟩;have ey:=b.size;have dS:=af x;have a6:=af (bq b ax.o (fun h=>by have:=f.o;omega));clear ax;have a3:=af (bq b aO.o (fun h=>by have:=f.o;omega));clear aO;have bN:=af hP;have a0:=af (aL.o.trans (b.toBelow (show w.heap.size<=aW.heap.size by omega) (fun k h=>by have:=f.o;omega)));clear aV aL b hP x d;have a2:Hid (∀k,G k->w1.heap.size<=k/\k<aX.heap.size):=fun k h=>⟨(av.o k h).1,by have:=(av.o k h).2;omega⟩;clear av;clear s r t j u
    go_wp2_with fail
    refine(bf.o _).mono ?_;rintro e dM ⟨rfl,U⟩;have aM:=af (a0.o.trans (U.mono (show w.heap.size<=aX.heap.size by omega)));clear U;go_wp2;go_ret;exact⟨rfl,aM.o⟩
   |some p=>
    obtain⟨ct,cu,cv,cw⟩:=Qh aS.o aH;have da:=af (Ld dW.o ct);have d0:=Ic (aS.o p ct);obtain⟨T,E,S⟩:=p;simp only at cu cv cw d0 da;have bQ:=af cu;have d4:=af cv;have d5:=af cw;have bx:=af aH;clear aH ct cu cv cw;obtain⟨s,r,t,j,u⟩:=eG aE.o;simp only at s r t j u;have C:=(by have c:=CL a7.o x1 x2;rw[bx.o]at c;exact c:Calls _ _ _ _ (Qb _ _ _ _ _ _ _ _ (some (T,E,S))));have d:=af C;clear C
    go_wp2_with fail
    refine d.o.mono ?_;rintro e H ⟨t10,rfl,x,b,hP⟩;have ew:=b.size;have dR:=af x;have aw:=af (bq b aE.o (fun h=>by have:=f.o;omega));clear aE;have aU:=af hP;have aI:=af (a1.o.trans (b.toBelow (show w.heap.size<=cP.heap.size by omega) (fun k h=>by have:=f.o;omega)));clear a7 a1 b hP x d;have ar:Hid (∀k,G k->w1.heap.size<=k/\k<H.heap.size):=fun k h=>⟨(aC.o k h).1,by have:=(aC.o k h).2;omega⟩;clear aC;clear s r t j u;have D:Hid (Below H.heap.size H (H.alloc (.cells #[ae T,ae E,au S] 29))):=(aJ _ _).alloc (aB _) _;have aO:Hid ((H.alloc (.cells #[ae T,ae E,au S] 29)).heap[H.heap.size]? =some (yR (T,E,S))):=bV _ _
    go_upto_region 17 with fail
    generalize H.alloc (.cells #[ae T,ae E,au S] 29)=aW at*;have ex:=D.o.size;have ax:=af ((aP D.o aw.o).trans aw.o);clear aw;have aV:=af (aU.o.below D.o);have aL:=af (aI.o.trans (D.o.mono (show w.heap.size<=H.heap.size by omega)));clear aU aI;have av:Hid (∀k,G k->w1.heap.size<=k/\k<aW.heap.size):=fun k h=>⟨(ar.o k h).1,by have:=(ar.o k h).2;omega⟩;clear ar;clear D;obtain⟨s,r,t,j,u⟩:=eG ax.o;simp only at s r t j u;have C:=(by have c:=Lb aV.o x1 x2 9223372036854775807;rw[bQ.o]at c;exact c:Calls _ _ _ _ (D8 _ _ _ _ _ _ _ _ (.bool true)));have d:=af C;clear C
    go_wp2_with fail
    refine d.o.mono ?_;rintro e aX ⟨t12,rfl,x,b,hP⟩;have ey:=b.size;have dS:=af x;have a6:=af (bq b ax.o (fun h=>by have:=f.o;omega));clear ax;have a3:=af (bq b aO.o (fun h=>by have:=f.o;omega));clear aO;have bN:=af hP;have a0:=af (aL.o.trans (b.toBelow (show w.heap.size<=aW.heap.size by omega) (fun k h=>by have:=f.o;omega)));clear aV aL b hP x d;have a2:Hid (∀k,G k->w1.heap.size<=k/\k<aX.heap.size):=fun k h=>⟨(av.o k h).1,by have:=(av.o k h).2;omega⟩;clear av;clear s r t j u;obtain⟨s,r,t,j,u⟩:=eG a6.o;simp only at s r t j u;obtain⟨ay,az,aA⟩:=gW a3.o;simp only at ay az aA;have C:=(by have c:=Lb bN.o x1 x2 E;rw[d4.o]at c;exact c:Calls _ _ _ _ (D8 _ _ _ _ _ _ _ _ (.bool true)));have d:=af C;clear C
    go_wp2_with fail
    refine d.o.mono ?_;rintro e dN ⟨t13,rfl,x,b,hP⟩;have e4:=b.size;have eA:=af x;have bK:=af (bq b a6.o (fun h=>by have:=f.o;omega));clear a6;have a4:=af (bq b a3.o (fun h=>by have:=f.o;omega));clear a3;have bP:=af hP;have cR:=af (a0.o.trans (b.toBelow (show w.heap.size<=aX.heap.size by omega) (fun k h=>by have:=f.o;omega)));clear bN a0 b hP x d;have bk:Hid (∀k,G k->w1.heap.size<=k/\k<dN.heap.size):=fun k h=>⟨(a2.o k h).1,by have:=(a2.o k h).2;omega⟩;clear a2;clear s r t j u;clear ay az aA;obtain⟨ay,az,aA⟩:=gW a4.o;simp only at ay az aA;have d:=af ((by have c:=Vi bP.o S;rw[da.o]at c;exact c:Calls _ _ _ _ (Su _ (some (T,E,S)))))
    go_wp2_with fail
    refine d.o.mono ?_;rintro e ao ⟨rfl,g⟩;have e5:=g.size;have bL:=af ((aP g bK.o).trans bK.o);clear bK;have bu:=af ((aP g a4.o).trans a4.o);clear a4;have de:=af (bP.o.below g);have cS:=af (cR.o.trans (g.mono (show w.heap.size<=dN.heap.size by omega)));clear bP cR;have bl:Hid (∀k,G k->w1.heap.size<=k/\k<ao.heap.size):=fun k h=>⟨(bk.o k h).1,by have:=(bk.o k h).2;omega⟩;clear bk;clear g d;clear ay az aA;have D:Hid (Below ao.heap.size ao (ao.alloc (.cells #[ae T,ae E,au S] 29))):=(aJ _ _).alloc (aB _) _;have bw:Hid ((ao.alloc (.cells #[ae T,ae E,au S] 29)).heap[ao.heap.size]? =some (yR (T,E,S))):=bV _ _
    go_upto_region 24 with fail
    generalize ao.alloc (.cells #[ae T,ae E,au S] 29)=cH at*;have e6:=D.o.size;have bM:=af ((aP D.o bL.o).trans bL.o);clear bL;have bv:=af ((aP D.o bu.o).trans bu.o);clear bu;have df:=af (de.o.below D.o);have bg:=af (cS.o.trans (D.o.mono (show w.heap.size<=ao.heap.size by omega)));clear de cS;have bm:Hid (∀k,G k->w1.heap.size<=k/\k<cH.heap.size):=fun k h=>⟨(bl.o k h).1,by have:=(bl.o k h).2;omega⟩;clear bl;clear D;obtain⟨ay,az,aA⟩:=gW bv.o;simp only at ay az aA;obtain⟨eo,ep,eq⟩:=gW bw.o;simp only at eo ep eq;by_cases dK:-9223372036854775808<E
    .have et:decide (-9223372036854775808<E)=true:=pV dK;have eX:IntKind.i64.wrap (E-1)=E-1:=x8 _ aa;obtain⟨s,r,t,j,u⟩:=eG bM.o;simp only at s r t j u;have C:=(by have c:=Lb df.o x1 x2 (E-1);rw[d5.o]at c;exact c:Calls _ _ _ _ (D8 _ _ _ _ _ _ _ _ (.bool false)));have d:=af C;clear C
     go_wp2_with fail
     refine d.o.mono ?_;rintro e dO ⟨t16,rfl,x,b,hP⟩;have e7:=b.size;have eB:=af x;have eL:=af (bq b bM.o (fun h=>by have:=f.o;omega));clear bM;have eJ:=af (bq b bv.o (fun h=>by have:=f.o;omega));clear bv;have eK:=af (bq b bw.o (fun h=>by have:=f.o;omega));clear bw;have eM:=af hP;have dP:=af (bg.o.trans (b.toBelow (show w.heap.size<=cH.heap.size by omega) (fun k h=>by have:=f.o;omega)));clear df bg b hP x d;have eI:Hid (∀k,G k->w1.heap.size<=k/\k<dO.heap.size):=fun k h=>⟨(bm.o k h).1,by have:=(bm.o k h).2;omega⟩;clear bm;clear s r t j u
     go_wp2_with fail
     refine(bf.o _).mono ?_;rintro e dM ⟨rfl,U⟩;have aM:=af (dP.o.trans (U.mono (show w.heap.size<=dO.heap.size by omega)));clear U;go_wp2;go_ret;exact⟨rfl,aM.o⟩
    .have et:decide (-9223372036854775808<E)=false:=AZ dK
     go_wp2_with fail
     refine(bf.o _).mono ?_;rintro e dM ⟨rfl,U⟩;have aM:=af (bg.o.trans (U.mono (show w.heap.size<=cH.heap.size by omega)));clear U;go_wp2;go_ret;exact⟨rfl,aM.o⟩
end
section
open Go.RowKit Go.ChangeShapes Go.WideShapes Go.Deep
theorem R4:Tryz.prog.cellsOf 79=4/\Tryz.prog.cellsOf 4=1/\Tryz.prog.cellsOf 29=3/\Tryz.prog.cellsOf 2=1/\Tryz.prog.cellsOf 27=1:=⟨aM,aM,aM,aM,aM⟩
theorem Qn {H:Type} {enc:TypeId×Value->H} {w:World} {base:Nat} {spare:Nat->Bool} {held:Bool} {fuel:Nat} {a b c:Value} {x:DataW H×List MemPlace} (h:DataW.trod enc prog w base spare held fuel 29 [a,b,c]=some x):
  ∃p:Int×Int×Int,a=.int .i64 p.1/\b=.int .i64 p.2.1/\c=.int .u32 p.2.2/\(Lit.int .i64 p.1).wf=true/\(Lit.int .i64 p.2.1).wf=true/\(Lit.int .u32 p.2.2).wf=true:=by
 obtain⟨-,-,-,m1,m2⟩:=R4;obtain⟨o,y1,y2,n,-,-,t0,t1,t2⟩:=trod_struct3 underlying29 h;simp only[m1,m2,kD,uL,pE,lL]at t0 t1 t2;have⟨k,d,_,g⟩:=mO underlying2 t0;have⟨l,e,_,i⟩:=mO underlying2 t1;have⟨m,f,_,j⟩:=mO underlying27 t2;simp only[rO,rU]at d e f;exact⟨(k,l,m),d,e,f,g,i,j⟩
theorem Li:Tryz.prog.cellsOf 49=10/\Tryz.prog.cellsOf 5=1/\Tryz.prog.cellsOf 29=3/\Tryz.prog.cellsOf 38=5/\Tryz.prog.cellsOf 2=1/\Tryz.prog.cellsOf 27=1:=⟨aM,aM,aM,aM,aM,aM⟩
section
variable {H:Type} {enc:TypeId×Value->H} {w:World} {base:Nat} {spare:Nat->Bool} {held:Bool} {fuel:Nat}
theorem CR {P:Program} {t:TypeId} {a:Array Field} {cs:List Value} {x:DataW H×List MemPlace} (ht:P.underlying t=some (.struct a)) (h:DataW.trod enc P w base spare held fuel t cs=some x):
  ∃n,∀(i:Nat) (f:Field),a[i]? =some f->∃y,DataW.trod enc P w base spare held n f.type ((cs.drop f.offset).take (P.cellsOf f.type))=some y:=by
 have⟨xs,n,_,_,_,d,b⟩:=DataW.trod_struct ht h;refine⟨n,fun i f hi=>?_⟩;have c:i<a.size:=(aZ.1 hi).1;exact⟨xs[i]'aa,(b i f hi).trans (bZ aa)⟩
theorem Qo {b c d e f:Value} {x:DataW H×List MemPlace} (h:DataW.trod enc prog w base spare held fuel 38 [b,c,d,e,f]=some x):
  ∃p:Bx,b=.int .i64 p.1/\c=.int .i64 p.2.1/\d=.int .i64 p.2.2.1/\e=.int .i64 p.2.2.2.1/\f=.int .u32 p.2.2.2.2/\p.wf:=by
 obtain⟨-,-,-,-,m1,m2⟩:=Li;have⟨n,a⟩:=CR underlying38 h;have⟨A,t0⟩:=a 0 _ rfl;simp only[xP,nE,m1,kD,pE,lL]at t0;have⟨t,g,_,m⟩:=mO underlying2 t0;simp only[rO,rU]at g;have⟨y1,t1⟩:=a 1 _ rfl;simp only[xP,nE,uH,m1,kD,uL,pE,lL]at t1;have⟨u,i,_,o⟩:=mO underlying2 t1;simp only[rO,rU]at i;have⟨y2,t2⟩:=a 2 _ rfl;simp only[xP,nE,uH,m1,kD,uL,pE,lL]at t2;have⟨v,j,_,q⟩:=mO underlying2 t2;simp only[rO,rU]at j;have⟨B,t3⟩:=a 3 _ rfl;simp only[xP,nE,uH,m1,kD,uL,pE,lL]at t3;have⟨y,k,_,r⟩:=mO underlying2 t3;simp only[rO,rU]at k;have⟨C,t4⟩:=a 4 _ rfl;simp only[xP,nE,uH,m2,kD,uL,pE,lL]at t4;have⟨z,l,_,s⟩:=mO underlying27 t4;simp only[rO,rU]at l;exact⟨(t,u,v,y,z),g,i,j,k,l,m,o,q,r,s⟩
end
theorem Kh {H:Type} {enc:TypeId×Value->H} {w:World} {base:Nat} {spare:Nat->Bool} {held:Bool} {fuel:Nat} {a:Option Addr} {g o:Nat} {x:DataW H×List MemPlace} (h:DataW.trod enc prog w base spare held fuel 47 [.slice a g o]=some x):
  ∃l:List Qr,l.length=g/\bW FR 10 w a l/\g<=o/\o<=maxLen/\∀x∈l,Uq x:=by
 obtain⟨Y,m0,m3,X,-,-⟩:=Li;rcases open_slice underlying47 h with⟨f,_⟩|⟨ad,aw,aq,m,n,D,ab,f,_,Q,S,T,_,hi⟩
 .simp at f;obtain⟨rfl,rfl,rfl⟩:=f;exact⟨[],rfl,.nil,aB _,aY _,aA⟩
 .simp at f;obtain⟨rfl,rfl,rfl⟩:=f;have av:g<=m:=by rw[T];split<;>omega
  have⟨l,R,hp⟩:=Q6 g (fun i (p:Qr)=>w.cell? (ad.add (i*10+0))=some (.int .u8 p.1)/\w.cell? (ad.add (i*10+1))=some (ae p.2.1.1)/\w.cell? (ad.add (i*10+2))=some (ae p.2.1.2.1)/\w.cell? (ad.add (i*10+3))=some (au p.2.1.2.2)/\w.cell? (ad.add (i*10+4))=some (ae p.2.2.1.1)/\w.cell? (ad.add (i*10+5))=some (ae p.2.2.1.2.1)/\w.cell? (ad.add (i*10+6))=some (ae p.2.2.1.2.2.1)/\w.cell? (ad.add (i*10+7))=some (ae p.2.2.1.2.2.2.1)/\w.cell? (ad.add (i*10+8))=some (au p.2.2.1.2.2.2.2)/\w.cell? (ad.add (i*10+9))=some (.int .u8 p.2.2.2)/\Uq p) (fun i ar=>by
   have⟨z,y,ht⟩:=hi i aa;rw[Y]at y;have⟨_,O,e⟩:=World.cells?_some y
   match z,O with
   |[ac,af,ah,aj,ak,al,am,an,ao,ap],_=>
    have⟨ax,k⟩:=CR underlying49 ht;have⟨ay,t0⟩:=k 0 _ rfl;have⟨y1,t1⟩:=k 1 _ rfl;have⟨y2,t2⟩:=k 2 _ rfl;have⟨az,t3⟩:=k 3 _ rfl;simp only[xP,nE,uH,m0,m3,X,kD,uL,pE,lL]at t0 t1 t2 t3;have⟨b,r,_,K⟩:=mO underlying5 t0;simp only[rO,rU]at r;have⟨p,A,B,C,L⟩:=Qn t1;have⟨q,E,F,G,I,J,M⟩:=Qo t2;have⟨d,s,_,N⟩:=mO underlying5 t3;simp only[rO,rU]at s;subst r A B C E F G I J s;exact⟨(b,p,q,d),by simpa[nY]using e 0 ai,by simpa[nY]using e 1 ai,by simpa[nY]using e 2 ai,by simpa[nY]using e 3 ai,by simpa[nY]using e 4 ai,by simpa[nY]using e 5 ai,by simpa[nY]using e 6 ai,by simpa[nY]using e 7 ai,by simpa[nY]using e 8 ai,by simpa[nY]using e 9 ai,K,L,M,N⟩)
  refine⟨l,R,?_,Q,S,fun x W=>?_⟩
  .by_cases t:l=[]
   .exact .inl t
   .obtain⟨b,off,Z⟩:=ad;have U:0<l.length:=Au.2 t;have u:=(hp 0 U).1;have V:Z=none:=by simpa[Addr.add]using World.cell?_spot u
    subst V;have v:∀i,((ag b off):Addr).add i=(ag b (off+i)):=fun i=>by unfold Addr.add;split<;>simp_all
    refine .inr ⟨b,off,rfl,?_,fun i hi j P=>?_⟩
    .have:=gX w _ u;rw[v]at this;exact this
    .have c:=hp i hi;simp only[v]at c;rw[uY]
     match j,P with
     |0,_=>exact c.1
     |1,_=>exact c.2.1
     |2,_=>exact c.2.2.1
     |3,_=>exact c.2.2.2.1
     |4,_=>exact c.2.2.2.2.1
     |5,_=>exact c.2.2.2.2.2.1
     |6,_=>exact c.2.2.2.2.2.2.1
     |7,_=>exact c.2.2.2.2.2.2.2.1
     |8,_=>exact c.2.2.2.2.2.2.2.2.1
     |9,_=>exact c.2.2.2.2.2.2.2.2.2.1
  .obtain⟨i,hi,rfl⟩:=jk W;exact(hp i hi).2.2.2.2.2.2.2.2.2.2
end
end Go.Proofs.YtkjdbndekceffaaGreat
