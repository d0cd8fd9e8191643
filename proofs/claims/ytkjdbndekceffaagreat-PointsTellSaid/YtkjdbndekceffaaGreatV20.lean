/- Made small by a program. -/
import Derived.Test.YtkjdbndekceffaaGreatV19
set_option linter.unusedSimpArgs false
set_option linter.unusedVariables false
set_option maxRecDepth 100000
set_option maxHeartbeats 16000000
namespace Go.Proofs.YtkjdbndekceffaaGreat
open Tryz
section
open Go.RowKit Go.Sort Go.Shelf Go.Lib Go.Maps
attribute [local irreducible] wpQuiet
attribute [local go_sem] Oper.dZ
theorem Lp (B:List (Nat×Nat×List Pt)) (i:Nat):ja B=ja (B.take i)++ja (B.drop i):=by
 unfold ja;rw[<-gZ,jd]
theorem EZ {B:List (Nat×Nat×List Pt)} {i:Nat} (hi:i<B.length):ja (B.take (i+1))=ja (B.take i)++B[i].2.2:=by
 unfold ja;rw[gT hi,gZ];simp
theorem DK (B:List (Nat×Nat×List Pt)) (i:Nat):(ja (B.take i)).Sublist (ja B):=by
 rw[Lp B i];exact List.sublist_append_left _ _
theorem Ty {l m:List Pt} (h:l.Sublist m) (a:lF m=true):lF l=true:=(fV l).2 (((fV m).1 a).sublist (h.map _))
theorem Jo {l m:List Pt} (h:l.Perm m) (a:lF m=true):lF l=true:=(fV l).2 ((show(ids l).Perm (ids m)from h.map _).nodup_iff.2 ((fV m).1 a))
theorem Rl {l m:List Pt} (h:l.Perm m) (a:lF m=true):bL l=bL m:=
 EY (Jo h a) a fun p=>by rw[h.mem_iff,Ew (fun q=>h.mem_iff) p]
theorem bV.Jz {α:Type} {enc:α->List Value} {sz:Nat} {w w':World} {a:Option Addr} {l:List α} {S:Nat->Prop} (h:bV enc sz w a l) (K:aB S w w') (hS:∀x,a=some x->¬S x.block):bV enc sz w' a l:=by
 rcases h with h|⟨b,off,rfl,c,d⟩
 .exact .inl h
 .have e:=K.block b c (hS _ rfl);exact .inr ⟨b,off,rfl,cO c K.size,fun i hi j f=>(dJ e).trans (d i hi j f)⟩
section
variable {w:World} {Pb m:Nat} {G:Nat->Prop} {now:List Pt} {N wk eT:Int}
theorem nS.clip {w1:World} {F:Nat->Nat->Prop} {B:List (Nat×Nat×List Pt)} (W:nS w1 G F B):nS w1 G (fun j k=>F j k/\j<B.length) B:=
 ⟨fun j a=>by
  have:(fun k=>F j k/\j<B.length)=F j:=by funext k;simp[a]
  rw[this];exact W.bk j a,fun j k h=>W.Wn j k h.1,fun i j k b c=>W.ap i j k b.1 c.1⟩
theorem nS.asked {w1 w2 w3:World} {F:Nat->Nat->Prop} {B:List (Nat×Nat×List Pt)} (W:nS w1 (fun k=>∃j,F j k) F B) (hF:∀j k,F j k->j<B.length) {i:Nat} (hi:i<B.length) (l:Bk w2 (fun k=>F i k\/w1.heap.size<=k/\k<w2.heap.size) B[i].1 B[i].2.1 B[i].2.2) (K:aB (F i) w1 w2) (a:Below w2.heap.size w2 w3):
  nS w3 (fun k=>∃j,F j k\/j=i/\w1.heap.size<=k/\k<w2.heap.size) (fun j k=>F j k\/j=i/\w1.heap.size<=k/\k<w2.heap.size) B:=by
 have b:∀j k,F j k->k<w1.heap.size:=fun j k h=>(W.bk j (hF j k h)).lt k h;refine⟨fun j m=>?_,fun j k h=>⟨j,h⟩,?_⟩
 .by_cases e:j=i
  .subst e;have:(fun k=>F j k\/j=j/\w1.heap.size<=k/\k<w2.heap.size)=fun k=>F j k\/w1.heap.size<=k/\k<w2.heap.size:=by funext k;simp
   rw[this];exact l.below a
  .have:(fun k=>F j k\/j=i/\w1.heap.size<=k/\k<w2.heap.size)=F j:=by funext k;simp[e]
   rw[this];exact((W.bk j m).kept K fun k f g=>e (W.ap j i k f g)).below a
 .rintro j c k (h|⟨e,h,-⟩) (h'|⟨d,h',-⟩)
  .exact W.ap j c k h h'
  .have:=b j k h;omega
  .have:=b c k h';omega
  .rw[e,d]
def WE (w:World) (Pb:Nat) (G:Nat->Prop) (m:Nat) (now:List Pt) (N wk eT:Int) (e:Ending) (w':World):Prop:=
 ∃(v:Value) (G':Nat->Prop),e=.returned v/\w'.ownsRow w.heap.size 27 1 v (dh (ids (bL now))).length ((dh (ids (bL now))).map (Value.int .u32))/\dG w' Pb G' m now N wk eT/\aB G w w'/\∀k,G' k->(G k\/w.heap.size<=k)/\k<w'.heap.size/\v.ownBlock≠some k
theorem MG (h:dG w Pb G m now N wk eT) (ci:m<=20000):
  aK 16 #[aj Pb] w (WE w Pb G m now N wk eT):=by
 have ar:=h.facts;obtain⟨Hb,Ab,base,av,GH,SD,A,D,ALL,O,rfl,a3⟩:=h;have hu:lF (A.map (·.1))=true:=(fV _).2 ar.2.2.2.1;have aF:=af (lL O.blk);have aG:=af (Mt O.half.clip);have bI:w.cell? (ag Pb 0)=some (aj Hb):=aI O.blk;have f:=af O;have H:=af a3;have aY:=af hu;have a0:=af ar.2.2.2.2.1;have b2:(A.map (·.1)).length<=20000:=aa;clear O a3 hu ar;go_enter func16,ntmps16
 go_wp2_with (go_at_call 55;refine aF.o.mono ?_;rintro e w1 ⟨rfl,a2⟩;have bR:=a2.symm;clear a2;subst bR)
 refine aG.o.mono ?_;rintro e w1 ⟨v,B,F,rfl,K,q,ao,Q,-,-,ca,a7⟩;have be:lF (ja B)=true:=Jo Q aY.o;have ch:(ja B).length<=20000:=by rw[Q.length_eq];exact b2
 have bf:Mj (ja B):=fun p hp=>by
  obtain⟨c,bU,rfl⟩:=dD.1 (Q.mem_iff.1 hp);exact(a0.o c.1 (sF bU)).2.2
 obtain⟨cs,cu,rfl,-,-,-⟩:=Rd.aD (enc:=TW) K;have aV:=af K;have bo:=af q;have aZ:=af ao;have br:=af a7;have bC:Hid (bL (ja B)=bL (A.map (·.1))):=Rl Q aY.o;have bD:=af be;have bE:=af bf;have cj:=q.size;have ab:Hid (∀j k,F j k->GH k/\k<w.heap.size):=fun j k h=>ao.Wn j k h;clear K q ao Q a7 be bf aG aF bI a0
 go_wp2_with fail
 go_loopw [3,17] (fun av E wr=>∃(i:Nat) (S:List Pt) (J:Option Addr) (ac:Nat) (g:Nat->Nat->Prop),av=.slice J S.length ac/\E=.int .i64 i/\i<=B.length/\S.length<=ac/\Hid (S=bL (ja (B.take i)))/\Hid (bV bX 3 wr J S)/\Hid (∀x,J=some x->∀j k,g j k->k≠x.block)/\Hid (nS wr (fun k=>∃j,g j k) g B)/\Hid (∀j k,g j k->j<B.length/\(F j k\/w1.heap.size<=k))/\Hid (aB (fun k=>∃j,F j k) w1 wr)) (fun _ E _=>B.length-(intOf E).toNat)
 case atStart=>exact⟨0,[],none,0,fun j k=>F j k/\j<B.length,rfl,rfl,aT _,aT _,by show[]=_;simp[ja,Tx],.inl rfl,(fun x e=>by cases e),⟨aZ.o.clip.bk,fun j k h=>⟨j,h⟩,aZ.o.clip.ap⟩,fun j k h=>⟨h.2,.inl h.1⟩,aB.refl _ _⟩
 case round=>
  obtain⟨i,S,J,ac,g,rfl,rfl,hi,bT,n,aW,aQ,t,r,s⟩:=hrel;by_cases d:i<B.length
  .have bd:=aU aV.o s.o (fun X e h9=>by
    obtain⟨j,h9⟩:=h9;have u:=(aV.o.lt X e).1;have y:=(ab.o j X h9).2;omega)
   obtain⟨ct,cv,ah,-,-,bc⟩:=Rd.aD (enc:=TW) bd;injection ah with ah _ bP;subst ah bP;obtain⟨b8,b9,V,-,z⟩:=bc.get aa;have bl:=z i d;have Z:=af (Xk (t.o.bk i d));have aM:=af (fun w2 w3 u y al=>t.o.asked (w2:=w2) (w3:=w3) (fun j k h=>(r.o j k h).1) d u y al);have aX:=af (EZ d);have Y:=(DK B (i+1)).length_le;have C:lF (ja (B.take (i+1)))=true:=Ty (DK B (i+1)) bD.o;have R:Mj (ja (B.take (i+1))):=fun p hp=>bE.o p ((DK B (i+1)).subset hp);rw[EZ d]at C R Y;unfold TW at bl;subst V;generalize B[i]=b at*;obtain⟨tb,n0,lb⟩:=b;simp only at bl Z aM aX C R Y;clear z bc bd;have cf:(i:Int)<(B.length:Int):=aa;rw[bQ]at Y;have am:=(yC.1 C).1;have an:=(yC.1 C).2.1;have b0:=qj (l:=ja (B.take i));have b1:=qj (l:=lb);have az:=af (fun(W:World) (T:Option Addr) (U:Nat) (u:bV bX 3 W J S) (y:bV bX 3 W T (bL lb)) (al:(bL lb).length<=U)=>by
    have h:=Oe J T S (bL lb) S.length (bL lb).length ac U W rfl rfl bT al u y (by have:=n.o;subst this;omega) (by have:=n.o;subst this;exact MF am fun p hp=>R p (JL _ hp)) (MF an fun p hp=>R p (List.mem_append_right _ hp)) (by have:=n.o;subst this;exact DJ am) (DJ an) (by have:=n.o;subst this;exact EX C);have e:bL (S++bL lb)=bL (ja (B.take (i+1))):=by rw[aX.o,n.o];exact Rk C
    rw[e]at h;exact h)
   clear C R Y am an b0 b1
   go_wp2_with fail
   refine Z.o.mono ?_;rintro e w2 ⟨T,U,rfl,a8,ba,a5,au⟩;have bp:=af a5;have ad:=af au;have aE:=af (az.o w2 T U (aW.o.Jz au fun x ax h=>aQ.o x ax i _ h rfl) ba a8);clear a5 au ba a8 az Z
   go_wp2_with fail
   refine aE.o.mono ?_;rintro e w3 ⟨cr,rfl,aw,a6⟩;obtain⟨bF,bM,rfl,-,bW,bb⟩:=bV.aD bq ai aw;have bv:=af aw;have aN:=af a6;have bz:=af bb;have ck:=ad.o.size;have cn:=s.o.size;clear aw a6 bb aE;go_wp2;go_roundw
   case rel=>
    refine⟨i+1,_,bF,bM,fun j k=>g j k\/j=i/\wr.heap.size<=k/\k<w2.heap.size,rfl,by go_num,aa,bW,rfl,bz.o,fun x ax j k h=>?_,aM.o w2 w3 bp.o ad.o aN.o,fun j k h=>?_,?_⟩
    .have u:=(bv.o.lt x.block (by rw[ax];rfl)).1;rcases h with h|⟨-,-,h⟩
     .have y:=(t.o.bk j (r.o j k h).1).lt k h;omega
     .omega
    .rcases h with h|⟨rfl,h,-⟩
     .exact r.o j k h
     .exact⟨d,.inr aa⟩
    .refine(aB.strip (((s.o.mono fun k h=>.inl h)).trans (ad.o.mono fun k h=>?_))).below aN.o;rcases(r.o i k h).2 with h9|h9
     .exact .inl ⟨i,h9⟩
     .exact .inr h9
   case measure=>exact bZ
  .obtain rfl:i=B.length:=aa;rw[iE]at n;have cc:S.length<=20000:=by have u:=n.o;have y:=qj (l:=ja B);rw[<-u]at y;omega
   have cl:=s.o.size;have I:Hid (aB GH w wr):=((aB.refl GH w).below bo.o).trans (s.o.mono fun k h=>by
    obtain⟨j,h⟩:=h;exact(ab.o j k h).1)
   have aq:∀k,av.ownBlock=some k->k<w.heap.size:=fun k e=>(f.o.row.lt k e).2;have cb:=(bg.1 f.o.blk).1;have a:=f.o.si;have P:∀j k,g j k->k<wr.heap.size/\(GH k\/w.heap.size<=k):=fun j k h=>⟨(t.o.bk j (r.o j k h).1).lt k h,(r.o j k h).2.imp (fun h=>(ab.o j k h).1) fun h=>aa⟩;have bx:Hid (dG wr Pb (fun k=>(G k\/w.heap.size<=k)/\k<wr.heap.size) m (A.map (·.1)) N wk eT):=by
    refine⟨Hb,Ab,base,av,fun k=>(GH k/\k<w.heap.size)\/∃j,g j k,SD,A,D,ALL,⟨bu I.o f.o.blk (fun h=>(a.1 Pb h).2.1 rfl),aU f.o.row I.o (fun X e h=>(a.1 X h).2.2.1 e),br.o wr g _ s.o ⟨t.o.bk,fun j k h=>.inr ⟨j,h⟩,t.o.ap⟩ (fun k h=>.inl h) (fun j k h=>(r.o j k h).2),f.o.dir.kept I.o (fun k h h9=>(a.1 k h9).1 h),bA f.o.hb I.o.size,f.o.few,f.o.fwd,f.o.bwd,⟨fun k hk=>?_,fun k hk=>⟨(a.2.1 k hk).1,(a.2.1 k hk).2.1,by have:=(a.2.1 k hk).2.2;omega⟩,a.2.2⟩⟩,rfl,fun k hk=>?_⟩
    .have hq:GH k\/w.heap.size<=k:=hk.elim (fun h=>.inl h.1) fun⟨j,h⟩=>(P j k h).2;have a9:k<wr.heap.size:=hk.elim (fun h=>by have:=h.2;omega) fun⟨j,h⟩=>(P j k h).1;rcases hq with hq|hq
     .exact⟨(a.1 k hq).1,(a.1 k hq).2.1,(a.1 k hq).2.2.1,a9⟩
     .exact⟨fun h=>by have:=(a.2.1 k h).2.2;omega,aa,fun e=>by have:=aq k e;omega,a9⟩
    .rcases hk with hk|hk|rfl|hk
     .rcases hk with hk|⟨j,hk⟩
      .exact⟨.inl (H.o k (.inl hk.1)),by have:=hk.2;omega⟩
      .exact⟨(P j k hk).2.imp (fun h=>H.o k (.inl h)) id,(P j k hk).1⟩
     .exact⟨.inl (H.o k (.inr (.inl hk))),by have:=(a.2.1 k hk).2.2;omega⟩
     .exact⟨.inl (H.o k (.inr (.inr (.inl rfl)))),aa⟩
     .exact⟨.inl (H.o k (.inr (.inr (.inr hk)))),by have:=aq k hk;omega⟩
   have ce:¬(B.length:Int)<(B.length:Int):=aa;have bt:Hid (aB G w wr):=I.o.mono fun k h=>H.o k (.inl h);clear I a P aq;have bB:Hid (S=bL (A.map (·.1))):=n.o.trans bC.o;clear n aQ t r s;obtain⟨w4,bS⟩:∃w4:World,w4=wr:=⟨_,rfl⟩;subst bS
   go_wp2_with fail
   go_loopw [6,31] (fun v E wr=>∃i:Nat,E=.int .i64 i/\i<=S.length/\Hid (wr.ownsRow w4.heap.size 27 1 v (ids (S.take i)).length ((ids (S.take i)).map (Value.int .u32)))/\Below w4.heap.size w4 wr) (fun _ E _=>S.length-(intOf E).toNat)
   case atStart=>exact⟨0,rfl,aT _,by simp[ids];exact cZ _ _ _ _,aJ _ _⟩
   case round=>
    obtain⟨i,rfl,hi,HO,q⟩:=hrel;have b5:=q.size;have b3:(ids (S.take i)).length<=20000:=by
     unfold ids;rw[bK,dO];omega
    by_cases d:i<S.length
    .obtain⟨b,off,V,cd,z⟩:=(aW.o.below q).get aa;have bj:=z i d 0 aa;have x1:=z i d 1 aa;have x2:=z i d 2 aa;simp only[bX,eG,eQ,df]at bj x1 x2;have aO:Hid (ids (S.take (i+1))=ids (S.take i)++[S[i].2.2]):=by
      show _=_;unfold ids;rw[gT d,bJ];rfl
     have aL:=af V;clear z V;generalize S[i]=p at*;obtain⟨bh,bi,ay⟩:=p;simp only at bj x1 x2 aO;obtain rfl:=aL.o;clear aL;generalize ids (S.take i)=L at*;have cg:(i:Int)<(S.length:Int):=aa;have aR:=af (HO.o.alloc (.cells #[ae bh,ae bi,ak ay] 29));have bm:=q.alloc b5 (.cells #[ae bh,ae bi,ak ay] 29)
     go_wp2_with (at_builtin;refine iw vg w4.heap.size aR.o [.int .u32 ay] rfl (by simp[Value.oneCell']) rfl _ _ rfl rfl _ (by show aC (wr.heap.size+1) 1 1=_;simp) dE aa aH ?_;intro cq w6 b4 bY;have bG:=bH bm aR.o bY aH (aA _))
     go_roundw
     case rel=>
      refine⟨i+1,by go_num,aa,?_,bG⟩;show World.ownsRow _ _ _ _ _ _ _;rw[aO.o,bJ,bQ];exact b4
     case measure=>exact bZ
    .obtain rfl:i=S.length:=aa;have M:=HO.o;rw[iE]at M b3;have bn:=af (A7 M aa);have aS:=af M;obtain⟨co,cp,rfl,-,-,-⟩:=Rd.aD M;have bs:=af q;clear M HO q
     go_wp2_with (go_at_call 64;refine bn.o.mono ?_;rintro e b7 ⟨rfl,K,a4⟩;have bw:=af K;have aP:=af a4;clear K a4)
     go_ret;have cm:=aP.o.size;have a1:aB (fun _=>False) w4 b7:=aB.strip ((((aB.refl (fun _=>False) w4).below bs.o).mono fun k h=>.inl h).trans (aP.o.mono fun k h=>.inr (aS.o.lt k h).1));have bO:dh (ids S)=dh (ids (bL (A.map (·.1)))):=by rw[<-bB.o]
     have b6:(dh (ids S)).length=(ids S).length:=dY _;refine⟨_,fun k=>(G k\/w.heap.size<=k)/\k<w4.heap.size,rfl,?_,bx.o.kept a1 fun _ _ h=>h,bt.o.trans (a1.mono fun _ h=>h.elim),fun k hk=>⟨hk.1,aa,fun e=>by have:=(aS.o.lt k e).1;omega⟩⟩;rw[<-bO,b6];exact bN bw.o aa
end
end
section
open Go.RowKit Go.Maps
attribute [local irreducible] wpQuiet
theorem OH (x1 x2 y:Int) (a b c:Int):
  (oV x1 x2 y (a,b,c)=true/\decide (x1<=a)=true/\decide (a<=x2)=true/\decide (b<=y)=true)\/
  (oV x1 x2 y (a,b,c)=false/\decide (x1<=a)=false)\/(oV x1 x2 y (a,b,c)=false/\decide (x1<=a)=true/\decide (a<=x2)=false)\/
  (oV x1 x2 y (a,b,c)=false/\decide (x1<=a)=true/\decide (a<=x2)=true/\decide (b<=y)=false):=by
 unfold oV;simp only[bO,gY];omega
theorem Jp (a:Option Addr) (l:List Pt) (n c:Nat) (w:World) (R:l.length=n) (h:bV bX 3 w a l) (ab:n<=1000000) (x1 x2 y:Int):
  aK 77 #[.slice a n c,ae x1,ae x2,ae y] w fun e w'=>∃v,e=.returned v/\w'.ownsRow w.heap.size 27 1 v (rZ l x1 x2 y).length ((rZ l x1 x2 y).map (.int .u32))/\Below w.heap.size w w':=by
 subst R;have H:=af h;clear h;have J:=af (fun a l n c w=>ug a l n c w);have A:rZ l x1 x2 y=dh (ids (l.filter (oV x1 x2 y))):=rfl;rw[A,dY];clear A;go_enter func77,ntmps77;go_wp2
 go_loopw [9,10] (fun v u wr=>∃(i:Nat),u=.int .i64 i/\i<=l.length/\Hid (wr.ownsRow w.heap.size 27 1 v (ids ((l.take i).filter (oV x1 x2 y))).length ((ids ((l.take i).filter (oV x1 x2 y))).map (.int .u32)))/\Below w.heap.size w wr) (fun _ u _=>l.length-(intOf u).toNat)
 case atStart=>exact⟨0,rfl,aT _,by simp[ids];exact cZ _ _ _ _,aJ _ _⟩
 case round=>
  obtain⟨i,rfl,hi,HO,d⟩:=hrel;by_cases j:i<l.length
  .obtain⟨b,off,B,Y,k⟩:=(H.o.below d).get aa;have F:=k i j 0 aa;have G:=k i j 1 aa;have I:=k i j 2 aa;simp only[bX,eG,eQ,df]at F G I;have ac:(ids ((l.take i).filter (oV x1 x2 y))).length<=1000000:=by
    unfold ids;rw[bK];exact bA (fq _ _) (by rw[dO];omega)
   have s:Hid _:=(iG j (oV x1 x2 y)).1;have r:Hid _:=(iG j (oV x1 x2 y)).2;have x:=af B;clear k B;generalize l[i]=p at*;obtain⟨V,W,E⟩:=p;simp only at F G I;obtain rfl:=x.o;clear x;generalize ids ((l.take i).filter (oV x1 x2 y))=L at*;have D:=d.size;have Z:(i:Int)<(l.length:Int):=aa;have q:=af HO.o;rcases OH x1 x2 y V W E with⟨f,d1,d2,d3⟩|⟨f,d1⟩|⟨f,d1,d2⟩|⟨f,d1,d2,d3⟩
   .have m:=af (s.o f);clear f s r
    go_wp2_with (at_builtin;refine iw CF w.heap.size q.o [.int .u32 E] rfl (by simp[Value.oneCell']) rfl _ _ rfl rfl _ rfl dE aa D ?_;intro ad w6 S t;have K:=bH d q.o t D (aA _))
    go_roundw
    case rel=>
     refine⟨i+1,by go_num,aa,?_,K⟩;show World.ownsRow _ _ _ _ _ _ _;rw[m.o,bJ,bQ];exact S
    case measure=>exact bZ
   all_goals
    have m:=af (r.o f);clear f s r;go_wp2;go_roundw
    case rel=>
     refine⟨i+1,by go_num,aa,?_,d⟩;show World.ownsRow _ _ _ _ _ _ _;rw[m.o];exact q.o
    case measure=>exact bZ
  .obtain rfl:i=l.length:=aa;have z:=HO.o;rw[iE]at z;have O:(ids (l.filter (oV x1 x2 y))).length<=1000000:=by
    unfold ids;rw[bK];exact bA (fq _ _) aa
   obtain⟨av,cv,rfl,-,-,T⟩:=Rd.aD z;have Q:=J.o av _ _ cv wr rfl T O
   go_wp2_with (go_at_call 156;refine Q.mono ?_;rintro e ag ⟨X,rfl,C,P⟩)
   go_ret;refine⟨X,rfl,?_,d.trans (P.mono d.size)⟩;exact⟨C.1,by
    rcases C.2 with h|⟨g,M,N,e,t,U⟩
    .exact .inl h
    .exact .inr ⟨g,M,N,e,bA d.size t,U⟩⟩
attribute [local go_sem] Oper.dZ
end
section
open Go Go.RowKit
theorem Rm {l:List Pt} {x1 x2:Int} {i:Nat} (hi:i<l.length) (h:qh x1 x2 l[i]=false):uU (l.take (i+1)) x1 x2=uU (l.take i) x1 x2:=by
 unfold uU;rw[gT hi,kW];simp[h]
theorem MH {l:List Pt} {x1 x2:Int} {p:Pt}:p∈uU l x1 x2↔p∈l/\qh x1 x2 p=true:=by
 unfold uU;rw[jL,bI]
theorem MI {l:List Pt} (hu:(ids l).Nodup) (x1 x2:Int):(ids (l.filter (qh x1 x2))).Nodup:=hu.sublist (List.filter_sublist.map _)
theorem Tz {l:List Pt} (hu:(ids l).Nodup) (x1 x2:Int):(uU l x1 x2).Pairwise mM:=uh (MI hu x1 x2)
theorem TA {l:List Pt} (hu:(ids l).Nodup) {x1 x2:Int} {i k:Nat} (hi:i<l.length) (h:qh x1 x2 l[i]=true) (S:List Pt) (hS:S=uU (l.take i) x1 x2) (s:k<=S.length)
  (q:∀y∈S.drop k,mM l[i] y) (b:k=0\/∃h:k-1<S.length,¬mM l[i] S[k-1]):fQ S k l[i]=uU (l.take (i+1)) x1 x2:=by
 have o:∀j,(ids (l.take j)).Nodup:=fun j=>hu.sublist ((List.take_sublist j l).map _);have n:S.Pairwise mM:=by rw[hS];exact Tz (o i) x1 x2
 have r:∀y∈S,y.2.2≠l[i].2.2:=fun y a e=>by
  rw[hS,MH]at a;obtain⟨t,ht,f⟩:=iN a.1;rw[qx]at f;simp only[dO]at ht;have hp:=gH.1 (dF.1 hu) t i aa hi aa;rw[f]at hp;exact hp e
 refine Gf (MI (o (i+1)) x1 x2) (vo n q fun y a=>?_) fun p=>?_
 .obtain⟨t,ht,rfl⟩:=iN a;rw[qx];simp only[dO]at ht;rcases b with b|⟨m,b⟩
  .omega
  .have g:mM S[k-1] l[i]:=by
    have:=r S[k-1] (bC m);unfold mM at*;omega
   by_cases e:t=k-1
   .subst e;exact g
   .exact pM (gH.1 n t (k-1) aa m aa) g
 .rw[O0,hS,MH,gT hi,bI,bW,lS];constructor
  .rintro(⟨c,d⟩|rfl)
   .exact⟨.inl c,d⟩
   .exact⟨.inr rfl,h⟩
  .rintro⟨c|rfl,d⟩
   .exact .inl ⟨c,d⟩
   .exact .inr rfl
end
section
open Go.RowKit Go.Sort Go.Shelf Go.Lib Go.Maps
attribute [local irreducible] wpQuiet
attribute [local go_sem] Oper.dZ
theorem Jq (p q:Pt) (w:World):aK 155 #[jb p.1 p.2.1 p.2.2,jb q.1 q.2.1 q.2.2] w (gD w (.bool (decide (mM p q)))):=by
 obtain⟨k,a,i⟩:=p;obtain⟨l,b,j⟩:=q;have g:Hid (∀o h,Below w.heap.size w ((w.alloc o).alloc h)):=fun o h=>((aJ _ _).alloc (aA _) o).alloc ax h;generalize d:decide (mM (k,a,i) (l,b,j))=r;unfold mM at d;simp only at d |-;by_cases e:a<b
 .have d1:decide (a<b)=true:=by simp[e]
  have f:r=true:=by rw[<-d];simp[e]
  subst f;clear d e;go_enter func155,ntmps155;go_wp2;go_ret;exact⟨rfl,g.o _ _⟩
 .have d1:decide (a<b)=false:=by simp[e]
  by_cases c:a=b
  .have d2:(a==b)=true:=by simp[c]
   have d3:decide (a=b)=true:=by simp[c]
   have f:r=decide (i<j):=by rw[<-d];simp[c]
   subst f;clear d e c;go_enter func155,ntmps155;go_wp2;go_ret;exact⟨rfl,g.o _ _⟩
  .have d2:(a==b)=false:=by simp[c]
   have d3:decide (a=b)=false:=by simp[c]
   have f:r=false:=by rw[<-d];simp[e,c]
   subst f;clear d e c;go_enter func155,ntmps155;go_wp2;go_ret;exact⟨rfl,g.o _ _⟩
theorem Lr (a:Option Addr) (l:List Pt) (n c:Nat) (w:World) (bu:l.length=n) (h:bV bX 3 w a l) (am:n<=100000) (hu:(ids l).Nodup) (x1 x2 K:Int):
  aK 76 #[.slice a n c,ae x1,ae x2,ae K] w fun e w'=>(∃ad bp L,L=(uU l x1 x2).take K.toNat/\e=.returned (.slice ad L.length bp)/\bV bX 3 w' ad L)/\Below w.heap.size w w':=by
 subst bu;have H:=af h;have bh:=af hu;clear h hu;go_enter func76,ntmps76;go_wp2
 go_loopw [9,10] (fun v aN wr=>∃(i:Nat) (S:List Pt),aN=.int .i64 i/\i<=l.length/\S.length<=i/\Hid (S=uU (l.take i) x1 x2)/\Hid (wr.ownsRow w.heap.size 29 3 v S.length (S.flatMap bX))/\Below w.heap.size w wr) (fun _ aN _=>l.length-(intOf aN).toNat)
 case atStart=>exact⟨0,[],rfl,aT _,aA _,by simp[Hid,uU,kI],cZ _ _ _ _,aJ _ _⟩
 case round=>
  obtain⟨i,S,rfl,hi,bQ,M,HO,f⟩:=hrel;by_cases O:i<l.length
  .obtain⟨av,cv,rfl⟩:=fK HO.o;obtain⟨b,off,a4,C,ak⟩:=H.o.get aa;have ap:=ak i O 0 aa;have aq:=ak i O 1 aa;have ar:=ak i O 2 aa;simp only[bX,eG,eQ,df]at ap aq ar;have V:Hid (qh x1 x2 l[i]=true->∀k,k<=S.length->(∀y∈S.drop k,mM l[i] y)->(k=0\/∃h:k-1<S.length,¬mM l[i] S[k-1])->fQ S k l[i]=uU (l.take (i+1)) x1 x2):=fun x k B a5 aG=>TA bh.o O x S M.o B a5 aG;have Y:Hid (qh x1 x2 l[i]=false->S=uU (l.take (i+1)) x1 x2):=fun x=>by rw[Rm O x];exact M.o
   have aU:=af a4;clear ak M a4;generalize l[i]=p at*;obtain⟨d,r,q⟩:=p;simp only at ap aq ar;obtain rfl:=aU.o;clear aU;have bv:=f.size;have E:=(f.cell (p:=(ag b (off+i*3))) C).trans ap;have F:=(f.cell (p:=(ag b (off+i*3+1))) C).trans aq;have G:=(f.cell (p:=(ag b (off+i*3+2))) C).trans ar;by_cases x:x1<=d/\d<=x2
   .have bf:decide (d<x1)=false:=aH;have bx:decide (x2<d)=false:=aH;have aY:=af (V.o (by unfold qh;simp[x]));clear V Y x
    go_wp2_with (at_builtin;refine iw zL w.heap.size HO.o [.int .i64 d,.int .i64 r,.int .u32 q] rfl (by simp[Value.oneCell']) rfl _ _ rfl rfl _ rfl dE aa aa ?_;intro bT w6 aI a8;have a1:=bH f HO.o a8 bv (aA _);obtain⟨g,a2,rfl,u,bR,bS,bs⟩:=aS aI aa)
    have aW:Hid (w6.ownsRow w.heap.size 29 3 (aC g (S.length+1) a2) (S.length+1) ((fQ S S.length ((d,r,q):Pt)).flatMap bX)):=by
     have a3:=Cg S ((d,r,q):Pt);show w6.ownsRow _ _ _ _ _ _;rw[a3,gZ];exact aI
    clear aI a8 HO f E F G;unfold maxLen at bs
    go_loopw [11] (fun aO wr=>∃(j:Nat) (z:Pt),aO=.int .i64 j/\j<=S.length/\Hid (∀y∈S.drop j,mM (d,r,q) y)/\Hid (wr.ownsRow w.heap.size 29 3 (aC g (S.length+1) a2) (S.length+1) ((fQ S j z).flatMap bX))/\Below w.heap.size w wr) (fun aO _=>(intOf aO).toNat)
    case atStart=>exact⟨S.length,(d,r,q),by go_num,aA _,by simp[Hid],aW,a1⟩
    case round=>
     clear a1 aW;obtain⟨j,z,rfl,t,I,HO,f⟩:=hrel;have a9:=gL S j z t;have E:=(f.cell (p:=(ag b (off+i*3))) C).trans ap;have F:=(f.cell (p:=(ag b (off+i*3+1))) C).trans aq;have G:=(f.cell (p:=(ag b (off+i*3+2))) C).trans ar;have D:=(HO.o.lt g rfl).2;obtain⟨Z,ab,ac⟩:=yc (L:=fQ S j z) (j:=j) aa;rw[Ch S j z t]at Z ab ac;have m0:=(HO.o.cellAt (j*3) aa).trans Z;have m1:=(HO.o.cellAt (j*3+1) aa).trans ab;have m2:=(HO.o.cellAt (j*3+2) aa).trans ac;have f0:=HO.o.frozenAt (j*3);have f1:=HO.o.frozenAt (j*3+1);have f2:=HO.o.frozenAt (j*3+2);have aF:Hid ((fQ S j z).set j (d,r,q)=fQ S j (d,r,q)):=xm S j z _ t;have aj:IntKind.i64.wrap ((j:Int)-1)=(j:Int)-1:=by rw[IntKind.wrap_i64];omega
     by_cases al:0<j
     .obtain⟨d0,d1,d2⟩:=yc (L:=fQ S j z) (j:=j-1) aa;rw[zl S j z al t]at d0 d1 d2;have Q:=(HO.o.cellAt ((j-1)*3) aa).trans d0;have R:=(HO.o.cellAt ((j-1)*3+1) aa).trans d1;have T:=(HO.o.cellAt ((j-1)*3+2) aa).trans d2;have a0:Hid ((fQ S j z).set j S[j-1]=fQ S (j-1) S[j-1]):=wD S j z al t;have au:Hid (mM (d,r,q) S[j-1]->∀y∈S.drop (j-1),mM (d,r,q) y):=fun am y be=>by
       rw[En S j al t]at be;rcases gW.1 be with h|h
       .rw[h];exact am
       .exact I.o y h
      have aw:Hid (¬mM (d,r,q) S[j-1]->fQ S j (d,r,q)=uU (l.take (i+1)) x1 x2):=fun am=>aY.o j t I.o (.inr ⟨aa,am⟩);have a3:((j:Int)-1).toNat=j-1:=aa;have bE:(0:Int)<=(j:Int)-1:=aa;have bF:(j:Int)<(S.length:Int)+1:=aa;have bI:(j:Int)-1<(S.length:Int)+1:=aa;have bJ:j<S.length+1:=aa;have bK:j-1<S.length+1:=aa;have aG:(j:Int)-1<=(S.length:Int):=aa;have br:(j:Int)<=(S.length:Int)+1:=aa;have bM:(1:Int)<=(j:Int):=aa;have bN:j<=S.length+1:=aa;have bO:1<=j:=aa;have bL:decide (0<j)=true:=by simp[al]
      have aV:=af (fun b:aR wr=>Jq (d,r,q) S[j-1] b.W);clear I d0 d1 d2 Z ab ac;generalize S[j-1]=y at*;obtain⟨aQ,yy,aP⟩:=y;simp only at Q R T;generalize ba:decide (mM (d,r,q) (aQ,yy,aP))=bz at*;have U:=af ba;clear ba;have bj:=ah E;have bk:=ah F;have bl:=ah G;have bm:=ah Q;have bn:=ah R;have bo:=ah T
      go_upto_region 8 with fail
      refine bG aL aL ?_
      repeat(quiet_step ((go_at_call 155;exact dH (aV.o _))))
      refine jS ?_;intro bA bc;have s:Below wr.heap.size wr bA:=by obtain⟨b,rfl⟩:=bc;exact b.h
      clear bc bj bk bl bm bn bo;have a6:=af (f.trans (s.mono f.size));have J:=af (az HO.o s);have aM:b<wr.heap.size:=aa;have E:=(s.cell (p:=(ag b (off+i*3))) aM).trans E;have F:=(s.cell (p:=(ag b (off+i*3+1))) aM).trans F;have G:=(s.cell (p:=(ag b (off+i*3+2))) aM).trans G;have Q:=(s.cell (p:=(ag g ((j-1)*3))) D).trans Q;have R:=(s.cell (p:=(ag g ((j-1)*3+1))) D).trans R;have T:=(s.cell (p:=(ag g ((j-1)*3+2))) D).trans T;have m0:=(s.cell (p:=(ag g (j*3))) D).trans m0;have m1:=(s.cell (p:=(ag g (j*3+1))) D).trans m1;have m2:=(s.cell (p:=(ag g (j*3+2))) D).trans m2;have f0:=J.o.frozenAt (j*3);have f1:=J.o.frozenAt (j*3+1);have f2:=J.o.frozenAt (j*3+2);clear s aV;cases bz with
      |true=>
       have bg:=af (au.o (FD U.o));clear au aw U aF E F G;go_wp2;go_roundw
       case rel=>
        refine⟨j-1,(aQ,yy,aP),by go_num,aa,bg,?_,((a6.o.setCell u _).setCell u _).setCell u _⟩;show World.ownsRow _ _ _ _ _ _ _;rw[<-a0.o];exact uj J.o (aQ,yy,aP)
       case measure=>exact bZ
      |false=>
       have ay:=af (aw.o (of_decide_eq_false U.o));clear au aw U a0 Q R T;go_wp2;go_roundw
       case rel=>
        refine⟨i+1,fQ S j (d,r,q),by go_num,aa,by rw[gL S j _ t];omega,ay,?_,((a6.o.setCell u _).setCell u _).setCell u _⟩;show World.ownsRow _ _ _ _ _ _ _;rw[<-aF.o,nu,a9];exact uj J.o (d,r,q)
       case measure=>exact bZ
     .obtain rfl:j=0:=aa;have ay:=af (aY.o 0 t I.o (.inl rfl));clear I Z ab ac;go_wp2
      go_quiet (fail)
      go_wp2;go_roundw
      case rel=>
       have bd:=f.trans ((Below.aX (w:=wr) _ nq).mono f.size);refine⟨i+1,fQ S 0 (d,r,q),by go_num,aa,by rw[gL S 0 _ t];omega,ay,?_,((bd.setCell u _).setCell u _).setCell u _⟩;show World.ownsRow _ _ _ _ _ _ _;rw[<-aF.o,nu,a9];exact uj (j:=0) (HO.o.aX nq) (d,r,q)
      case measure=>exact bZ
   .have aZ:=af (Y.o (by unfold qh;simpa using x));by_cases B:d<x1
    .have bf:decide (d<x1)=true:=by simp[B]
     clear V Y x B;go_wp2;go_roundw
     case rel=>exact⟨i+1,S,by go_num,aa,aa,aZ,HO,f⟩
     case measure=>exact bZ
    .have bf:decide (d<x1)=false:=by simp[B]
     have bx:decide (x2<d)=true:=aH;clear V Y x B;go_wp2;go_roundw
     case rel=>exact⟨i+1,S,by go_num,aa,aa,aZ,HO,f⟩
     case measure=>exact bZ
  .obtain rfl:i=l.length:=aa;have aB:=M.o;rw[iE]at aB;have aE:=af aB;obtain⟨av,cv,rfl,-,-,bb⟩:=bV.aD bq ai HO.o;have a7:S.length<=cv:=by
    rcases HO.o.2 with⟨aj,bP⟩|⟨bD,bB,bC,aj,a5,aG,br,-⟩
    .omega
    .injection aj with _ _ aj;omega
   have X:=af bb;clear aB M HO bb;by_cases N:K<0
   .have d0:decide (K<0)=true:=by simp[N]
    by_cases ao:S.length=0
    .have d1:decide (0<S.length)=false:=by simp[ao]
     have A:Hid (S=(uU l x1 x2).take K.toNat):=by
      show _=_;rw[<-aE.o,show K.toNat=0 by omega,iC ao];rfl
     clear N ao;go_wp2;go_ret;exact⟨⟨_,_,S,A.o,rfl,X.o⟩,f⟩
    .have d1:decide (0<S.length)=true:=aH;have A:Hid ([]=(uU l x1 x2).take K.toNat):=by
      show _=_;rw[show K.toNat=0 by omega];rfl
     clear N ao
     go_wp2_with (refine zo zL X.o a7 0 0 (aT _) (aT _) rfl _ _ _ rfl rfl rfl rfl ?_;intro bi P;simp only[Cf,jY,lh]at P |-)
     go_ret;exact⟨⟨_,_,[],A.o,rfl,P⟩,f⟩
   .obtain⟨m,rfl⟩:∃m:Nat,K=m:=⟨K.toNat,aa⟩;have d0:decide ((m:Int)<0)=false:=ax;by_cases an:m<S.length
    .have d1:decide (m<S.length)=true:=by simp[an]
     have d2:decide ((m:Int)<(S.length:Int))=true:=by simp[an]
     have A:Hid (S.take m=(uU l x1 x2).take ((m:Int)).toNat):=by show _=_;rw[<-aE.o,iD]
     have bw:(S.take m).length=m:=by rw[dO];omega
     have bt:m<=S.length:=aa;clear N an
     go_wp2_with (refine zo zL X.o a7 0 m (aT _) bt rfl _ _ _ rfl rfl rfl rfl ?_;intro bi P;simp only[Cf,jY]at P |-)
     go_ret;exact⟨⟨_,_,S.take m,A.o,by rw[bw];rfl,P⟩,f⟩
    .have d1:decide (m<S.length)=false:=aH;have d2:decide ((m:Int)<(S.length:Int))=false:=aH;have A:Hid (S=(uU l x1 x2).take ((m:Int)).toNat):=by
      show _=_;rw[<-aE.o,iD,jc aa]
     clear N an;go_wp2;go_ret;exact⟨⟨_,_,S,A.o,rfl,X.o⟩,f⟩
end
section
open Go.RowKit Go.Maps
attribute [local irreducible] wpQuiet
attribute [local go_sem] Oper.dZ
theorem Rn (n x:Int) (a:Bool):
  (Rx n x a=true/\(n==x)=true)\/(Rx n x a=a/\(n==x)=false/\decide (x<n)=true)\/(Rx n x a=!a/\(n==x)=false/\decide (x<n)=false):=by
 cases a<;>simp only[Rx,gJ,jC,pq,bO,gY,beq_iff_eq,Fw,Bool.not_false,y5]<;>omega
theorem Ro (n x:Int) (a:Bool) (w:World):
  aK 157 #[ae n,ae x,.bool a] w fun e w'=>e=.returned (.bool (Rx n x a))/\w'=w:=by
 rcases Rn n x a with⟨h,d1⟩|⟨h,d1,d2⟩|⟨h,d1,d2⟩
 all_goals
  rw[h];clear h;cases a<;>
  .go_enter func157,ntmps157;go_wp2;go_ret;exact⟨rfl,rfl⟩
theorem E5 (a c e b d f:Int):
  (xy (a,c,e) (b,d,f)=false/\decide (b<=a)=false)\/(xy (a,c,e) (b,d,f)=false/\decide (b<=a)=true/\decide (d<=c)=false)\/
  (xy (a,c,e) (b,d,f)=true/\decide (b<=a)=true/\decide (d<=c)=true/\decide (b<a)=true)\/
  (xy (a,c,e) (b,d,f)=true/\decide (b<=a)=true/\decide (d<=c)=true/\decide (b<a)=false/\decide (d<c)=true)\/
  (xy (a,c,e) (b,d,f)=false/\decide (b<=a)=true/\decide (d<=c)=true/\decide (b<a)=false/\decide (d<c)=false):=by
 simp only[uE,oN,bO,gY];omega
theorem yD (a:Option Addr) (l:List Pt) (n c:Nat) (w:World) (V:l.length=n) (h:bV bX 3 w a l) (ak:n<=1000000) (x y C:Int) (f g d:Bool) (d1:(Int.tmod C 2==1)=f) (d2:decide (2<=C)=g) (d4:decide (C<4)=d):
  aK 79 #[.slice a n c,ae x,ae y,.int .u8 C] w fun e w'=>∃v,e=.returned v/\w'.ownsRow w.heap.size 27 1 v (rY l (fun q=>d&&kM x y f g q)).length ((rY l (fun q=>d&&kM x y f g q)).map (.int .u32))/\Below w.heap.size w w':=by
 subst V;have H:=af h;clear h;have O:=af (fun a l n c w=>ug a l n c w);have G:rY l (fun q=>d&&kM x y f g q)=dh (ids (l.filter (fun q=>d&&kM x y f g q))):=rfl;rw[G,dY];clear G;have D:=af (fun n x ag W=>Ro n x ag W);obtain⟨w1,R⟩:∃w1,w1=w:=⟨_,rfl⟩;subst R;have A:Below w1.heap.size w1 w1:=aJ _ _;go_enter func79,ntmps79;go_wp2
 go_loopw [9,10] (fun v E wr=>∃(i:Nat),E=.int .i64 i/\i<=l.length/\Hid (wr.ownsRow w1.heap.size 27 1 v (ids ((l.take i).filter (fun q=>d&&kM x y f g q))).length ((ids ((l.take i).filter (fun q=>d&&kM x y f g q))).map (.int .u32)))/\Below w1.heap.size w1 wr) (fun _ E _=>l.length-(intOf E).toNat)
 case atStart=>exact⟨0,rfl,aT _,by simp[ids];exact cZ _ _ _ _,aJ _ _⟩
 case round=>
  obtain⟨i,rfl,hi,HO,z⟩:=hrel;by_cases t:i<l.length
  .have s:=A.trans (z.mono A.size);obtain⟨b,off,I,ai,B⟩:=(H.o.below s).get aa;have K:=B i t 0 aa;have M:=B i t 1 aa;have N:=B i t 2 aa;simp only[bX,eG,eQ,df]at K M N;have al:(ids ((l.take i).filter (fun q=>d&&kM x y f g q))).length<=1000000:=by
    unfold ids;rw[bK];exact bA (fq _ _) (by rw[dO];omega)
   have r:Hid _:=(iG t (fun q=>d&&kM x y f g q)).1;have m:Hid _:=(iG t (fun q=>d&&kM x y f g q)).2;have F:=af I;clear B I;generalize l[i]=p at*;obtain⟨ac,ad,ab⟩:=p;simp only at K M N;obtain rfl:=F.o;clear F;generalize ids ((l.take i).filter (fun q=>d&&kM x y f g q))=L at*;have J:=z.size;have aj:(i:Int)<(l.length:Int):=aa;have j:=af HO.o;have u:=z;cases d
   .have k:=af (m.o rfl);clear r m;go_wp2;go_roundw
    case rel=>
     refine⟨i+1,by go_num,aa,?_,u⟩;show World.ownsRow _ _ _ _ _ _ _;rw[k.o];exact j.o
    case measure=>exact bZ
   .rcases Bool.eq_false_or_eq_true (Rx ac x f)with c1|c1
    .rcases Bool.eq_false_or_eq_true (Rx ad y g)with c2|c2
     .have k:=af (r.o (by simp[kM,c1,c2]));clear r m
      go_wp2_with (first
       |(go_at_call 157;refine(D.o _ _ _ _).mono ?_;rintro e w2 ⟨rfl,rfl⟩)
       |(at_builtin;refine iw CF w1.heap.size j.o [.int .u32 ab] rfl (by simp[Value.oneCell']) rfl _ _ rfl rfl _ rfl dE aa J ?_;intro am w6 X U;have P:=bH u j.o U J (aA _)))
      go_roundw
      case rel=>
       refine⟨i+1,by go_num,aa,?_,P⟩;show World.ownsRow _ _ _ _ _ _ _;rw[k.o,bJ,bQ];exact X
      case measure=>exact bZ
     .have k:=af (m.o (by simp[kM,c1,c2]));clear r m
      go_wp2_with (go_at_call 157;refine(D.o _ _ _ _).mono ?_;rintro e w2 ⟨rfl,rfl⟩)
      go_roundw
      case rel=>
       refine⟨i+1,by go_num,aa,?_,u⟩;show World.ownsRow _ _ _ _ _ _ _;rw[k.o];exact j.o
      case measure=>exact bZ
    .have k:=af (m.o (by simp[kM,c1]));clear r m
     go_wp2_with (go_at_call 157;refine(D.o _ _ _ _).mono ?_;rintro e w2 ⟨rfl,rfl⟩)
     go_roundw
     case rel=>
      refine⟨i+1,by go_num,aa,?_,u⟩;show World.ownsRow _ _ _ _ _ _ _;rw[k.o];exact j.o
     case measure=>exact bZ
  .obtain rfl:i=l.length:=aa;have s:=A.trans (z.mono A.size);have j:=HO.o;rw[iE]at j;have Q:(ids (l.filter (fun q=>d&&kM x y f g q))).length<=1000000:=by
    unfold ids;rw[bK];exact bA (fq _ _) aa
   obtain⟨av,cv,rfl,-,-,Z⟩:=Rd.aD j;have T:=O.o av _ _ cv wr rfl Z Q
   go_wp2_with (go_at_call 156;refine T.mono ?_;rintro e an ⟨ah,rfl,Y,S⟩)
   go_ret;exact⟨ah,rfl,bM Y s.size,s.trans (S.mono s.size)⟩
end
section
open Go.RowKit Go.Lib
attribute [local irreducible] wpQuiet
attribute [local go_sem] Oper.dZ
theorem Eh (l:List Pt) (p:Pt) {k:Nat} (a:k<l.length):pJ (l.take (k+1)) p=(pJ (l.take k) p||xy l[k] p):=by
 rw[gT a,xe];simp[pJ]
def WG (l:List Pt) (d:Int) (w:World) (e:Ending) (w':World):Prop:=
 ((d∉ids l/\e=.returned (ae (-1)))\/∃k,∃hk:k<l.length,l[k].2.2=d/\e=.returned (ae k))/\Below w.heap.size w w'
theorem DL (a:Option Addr) (l:List Pt) (n c:Nat) (w:World) (B:l.length=n) (h:bV bX 3 w a l) (F:n<=1000000) (d:Int):
  aK 25 #[.slice a n c,ak d] w (WG l d w):=by
 subst B;have H:=af h;clear h;go_enter func25,ntmps25;go_wp2
 go_loopw [5] (fun s wr=>∃i:Nat,s=.int .i64 i/\i<=l.length/\Hid (∀k (f:k<l.length),k<i->l[k].2.2≠d)/\Below w.heap.size w wr) (fun s _=>l.length-(intOf s).toNat)
 case atStart=>exact⟨0,rfl,aT _,fun _ _ h=>absurd h (kz _),aJ _ _⟩
 case round=>
  obtain⟨i,rfl,hi,v,j⟩:=hrel;by_cases z:i<l.length
  .obtain⟨b,off,x,C,y⟩:=(H.o.below j).get aa;have x2:=y i z 2 aa;simp only[bX,eG,eQ,df]at x2;have r:Hid (l[i].2.2=d->∃k,∃f:k<l.length,l[k].2.2=d/\i=k):=fun e=>⟨i,z,e,rfl⟩;have q:Hid (l[i].2.2≠d->∀k (f:k<l.length),k<i+1->l[k].2.2≠d):=fun e k f D=>by
    by_cases h:k=i
    .subst h;exact e
    .exact v.o k f aa
   have u:=af x;clear y x;generalize l[i].2.2=t at*;obtain rfl:=u.o;clear u;have E:(i:Int)<(l.length:Int):=aa;by_cases g:t=d
   .have d1:(t==d)=true:=by simp[g]
    have m:=af (r.o g);clear g r q;go_wp2;go_ret;obtain⟨k,f,A,rfl⟩:=m.o;exact⟨.inr ⟨i,f,A,rfl⟩,j⟩
   .have d1:(t==d)=false:=by simp[g]
    have m:=af (q.o g);clear g r q;go_wp2;go_roundw
    case rel=>exact⟨i+1,by go_num,aa,m,j⟩
    case measure=>exact bZ
  .obtain rfl:i=l.length:=aa;go_wp2;go_ret;refine⟨.inl ⟨fun h=>?_,rfl⟩,j⟩;obtain⟨p,hp,e⟩:=dD.1 h;obtain⟨k,f,rfl⟩:=iN hp;exact v.o k f f e
def AY (l:List Pt) (k i:Nat):List Pt:=(l.take i).take k++(l.take i).drop (k+1)
theorem E8 {l:List Pt} {k i:Nat} (hi:i<l.length):(i=k->AY l k (i+1)=AY l k i)/\(i≠k->AY l k (i+1)=AY l k i++[l[i]]):=by
 unfold AY;rw[gT hi];have c:(l.take i).length=i:=by rw[dO];omega
 have e:(l.take i++[l[i]]).length=i+1:=by rw[bQ,c];rfl
 constructor
 .rintro rfl;have a:(l.take i++[l[i]]).drop (i+1)=[]:=Fh aa;have b:(l.take i).drop (i+1)=[]:=Fh aa;rw[yH aa,a,b]
 .intro h;by_cases d:i<k
  .have a:(l.take i++[l[i]]).drop (k+1)=[]:=Fh aa;have b:(l.take i).drop (k+1)=[]:=Fh aa;rw[jc (l:=l.take i++[l[i]]) aa,jc (l:=l.take i) aa,a,b];simp
  .rw[yH aa,List.drop_append_of_le_length aa,dW]
theorem Ei (a:Option Addr) (l:List Pt) (n c:Nat) (w:World) (D:l.length=n) (h:bV bX 3 w a l) (N:n<=1000000) (q:Nat):
  aK 26 #[.slice a n c,ae q] w fun e w'=>∃v,e=.returned v/\w'.ownsRow w.heap.size 29 3 v (l.take q++l.drop (q+1)).length ((l.take q++l.drop (q+1)).flatMap bX)/\Below w.heap.size w w':=by
 subst D;have H:=af h;clear h;go_enter func26,ntmps26;go_wp2
 go_loopw [5,6] (fun v u wr=>∃i:Nat,u=.int .i64 i/\i<=l.length/\Hid (wr.ownsRow w.heap.size 29 3 v (AY l q i).length ((AY l q i).flatMap bX))/\Below w.heap.size w wr) (fun _ u _=>l.length-(intOf u).toNat)
 case atStart=>exact⟨0,rfl,aT _,by simp[AY];exact cZ _ _ _ _,aJ _ _⟩
 case round=>
  obtain⟨i,rfl,hi,HO,f⟩:=hrel;have F:=f.size;by_cases j:i<l.length
  .obtain⟨b,off,y,K,m⟩:=(H.o.below f).get aa;have z:=m i j 0 aa;have x1:=m i j 1 aa;have x2:=m i j 2 aa;simp only[bX,eG,eQ,df]at z x1 x2;have O:(AY l q i).length<=1000000:=by unfold AY;simp;omega
   have t:Hid _:=(E8 (k:=q) j).1;have s:Hid _:=(E8 (k:=q) j).2;have x:=af y;clear m y;generalize l[i]=p at*;obtain⟨I,J,G⟩:=p;simp only at z x1 x2;obtain rfl:=x.o;clear x;generalize AY l q i=L at*;have M:(i:Int)<(l.length:Int):=aa;by_cases g:i=q
   .have d1:((i:Int)!=(q:Int))=false:=by simp[g]
    have r:=af (t.o g);clear g t s;go_wp2;go_roundw
    case rel=>
     refine⟨i+1,by go_num,aa,?_,f⟩;show World.ownsRow _ _ _ _ _ _ _;rw[r.o];exact HO.o
    case measure=>exact bZ
   .have d1:((i:Int)!=(q:Int))=true:=aH;have r:=af (s.o g);clear g t s
    go_wp2_with (at_builtin;refine iw zL w.heap.size HO.o [.int .i64 I,.int .i64 J,.int .u32 G] rfl (by simp[Value.oneCell']) rfl _ _ rfl rfl _ rfl dE aa aa ?_;intro P w6 E C;have B:=bH f HO.o C F (aA _))
    go_roundw
    case rel=>
     refine⟨i+1,by go_num,aa,?_,B⟩;show World.ownsRow _ _ _ _ _ _ _;rw[r.o,gZ,bQ];exact E
    case measure=>exact bZ
  .obtain rfl:i=l.length:=aa;have d:=HO.o;unfold AY at d;rw[iE]at d;have A:=af d;obtain⟨av,cv,rfl⟩:=fK d;clear d HO;go_wp2;go_ret;exact⟨_,rfl,A.o,f⟩
def Ag (l:List Pt) (i:Nat):List Int:=ids ((l.take i).filter fun p=>!pJ l p)
theorem OI {l:List Pt} {i:Nat} (hi:i<l.length):(pJ l l[i]=true->Ag l (i+1)=Ag l i)/\(pJ l l[i]=false->Ag l (i+1)=Ag l i++[l[i].2.2]):=by
 unfold Ag;exact⟨fun h=>(iG hi _).2 (by simp[h]),fun h=>(iG hi _).1 (by simp[h])⟩
theorem Rp {l:List Pt} (hu:lF l=true):dh (Ag l l.length)=dh (ids (bL l)):=by
 unfold Ag;rw[iE];refine xP (lY _) ((pg _ _).trans ?_);refine List.Perm.map _ ?_;have a:(bL l).Nodup:=wN ((fV _).1 (Bl hu));have b:l.Nodup:=wN ((fV _).1 hu);refine(xh a (b.filter _)).2 fun p=>?_;rw[(kF ((fV l).1 hu)).2 p,bI];simp
theorem OJ {L:List Int} {x:Int} {k:Nat} (S:List Int) (hS:S=dh L) (d:k<=S.length) (b:∀y∈S.drop k,x<=y) (c:k=0\/∃h:k-1<S.length,S[k-1]<=x):fQ S k x=dh (L++[x]):=by
 have a:(L++[x])[L.length]'ax=x:=ax;have:=Ib (l:=L++[x]) (i:=L.length) (k:=k) ax S (aQ hS) d (by rw[a];exact b) (by rw[a];exact c);rw[a]at this;rw[this,jc ax]
theorem E9 (a:Option Addr) (l:List Pt) (n c:Nat) (w:World) (bs:l.length=n) (h:bV bX 3 w a l) (bK:n<=1000000) (hu:lF l=true):
  aK 80 #[.slice a n c] w fun e w'=>∃v,e=.returned v/\w'.ownsRow w.heap.size 27 1 v (dh (ids (bL l))).length ((dh (ids (bL l))).map (.int .u32))/\Below w.heap.size w w':=by
 subst bs;have H:=af h;have aW:=af (Rp hu);clear h hu;go_enter func80,ntmps80;go_wp2
 go_loopw [3,4] (fun v aN wr=>∃(i:Nat) (S:List Int),aN=.int .i64 i/\i<=l.length/\S.length<=i/\Hid (S=dh (Ag l i))/\Hid (wr.ownsRow w.heap.size 27 1 v S.length (S.map (.int .u32)))/\Below w.heap.size w wr) (fun _ aN _=>l.length-(intOf aN).toNat)
 case atStart=>exact⟨0,[],rfl,aT _,aA _,by simp[dh,Hid,Ag,ids],cZ _ _ _ _,aJ _ _⟩
 case round=>
  obtain⟨i,S,rfl,hi,bC,J,HO,d⟩:=hrel;by_cases ac:i<l.length
  .obtain⟨ao,bh⟩:∃ao:World,ao=wr:=⟨_,rfl⟩;subst bh;obtain⟨av,cv,rfl,-,-,-⟩:=Rd.aD HO.o;have a7:=d.size;have ar:=af d;have Y:=af (OI ac);clear d;go_wp2
   go_loopw [5,6] (fun bv aQ wr=>∃k:Nat,aQ=.int .i64 k/\k<=l.length/\bv=.bool (pJ (l.take k) l[i])/\Below ao.heap.size ao wr) (fun _ aQ _=>l.length-(intOf aQ).toNat)
   case atStart=>exact⟨0,rfl,aT _,rfl,aJ _ _⟩
   case round=>
    obtain⟨k,rfl,bG,rfl,d⟩:=hrel;by_cases an:k<l.length
    .have t:=af (Eh l l[i] an);obtain⟨b,off,Z,aB,u⟩:=(H.o.below (ar.o.trans (d.mono a7))).get aa;have ap:=u k an 0 aa;have x1:=u k an 1 aa;have x2:=u k an 2 aa;have F:=u i ac 0 aa;have y1:=u i ac 1 aa;have y2:=u i ac 2 aa;simp only[bX,eG,eQ,df]at ap x1 x2 F y1 y2;have R:=af Z;clear u Z;generalize bo:pJ (l.take k) l[i]=a4 at*;clear bo Y;generalize l[k]=q at*;generalize l[i]=p at*;obtain⟨B,C,A⟩:=q;obtain⟨M,N,L⟩:=p;simp only at ap x1 x2 F y1 y2;obtain rfl:=R.o;clear R;have bN:=ah ap;have bO:=ah x1;have bP:=ah x2;have bQ:=ah F;have bR:=ah y1;have bS:=ah y2;clear ap x1 x2 F y1 y2;have bq:(i:Int)<(l.length:Int):=aa;have bI:(k:Int)<(l.length:Int):=aa
     go_upto_region 9 with fail
     refine au (fun W=>∃p:aR wr,W=p.W) [11] [(0,false),(1,false),(2,false),(3,true),(4,false),(5,false),(6,false),(7,true)] ⟨⟨_,(aJ _ _).drew⟩,rfl⟩ 4 ?_;have bd:∃(m r:Nat) (D:World),True:=⟨0,0,wr,trivial⟩;clear bd;have a0:∀(m r:Nat) (D:World),wr.heap.size<=m->wr.heap.size<=r->m≠r->Below wr.heap.size wr D->D.heap[m]? =some (vD (0,0,0))->D.heap[r]? =some (vD (0,0,0))->∃w6:World,w6=(D.setRow m #[ae B,ae C,ak A]).setRow r #[ae M,ae N,ak L]/\(D.setRow m #[ae B,ae C,ak A]).heap[r]? =some (vD (0,0,0))/\w6.heap[m]? =some (vD (B,C,A))/\w6.heap[r]? =some (vD (M,N,L))/\Below wr.heap.size wr w6:=by
      intro m r D bl bm bM bn G ba;have E:=(wz D m r #[ae B,ae C,ak A] aa).trans ba;refine⟨_,rfl,E,(wz _ r m _ aa).trans (nG D m _ #[ae B,ae C,ak A] _ _ G),nG _ r _ _ _ _ E,oK (oK bn bl _) bm _⟩
     have aj:=af a0;clear a0;have ad:Below wr.heap.size wr wr.drew:=(aJ _ _).drew;have bT:wr.drew.heap.size=wr.heap.size:=rfl;refine iH 8 9 rfl rfl (fun K f=>?_) (fun K f=>?_)
     .go_simp;refine f _ _ (fun _ _=>⟨⟨_,ad.alloc (aA _) _⟩,rfl⟩) ?_;clear f K;refine ay 9 rfl fun K f=>?_;go_simp;refine f _ _ (fun _ _=>⟨⟨_,(ad.alloc (aA _) _).alloc ax _⟩,rfl⟩) ?_;clear f K;obtain⟨w6,ab,E,U,V,aq⟩:=aj.o wr.heap.size (wr.heap.size+1) _ aa aa aa (((aJ wr.heap.size wr).alloc (aA _) (.cells #[ae 0,ae 0,ak 0] 29)).alloc ax (.cells #[ae 0,ae 0,ak 0] 29)).drew (xn wr (.cells #[ae 0,ae 0,ak 0] 29) (.cells #[ae 0,ae 0,ak 0] 29)) (xq wr (.cells #[ae 0,ae 0,ak 0] 29) (.cells #[ae 0,ae 0,ak 0] 29));have G:=xn wr (.cells #[ae 0,ae 0,ak 0] 29) (.cells #[ae 0,ae 0,ak 0] 29);have Q:=(((aJ wr.heap.size wr).alloc (aA _) (.cells #[ae 0,ae 0,ak 0] 29)).alloc ax (.cells #[ae 0,ae 0,ak 0] 29)).drew;refine ay 10 rfl fun K f=>?_;rw[aO (by simp[Region.wanted])];have T:=af ab.symm;clear ab;refine wp_store_row 29 (.tmp 7) (.tmp 25) rfl (wr.heap.size) #[ae B,ae C,ak A] rfl rfl _ _ G aL rfl (by simp[Value.oneCell']) ?_;refine f _ _ (fun _ _=>⟨⟨_,oK Q aa _⟩,rfl⟩) ?_;clear f K;refine aF [11] ?_;refine oF rfl 29 (.tmp 8) (.tmp 29) rfl rfl ((wr.heap.size+1)) #[ae M,ae N,ak L] rfl rfl _ _ E aL rfl (by simp[Value.oneCell']) ?_;rw[T.o];clear G E T;obtain⟨aU,aV,-⟩:=fD U;obtain⟨F,y1,-⟩:=fD V;simp only at aU aV F y1;have P:=d.trans (aq.mono d.size);clear U V aj Q;cases a4 with
      |true=>
       simp only[Bool.true_or]at t;go_wp2;go_roundw
       case rel=>exact⟨k+1,by go_num,aa,by rw[t.o],P⟩
       case measure=>exact bZ
      |false=>
       simp only[Bool.false_or]at t;rcases E5 B C A M N L with⟨h,d1⟩|⟨h,d1,d2⟩|⟨h,d1,d2,d3⟩|⟨h,d1,d2,d3,d4⟩|⟨h,d1,d2,d3,d4⟩
       all_goals
        rw[h]at t;clear h;go_wp2;go_roundw
        case rel=>exact⟨k+1,by go_num,aa,by rw[t.o],P⟩
        case measure=>exact bZ
     .go_simp;refine f _ _ (fun _ _=>⟨⟨_,ad.alloc (aA _) _⟩,rfl⟩) ?_;clear f K;refine ay 8 rfl fun K f=>?_;go_simp;refine f _ _ (fun _ _=>⟨⟨_,(ad.alloc (aA _) _).alloc ax _⟩,rfl⟩) ?_;clear f K;obtain⟨w6,ab,E,U,V,aq⟩:=aj.o (wr.heap.size+1) wr.heap.size _ aa aa aa (((aJ wr.heap.size wr).alloc (aA _) (.cells #[ae 0,ae 0,ak 0] 29)).alloc ax (.cells #[ae 0,ae 0,ak 0] 29)).drew (xq wr (.cells #[ae 0,ae 0,ak 0] 29) (.cells #[ae 0,ae 0,ak 0] 29)) (xn wr (.cells #[ae 0,ae 0,ak 0] 29) (.cells #[ae 0,ae 0,ak 0] 29));have G:=xq wr (.cells #[ae 0,ae 0,ak 0] 29) (.cells #[ae 0,ae 0,ak 0] 29);have Q:=(((aJ wr.heap.size wr).alloc (aA _) (.cells #[ae 0,ae 0,ak 0] 29)).alloc ax (.cells #[ae 0,ae 0,ak 0] 29)).drew;refine ay 10 rfl fun K f=>?_;rw[aO (by simp[Region.wanted])];have T:=af ab.symm;clear ab;refine wp_store_row 29 (.tmp 7) (.tmp 25) rfl ((wr.heap.size+1)) #[ae B,ae C,ak A] rfl rfl _ _ G aL rfl (by simp[Value.oneCell']) ?_;refine f _ _ (fun _ _=>⟨⟨_,oK Q aa _⟩,rfl⟩) ?_;clear f K;refine aF [11] ?_;refine oF rfl 29 (.tmp 8) (.tmp 29) rfl rfl (wr.heap.size) #[ae M,ae N,ak L] rfl rfl _ _ E aL rfl (by simp[Value.oneCell']) ?_;rw[T.o];clear G E T;obtain⟨aU,aV,-⟩:=fD U;obtain⟨F,y1,-⟩:=fD V;simp only at aU aV F y1;have P:=d.trans (aq.mono d.size);clear U V aj Q;cases a4 with
      |true=>
       simp only[Bool.true_or]at t;go_wp2;go_roundw
       case rel=>exact⟨k+1,by go_num,aa,by rw[t.o],P⟩
       case measure=>exact bZ
      |false=>
       simp only[Bool.false_or]at t;rcases E5 B C A M N L with⟨h,d1⟩|⟨h,d1,d2⟩|⟨h,d1,d2,d3⟩|⟨h,d1,d2,d3,d4⟩|⟨h,d1,d2,d3,d4⟩
       all_goals
        rw[h]at t;clear h;go_wp2;go_roundw
        case rel=>exact⟨k+1,by go_num,aa,by rw[t.o],P⟩
        case measure=>exact bZ
    .obtain rfl:k=l.length:=aa;rw[iE];have O:=ar.o.trans (d.mono a7);have ai:=af (az HO.o d);clear ar HO d;cases am:pJ l l[i]with
     |true=>
      have be:Hid (S=dh (Ag l (i+1))):=by
       show _=_;rw[Y.o.1 am];exact J.o
      clear am Y J;go_wp2;go_roundw
      case rel=>exact⟨i+1,S,by go_num,aa,aa,be,ai,O⟩
      case measure=>exact bZ
     |false=>
      have aZ:Hid (Ag l (i+1)=Ag l i++[l[i].2.2]):=Y.o.2 am;obtain⟨b,off,Z,aB,u⟩:=H.o.get aa;have aM:=u i ac 2 aa;simp only[bX,eG,eQ,df]at aM;have X:Hid (∀k,k<=S.length->(∀y∈S.drop k,l[i].2.2<=y)->(k=0\/∃h:k-1<S.length,S[k-1]<=l[i].2.2)->fQ S k l[i].2.2=dh (Ag l (i+1))):=fun k bi bj bk=>by rw[aZ.o];exact OJ S J.o bi bj bk
      have R:=af Z;clear u Z aZ Y J am;generalize l[i].2.2=x at*;obtain rfl:=R.o;clear R;have bt:=O.size;have a8:=(O.cell (p:=(ag b (off+i*3+2))) aB).trans aM;have bq:(i:Int)<(l.length:Int):=aa
      go_wp2_with (at_builtin;refine iw CF w.heap.size ai.o [.int .u32 x] rfl (by simp[Value.oneCell']) rfl _ _ rfl rfl _ rfl dE aa aa ?_;intro bU w6 aI a6;have a3:=bH O ai.o a6 bt (aA _);obtain⟨g,a5,rfl,aE,bD,bE,bp⟩:=aS aI aa)
      have aY:Hid (w6.ownsRow w.heap.size 27 1 (aC g (S.length+1) a5) (S.length+1) ((fQ S S.length x).map (Value.int .u32))):=by
       have al:=Cg S (x:Int);show w6.ownsRow _ _ _ _ _ _;rw[al,bJ];exact aI
      clear aI a6 ai O a8;unfold maxLen at bp
      go_loopw [9] (fun aP wr=>∃(j:Nat) (z:Int),aP=.int .i64 j/\j<=S.length/\Hid (∀y∈S.drop j,x<=y)/\Hid (wr.ownsRow w.heap.size 27 1 (aC g (S.length+1) a5) (S.length+1) ((fQ S j z).map (Value.int .u32)))/\Below w.heap.size w wr) (fun aP _=>(intOf aP).toNat)
      case atStart=>exact⟨S.length,x,by go_num,aA _,by simp[Hid],aY,a3⟩
      case round=>
       clear a3 aY;obtain⟨j,z,rfl,s,I,HO,d⟩:=hrel;have bF:=gL S j z s;have a8:=(d.cell (p:=(ag b (off+i*3+2))) aB).trans aM;have bf:=HO.o.cellAt j aa;have f1:=HO.o.frozenAt j;rw[ib,cK aa,Ch S j z s,eP]at bf;have a2:Hid (((fQ S j z).map (Value.int .u32)).set j (ak x)=(fQ S j x).map (Value.int .u32)):=by
        show _=_;rw[<-xm S j z x s,jg]
       by_cases br:0<j
       .have bg:=HO.o.cellAt (j-1) aa;rw[ib,cK aa,zl S j z aa s,eP]at bg;have a1:Hid (((fQ S j z).map (Value.int .u32)).set j (ak S[j-1])=(fQ S (j-1) S[j-1]).map (Value.int .u32)):=by
         show _=_;rw[<-wD S j z aa s,jg]
        have al:((j:Int)-1).toNat=j-1:=aa;have bu:(0:Int)<=(j:Int)-1:=aa;have bw:(j:Int)<(S.length:Int)+1:=aa;have bx:(j:Int)-1<=(S.length:Int):=aa;have bz:(j:Int)<=(S.length:Int)+1:=aa;have bA:(1:Int)<=(j:Int):=aa;have bB:j<=S.length+1:=aa;have m:1<=j:=aa;have r:decide (0<j)=true:=by simp[br]
        by_cases aG:x<S[j-1]
        .have bb:Hid (∀y∈S.drop (j-1),x<=y):=by
          intro y a9;rw[ky aa,show j-1+1=j by omega]at a9;rcases gW.1 a9 with h|h
          .omega
          .exact I.o y h
         have d1:decide (x<S[j-1])=true:=by simp[aG]
         clear I aG X;generalize S[j-1]=y at*;go_wp2
         go_quiet (fail)
         go_wp2;go_roundw
         case rel=>
          refine⟨j-1,y,by go_num,aa,bb,?_,(d.trans (Below.aX _ _)).setCell aE _⟩;show World.ownsRow _ _ _ _ _ _ _;rw[<-a1.o];exact((HO.o.aX _).stored j _).1
         case measure=>exact bZ
        .have d1:decide (x<S[j-1])=false:=aH;have aw:=af (X.o j s I.o (.inr ⟨aa,aa⟩));clear a1 I aG X;generalize S[j-1]=y at*;go_wp2
         go_quiet (fail)
         go_wp2;go_roundw
         case rel=>
          refine⟨i+1,fQ S j x,by go_num,aa,by rw[gL S j x s];omega,aw,?_,(d.trans (Below.aX _ _)).setCell aE _⟩;show World.ownsRow _ _ _ _ _ _ _;rw[<-a2.o,gL S j x s];exact((HO.o.aX _).stored j _).1
         case measure=>exact bZ
       .obtain rfl:j=0:=aa;have aw:=af (X.o 0 s I.o (.inl rfl));clear I X;go_wp2
        go_quiet (fail)
        go_wp2;go_roundw
        case rel=>
         refine⟨i+1,fQ S 0 x,by go_num,aa,by rw[gL S 0 x s];omega,aw,?_,(d.trans (Below.aX _ _)).setCell aE _⟩;show World.ownsRow _ _ _ _ _ _ _;rw[<-a2.o,gL S 0 x s];exact((HO.o.aX _).stored 0 _).1
        case measure=>exact bZ
  .obtain rfl:i=l.length:=aa;have bc:Hid (S=dh (ids (bL l))):=J.o.trans aW.o;obtain⟨av,cv,rfl,-,-,-⟩:=Rd.aD HO.o;clear J aW;go_wp2;go_ret;have al:=bc.o;subst al;exact⟨_,rfl,HO.o,d⟩
end
section
open Go.RowKit Go.Sort Go.Shelf Go.Lib Go.Maps
attribute [local irreducible] wpQuiet wpHd
attribute [local go_sem] Oper.dZ
theorem vI:eU 79:=bP func79 aL rfl
theorem rH:eU 15:=bP func15 aL rfl
theorem Jr:eU 16:=bP func16 aL rfl
theorem DN:eU 80:=bP func80 aL rfl
theorem Js:eU 14:=bP func14 aL rfl
theorem jQ {P:Program} {Q:Exit->Act->World->Prop} {id:Nat} {a:Act} {w:World} {l:List Oper} (w2:World) (k:w.drew=w2) (C:World->Prop) (T:List Nat) (hd:List (Nat×Bool)) (g:P.follows .mixedOrders=true) (j:Region.noSelect l.toArray=true) (f:∀c a d v w,Q (.panic c) (Act.put a d v) w->Q (.panic c) a w) (e:C w2)
  (n:Nat) (i:n+hd.length=l.length) (b:headOK .any l.toArray T hd (Array.replicate l.length false)=true)
  (h:wpHd P l.toArray C (fun a'=>dI P .any l.toArray Q C T n (jP hd (Array.replicate l.length false)) a' w2) (iX l.toArray hd) a):(Code.region id l.toArray true).wp P Q a w:=by
 subst k;exact jm C T hd g j f e n i b h
theorem TB {a:Int} (h:0<=a):(Int.tmod a 2==1)=decide (a%2=1)/\decide (a<4)=decide (a<=3):=by
 refine⟨?_,by rw[pF];omega⟩;rw[Int.tmod_eq_emod_of_nonneg h];rfl
def WH (w:World) (Pb:Nat) (G:Nat->Prop) (m:Nat) (now:List Pt) (N wk eT:Int) (lx ly ld:Int) (fb:Bool) (e:Ending) (w':World):Prop:=
 ∃uY:Nat,e=.returned (.tuple #[jb lx ly ld,.bool fb,ae uY])/\yB N 0 uY/\aB (fun k=>k=Pb) w w'/\dG w' Pb G m now N wk (wrap64 (eT+uY))
theorem Vr {w:World} {Pb m:Nat} {G:Nat->Prop} {L:List Pt} {N wk eT:Int} (h:dG w Pb G m L N wk eT) (x1 x2:Int) {b d a:Int} {fb:Bool} (hp:(o7 L x1 x2).getD (0,0,0)=(b,d,a)) (e:(o7 L x1 x2).isSome=fb):
  aK 20 #[aj Pb,ae x1,ae x2] w (WH w Pb G m L N wk eT b d a fb):=by
 have c:=Jj h x1 x2;unfold Ua at c;rw[hp,e]at c;exact c
theorem Rq (L:List Pt) (x1 x2:Int):∃e f c fb,(o7 L x1 x2).getD (0,0,0)=(e,f,c)/\(o7 L x1 x2).isSome=fb/\((uU L x1 x2).take (1:Int).toNat).length<=1/\(fb=true/\(uU L x1 x2).take (1:Int).toNat=[(e,f,c)]\/fb=false/\(uU L x1 x2).take (1:Int).toNat=[]/\e=0/\f=0/\c=0):=by
 unfold o7;cases uU L x1 x2 with
 |nil=>exact⟨0,0,0,false,rfl,rfl,ax,.inr ⟨rfl,rfl,rfl,rfl,rfl⟩⟩
 |cons p g=>obtain⟨a,b,d⟩:=p;exact⟨a,b,d,true,rfl,rfl,ax,.inl ⟨rfl,rfl⟩⟩
def Vs (w:World) (Pb:Nat) (G:Nat->Prop) (m:Nat) (L:List Pt) (N wk:Int) (e:Ending) (w':World):Prop:=
 e=.returned (.bool true)/\aB G w w'/\∃(G':Nat->Prop) (Eg:Int),dG w' Pb G' m L N wk Eg/\∀k,G' k->(G k\/w.heap.size<=k)/\k<w'.heap.size
theorem zt {G:Nat->Prop} {w w':World} (h:Hid (∀k,G k->0<=k/\k<w.heap.size)) (z:w.heap.size<=w'.heap.size):Hid (∀k,G k->0<=k/\k<w'.heap.size):=fun k e=>⟨aT _,cO (h.o k e).2 z⟩
theorem kU {B n sz:Nat} {e:TypeId} {v:Value} {xs:List Value} {W W':World} (h:Hid (W.ownsRow B e sz v n xs)) (a:Below W.heap.size W W'):Hid (W'.ownsRow B e sz v n xs):=az h.o a
theorem ql {b:Nat} {o:Obj} {W W':World} (h:Hid (W.heap[b]? =some o)) (a:Below W.heap.size W W'):Hid (W'.heap[b]? =some o):=(aP a h.o).trans h.o
theorem OV {Pb B n sz:Nat} {e:TypeId} {v:Value} {xs:List Value} {W W':World} (h:Hid (W.ownsRow B e sz v n xs)) (b:aB (fun k=>k=Pb) W W') (hP:Hid (0<=Pb/\Pb<B)):Hid (W'.ownsRow B e sz v n xs):=aU h.o b (fun a e c=>by have:=(h.o.lt a e).1;have:=hP.o;omega)
theorem TC {w:World} {Pb m:Nat} {G:Nat->Prop} {L:List Pt} {N wk eT:Int} (h:dG w Pb G m L N wk eT) (eX:m<=5000) (b7:∀k,G k->k<w.heap.size) (Y:Option Addr) (c:Nat) (dJ:bV bX 3 w Y L) (av:∀x,Y=some x->¬G x.block)
  (bJ bM bO aH D Q H am ob F:Int) (wf:Vq (bJ,(bM,bO,aH),(D,Q,H,am,ob),F)):
  aK 27 #[aj Pb,.slice Y L.length c,.agg #[.int .u8 bJ,ae bM,ae bO,ak aH,ae D,ae Q,ae H,ae am,ak ob,.int .u8 F]] w (Vs w Pb G m L N wk):=by
 have ba:=h.facts;have eS:=af ba.2.2.2.2.1;have bZ:=af ba.2.2.2.1;have aw:=af ba.2.2.2.2.2.2.2;have cA:L.length<=5000:=by have:=ba.1;have:=ba.2.2.1;omega
 have em:=b7 Pb aw.o;have O:Hid (0<=Pb/\Pb<w.heap.size):=⟨aT _,em⟩;have cz:0<=F:=by have el:=wf.2.2.2;simp[Lit.wf,IntKind.min,IntKind.max,IntKind.signed,IntKind.bits]at el;omega
 have b0:=af (TB cz);have aC:=af dJ;have av:=af av;have eR:=af b7;obtain⟨ao,b4⟩:∃A,A=dh (ids (L.filter (sj D Q H am))):=⟨_,rfl⟩;obtain⟨Z,b5⟩:∃A,A=dh (ids (L.filter (oV D Q H))):=⟨_,rfl⟩;obtain⟨M,b6⟩:∃A,A=dh (ids (L.filter (AX D H F))):=⟨_,rfl⟩;have e0:ao.length<=5000:=by rw[b4];exact w9 cA _
 have e1:Z.length<=5000:=by rw[b5];exact w9 cA _
 have e2:M.length<=5000:=by rw[b6];exact w9 cA _
 have dL:(L.filter (sj D Q H am)).length=ao.length:=by rw[b4,dY];simp[ids]
 have dM:(L.filter (oV D Q H)).length=Z.length:=by rw[b5,dY];simp[ids]
 have dN:(L.filter (AX D H F)).length=M.length:=by rw[b6,dY];simp[ids]
 have c3:=af b4;have c4:=af b5;have cf:=af b6;have dX:=af dL;have dZ:=af dM;have d0:=af dN;obtain⟨dO,dI⟩:∃q,decide (0<Z.length)=q:=⟨_,rfl⟩;have eY:decide ((0:Int)<(Z.length:Int))=dO:=by rw[<-dI,pF];omega
 have d1:=af dI;clear b4 b5 b6 dL dM dN;obtain⟨w1,b3⟩:∃w1,w1=w.alloc (.cells #[.int .u8 bJ,ae bM,ae bO,ak aH,ae D,ae Q,ae H,ae am,ak ob,.int .u8 F] 49):=⟨_,rfl⟩;have t:Below w.heap.size w w1:=by rw[b3];exact(aJ _ _).alloc (aA _) _
 have dU:w.heap.size<=w1.heap.size:=t.size;have aZ:w1.heap[w.heap.size]? =some (.cells #[.int .u8 bJ,ae bM,ae bO,ak aH,ae D,ae Q,ae H,ae am,ak ob,.int .u8 F] 49 (0,0)):=by rw[b3];exact bY w _
 have n:=af aZ;have dm:=af (h.below t);have c6:Hid (aB (fun k=>k=Pb) w w1):=(aB.refl _ _).below t;have bg:Hid (∀k,G k->0<=k/\k<w1.heap.size):=fun k bb=>⟨aT _,by have:=b7 k bb;omega⟩;have c5:=af b3;have cs:w1.cell? (ag w.heap.size 4)=some (ae D):=aI aZ;have d9:w1.cell? (ag w.heap.size 5)=some (ae Q):=aI aZ;have a9:w1.cell? (ag w.heap.size 6)=some (ae H):=aI aZ;have ea:w1.cell? (ag w.heap.size 7)=some (ae am):=aI aZ;have eb:w1.cell? (ag w.heap.size 8)=some (ak ob):=aI aZ;clear b3 t aZ h dJ b7 ba wf;go_enter func27,ntmps27
 go_upto_region 1 with fail
 rw[<-c5.o];clear c5;have g:Hid (Below w1.heap.size w1 (w1.alloc (.cells #[ae D,ae Q,ae H,ae am,ak ob] 38))):=(aJ _ _).alloc (aA _) _;have j:Hid ((w1.alloc (.cells #[ae D,ae Q,ae H,ae am,ak ob] 38)).heap[w1.heap.size]? =some (P7 (D,Q,H,am,ob))):=bY _ _
 go_upto_region 2 with fail
 generalize w1.alloc (.cells #[ae D,ae Q,ae H,ae am,ak ob] 38)=er at*;clear cs d9 a9 ea eb;have dU:=g.o.size
 replace n:=ql n g.o
 have dn:=af (dm.o.below g.o);have cT:=af (c6.o.below g.o);clear dm c6;have bg:=zt bg dU;clear g;obtain⟨z,t,s,B,C⟩:=fu j.o;simp only at z t s B C;have i:=af ((by have c:=Jf dn.o D Q H am ob;rw[<-c3.o]at c;exact c:Calls _ _ _ _ (DD _ _ _ _ _ _ _ _ ao)))
 go_wp2_with fail
 refine i.o.mono ?_;rintro e e3 ⟨v,t2,rfl,r,-,f,hP⟩;have eC:=f.size
 replace n:=af (bu f n.o (fun h=>by have:=O.o;omega))
 replace j:=af (bu f j.o (fun h=>by have:=O.o;omega))
 have y:=af (bN r (show w.heap.size<=er.heap.size by omega));obtain⟨d4,d8,rfl,-,-,-⟩:=Rd.aD (l:=ao) r;clear r;have dt:=af hP;have cW:=af (cT.o.trans f);clear dn cT f hP i;have db:=zt bg eC;clear bg;clear z t s B C;obtain⟨z,t,s,B,C⟩:=fu j.o;simp only at z t s B C;have i:=af ((by have c:=Tw dt.o D Q H am ob;rw[dX.o]at c;exact c:Calls _ _ _ _ (DF _ _ _ _ _ _ _ _ (.int .i64 (ao.length:Nat)))))
 go_wp2_with fail
 refine i.o.mono ?_;rintro e eu ⟨t3,rfl,-,f,hP⟩;have eD:=f.size
 replace y:=OV y f O
 replace n:=af (bu f n.o (fun h=>by have:=O.o;omega))
 replace j:=af (bu f j.o (fun h=>by have:=O.o;omega))
 have du:=af hP;have cX:=af (cW.o.trans f);clear dt cW f hP i;have dc:=zt db eD;clear db;clear z t s B C;obtain⟨z,t,s,B,C⟩:=fu j.o;simp only at z t s B C;have i:=af ((by have c:=Mx du.o D Q H;rw[<-c4.o]at c;exact c:Calls _ _ _ _ (DD _ _ _ _ _ _ _ _ Z)))
 go_wp2_with fail
 refine i.o.mono ?_;rintro e e4 ⟨v,t4,rfl,r,-,f,hP⟩;have eE:=f.size
 replace y:=OV y f O
 replace n:=af (bu f n.o (fun h=>by have:=O.o;omega))
 replace j:=af (bu f j.o (fun h=>by have:=O.o;omega))
 have E:=af (bN r (show w.heap.size<=eu.heap.size by omega));obtain⟨d5,cs,rfl,-,-,-⟩:=Rd.aD (l:=Z) r;clear r;have dv:=af hP;have cY:=af (cX.o.trans f);clear du cX f hP i;have dd:=zt dc eE;clear dc;clear z t s B C;obtain⟨z,t,s,B,C⟩:=fu j.o;simp only at z t s B C;have i:=af ((by have c:=Wz dv.o D Q H;rw[dZ.o,d1.o]at c;exact c:Calls _ _ _ _ (DF _ _ _ _ _ _ _ _ (.bool dO))))
 go_wp2_with fail
 refine i.o.mono ?_;rintro e dT ⟨t5,rfl,-,f,hP⟩;have eI:=f.size
 replace y:=OV y f O
 replace E:=OV E f O
 replace n:=af (bu f n.o (fun h=>by have:=O.o;omega))
 replace j:=af (bu f j.o (fun h=>by have:=O.o;omega))
 have dw:=af hP;have cZ:=af (cY.o.trans f);clear dv cY f hP i;have de:=zt dd eI;clear dd;clear z t s B C;obtain⟨z,t,s,B,C⟩:=fu j.o;simp only at z t s B C;have aG:dT.cell? (ag w.heap.size 9)=some (.int .u8 F):=aI n.o;have i:=af ((by have c:=Jg dw.o D H F cz;rw[<-cf.o]at c;exact c:Calls _ _ _ _ (DD _ _ _ _ _ _ _ _ M)))
 go_wp2_with fail
 refine i.o.mono ?_;rintro e ev ⟨v,t6,rfl,r,-,f,hP⟩;have eJ:=f.size
 replace y:=OV y f O
 replace E:=OV E f O
 replace n:=af (bu f n.o (fun h=>by have:=O.o;omega))
 replace j:=af (bu f j.o (fun h=>by have:=O.o;omega))
 have I:=af (bN r (show w.heap.size<=dT.heap.size by omega));obtain⟨b2,a9,rfl,-,-,-⟩:=Rd.aD (l:=M) r;clear r;have dx:=af hP;have c0:=af (cZ.o.trans f);clear dw cZ f hP i;have dg:=zt de eJ;clear de;clear z t s B C;clear aG;obtain⟨z,t,s,B,C⟩:=fu j.o;simp only at z t s B C;have aG:ev.cell? (ag w.heap.size 9)=some (.int .u8 F):=aI n.o;have i:=af ((by have c:=Oz dx.o D H F cz;rw[d0.o]at c;exact c:Calls _ _ _ _ (DF _ _ _ _ _ _ _ _ (.int .i64 (M.length:Nat)))))
 go_wp2_with fail
 refine i.o.mono ?_;rintro e e5 ⟨t7,rfl,-,f,hP⟩;have eK:=f.size
 replace y:=OV y f O
 replace E:=OV E f O
 replace I:=OV I f O
 replace n:=af (bu f n.o (fun h=>by have:=O.o;omega))
 replace j:=af (bu f j.o (fun h=>by have:=O.o;omega))
 have dy:=af hP;have c1:=af (c0.o.trans f);clear dx c0 f hP i;have di:=zt dg eK;clear dg;clear z t s B C;clear aG;obtain⟨ca,cb,b9,fb,dC,dD,ec,dE⟩:=Rq L D Q;have dV:=af dC;have dW:=af dD;have cm:=af dE;clear dC dD ec dE;obtain⟨z,t,s,B,C⟩:=fu j.o;simp only at z t s B C;have i:=af ((Vr dy.o D Q dV.o dW.o))
 go_wp2_with fail
 refine i.o.mono ?_;rintro e bc ⟨t8,rfl,-,f,hP⟩;have eL:=f.size
 replace y:=OV y f O
 replace E:=OV E f O
 replace I:=OV I f O
 replace n:=af (bu f n.o (fun h=>by have:=O.o;omega))
 replace j:=af (bu f j.o (fun h=>by have:=O.o;omega))
 have dz:=af hP;have c2:=af (c1.o.trans f);clear dy c1 f hP i;have dj:=zt di eL;clear di;clear z t s B C;have g:Hid (Below bc.heap.size bc (bc.alloc (.cells #[ae ca,ae cb,ak b9] 29))):=(aJ _ _).alloc (aA _) _;have P:Hid ((bc.alloc (.cells #[ae ca,ae cb,ak b9] 29)).heap[bc.heap.size]? =some (vD (ca,cb,b9))):=bY _ _
 go_upto_region 9 with fail
 generalize bc.alloc (.cells #[ae ca,ae cb,ak b9] 29)=ew at*;have cS:=g.o.size
 replace y:=kU y g.o
 replace E:=kU E g.o
 replace I:=kU I g.o
 replace n:=ql n g.o
 replace j:=ql j g.o
 have dA:=af (dz.o.below g.o);have ce:=af (c2.o.below g.o);clear dz c2;have dk:=zt dj cS;clear dj;clear g;obtain⟨z,t,s,B,C⟩:=fu j.o;simp only at z t s B C;have i:=af (Lr Y L L.length c ew rfl (aC.o.Jz ce.o (fun x e h=>av.o x e (h▸aw.o))) aa bZ.o D Q 1)
 go_wp2_with fail
 refine i.o.mono ?_;rintro e dP ⟨⟨ad,cl,LL,dF,rfl,dK⟩,a⟩;have ct:=cm.o;rw[<-dF]at ct;have cm:=af ct;have R:=af dK;clear dF dK ct;have ex:=a.size
 replace y:=kU y a
 replace E:=kU E a
 replace I:=kU I a
 replace n:=ql n a
 replace j:=ql j a
 replace P:=ql P a
 have dp:=af (dA.o.below a);have cc:=af (ce.o.below a);clear dA ce;have c7:=zt dk ex;clear dk;clear a i;clear z t s B C;obtain⟨z,t,s,B,C⟩:=fu j.o;simp only at z t s B C;have i:=af ((by have c:=Jp Y L L.length c dP rfl (aC.o.Jz cc.o (fun x e h=>av.o x e (h▸aw.o))) aa D Q H;unfold rZ at c;rw[<-c4.o]at c;exact c))
 go_wp2_with fail
 refine i.o.mono ?_;rintro e dR ⟨v,rfl,r,a⟩;have S:=af (bN r (show w.heap.size<=dP.heap.size by omega));obtain⟨d2,d6,rfl,-,-,-⟩:=Rd.aD (l:=Z) r;clear r;have ey:=a.size
 replace y:=kU y a
 replace E:=kU E a
 replace I:=kU I a
 replace n:=ql n a
 replace j:=ql j a
 replace P:=ql P a
 replace R:=af (R.o.below a)
 have dq:=af (dp.o.below a);have cd:=af (cc.o.below a);clear dp cc;have c8:=zt c7 ey;clear c7;clear a i;clear z t s B C;obtain⟨z,t,s,B,C⟩:=fu j.o;simp only at z t s B C;have i:=af ((by have c:=Nv Y L L.length c dR rfl (aC.o.Jz cd.o (fun x e h=>av.o x e (h▸aw.o))) aa D Q H am ob;unfold hasB at c;rw[<-c3.o]at c;exact c))
 go_wp2_with fail
 refine i.o.mono ?_;rintro e es ⟨v,rfl,r,a⟩;have U:=af (bN r (show w.heap.size<=dR.heap.size by omega));obtain⟨d3,d7,rfl,-,-,-⟩:=Rd.aD (l:=ao) r;clear r;have ez:=a.size
 replace y:=kU y a
 replace E:=kU E a
 replace I:=kU I a
 replace S:=kU S a
 replace n:=ql n a
 replace j:=ql j a
 replace P:=ql P a
 replace R:=af (R.o.below a)
 have dr:=af (dq.o.below a);have cU:=af (cd.o.below a);clear dq cd;have c9:=zt c8 ez;clear c8;clear a i;clear z t s B C;obtain⟨_,_,u,-,-,V⟩:=Rd.aD (l:=ao) y.o;injection u with u _ T;subst u T;obtain⟨_,_,u,-,-,X⟩:=Rd.aD (l:=ao) U.o;injection u with u _ T;subst u T;have c:=nT d4 d3 ao ao ao.length ao.length d8 d7 es rfl rfl V X aa aa;rw[show decide (ao=ao)=true from oH rfl]at c;have i:=af c;clear c V X
 go_wp2_with fail
 refine i.o.mono ?_;rintro e et ⟨rfl,a⟩;have eA:=a.size
 replace y:=kU y a
 replace E:=kU E a
 replace I:=kU I a
 replace S:=kU S a
 replace U:=kU U a
 replace n:=ql n a
 replace j:=ql j a
 replace P:=ql P a
 replace R:=af (R.o.below a)
 have ds:=af (dr.o.below a);have cV:=af (cU.o.below a);clear dr cU;have da:=zt c9 eA;clear c9;clear a i;obtain⟨_,_,u,-,-,V⟩:=Rd.aD (l:=Z) E.o;injection u with u _ T;subst u T;obtain⟨_,_,u,-,-,X⟩:=Rd.aD (l:=Z) S.o;injection u with u _ T;subst u T;have c:=nT d5 d2 Z Z Z.length Z.length cs d6 et rfl rfl V X aa aa;rw[show decide (Z=Z)=true from oH rfl]at c;have i:=af c;clear c V X
 go_wp2_with fail
 refine i.o.mono ?_;rintro e az ⟨rfl,a⟩;have eB:=a.size
 replace y:=kU y a
 replace E:=kU E a
 replace I:=kU I a
 replace S:=kU S a
 replace U:=kU U a
 replace n:=ql n a
 replace j:=ql j a
 replace P:=ql P a
 replace R:=af (R.o.below a)
 have b1:=af (ds.o.below a);have bS:=af (cV.o.below a);clear ds cV;have bU:=zt da eB;clear da;clear a i
 go_upto_if 177 with fail
 go_cut [177]from 135 to 177 (fun cv bR=>cv=.bool false/\Hid (aB (fun k=>k=Pb) w bR)/\w.heap.size<=bR.heap.size/\Hid (bR.heap[w.heap.size]? =some (.cells #[.int .u8 bJ,ae bM,ae bO,ak aH,ae D,ae Q,ae H,ae am,ak ob,.int .u8 F] 49 (0,0)))/\Hid (∀k,G k->0<=k/\k<bR.heap.size)/\∃t9,Hid (dG bR Pb G m L N wk t9))
 case first=>
  rcases cm.o with HC|HC
  .
   have cu:=HC.2;have cw:=HC.1;subst cu cw;simp only[eH,fE,kD];obtain⟨z,t,s,B,C⟩:=fu j.o;simp only at z t s B C;have aG:az.cell? (ag w.heap.size 9)=some (.int .u8 F):=aI n.o;have ac:=ah z;have al:=ah s;have cy:=ah aG
   go_upto_region 13 with fail
   obtain⟨aM,ab⟩:∃aY,az.drew=aY:=⟨_,rfl⟩;have g:Hid (Below az.heap.size az aM):=by
    show Below _ _ _;rw[<-ab];exact(aJ _ _).drew
   have ar:=af ab;clear ab;refine jQ aM ar.o (fun W=>∃p:aR az,W=p.W) [8,9,10,11,12,13,14,15,16,17,18,19,20,21,22,23,24,25,26,27,28,29,30,31,32,33,34,35,36,37,38,39,40,41,42] [(0,false),(1,false),(2,false),(3,true),(4,false),(5,true),(6,false),(7,true)] aL aL (fun _ _ d _ _ h=>by cases d<;>exact h) ⟨⟨_,g.o⟩,rfl⟩ 35 rfl aL ?_;simp only[iX,sD,nz,sw,eQ,eG,eP]
   repeat(refine gF (fun K f=>?_);go_simp;first|(refine f _ ?_;clear f K)|(apply Exists.intro;refine⟨fun _=>?_,f _ ?_⟩;rfl;clear f K))
   refine jJ ?_;clear ac al cy aG;clear z t s B C;have cM:=g.o.size
   replace y:=kU y g.o
   replace E:=kU E g.o
   replace I:=kU I g.o
   replace S:=kU S g.o
   replace U:=kU U g.o
   replace n:=ql n g.o
   replace j:=ql j g.o
   replace P:=ql P g.o
   replace R:=af (R.o.below g.o)
   have bn:=af (b1.o.below g.o);have aO:=af (bS.o.below g.o);clear b1 bS;have bh:=zt bU cM;clear bU;clear g ar;refine ay 8 rfl fun K f=>?_;have i:=af ((by have c:=yD Y L L.length c aM rfl (aC.o.Jz aO.o (fun x e h=>av.o x e (h▸aw.o))) aa D H F (decide (F%2=1)) (decide (2<=F)) (decide (F<=3)) b0.o.1 rfl b0.o.2;unfold rY at c;exact c));refine fe vI rfl _ _ rfl (vals:=#[.slice Y L.length c,ae D,ae H,.int .u8 F]) rfl (by have c:=i.o;rw[show(L.filter fun q=>decide (F<=3)&&kM D H (decide (F%2=1)) (decide (2<=F)) q)=L.filter (AX D H F)from rfl,<-cf.o]at c;exact c) ?_;rintro e cJ ⟨v,rfl,r,a⟩;refine⟨_,rfl,f _ _ (fun _ h=>absurd ai h) ?_⟩;clear f K;have aX:=af (bN r (show w.heap.size<=aM.heap.size by omega));obtain⟨bz,bD,rfl,-,-,-⟩:=Rd.aD (l:=M) r;clear r;have cN:=a.size
   replace y:=kU y a
   replace E:=kU E a
   replace I:=kU I a
   replace S:=kU S a
   replace U:=kU U a
   replace n:=ql n a
   replace j:=ql j a
   replace P:=ql P a
   replace R:=af (R.o.below a)
   have bo:=af (bn.o.below a);have bd:=af (aO.o.below a);clear bn aO;have bi:=zt bh cN;clear bh;clear a i;obtain⟨_,_,u,-,-,V⟩:=Rd.aD (l:=M) I.o;injection u with u _ T;subst u T;obtain⟨_,_,u,-,-,X⟩:=Rd.aD (l:=M) aX.o;injection u with u _ T;subst u T;have c:=nT b2 bz M M M.length M.length a9 bD cJ rfl rfl V X aa aa;rw[show decide (M=M)=true from oH rfl]at c;refine ay 9 rfl fun K f=>?_;refine fe rH rfl _ _ rfl (vals:=#[.slice b2 M.length a9,.slice bz M.length bD]) rfl c ?_;rintro e cK ⟨rfl,a⟩;refine⟨_,rfl,f _ _ (fun _ h=>absurd ai h) ?_⟩;clear f K c V X;have cO:=a.size
   replace y:=kU y a
   replace E:=kU E a
   replace I:=kU I a
   replace S:=kU S a
   replace U:=kU U a
   replace aX:=kU aX a
   replace n:=ql n a
   replace j:=ql j a
   replace P:=ql P a
   replace R:=af (R.o.below a)
   have cq:=af (bo.o.below a);have be:=af (bd.o.below a);clear bo bd;have ci:=zt bi cO;clear bi;clear a;obtain⟨a4,a5,a6⟩:=fD P.o;simp only at a4 a5 a6;obtain⟨lb,lo,ee,eW,b8⟩:=R.o.get ax;have cE:=b8 0 ax 0 aa;have cF:=b8 0 ax 1 aa;have cG:=b8 0 ax 2 aa;simp only[bX,ni,eG,eQ,df,Nat.zero_mul]at cE cF cG;subst ee;have ei:=ah cE;have ej:=ah cF;have ek:=ah cG;have ac:=ah a4;have au:=ah a5;have al:=ah a6;refine dQ (fun W=>∃p:aR cK,W=p.W) [] aL ?_;refine aW [(10,false),(11,false),(12,false),(13,false),(14,false),(15,false),(16,false),(17,false),(18,false),(19,false),(20,false),(21,false),(22,false),(23,false),(24,false),(25,false),(26,false),(27,true),(28,false),(29,false),(30,true),(31,false),(32,false),(33,false),(34,false),(35,false),(36,false),(37,false),(38,true),(39,false),(40,false),(41,false),(42,false)] ⟨⟨_,aJ _ _⟩,rfl⟩ rfl ?_;refine jo aL ?_;clear ac au al ei ej ek cE cF cG b8;clear a4 a5 a6
   go_wp2_with fail
   go_meet
   case rel=>exact⟨rfl,be.o,by have:=be.o.size;omega,n,ci,_,cq⟩
  .
   obtain⟨cw,cu,eg,eh,ed⟩:=HC;subst cu cw eg eh ed;simp only[fE];obtain⟨z,t,s,B,C⟩:=fu j.o;simp only at z t s B C;have aG:az.cell? (ag w.heap.size 9)=some (.int .u8 F):=aI n.o;have ac:=ah z;have al:=ah s;have cy:=ah aG
   go_upto_region 13 with fail
   obtain⟨aM,ab⟩:∃aY,az.drew=aY:=⟨_,rfl⟩;have g:Hid (Below az.heap.size az aM):=by
    show Below _ _ _;rw[<-ab];exact(aJ _ _).drew
   have ar:=af ab;clear ab;refine jQ aM ar.o (fun W=>∃p:aR az,W=p.W) [8,9,10,11,12,13,14,15,16,17,18,19,20,21,22,23,24,25,26,27,28,29,30,31,32,33,34,35,36,37,38,39,40,41,42] [(0,false),(1,false),(2,false),(3,true),(4,false),(5,true),(6,false),(7,true)] aL aL (fun _ _ d _ _ h=>by cases d<;>exact h) ⟨⟨_,g.o⟩,rfl⟩ 35 rfl aL ?_;simp only[iX,sD,nz,sw,eQ,eG,eP]
   repeat(refine gF (fun K f=>?_);go_simp;first|(refine f _ ?_;clear f K)|(apply Exists.intro;refine⟨fun _=>?_,f _ ?_⟩;rfl;clear f K))
   refine jJ ?_;clear ac al cy aG;clear z t s B C;have cM:=g.o.size
   replace y:=kU y g.o
   replace E:=kU E g.o
   replace I:=kU I g.o
   replace S:=kU S g.o
   replace U:=kU U g.o
   replace n:=ql n g.o
   replace j:=ql j g.o
   replace P:=ql P g.o
   replace R:=af (R.o.below g.o)
   have bn:=af (b1.o.below g.o);have aO:=af (bS.o.below g.o);clear b1 bS;have bh:=zt bU cM;clear bU;clear g ar;refine ay 8 rfl fun K f=>?_;have i:=af ((by have c:=yD Y L L.length c aM rfl (aC.o.Jz aO.o (fun x e h=>av.o x e (h▸aw.o))) aa D H F (decide (F%2=1)) (decide (2<=F)) (decide (F<=3)) b0.o.1 rfl b0.o.2;unfold rY at c;exact c));refine fe vI rfl _ _ rfl (vals:=#[.slice Y L.length c,ae D,ae H,.int .u8 F]) rfl (by have c:=i.o;rw[show(L.filter fun q=>decide (F<=3)&&kM D H (decide (F%2=1)) (decide (2<=F)) q)=L.filter (AX D H F)from rfl,<-cf.o]at c;exact c) ?_;rintro e cJ ⟨v,rfl,r,a⟩;refine⟨_,rfl,f _ _ (fun _ h=>absurd ai h) ?_⟩;clear f K;have aX:=af (bN r (show w.heap.size<=aM.heap.size by omega));obtain⟨bz,bD,rfl,-,-,-⟩:=Rd.aD (l:=M) r;clear r;have cN:=a.size
   replace y:=kU y a
   replace E:=kU E a
   replace I:=kU I a
   replace S:=kU S a
   replace U:=kU U a
   replace n:=ql n a
   replace j:=ql j a
   replace P:=ql P a
   replace R:=af (R.o.below a)
   have bo:=af (bn.o.below a);have bd:=af (aO.o.below a);clear bn aO;have bi:=zt bh cN;clear bh;clear a i;obtain⟨_,_,u,-,-,V⟩:=Rd.aD (l:=M) I.o;injection u with u _ T;subst u T;obtain⟨_,_,u,-,-,X⟩:=Rd.aD (l:=M) aX.o;injection u with u _ T;subst u T;have c:=nT b2 bz M M M.length M.length a9 bD cJ rfl rfl V X aa aa;rw[show decide (M=M)=true from oH rfl]at c;refine ay 9 rfl fun K f=>?_;refine fe rH rfl _ _ rfl (vals:=#[.slice b2 M.length a9,.slice bz M.length bD]) rfl c ?_;rintro e cK ⟨rfl,a⟩;refine⟨_,rfl,f _ _ (fun _ h=>absurd ai h) ?_⟩;clear f K c V X;have cO:=a.size
   replace y:=kU y a
   replace E:=kU E a
   replace I:=kU I a
   replace S:=kU S a
   replace U:=kU U a
   replace aX:=kU aX a
   replace n:=ql n a
   replace j:=ql j a
   replace P:=ql P a
   replace R:=af (R.o.below a)
   have cq:=af (bo.o.below a);have be:=af (bd.o.below a);clear bo bd;have ci:=zt bi cO;clear bi;clear a;obtain⟨a4,a5,a6⟩:=fD P.o;simp only at a4 a5 a6;have ac:=ah a4;have au:=ah a5;have al:=ah a6;refine dQ (fun W=>∃p:aR cK,W=p.W) [] aL ?_;refine aW [(10,false),(11,false),(12,false),(13,false),(14,false),(15,false),(16,false),(17,false),(18,false),(19,false),(20,false),(21,false),(22,false),(23,false),(24,false),(25,false),(26,false),(27,true),(28,false),(29,false),(30,true),(31,false),(32,false),(33,false),(34,false),(35,false),(36,false),(37,false),(38,true),(39,false),(40,false),(41,false),(42,false)] ⟨⟨_,aJ _ _⟩,rfl⟩ rfl ?_;refine jo aL ?_;clear ac au al;clear a4 a5 a6
   go_wp2_with fail
   go_meet
   case rel=>exact⟨rfl,be.o,by have:=be.o.size;omega,n,ci,_,cq⟩
 case rest=>
  obtain⟨rfl,co,eZ,ap,dl,t0,dB⟩:=hcut;have bI:wc.cell? (ag w.heap.size 3)=some (ak aH):=aI ap.o;have i:=af (DL Y L L.length c wc rfl (aC.o.Jz co.o (fun x e h=>av.o x e (h▸aw.o))) aa aH)
  go_wp2_with fail
  refine i.o.mono ?_;rintro e dS ⟨eo,a⟩;have eF:=a.size
  replace ap:=ql ap a
  have a8:=af (dB.o.below a);have bT:=af (co.o.below a);clear dB co;have bW:=zt dl eF;clear dl;clear a i;clear bI;rcases eo with⟨dH,rfl⟩|⟨k,bb,cC,rfl⟩
  .have bl:=af (EU dH);clear dH;have bI:dS.cell? (ag w.heap.size 3)=some (ak aH):=aI ap.o;have i:=af ((by have c:=Ub a8.o aH;rw[bl.o]at c;exact c:Calls _ _ _ _ (Rh _ none)))
   go_wp2_with fail
   refine i.o.mono ?_;rintro e aq ⟨rfl,a⟩;have cP:=a.size
   replace ap:=ql ap a
   have bp:=af (a8.o.below a);have bf:=af (bT.o.below a);clear a8 bT;have bj:=zt bW cP;clear bW;clear a i;clear bI;have g:Hid (Below aq.heap.size aq (aq.alloc (.cells #[ae 0,ae 0,ak 0] 29))):=(aJ _ _).alloc (aA _) _;have ck:Hid ((aq.alloc (.cells #[ae 0,ae 0,ak 0] 29)).heap[aq.heap.size]? =some (vD (0,0,0))):=bY _ _
   go_upto_region 17 with fail
   generalize aq.alloc (.cells #[ae 0,ae 0,ak 0] 29)=aN at*;have cQ:=g.o.size
   replace ap:=ql ap g.o
   have bq:=af (bp.o.below g.o);have a7:=af (bf.o.below g.o);clear bp bf;have bk:=zt bj cQ;clear bj;clear g;obtain⟨ac,au,al⟩:=fD ck.o;simp only at ac au al;have f0:=ah ac;have f1:=ah au;have f2:=ah al;obtain⟨bQ,ab⟩:∃aY,aN.drew=aY:=⟨_,rfl⟩;have g:Hid (Below aN.heap.size aN bQ):=by
    show Below _ _ _;rw[<-ab];exact(aJ _ _).drew
   have ar:=af ab;clear ab;refine jQ bQ ar.o (fun W=>∃p:aR aN,W=p.W) [26,28,29,30,31,32,33,34,35,36,37,38] [(0,false),(1,false),(2,false),(3,false),(4,false),(5,false),(6,false),(7,false),(8,true),(9,false),(10,false),(11,false),(12,false),(13,false),(14,false),(15,true),(16,false),(17,false),(18,false),(19,true),(20,false),(21,false),(22,false),(23,false),(24,false),(25,false),(27,false)] aL aL (fun _ _ d _ _ h=>by cases d<;>exact h) ⟨⟨_,g.o⟩,rfl⟩ 12 rfl aL ?_;simp only[iX,sD,nz,sw,eQ,eG,eP]
   repeat(refine gF (fun K f=>?_);go_simp;first|(refine f _ ?_;clear f K)|(apply Exists.intro;refine⟨fun _=>?_,f _ ?_⟩;rfl;clear f K))
   refine jJ ?_;clear f0 f1 f2 ac au al;have cR:=g.o.size;have br:=af (bq.o.below g.o);have aP:=af (a7.o.below g.o);clear bq a7;have cj:=zt bk cR;clear bk;clear g ar;refine ay 26 rfl fun K f=>?_;have i:=af (MG br.o aa);refine fe Jr rfl _ _ rfl (vals:=#[aj Pb]) rfl i.o ?_;rintro e an ⟨v,aQ,rfl,r,hP,a3,a2⟩;refine⟨_,rfl,f _ _ (fun _ h=>absurd ai h) ?_⟩;clear f K;have eM:=a3.size;have cS:=aP.o.size;have aV:Hid (aB G w an):=(aB.mono aP.o (fun k h=>h▸aw.o)).trans a3;have aS:Hid (∀k,aQ k->(G k\/w.heap.size<=k)/\k<an.heap.size):=fun k h=>⟨(a2 k h).1.imp id fun h=>aa,(a2 k h).2.1⟩;have bs:=af hP;have cD:=qj (l:=L);obtain⟨J,aE⟩:∃A,A=dh (ids (bL L)):=⟨_,rfl⟩;have ep:J.length<=5000:=by rw[aE,dY];unfold ids;rw[bK];omega
   rw[<-aE]at r;have cg:=af aE;have bw:=af r;obtain⟨bA,bE,rfl,-,-,-⟩:=Rd.aD (l:=J) r;clear r hP a3 a2 aE cD i br aP cj;refine ay 28 rfl fun K f=>?_;have i:Hid (aK 80 #[.slice Y L.length c] an fun e w'=>∃v,e=.returned v/\w'.ownsRow an.heap.size 27 1 v J.length (J.map (.int .u32))/\Below an.heap.size an w'):=by
    have d:=E9 Y L L.length c an rfl (aC.o.Jz aV.o av.o) aa ((fV L).2 bZ.o);rw[<-cg.o]at d;exact d
   refine fe DN rfl _ _ rfl (vals:=#[.slice Y L.length c]) rfl i.o ?_;rintro e bP ⟨v,rfl,r,a⟩;refine⟨_,rfl,f _ _ (fun _ h=>absurd ai h) ?_⟩;clear f K;have eN:=a.size;have cr:=af r;obtain⟨bB,bF,rfl,-,-,X⟩:=Rd.aD (l:=J) r;have bx:=kU bw a;obtain⟨_,_,u,-,-,V⟩:=Rd.aD (l:=J) bx.o;injection u with u _ T;subst u T;have bt:=af (bs.o.below a);have bm:=af (aV.o.below a);have aU:Hid (∀k,aQ k->(G k\/w.heap.size<=k)/\k<bP.heap.size):=fun k h=>⟨(aS.o k h).1,by have:=(aS.o k h).2;omega⟩;clear r a i bs aV aS bw;have a0:=nT bA bB J J J.length J.length bE bF bP rfl rfl V X aa aa;rw[show decide (J=J)=true from oH rfl]at a0;have i:=af a0;clear a0 V X bx cr;refine ay 29 rfl fun K f=>?_;refine fe rH rfl _ _ rfl (vals:=#[.slice bA J.length bE,.slice bB J.length bF]) rfl i.o ?_;rintro e cI ⟨rfl,a⟩;refine⟨_,rfl,f _ _ (fun _ h=>absurd ai h) ?_⟩;clear f K;have eO:=a.size;have bv:=af (bt.o.below a);have cp:=af (bm.o.below a);have ch:Hid (∀k,aQ k->(G k\/w.heap.size<=k)/\k<cI.heap.size):=fun k h=>⟨(aU.o k h).1,by have:=(aU.o k h).2;omega⟩;clear a i bt bm aU;refine dQ (fun _=>True) [33,36,37,38] aL ?_;refine aW [(30,false),(31,false),(32,false),(34,false),(35,false)] trivial rfl ?_;refine ay 33 rfl fun K f=>?_;refine fe Js rfl _ _ rfl (vals:=#[aj Pb]) rfl (T9 bv.o) ?_;rintro e eq ⟨rfl,cx⟩;subst cx;refine⟨_,rfl,f _ _ (fun _ h=>absurd ai h) ?_⟩;clear f K;refine aF [36,37,38] ?_;go_wp2;go_ret;exact⟨rfl,cp.o,_,_,bv.o,ch.o⟩
  .have bl:=af (MC bZ.o (bC bb));rw[cC]at bl;have cn:Hid (∀W,bV bX 3 W Y L->∃b off,Y=some (ag b off)/\W.cell? (ag b (off+k*3+0))=some (ae L[k].1)/\W.cell? (ag b (off+k*3+1))=some (ae L[k].2.1)/\W.cell? (ag b (off+k*3+2))=some (ak L[k].2.2)):=fun W en=>by
    obtain⟨b,off,e,-,cB⟩:=en.get aa;exact⟨b,off,e,cB k bb 0 aa,cB k bb 1 aa,cB k bb 2 aa⟩
   generalize L[k]=q at*;obtain⟨bG,bH,a1⟩:=q;simp only at cn bl cC;have eV:(k:Int)<(L.length:Int):=aa;have eU:(0:Int)<=(k:Int):=Int.natCast_nonneg k;subst cC;have bI:dS.cell? (ag w.heap.size 3)=some (ak a1):=aI ap.o;have i:=af ((by have c:=Ub a8.o a1;rw[bl.o]at c;exact c:Calls _ _ _ _ (Rh _ (some (bG,bH,a1)))))
   go_wp2_with fail
   refine i.o.mono ?_;rintro e aq ⟨rfl,a⟩;have cP:=a.size
   replace ap:=ql ap a
   have bp:=af (a8.o.below a);have bf:=af (bT.o.below a);clear a8 bT;have bj:=zt bW cP;clear bW;clear a i;clear bI;have g:Hid (Below aq.heap.size aq (aq.alloc (.cells #[ae bG,ae bH,ak a1] 29))):=(aJ _ _).alloc (aA _) _;have ck:Hid ((aq.alloc (.cells #[ae bG,ae bH,ak a1] 29)).heap[aq.heap.size]? =some (vD (bG,bH,a1))):=bY _ _
   go_upto_region 17 with fail
   generalize aq.alloc (.cells #[ae bG,ae bH,ak a1] 29)=aN at*;have cQ:=g.o.size
   replace ap:=ql ap g.o
   have bq:=af (bp.o.below g.o);have a7:=af (bf.o.below g.o);clear bp bf;have bk:=zt bj cQ;clear bj;clear g;obtain⟨ac,au,al⟩:=fD ck.o;simp only at ac au al;have f0:=ah ac;have f1:=ah au;have f2:=ah al;obtain⟨s,cH,ef,cL,y1,y2⟩:=cn.o _ (aC.o.Jz a7.o (fun x e h=>av.o x e (h▸aw.o)));simp only[df]at cL;have f3:=ah cL;have f4:=ah y1;have f5:=ah y2;subst ef;obtain⟨bQ,ab⟩:∃aY,aN.drew=aY:=⟨_,rfl⟩;have g:Hid (Below aN.heap.size aN bQ):=by
    show Below _ _ _;rw[<-ab];exact(aJ _ _).drew
   have ar:=af ab;clear ab;refine jQ bQ ar.o (fun W=>∃p:aR aN,W=p.W) [26,28,29,30,31,32,33,34,35,36,37,38] [(0,false),(1,false),(2,false),(3,false),(4,false),(5,false),(6,false),(7,false),(8,true),(9,false),(10,false),(11,false),(12,false),(13,false),(14,false),(15,true),(16,false),(17,false),(18,false),(19,true),(20,false),(21,false),(22,false),(23,false),(24,false),(25,false),(27,false)] aL aL (fun _ _ d _ _ h=>by cases d<;>exact h) ⟨⟨_,g.o⟩,rfl⟩ 12 rfl aL ?_;simp only[iX,sD,nz,sw,eQ,eG,eP]
   repeat(refine gF (fun K f=>?_);go_simp;first|(refine f _ ?_;clear f K)|(apply Exists.intro;refine⟨fun _=>?_,f _ ?_⟩;rfl;clear f K))
   refine jJ ?_;clear f0 f1 f2 ac au al f3 f4 f5 cL y1 y2 cn;have cR:=g.o.size;have br:=af (bq.o.below g.o);have aP:=af (a7.o.below g.o);clear bq a7;have cj:=zt bk cR;clear bk;clear g ar;refine ay 26 rfl fun K f=>?_;have i:=af (MG br.o aa);refine fe Jr rfl _ _ rfl (vals:=#[aj Pb]) rfl i.o ?_;rintro e an ⟨v,aQ,rfl,r,hP,a3,a2⟩;refine⟨_,rfl,f _ _ (fun _ h=>absurd ai h) ?_⟩;clear f K;have eM:=a3.size;have cS:=aP.o.size;have aV:Hid (aB G w an):=(aB.mono aP.o (fun k h=>h▸aw.o)).trans a3;have aS:Hid (∀k,aQ k->(G k\/w.heap.size<=k)/\k<an.heap.size):=fun k h=>⟨(a2 k h).1.imp id fun h=>aa,(a2 k h).2.1⟩;have bs:=af hP;have cD:=qj (l:=L);obtain⟨J,aE⟩:∃A,A=dh (ids (bL L)):=⟨_,rfl⟩;have ep:J.length<=5000:=by rw[aE,dY];unfold ids;rw[bK];omega
   rw[<-aE]at r;have cg:=af aE;have bw:=af r;obtain⟨bA,bE,rfl,-,-,-⟩:=Rd.aD (l:=J) r;clear r hP a3 a2 aE cD i br aP cj;refine ay 28 rfl fun K f=>?_;have i:Hid (aK 80 #[.slice (some (ag s cH)) L.length c] an fun e w'=>∃v,e=.returned v/\w'.ownsRow an.heap.size 27 1 v J.length (J.map (.int .u32))/\Below an.heap.size an w'):=by
    have d:=E9 (some (ag s cH)) L L.length c an rfl (aC.o.Jz aV.o av.o) aa ((fV L).2 bZ.o);rw[<-cg.o]at d;exact d
   refine fe DN rfl _ _ rfl (vals:=#[.slice (some (ag s cH)) L.length c]) rfl i.o ?_;rintro e bP ⟨v,rfl,r,a⟩;refine⟨_,rfl,f _ _ (fun _ h=>absurd ai h) ?_⟩;clear f K;have eN:=a.size;have cr:=af r;obtain⟨bB,bF,rfl,-,-,X⟩:=Rd.aD (l:=J) r;have bx:=kU bw a;obtain⟨_,_,u,-,-,V⟩:=Rd.aD (l:=J) bx.o;injection u with u _ T;subst u T;have bt:=af (bs.o.below a);have bm:=af (aV.o.below a);have aU:Hid (∀k,aQ k->(G k\/w.heap.size<=k)/\k<bP.heap.size):=fun k h=>⟨(aS.o k h).1,by have:=(aS.o k h).2;omega⟩;clear r a i bs aV aS bw;have a0:=nT bA bB J J J.length J.length bE bF bP rfl rfl V X aa aa;rw[show decide (J=J)=true from oH rfl]at a0;have i:=af a0;clear a0 V X bx cr;refine ay 29 rfl fun K f=>?_;refine fe rH rfl _ _ rfl (vals:=#[.slice bA J.length bE,.slice bB J.length bF]) rfl i.o ?_;rintro e cI ⟨rfl,a⟩;refine⟨_,rfl,f _ _ (fun _ h=>absurd ai h) ?_⟩;clear f K;have eO:=a.size;have bv:=af (bt.o.below a);have cp:=af (bm.o.below a);have ch:Hid (∀k,aQ k->(G k\/w.heap.size<=k)/\k<cI.heap.size):=fun k h=>⟨(aU.o k h).1,by have:=(aU.o k h).2;omega⟩;clear a i bt bm aU;refine dQ (fun _=>True) [33,36,37,38] aL ?_;refine aW [(30,false),(31,false),(32,false),(34,false),(35,false)] trivial rfl ?_;refine ay 33 rfl fun K f=>?_;refine fe Js rfl _ _ rfl (vals:=#[aj Pb]) rfl (T9 bv.o) ?_;rintro e eq ⟨rfl,cx⟩;subst cx;refine⟨_,rfl,f _ _ (fun _ h=>absurd ai h) ?_⟩;clear f K;refine aF [36,37,38] ?_;go_wp2;go_ret;exact⟨rfl,cp.o,_,_,bv.o,ch.o⟩
end
end Go.Proofs.YtkjdbndekceffaaGreat
