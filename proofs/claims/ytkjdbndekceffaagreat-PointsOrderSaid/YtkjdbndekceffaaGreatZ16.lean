/- Made small by a program. -/
import Derived.Test.YtkjdbndekceffaaGreatZ15
set_option linter.unusedSimpArgs false
set_option linter.unusedVariables false
set_option maxRecDepth 100000
set_option maxHeartbeats 16000000
namespace Go.Proofs.YtkjdbndekceffaaGreat
open Tryz
section
open Go.RowKit Go.Sort Go.Shelf Go.Lib Go.Maps
attribute [local irreducible] wpQuiet
attribute [local go_sem] Oper.eF
theorem JQ:gF 213:=di func213 aO rfl
theorem G7 {T:List (Option Nat)} {i tb:Nat}:(zK T i tb)[i]? =some (some tb):=by
 unfold zK;rw[uh aD]
theorem KY {T:List (Option Nat)} {i tb j:Nat} (h:j≠i) {x:Nat} (a:T[j]? =some (some x)):(zK T i tb)[j]? =some (some x):=by
 unfold zK;have b:=(fE.1 a).1;rw[uj (fun e=>h e.symm),lS b,a]
theorem G8 {T:List (Option Nat)} {i tb n:Nat} (h:T.length<=n) (hi:i<n):(zK T i tb).length<=n:=by
 unfold zK;simp;omega
section
variable {w w':World} {X X' S Fn:Nat->Prop} {F:Nat->Nat->Prop} {Hb Cb mb:Nat} {cv tv av lv:Value} {ch:List zT} {T T':List (Option Nat)} {al al':List Bool} {eH:List Int} {A:List eO} {N wk:Int} {CB CB':List (List eO)}
theorem nN.skip (h:nN w F X CB T al):nN w F X (CB++[[]]) T al:=by
 refine⟨fun j b a=>?_,h.off,h.ap,h.lt⟩;by_cases e:j<CB.length
 .rw[qF e]at a |-;exact h.tr j e a
 .rw[vX aa]at a;simp at a
theorem nN.step (h:nN w F X CB T al) {i tb n0 m0 m:Nat} {l:List eO} (o:Bk w Fn tb n0 (sJ al' l)) (C:n0<=l.length) (B:∀(j:Nat) (b:j<CB'.length),CB'[j]≠[]->(j=i/\CB'[j]=l)\/(j≠i/\∃n:j<CB.length,CB'[j]=CB[j]/\(∀x,T[j]? =some (some x)->T'[j]? =some (some x))/\sJ al' CB[j]=sJ al CB[j]))
  (z:T'[i]? =some (some tb)) (p:∀k,X' k->X k\/(m0<=k/\k<m)) (g:∀k,Fn k->m<=k) (f:∀j k,F j k->k<m0) (A:∀k,X k->k<m) (G:m0<=m):nN w (fun j k=>(j=i/\Fn k)\/(j≠i/\F j k)) X' CB' T' al':=by
 refine⟨fun j b q=>?_,?_,?_,?_⟩
 .rcases B j b q with⟨rfl,e⟩|⟨c,n,e,h2,y⟩
  .refine⟨tb,n0,z,by rw[e];exact C,?_⟩;have:(fun k=>(j=j/\Fn k)\/(j≠j/\F j k))=Fn:=by funext k;simp
   rw[this,e];exact o
  .obtain⟨E,D,t,u,v⟩:=h.tr j n (by rw[<-e];exact q);refine⟨E,D,h2 _ t,by rw[e];exact u,?_⟩;have:(fun k=>(j=i/\Fn k)\/(j≠i/\F j k))=F j:=by funext k;simp[c]
   rw[this,e,y];exact v
 .rintro j k (⟨rfl,a⟩|⟨b,a⟩) r
  .have c:=g k a;rcases p k r with h2|h2
   .have:=A k h2;omega
   .omega
  .rcases p k r with h2|h2
   .exact h.off j k a h2
   .have:=f j k a;omega
 .rintro j s k (⟨rfl,a⟩|⟨b,a⟩) (⟨rfl,d⟩|⟨n,d⟩)
  .rfl
  .have c:=g k a;have h2:=f s k d;omega
  .have c:=g k d;have h2:=f j k a;omega
  .exact h.ap j s k a d
 .rintro j k (⟨rfl,a⟩|⟨b,a⟩)
  .exact o.lt k a
  .exact h.lt j k a
def UM (w:World) (X:Nat->Prop) (Hb Cb mb:Nat) (cv tv av lv:Value) (ch:List zT) (al:List Bool) (A:List eO) (wk:Int) (e:Ending) (w':World):Prop:=
 e=.returned (af A.length)/\∃(X':Nat->Prop) (F':Nat->Nat->Prop) (Cz tv':Value) (qP:List zT) (T':List (Option Nat)) (lev':List Int),iX w' X' Hb Cb mb Cz tv' av lv qP T' al lev' A A.length (wrap64 (wk+(A.length:Int)))/\
  qP.map (·.2.1)=setC (Lib.bitLen A.length) (kG al (ch.map (·.2.1)) 0)/\nN w' F' X' (qP.map (·.2.1)) T' al/\nX (qP.map (·.2.1)) al A A.length/\TZ (qP.map (·.2.1)) al lev'/\T'.length<=14/\(∀k,X' k->k<w'.heap.size/\(X k\/w.heap.size<=k))/\(∀i k,F' i k->w.heap.size<=k)/\
  ax (fun k=>k=Hb\/k=Cb\/cv.ownBlock=some k\/tv.ownBlock=some k\/lv.ownBlock=some k) w w'
theorem Rs (h:iX w X Hb Cb mb cv tv av lv ch T al eH A N wk) (af:nX (ch.map (·.2.1)) al A N) (bw:eH.length=al.length) (bg:∀k,X k->k<w.heap.size):
  aK 140 #[aj Hb] w (UM w X Hb Cb mb cv tv av lv ch al A wk):=by
 have H:=ag h;have bQ:=ag bg;obtain⟨a7,bc⟩:=af.anew (L:=kG al (ch.map (·.2.1)) 0) (by unfold kG;rw[lK]);have bB:=ag a7;have aD:=af.levels;have bH:=ag bw;have aO:=ag (fun p:aQ w=>PG (h.below p.h) af);obtain⟨-,-,U,-⟩:=h.cell;have cj:(kG al (ch.map (·.2.1)) 0).length<=5000:=bD (DL _ _ _) aD.2.1;have ck:=aD.2.2.1;have bZ:=ah U;clear h af bw bg a7 U aD;generalize bd:kG al (ch.map (·.2.1)) 0=L at*;have bG:=ag bd;have aq:=ag bc;clear bd bc;go_enter func140,ntmps140
 go_wp2_with fail
 refine ak (fun W=>∃p:aQ w,W=p.W) [6,7] [(0,false),(1,false),(2,false),(3,true),(4,false)] ⟨⟨_,(aJ _ _).drew⟩,rfl⟩ 3 ?_;clear bZ;refine aF 5 rfl fun K ba=>?_;refine bf JQ rfl _ _ rfl (vals:=#[aj Hb]) rfl (aO.o ⟨_,(aJ _ _).drew⟩) ?_;rintro e w2 ⟨v,rfl,bp,bh⟩;obtain⟨ce,cf,rfl,-,b8,br⟩:=LC.aI bp;have M:Below w.heap.size w w2:=(aJ _ _).drew.trans bh;refine⟨_,rfl,?_⟩;refine ba _ _ (fun _ _=>⟨⟨_,M⟩,rfl⟩) ?_;clear ba K;have aU:=ag (H.o.below M);have aV:=ag M;have aS:=ag (TF aU.o.fI (aX _) ce L cf br b8 aa);clear bp bh M aO br;refine aH [6,7] ?_
 go_wp2_with fail
 refine aS.o.mono ?_;rintro e w4 ⟨V,f,aM,rfl,az,aE,ad,bi,ab,bn,bx⟩;have cu:=aV.o.size;have cw:=ab.size;have a6:=aU.o.PD (ab.mono fun k h=>.inl h) az aE (Nw.nil bn (aB _)) (.inr bi);have am:Hid (iX w4 (fun k=>X k\/w.heap.size<=k/\k<w4.heap.size) Hb Cb mb V tv av lv f T al eH A L.length aM):=a6.more fun k hk=>by
  rcases hk with hk|⟨E,Z⟩
  .exact .inl hk
  .refine .inr ⟨aa,?_⟩;rcases Z with Z|⟨x,J,bo,a,b2,rfl⟩
   .exact(az.row.lt k Z).2
   .rcases(aE x J).1 with h9|⟨b,off,cg,fr,Y,b3,-⟩
    .exact absurd h9 bo
    .rw[b2]at Y;injection Y with Y;rw[Y];exact(aZ.1 b3).1
 have bI:=ag ad;have a5:=ag bx;have bF:Hid (ax (fun k=>k=Cb) w w4):=((ax.refl (fun k=>k=Cb) w).below aV.o).trans ab;have cl:f.length<=13:=by
  have E:=congrArg List.length ad;rw[eu,bT]at E;have Z:=fu (a:=L.length) (b:=5000) aa ai;have ci:Lib.bitLen 5000<=13:=ai;omega
 have B:Hid (nX (f.map (·.2.1)) al A L.length):=by rw[ad];exact bB.o
 have bU:Hid (∀(j:Nat) (g:j<f.length),f[j].2.1.length<=5000):=fun j g=>by
  have E:=B.o.few j (by rw[bT];exact g);rwa [fM]at E
 obtain⟨-,-,-,cb,-⟩:=am.o.cell;have f3:=am.o.frozen 3;have O:Hid (iX (w4.setCell (ae Hb 3) (aL)) (fun k=>X k\/w.heap.size<=k/\k<w4.heap.size) Hb Cb mb V (aL) av lv f [] al eH A L.length aM):=(am.o.R5 (tv':=aL) (T':=[]) (bN (aJ _ _)|>fun h=>⟨h.os,h.tape,h.output,h.size,fun k hk _=>rfl⟩) (dw _ _ _ _) (by simp[Value.ownBlock])).more fun k hk=>hk.elim (fun h=>h) fun h=>by cases h
 have a1:Hid (ax (fun k=>k=Hb\/k=Cb) w (w4.setCell (ae Hb 3) (aL))):=(bF.o.mono fun k h=>.inr h).set (a:=(ae Hb 3)) _ (.inl (.inl rfl));have aR:=ag (yl O.o.fI aa);obtain⟨-,-,cc,-⟩:=O.o.cell;have bt:(w4.setCell (ae Hb 3) (aL)).heap.size=w4.heap.size:=aA;have bM:=ag bt;clear az aE ad bi ab bn bx a6 aS bt
 go_wp2_with fail
 generalize w4.setCell (ae Hb 3) (aL)=cB at*;refine aR.o.mono ?_;rintro e w6 ⟨rfl,ac⟩;have bA:=ag (O.o.below ac);have b5:=ac.size;have a2:Hid (ax (fun k=>k=Hb\/k=Cb) w w6):=a1.o.below ac;have bO:Hid (w4.heap.size<=w6.heap.size):=by have:=bM.o;show _<=_;omega
 clear aR ac O a1 cb f3 cc b5
 go_wp2_with fail
 go_loopw [21] (fun aG wr=>∃(i:Nat) (s:Nat->Prop) (u:Nat->Nat->Prop) (t:Value) (r:List (Option Nat)) (n:List Int),aG=.int .i64 i/\i<=f.length/\Hid (iX wr s Hb Cb mb V t av lv f r al n A L.length aM)/\Hid (nN wr u s ((f.map (·.2.1)).take i) r al)/\Hid (∀(j:Nat) (g:j<f.length),j<i->∀c∈f[j].2.1,n[c.2.toNat]? =some (j:Int))/\Hid (n.length=al.length)/\Hid (r.length<=i)/\
  Hid (∀k,s k->k<wr.heap.size/\(X k\/w.heap.size<=k))/\Hid (∀j k,u j k->w.heap.size<=k)/\Hid (t.ownBlock=none\/∃b,t.ownBlock=some b/\w.heap.size<=b)/\Hid (ax (fun k=>k=Hb\/k=Cb\/lv.ownBlock=some k) w wr)) (fun aG _=>f.length-(intOf aG).toNat)
 case atStart=>exact⟨0,_,fun _ _=>False,_,[],eH,rfl,aX _,bA,⟨fun j g=>absurd g aA,fun _ _ h=>h.elim,fun _ _ _ h=>h.elim,fun _ _ h=>h.elim⟩,fun j _ g=>absurd g (kC _),bH,aX _,fun k hk=>by
   have E:=bO.o;rcases hk with hk|hk
   .have:=bQ.o k hk;have:=a2.o.size;exact⟨aa,.inl hk⟩
   .exact⟨aa,.inr hk.1⟩,fun _ _ h=>h.elim,.inl rfl,a2.o.mono fun k h=>h.imp id .inl⟩
 case round=>
  obtain⟨i,s,u,t,r,n,rfl,hi,y,a4,ar,C,R,aw,an,au,ao⟩:=hrel;have cy:=ao.o.size;by_cases G:i<f.length
  .have b9:=bU.o i G;have aN:=ag (ym y.o.fI y.o.rows aa i G aa);have bm:(f.map (·.2.1))[i]? =some f[i].2.1:=by rw[iy,cz G];rfl
   have a3:Hid ((f.map (·.2.1)).take (i+1)=(f.map (·.2.1)).take i++[f[i].2.1]):=by
    show _=_;rw[List.take_add_one,bm];rfl
   have ay:=B.o.bk i (by rw[bT];exact G);rw[fM]at ay;have P:=ag ay;have aW:Hid (∀(j:Nat) (g:j<f.length),j=i->f[j].2.1=f[i].2.1):=fun j g e=>by subst e;rfl
   have bC:Hid (∀(j:Nat) (g:j<f.length),j≠i->∀c∈f[j].2.1,∀d∈f[i].2.1,d.2.toNat≠c.2.toNat):=fun j g aC c l d hd=>B.o.apart (i:=i) (j:=j) (by rw[bT];exact G) (by rw[bT];exact g) (fun e=>aC e.symm) (by rw[fM];exact hd) (by rw[fM];exact l);generalize f[i].2.1=lk at*;obtain⟨-,-,U,-⟩:=y.o.cell;have cn:(i:Int)<(f.length:Int):=aa;clear bm ay;obtain⟨bz,bY⟩:∃bz:World,bz=wr:=⟨_,rfl⟩;subst bY
   go_wp2_with fail
   refine aN.o.mono ?_;rintro e w3 ⟨cA,rfl,bq,F⟩;have b4:=F.size;obtain⟨bV,bW,bX,-,-,bs⟩:=LC.aI bq;subst bX;have z:=ag (y.o.below F);have Q:=ag (a4.o.kept (S:=fun _=>False) ((ax.refl _ _).below F) fun _ _ _ h=>h);have a0:Hid (ax (fun k=>k=Hb\/k=Cb\/lv.ownBlock=some k) w w3):=ao.o.below F;have D:Hid (∀k,s k->k<w3.heap.size/\(X k\/w.heap.size<=k)):=fun k hk=>⟨bR (aw.o k hk).1 b4,(aw.o k hk).2⟩;have bL:=ag bs;clear bq F bs aN U;by_cases bl:lk=[]
   .subst bl;have ca:¬(0:Int)<((([]:List eO).length:Nat):Int):=aA;go_wp2;go_roundw
    case rel=>exact⟨i+1,s,u,t,r,n,by go_num,aa,z,by rw[a3.o];exact Q.o.skip,fun j g aC c l=>by
      by_cases e:j=i
      .rw[aW.o j g e]at l;cases l
      .exact ar.o j g aa c l,C,Nat.le_succ_of_le R.o,D,an,au,a0⟩
    case measure=>exact dU
   .have cr:0<lk.length:=xI.2 bl;have ca:(0:Int)<((lk.length:Nat):Int):=aa;have aT:=ag (KX z.o bV bW lk i bL.o aa (by have:=R.o;omega) b9 P.o.2.2 C.o aa P.o.1 P.o.2.1 (fun k hk=>(D.o k hk).1))
    go_wp2_with fail
    refine aT.o.mono ?_;rintro e cC ⟨rfl,cd,tb,m,Fn,be,a8,a9,I,bv,bb⟩;have bK:=ag be;have bE:=ag a8;have aY:=ag a9;have bJ:=ag I;have bP:=ag bv;have ap:=ag bb;clear be a8 a9 I bv bb aT;go_wp2;go_roundw
    case rel=>
     have cx:=R.o;obtain⟨I,cq⟩:=bJ.o;have b1:∀j k,u j k->¬(k=Hb\/t.ownBlock=some k\/lv.ownBlock=some k):=fun j k hk h9=>by
      refine Q.o.off j k hk ?_;rcases h9 with rfl|h9|h9
      .exact z.o.jh.1
      .exact z.o.jh.2.2.2.2.1 k h9
      .exact z.o.jh.2.2.2.2.2.2 k h9
     have b7:=(Q.o.kept ap.o b1).step (X':=fun k=>s k\/w3.heap.size<=k/\k<m) (i:=i) (m0:=w3.heap.size) (m:=m) (CB':=(f.map (·.2.1)).take i++[lk]) (T':=zK r i tb) bE.o (by unfold sJ;rw[bT];exact gT _ _) (fun j g bo=>by
       have bj:((f.map (·.2.1)).take i).length=i:=by rw[eQ,bT];omega
       by_cases e:j=i
       .subst e;left;refine⟨rfl,?_⟩;rw[vX aa];simp[bj]
       .right;have co:j<i:=by rw[bS,bj]at g;simp at g;omega
        exact⟨e,aa,qF aa,fun x J=>KY e J,rfl⟩) G7 (fun k hk=>hk) aY.o (fun j k hk=>Q.o.lt j k hk) (fun k hk=>bR (D.o k hk).1 I) I
     have b6:=ap.o.size;refine⟨i+1,_,_,cd,zK r i tb,il n lk i,by go_num,aa,bK,by rw[a3.o];exact b7,fun j g aC c l=>?_,by rw[mY];exact C.o,G8 aa aa,fun k hk=>?_,fun j k hk=>?_,?_,ax.strip ((a0.o.mono fun k h=>.inl h).trans (ap.o.mono fun k h=>?_))⟩
     .by_cases e:j=i
      .rw[aW.o j g e]at l;rw[e];obtain⟨q,cs,ct⟩:=P.o.2.2 c l;exact yE lk n i c l (by have:=C.o;omega)
      .rw[qy lk n i _ (fun x J=>bC.o j g e c l x J)];exact ar.o j g aa c l
     .rcases hk with hk|hk
      .exact⟨bR (D.o k hk).1 b6,(D.o k hk).2⟩
      .exact⟨aa,.inr aa⟩
     .rcases hk with⟨-,hk⟩|⟨-,hk⟩
      .have:=aY.o k hk;omega
      .exact an.o j k hk
     .rcases bP.o with h9|⟨b,h9,b0⟩
      .rw[h9];exact au.o
      .exact .inr ⟨b,h9,aa⟩
     .rcases h with h|h|h
      .exact .inl (.inl h)
      .rcases au.o with h9|⟨b,h9,b0⟩
       .rw[h9]at h;cases h
       .rw[h9]at h;injection h with h;exact .inr aa
      .exact .inl (.inr (.inr h))
    case measure=>exact dU
  .obtain rfl:i=f.length:=aa;have cm:¬(f.length:Int)<(f.length:Int):=aa;rw[aq.o]at B y a5;have cp:(L.length:Int)=(A.length:Int):=by rw[aq.o]
   go_wp2;go_ret;have bu:=a4.o;rw[ky aA]at bu;refine⟨rfl,s,u,V,t,f,r,n,by rw[<-a5.o];exact y.o,by rw[bI.o,aq.o,bG.o],bu,B.o,⟨C.o,fun j g c l=>?_⟩,by have:=R.o;omega,aw.o,an.o,ao.o.mono fun k h=>?_⟩
   .rw[fM]at l;exact ar.o j (aP g) (aP g) c l
   .rcases h with h|h|h
    .exact .inl h
    .exact .inr (.inl h)
    .exact .inr (.inr (.inr (.inr h)))
end
end
section
open Go.RowKit Go.Maps
def pot (L:Nat):Nat->List Nat->Nat
 |_,[]=>0
 |i,s::l=>s*(L-1-i)+pot L (i+1) l
theorem zZ (L:Nat):∀(i:Nat) (a b:List Nat),pot L i (a++b)=pot L i a+pot L (i+a.length) b
 |i,[],b=>by simp[pot]
 |i,s::a,b=>by
  simp only[mH,pot,zZ L (i+1) a b,dY];rw[show i+1+a.length=i+(a.length+1) by omega];omega
theorem G9 (L:Nat):∀(i k:Nat),pot L i (List.replicate k 0)=0
 |_,0=>rfl
 |i,k+1=>by simp[List.replicate_succ,pot,G9 L (i+1) k]
theorem PH (L:Nat):∀(i:Nat) (l:List Nat),pot L i l<=l.sum*(L-1)
 |_,[]=>by simp[pot]
 |i,s::l=>by
  have a:=PH L (i+1) l;have b:=Nat.mul_le_mul_left s (show L-1-i<=L-1 by omega);simp only[pot,List.sum_cons,pQ];omega
theorem Ha (L:Nat) (S:List Nat):∀(i:Nat),i<=L->i<=S.length->(∀(j:Nat) (h:j<S.length),j<i->S[j]=2^j)->2^i*(L-i)<=L+pot L 0 (S.take i)
 |0,_,_,_=>aA
 |i+1,hi,g,h=>by
  have ih:=Ha L S i aa aa fun j b f=>h j b aa;have a:i<S.length:=aa;rw[gW a,zZ,eQ,show min i S.length=i by omega,h i a aa];simp only[pot,jL,dx];rw[pK];have d:2^i*(L-i)=2^i*(L-1-i)+2^i:=by
   rw[show L-i=(L-1-i)+1 by omega,kL,iM]
  have e:2^i*2*(L-(i+1))=2^i*(L-1-i)+2^i*(L-1-i):=by
   rw[show L-(i+1)=L-1-i by omega,Nat.mul_assoc,Nat.two_mul,kL]
  generalize 2^i*(L-1-i)=Q at*;generalize 2^i*(L-i)=R at*;generalize 2^i*2*(L-(i+1))=c at*;generalize 2^i=P at*;omega
def KZ (CB:List (List eO)) (a:Nat) (wk:Int) (m:Nat):Prop:=0<=wk/\∀L,m<2^L->wk+(pot L 0 (CB.map List.length):Nat)+(L*(CB.flatten.length-a):Nat)<=(L*m:Nat)
theorem Rt (CB:List (List eO)):CB.flatten.length=(CB.map List.length).sum:=by rw[Eg]
theorem Ru:KZ [] 0 0 0:=⟨vo _,fun L _=>by simp[pot]⟩
theorem KZ.bound {CB:List (List eO)} {a m:Nat} {wk:Int} (h:KZ CB a wk m) (b:m<=5000):wk<=65000:=by
 have:=h.2 13 aa;omega
theorem KZ.add {CB:List (List eO)} {a m:Nat} {wk:Int} (h:KZ CB a wk m) (z:a<=CB.flatten.length) (y:CB.flatten.length<=m) (i:Nat) (hi:i<=CB.length) (s:∀(j:Nat) (b:j<CB.length),CB[j].length=0\/CB[j].length=2^j) (r:∀j (b:j<CB.length),j<i->CB[j]≠[]) (f:∀h:i<CB.length,CB[i]=[]) (x:eO):
  KZ (ko CB i x) (a+1) (wk+((eG CB i).length+1:Nat)) (m+1):=by
 have g:∀j (b:j<CB.length),j<i->CB[j].length=2^j:=fun j b d=>by
  rcases s j b with h1|h1
  .exact absurd (gX h1) (r j b d)
  .exact h1
 have e:=yD CB i hi g;have hP:=(tL CB i x f).length_eq;rw[dY]at hP;refine⟨by have:=h.1;omega,fun L w=>?_⟩;have h1:=h.2 L aa;have v:(eG CB i).length<=CB.flatten.length:=by
  rw[(jy CB i).length_eq];have c:(CB.take i).flatten++(CB.drop i).flatten=CB.flatten:=by rw[<-kW,jB]
  have:=congrArg List.length c;rw[bS]at this;omega
 have A:i<L:=by
  rcases Nat.lt_or_ge i L with h9|h9
  .exact h9
  .have:=Eb (n:=2) ai h9;omega
 have u:=Ha L (CB.map List.length) i aa (aP hi) fun j b d=>by rw[fM];exact g j (aP b) d
 have l:(ko CB i x).map List.length=List.replicate i 0++2^i::(CB.map List.length).drop (i+1):=by
  unfold ko;rw[bL,Ej,jK,xV];simp[e]
 have o:pot L 0 (CB.map List.length)=pot L 0 ((CB.map List.length).take i)+pot L (i+1) ((CB.map List.length).drop (i+1)):=by
  have p:CB.map List.length=(CB.map List.length).take i++(CB.map List.length).drop i:=(jB _ _).symm;have q:((CB.map List.length).take i).length=i:=by rw[eQ,bT];omega
  conv=>lhs;rw[p,zZ,q,jL]
  by_cases k:i<CB.length
  .rw[jJ (aP k)];simp[pot,f k]
  .rw[ou aD,ou aD];rfl
 have c:pot L 0 ((ko CB i x).map List.length)=2^i*(L-1-i)+pot L (i+1) ((CB.map List.length).drop (i+1)):=by
  rw[l,zZ,G9,iw];simp[pot]
 have t:2^i*(L-i)=2^i*(L-1-i)+2^i:=by
  rw[show L-i=(L-1-i)+1 by omega,kL,iM]
 rw[c,e,hP,show CB.flatten.length+1-(a+1)=CB.flatten.length-a by omega,kL];rw[o]at h1;omega
theorem KZ.drop {CB:List (List eO)} {a m:Nat} {wk:Int} (h:KZ CB (a+1) wk m) (d:a+1<=CB.flatten.length):KZ CB a wk (m+1):=by
 refine⟨h.1,fun L c=>?_⟩;have b:=h.2 L aa;rw[show CB.flatten.length-a=(CB.flatten.length-(a+1))+1 by omega,kL,kL];omega
theorem KZ.anew {CB CB':List (List eO)} {a m:Nat} {wk:Int} (h:KZ CB a wk m) (j:2*a<=CB.flatten.length) (c:CB'.flatten.length=a):KZ CB' a (wk+a) m:=by
 refine⟨by have:=h.1;omega,fun L b=>?_⟩;have g:=h.2 L b;have d:=PH L 0 (CB'.map List.length);rw[<-Rt,c]at d;rw[c,kZ,Nat.mul_zero];have i:L*a<=L*(CB.flatten.length-a):=Nat.mul_le_mul_left L aa;rcases qL L with h0|h0
 .subst h0;simp at b;subst b;simp at*;have:=h.1;have f:=h.2 1 ai;simp at f;omega
 .have e:a*(L-1)+a=L*a:=by
   rw[x8 L a]
   conv=>rhs;rw[show L=(L-1)+1 by omega,kL,iM]
  omega
end
section
open Go.RowKit Go.Sort Go.Shelf Go.Lib Go.Maps
attribute [local irreducible] wpQuiet
attribute [local go_sem] Oper.eF
def jG (w:World) (Hb:Nat) (G:Nat->Prop) (m:Nat) (A:List eO) (N wk:Int):Prop:=
 ∃(X:Nat->Prop) (F:Nat->Nat->Prop) (Cb mb:Nat) (cv tv av lv:Value) (ch:List zT) (T:List (Option Nat)) (al:List Bool) (eH:List Int),iX w X Hb Cb mb cv tv av lv ch T al eH A N wk/\nX (ch.map (·.2.1)) al A N/\TZ (ch.map (·.2.1)) al eH/\nN w F X (ch.map (·.2.1)) T al/\
  N<=2*A.length/\T.length<=14/\(∀k,X k->k<w.heap.size/\G k)/\(∀i k,F i k->G k)/\al.length<=m/\KZ (ch.map (·.2.1)) A.length wk m
theorem MW:gF 139:=di func139 aO rfl
theorem MX:gF 53:=di func53 aO rfl
section
variable {w w':World} {X S G:Nat->Prop} {F:Nat->Nat->Prop} {Hb Cb mb m:Nat} {cv tv av lv:Value} {ch:List zT} {T:List (Option Nat)} {al:List Bool} {eH:List Int} {A A':List eO} {N wk:Int}
theorem iX.PI (h:iX w X Hb Cb mb cv tv av lv ch T al eH A N wk) (p:w.grownBy w' (some mb)) (q:lG w' mb A'):iX w' X Hb Cb mb cv tv av lv ch T al eH A' N wk:=by
 have K:ax (fun k=>k=mb) w w':=(ax.refl (fun k=>k=mb) w).grown p fun k e=>.inl (by injection e with e;exact e.symm);have c:∀{b:Nat} {cs:Array Value} {g:TypeId} {fr:Nat×Nat},w.heap[b]? =some (Obj.cells cs g fr)->w'.heap[b]? =w.heap[b]? :=fun{b cs g fr} a=>K.block b (aZ.1 a).1 fun l=>by
  obtain⟨D,⟨s,r,m,-⟩,-⟩:=h.map;rw[l,m]at a;cases a
 have d:∀{e:TypeId} {sz n:Nat} {v:Value} {xs:List Value},w.ownsRow 0 e sz v n xs->w'.ownsRow 0 e sz v n xs:=fun{e sz n v xs} f=>aY f fun t j=>by
  have⟨i,o⟩:=dI f j;exact c o
 exact⟨(c h.blk).trans h.blk,⟨aX _,h.fI.ds,(c h.fI.blk).trans h.fI.blk,d h.fI.row⟩,h.rows.kept fun b i fr a=>c a,d h.jA,d h.dL,d h.nk,q,h.jh,h.Qh⟩
theorem iX.UN (h:iX w X Hb Cb mb cv tv av lv ch T al eH A N wk) {CB:List (List eO)} (ht:nN w F X CB T al) (j k:Nat) (a:F j k):¬(k=Hb\/k=Cb\/k=mb\/cv.ownBlock=some k\/tv.ownBlock=some k\/av.ownBlock=some k\/lv.ownBlock=some k):=fun h9=>by
 refine ht.off j k a ?_;rcases h9 with rfl|rfl|rfl|h9|h9|h9|h9
 .exact h.jh.1
 .exact h.jh.2.1
 .exact h.jh.2.2.1
 .exact h.jh.2.2.2.1 k h9
 .exact h.jh.2.2.2.2.1 k h9
 .exact h.jh.2.2.2.2.2.1 k h9
 .exact h.jh.2.2.2.2.2.2 k h9
def VV (a:Nat) (N N':Int) (n:Nat):Prop:=(2*(a:Int)<N/\n=a/\N'=a)\/(N<=2*(a:Int)/\n=0/\N'=N)
def UO (w:World) (Hb:Nat) (G:Nat->Prop) (m:Nat) (A:List eO) (N wk:Int) (p:Pt) (e:Ending) (w':World):Prop:=
 ∃(n:Nat) (N':Int),e=.returned (.tuple #[af n,.bool true])/\jG w' Hb (fun k=>G k\/w.heap.size<=k) (m+1) (A.filter fun d=>decide (d.1≠p)) N' (wk+n)/\ax G w w'/\VV (A.filter fun d=>decide (d.1≠p)).length N N' n
theorem Rv (h:jG w Hb G m A N wk) (da:m<5000) (c:eO) (J:c∈A) (x y d:Int) (v:c.1=(x,y,d)):
  aK 59 #[aj Hb,iT x y d] w (UO w Hb G m A N wk (x,y,d)):=by
 have⟨X,F,Cb,mb,cv,tv,av,lv,ch,T,al,eH,aY,E,bs,ht,cs,cc,cj,hF,cZ,cy⟩:=h;have c9:=E.levels;have aR:=(bF.1 (E.live.mem_iff.1 J)).1;have⟨k,aT,c8⟩:=E.num aR;obtain⟨cO,-⟩:∃q,q=(c.1,c.2):=⟨_,rfl⟩;have a1:zi (x,y,d):=by rw[<-v];exact E.good c aR
 have aW:(A.map (·.1)).Nodup:=EX E.keys;have⟨bl,bp,bn⟩:=E.dead cs J;rw[v,aT,ib]at bl bp;rw[v]at bn;have⟨l,cp,aw⟩:=pz.1 aR;obtain⟨i,hi,rfl⟩:=jb cp;have bo:=bs.lvl i hi c aw;rw[aT,ib]at bo;have⟨tb,n0,cf,ct,b6⟩:=ht.tr i hi (List.ne_nil_of_mem aw);have cn:(x,y,d)∈sJ al (ch.map (·.2.1))[i]:=dh.2 ⟨c,bF.2 ⟨aw,(bF.1 (E.live.mem_iff.1 J)).2⟩,v⟩;have bS:Hid (∀W,Below w.heap.size w W->(Instr.lookup 188 (.map (some mb)) (iT x y d) true).run prog W=.ok (.tuple #[af k,.bool true]) W):=fun W f=>by
  rcases(aY.below f).map.look a1 aW with⟨aL,V,I,R⟩|⟨I,-⟩
  .have S:A.Pairwise fun p q=>p.1≠q.1:=dA.1 aW;have aM:aL=c:=by
    rcases eU S V J with h1|h1|h1
    .exact h1
    .exact absurd (I.trans v.symm) h1
    .exact absurd (v.trans I.symm) h1
   rw[aM,aT]at R;exact R
  .exact absurd (dh.2 ⟨c,J,v⟩) I
 have bM:Hid ((x,y,d)∈A.map (·.1)):=dh.2 ⟨c,J,v⟩;have a8:=ag aW;have r:=ag aY;have M:=ag ht;have t:=ag E;have aG:=ag bs;have n:=ag cj;have a6:=ag hF;have ao:=ag cy;have a5:=ag bl;have an:=ag bn;have bG:Hid (c∈(ch.map (·.2.1))[i]):=aw;have a4:=ag v;have bE:=ag J;have a7:=ag bp;have bI:=ag cn;have bD:=ag b6;have aE:=ag cf;have bL:=ag bo;have a2:Below w.heap.size w (w.alloc (.cells #[af x,af y,ay d] 29)):=(aJ _ _).alloc (aB _) _;have Q:=ag (cB w (.cells #[af x,af y,ay d] 29));have aA:=ag a2;have ad:=ag (aY.below a2);have bz:=ag (xu ad.o);go_enter func59,ntmps59
 go_wp2_with (go_at_call 134;refine bz.o.mono ?_;rintro e w1 ⟨rfl,bi⟩;have bZ:=bi.symm;clear bi;subst bZ)
 generalize w.alloc (.cells #[af x,af y,ay d] 29)=w1 at*;have be:w1.cell? (ae w.heap.size 0)=some (af x):=fC Q.o;have cE:=ah be;have I:w1.cell? (ae w.heap.size 1)=some (af y):=fC Q.o;have cF:=ah I;have R:w1.cell? (ae w.heap.size 2)=some (ay d):=fC Q.o;have cD:=ah R;have bj:=ah (w:=w1) ad.o.cell.2.2.2.2.2.2;have lk:∀p:aQ w1,(Instr.lookup 188 (.map (some mb)) (iT x y d) true).run prog p.W=.ok (.tuple #[af k,.bool true]) p.W:=fun p=>bS.o p.W (aA.o.trans (p.h.mono aA.o.size));refine kM [(0,false),(1,false),(2,false),(3,true),(4,true),(5,true),(6,false),(7,false),(8,false),(9,false),(10,false)] 0 ?_;refine lq aO ?_
 go_wp2_with fail
 have cE:=ah (w:=w1.drew) be;have cF:=ah (w:=w1.drew) I;have cD:=ah (w:=w1.drew) R;have bj:=ah (w:=w1.drew) ad.o.cell.2.2.2.2.2.2;refine ak (fun W=>∃p:aQ w1.drew,W=p.W) [5] [(0,false),(1,false),(2,false),(3,true),(4,true)] ⟨⟨_,(aJ _ _).drew⟩,rfl⟩ 1 ?_;refine aH [5] ?_;have a3:=ag ((ad.o.below (aJ _ _).drew).below (aJ _ _).drew);have⟨D,b7,b8⟩:=a3.o.map;refine wpList_delete_own _ rfl _ _ _ _ rfl _ (Keyed.of_law Gh) underlying188 (plainElem prog 3) mb A.length D rfl b7 (iT x y d) (kp (x,y,d)) rfl (yw a1) ?_;intro ab cx br;have b3:(x,y,d)∈A.map (·.1):=bM.o;have ca:=ag (lG.fit cx (b8.del a1 a8.o b3));have P:=ag (a3.o.PI br.grown ca.o);have bm:=br.grown;have bJ:Hid (ax (fun k=>k=mb) w ab):=(((ax.refl (fun k=>k=mb) w).below aA.o).drew.drew).grown bm fun k e=>.inl (by injection e with e;exact e.symm);have bU:Hid (ab.heap[w.heap.size]? =some (Obj.cells #[af x,af y,ay d] 29 (0,0))):=(bm.block _ (aZ.1 Q.o).1 (fun e=>by injection e with e;have:=r.o.map.lt;omega)).trans Q.o;obtain⟨u,cX,bY,-,c2,-,-⟩:=aU P.o.dL aa;subst bY;have cK:=P.o.dL.cellAt k aa;rw[cz (by rw[bT];omega)]at cK;have cP:=P.o.dL.frozenAt k;obtain⟨-,-,-,-,cN,-,-⟩:=P.o.cell;have c7:(k:Int)<(al.length:Int):=aa;have az:=ag (P.o.VH k false);have bK:Hid (ax (fun k=>k=mb\/k=u) w (ab.setCell (ae u k) (.bool false))):=(bJ.o.mono fun k h=>.inl h).set _ (.inl (.inr rfl));have bc:Hid ((ab.setCell (ae u k) (.bool false)).heap[w.heap.size]? =some (Obj.cells #[af x,af y,ay d] 29 (0,0))):=(aC (a:=(ae u k)) (fun e:u=w.heap.size=>by have:=(r.o.dL.lt u rfl).2;omega)).trans bU.o
 go_wp2_with fail
 generalize ab.setCell (ae u k) (.bool false)=w6 at*;have c1:(A.filter fun q=>decide (q.1≠(x,y,d))).length<=A.length:=gT _ _;have cY:A.length<=5000:=by have:=t.o.Je.1;have:=t.o.levels.2.1;omega
 obtain⟨-,-,bV,-,-,-,bW⟩:=az.o.cell;have b0:=ah bV;have bj:=ah bW;have bx:=ag (NP (az.o.below (aJ _ _).drew).fI);refine ak (fun W=>∃p:aQ w6,W=p.W) [9,10,11] [(0,false),(1,false),(2,false),(3,true),(5,false),(6,false),(7,false),(8,true)] ⟨⟨_,(aJ _ _).drew⟩,rfl⟩ 4 ?_;refine aF 4 rfl fun K aN=>?_;refine bf MW rfl _ _ rfl (vals:=#[aj Cb]) rfl bx.o ?_;rintro e g ⟨rfl,cl⟩;have ac:Below w6.heap.size w6 g:=(aJ _ _).drew.trans cl;refine⟨_,rfl,?_⟩;refine aN _ _ (fun _ _=>⟨⟨_,ac⟩,rfl⟩) ?_;have z:=ag (az.o.below ac);have H:Hid (ax (fun k=>k=mb\/k=u) w g):=bK.o.below ac;have aI:Hid (g.heap[w.heap.size]? =some (Obj.cells #[af x,af y,ay d] 29 (0,0))):=(aS ac bc.o).trans bc.o;have de:=z.o.map.size;generalize b4:(A.filter fun q=>decide (q.1≠(x,y,d)))=s at*;have am:=ag b4;have c0:(-9223372036854775808:Int)<=2*(s.length:Int)/\2*(s.length:Int)<=9223372036854775807:=aa;have dd:IntKind.i64.wrap (2*(s.length:Int))=2*(s.length:Int):=nR _ aa;refine aH [9,10,11] ?_;by_cases cr:2*(s.length:Int)<N
 .have au:∀b,X b->b<g.heap.size:=fun b f=>bR (n.o b f).1 H.o.size;have bv:=ag (Rs z.o a5.o (by have:=aG.o.Jd;simpa using this) au)
  go_wp2_with fail
  refine bv.o.mono ?_;rintro e O ⟨rfl,X',bA,bX,tv',bd,T',lev',cb,-,ce,ci,cg,cd,ck,b9,ar⟩;have a9:=ag cb;have bP:=ag ce;have ba:=ag ci;have bQ:=ag cg;have bb:=ag ck;have bH:=ag b9;have L:=ag ar;have bN:=ag cd;go_wp2;go_ret2;have Y:=ao.o;rw[<-an.o]at Y;have db:=t.o.stored;have dc:=ba.o.stored;have aV:s.length+1<=(ch.map (·.2.1)).flatten.length:=by have:=t.o.Je.1;have:=an.o;omega
  have aX:=(Y.drop aV).anew (CB':=bd.map (·.2.1)) aa aa;have cA:wrap64 (wk+(s.length:Int))=wk+(s.length:Int):=IntWalk.wrap64_in _ (by have h1:=ao.o.bound aa;have B:=ao.o.1;omega);rw[cA]at a9;have bq:=H.o.size;have a0:=L.o.size;refine⟨s.length,s.length,rfl,?_,?_,by rw[am.o];exact .inl ⟨cr,rfl,rfl⟩⟩
  .rw[am.o];exact⟨X',bA,Cb,mb,bX,tv',_,lv,bd,T',_,lev',a9.o,ba.o,bQ.o,bP.o,aa,bN.o,fun b f=>⟨(bb.o b f).1,(bb.o b f).2.imp (fun h=>(n.o b h).2) fun h=>aa⟩,fun j b f=>.inr (by have:=bH.o j b f;omega),aD,aX⟩
  .refine ax.trans (H.o.mono ?_) (L.o.mono ?_)
   .rintro b (rfl|rfl)
    .exact(n.o _ r.o.jh.2.2.1).2
    .exact(n.o _ (r.o.jh.2.2.2.2.2.1 _ rfl)).2
   .rintro b (rfl|rfl|h|h|h)
    .exact(n.o _ r.o.jh.1).2
    .exact(n.o _ r.o.jh.2.1).2
    .exact(n.o _ (r.o.jh.2.2.2.1 _ h)).2
    .exact(n.o _ (r.o.jh.2.2.2.2.1 _ h)).2
    .exact(n.o _ (r.o.jh.2.2.2.2.2.2 _ h)).2
 .go_wp2_with fail
  have cq:=aG.o.Jd;have c5:=(fE.1 aE.o).1;obtain⟨gl,lc,bg,-,c3,-,-⟩:=aU z.o.nk aa;obtain⟨b1,tc,bh,-,c4,-,-⟩:=aU z.o.jA aa;have cL:g.cell? (ae gl k)=some (af i):=by
   have h1:=z.o.nk;rw[bg]at h1;have B:=h1.cellAt k aa;rw[iy,bL.o]at B;exact B
  have cM:g.cell? (ae b1 i)=some (aj tb):=by
   have h1:=z.o.jA;rw[bh]at h1;have B:=h1.cellAt i aa;rw[iy,aE.o]at B;exact B
  obtain⟨-,d1,-,d3,-,d5,-⟩:=z.o.cell;rw[bh]at d3;rw[bg]at d5;have c6:(i:Int)<(T.length:Int):=aa;have cG:g.cell? (ae w.heap.size 0)=some (af x):=fC aI.o;have cH:g.cell? (ae w.heap.size 1)=some (af y):=fC aI.o;have cI:g.cell? (ae w.heap.size 2)=some (ay d):=fC aI.o;have cQ:=ah cG;have cR:=ah cH;have b0:=ah cI;have cS:=ah d1;have cT:=ah d3;have cU:=ah d5;have cV:=ah cL;have cW:=ah cM;have bk:∀j b,F j b->¬(b=mb\/b=u):=fun j b f b2=>r.o.UN M.o j b f (b2.elim (fun h=>.inr (.inr (.inl h))) fun h=>.inr (.inr (.inr (.inr (.inr (.inl (by rw[h];rfl)))))));have bB:=ag ((bD.o.kept H.o (bk i)).below (aJ _ _).drew);have aq:=ag ((M.o.kept H.o bk));have bw:=ag (UH bB.o (x,y,d) bI.o);have bq:=H.o.size;refine ak (fun W=>∃p:aQ g,W=p.W) [18] [(0,false),(1,false),(2,false),(3,true),(4,false),(5,false),(6,false),(7,true),(8,false),(9,false),(10,false),(11,true),(12,false),(13,false),(14,true),(15,false),(16,true),(17,true)] ⟨⟨_,(aJ _ _).drew⟩,rfl⟩ 1 ?_;refine aF 18 rfl fun K aN=>?_;refine Ck MX rfl _ _ _ rfl rfl (vals:=#[aj tb,iT x y d]) rfl bw.o ?_;rintro e O ⟨rfl,b5,ar⟩;refine⟨_,rfl,?_⟩;refine aN _ _ (fun _ h=>absurd ai h) ?_;have bC:=ag b5;have L:Hid (ax (F i) g O):=((ax.refl _ g).drew).trans ar;have a0:=ar.size;refine lq aO ?_
  go_wp2_with fail
  go_ret2;have Y:=ao.o;rw[<-an.o]at Y;have aV:s.length+1<=(ch.map (·.2.1)).flatten.length:=by have:=t.o.Je.1;have:=an.o;omega
  have aX:=Y.drop aV;have au:∀b,X b->b<g.heap.size:=fun b f=>bR (n.o b f).1 bq;have cw:∀(j:Nat) (C:j<(ch.map (·.2.1)).length),j≠i->sJ (al.set k false) (ch.map (·.2.1))[j]=sJ al (ch.map (·.2.1))[j]:=fun j C co=>by
   rw[a7.o _ fun q Z=>t.o.inl C Z];refine lU.2 fun q Z=>?_;simp only[bO];rintro rfl;have⟨aL,V,e⟩:=dh.1 Z;have cm:=t.o.live.mem_iff.2 (bF.2 ⟨t.o.inl C (bF.1 V).1,(bF.1 V).2⟩);have S:A.Pairwise fun p q=>p.1≠q.1:=dA.1 a8.o;have aM:aL=c:=by
    rcases eU S cm bE.o with h1|h1|h1
    .exact h1
    .exact absurd (e.trans a4.o.symm) h1
    .exact absurd (a4.o.trans e.symm) h1
   subst aM;exact t.o.apart C hi co (bF.1 V).1 bG.o rfl
  refine⟨0,N,rfl,?_,?_,by rw[am.o];exact .inr ⟨aa,rfl,rfl⟩⟩
  .rw[am.o,show wk+((0:Nat):Int)=wk by omega];refine⟨X,fun j b=>F j b\/(j=i/\g.heap.size<=b/\b<O.heap.size),Cb,mb,cv,tv,_,lv,ch,T,_,eH,z.o.kept L.o (fun b f h=>M.o.off i b h f),a5.o,⟨aP cq,aG.o.lvl⟩,⟨fun j C cu=>?_,?_,?_,?_⟩,aa,cc,fun b f=>⟨bR (au b f) a0,.inl (n.o b f).2⟩,?_,aD,aX⟩
   .by_cases e:j=i
    .subst e;refine⟨tb,n0,aE.o,ct,?_⟩;rw[a7.o _ fun q Z=>t.o.inl C Z];have:(fun b=>F j b\/(j=j/\g.heap.size<=b/\b<O.heap.size))=fun b=>F j b\/g.drew.heap.size<=b/\b<O.heap.size:=by funext b;simp
     rw[this];exact bC.o
    .obtain⟨cJ,cC,h1,B,S⟩:=aq.o.tr j C cu;refine⟨cJ,cC,h1,B,?_⟩;have:(fun b=>F j b\/(j=i/\g.heap.size<=b/\b<O.heap.size))=F j:=by funext b;simp[e]
     rw[this,cw j C e];exact S.kept L.o fun b f U=>e (M.o.ap j i b f U)
   .rintro j b (f|⟨-,f,-⟩) bt
    .exact M.o.off j b f bt
    .have:=au b bt;omega
   .rintro j bu b (f|⟨rfl,f,-⟩) (U|⟨rfl,U,-⟩)
    .exact M.o.ap j bu b f U
    .have:=aq.o.lt j b f;omega
    .have:=aq.o.lt bu b U;omega
    .rfl
   .rintro j b (f|⟨-,-,f⟩)
    .exact bR (aq.o.lt j b f) a0
    .exact f
   .rintro j b (f|⟨-,f,-⟩)
    .exact .inl (a6.o j b f)
    .exact .inr aa
  .refine ax.trans (H.o.mono ?_) (L.o.mono fun b f=>a6.o i b f);rintro b (rfl|rfl)
   .exact(n.o _ r.o.jh.2.2.1).2
   .exact(n.o _ (r.o.jh.2.2.2.2.2.1 _ rfl)).2
end
theorem MZ:gF 135:=di func135 aO rfl
def vT (T:List (Option Nat)) (n:Nat):List (Option Nat):=List.replicate n none++T.drop n
theorem Cn {T:List (Option Nat)} {n:Nat} (h:n<=T.length):(vT T n).length=T.length:=by simp[vT];omega
theorem M0 {T:List (Option Nat)}:vT T 0=T:=by simp[vT]
theorem PK {T:List (Option Nat)} {n:Nat} (h:n<T.length):(vT T n).set n none=vT T (n+1):=by
 unfold vT;rw[ui _ _ aA,iw,kZ,jJ h,oz,ru,dX];rfl
theorem PL {T:List (Option Nat)} {n j:Nat} (h:n<=j):(vT T n)[j]? =T[j]? :=by
 unfold vT;rw[nz (aP h),iw,El,show n+(j-n)=j by omega]
section
variable {w w':World} {X S G:Nat->Prop} {F:Nat->Nat->Prop} {Hb Cb mb m:Nat} {cv tv av lv:Value} {ch:List zT} {T:List (Option Nat)} {al al':List Bool} {eH lev':List Int} {A A':List eO} {N wk:Int}
theorem zA {CB:List (List eO)} (h:nX CB al A N):CB.flatten.length<=al.length:=by
 have d:(CB.flatten.map fun c=>c.2.toNat).Nodup:=by
  refine dA.2 ((dA.1 h.S9).imp_of_mem ?_);intro a b g j i f;exact i (by rw[h.one g j f])
 have e:=wX d (n:=al.length) (fun k m=>by
  obtain⟨c,l,rfl⟩:=dh.1 m;have⟨q,o,p⟩:=h.num l;omega)
 rwa [bT]at e
theorem iX.TI (h:iX w X Hb Cb mb cv tv av lv ch T al eH A N wk) {i j:Value} (K:ax (fun k=>k=Hb\/av.ownBlock=some k\/lv.ownBlock=some k) w w') (u:w'.heap[Hb]? =some (Obj.cells (vS Cb mb tv i j) qW (0,0))) (t:w'.ownsRow 0 4 1 i al'.length (al'.map Value.bool)) (y:w'.ownsRow 0 3 1 j lev'.length (lev'.map (Value.int .i64))):
  iX w' (fun k=>X k\/i.ownBlock=some k\/j.ownBlock=some k) Hb Cb mb cv tv i j ch T al' lev' A N wk:=by
 have p:∀{b:Nat} {cs:Array Value} {g:TypeId} {fr:Nat×Nat},w.heap[b]? =some (Obj.cells cs g fr)->g≠qW->g≠4->g≠3->w'.heap[b]? =w.heap[b]? :=fun{b cs g fr} c l m o=>K.block b (aZ.1 c).1 fun h9=>by
  rcases h9 with rfl|h9|h9
  .exact dV c h.blk l rfl
  .obtain⟨f,d⟩:=dI h.dL h9;exact dV c d m rfl
  .obtain⟨f,d⟩:=dI h.nk h9;exact dV c d o rfl
 have r:∀{e:TypeId} {sz n:Nat} {v:Value} {xs:List Value},w.ownsRow 0 e sz v n xs->e≠qW->e≠4->e≠3->w'.ownsRow 0 e sz v n xs:=fun{e sz n v xs} q l m o=>aY q fun F s=>by
  have⟨f,d⟩:=dI q s;exact p d l m o
 refine⟨u,⟨aX _,h.fI.ds,(p h.fI.blk ai ai ai).trans h.fI.blk,r h.fI.row ai ai ai⟩,h.rows.kept fun b f fr c=>p c ai ai ai,r h.jA ai ai ai,t,y,h.map.same ?_,⟨.inl h.jh.1,.inl h.jh.2.1,.inl h.jh.2.2.1,fun k e=>.inl (h.jh.2.2.2.1 k e),fun k e=>.inl (h.jh.2.2.2.2.1 k e),fun k e=>.inr (.inl e),fun k e=>.inr (.inr e)⟩,fun x B z a e=>.inl (h.Qh x B z a e)⟩;refine K.block _ h.map.lt fun h9=>?_;obtain⟨D,⟨E,C,c,-⟩,-⟩:=h.map;rcases h9 with e|e|e
 .rw[e,h.blk]at c;cases c
 .obtain⟨f,d⟩:=dI h.dL e;rw[d]at c;cases c
 .obtain⟨f,d⟩:=dI h.nk e;rw[d]at c;cases c
def K3 (N:Int) (n:Nat):Prop:=∃i q:Nat,n=2^i/\N+1=((2^i+2^(i+1)*q:Nat):Int)
theorem K3.pos {N:Int} {n:Nat} (h:K3 N n):1<=n:=by
 obtain⟨i,q,rfl,-⟩:=h;exact pR ai
theorem Hd {d:Nat}:∀{L:List Nat},(∀x∈L,d∣x)->d∣L.sum
 |[],_=>⟨0,rfl⟩
 |x::L,h=>by
  rw[List.sum_cons];exact Nat.dvd_add (h x nP) (Hd fun y a=>h y (kz _ a))
theorem nX.Wi {CB:List (List eO)} (h:nX CB al A N) (i:Nat) (hi:i<=CB.length) (n:∀j (a:j<CB.length),j<i->CB[j]≠[]) (g:∀h:i<CB.length,CB[i]=[]):K3 N ((eG CB i).length+1):=by
 have f:=yD CB i hi fun j a k=>(h.size j a).elim (fun e=>absurd (gX e) (n j a k)) id;have b:(CB.take i).flatten++(CB.drop i).flatten=CB.flatten:=by rw[<-kW,jB]
 have c:=congrArg List.length b;rw[bS,<-(jy CB i).length_eq]at c;have hd:2^(i+1)∣(CB.drop i).flatten.length:=by
  rw[Eg];refine Hd fun x p=>?_;obtain⟨l,m,rfl⟩:=dh.1 p;obtain⟨j,a,rfl⟩:=jb m;rw[mK]at a;rw[List.getElem_drop];by_cases r:j=0
  .subst r;have d:=g aa;simp only[dx];rw[d];exact⟨0,rfl⟩
  .rcases h.size (i+j) aa with e|e
   .rw[e];exact⟨0,rfl⟩
   .rw[e];exact Nat.pow_dvd_pow 2 aa
 have⟨q,s⟩:=hd;have o:=h.stored;refine⟨i,q,f,?_⟩;rw[o];omega
def UQ (w:World) (Hb:Nat) (G:Nat->Prop) (m:Nat) (A:List eO) (N wk:Int) (p:Pt) (e:Ending) (w':World):Prop:=
 ∃(n:Nat) (q:Int),K3 N n/\e=.returned (.tuple #[.int .i64 n,.bool true])/\jG w' Hb (fun k=>G k\/w.heap.size<=k) (m+1) (A++[(p,q)]) (N+1) (wk+n)/\ax G w w'
theorem TJ (h:jG w Hb G m A N wk) (ej:m<5000) (x y d:Int) (a5:zi (x,y,d)) (bF:d∉ids (A.map (·.1))):
  Calls prog 57 #[.pointer (some ⟨Hb,0,none⟩),iT x y d] w (UQ w Hb G m A N wk (x,y,d)):=by
 obtain⟨X,F,Cb,mb,cv,tv,av,lv,ch,T,al,eH,a4,ac,cV,ht,dR,dH,cu,hF,dK,cQ⟩:=h;have az:=ac.levels;have cM:(A.map (·.1)).Nodup:=EX ac.keys;have bG:(x,y,d)∉A.map (·.1):=fun h=>bF (dh.2 ⟨_,h,rfl⟩);have b9:Hid (∀W,Below w.heap.size w W->(Instr.lookup 188 (.map (some mb)) (iT x y d) true).run prog W=.ok (.tuple #[.int .i64 0,.bool false]) W):=fun W au=>by
  rcases(a4.below au).map.look a5 cM with⟨dy,dO,aq,-⟩|⟨-,t⟩
  .exact absurd (dh.2 ⟨dy,dO,aq⟩) bG
  .exact t
 have u:=ag a4;have bl:=ag ht;have L:=ag ac;have bm:=ag cV;have am:=ag cu;have df:=ag hF;have b2:=ag cQ;have dm:=ag bF;have dl:=ag bG;have a9:Below w.heap.size w (w.alloc (.cells #[.int .i64 x,.int .i64 y,.int .u32 d] 29)):=(aJ _ _).alloc (aB _) _;have ao:=ag (cB w (.cells #[.int .i64 x,.int .i64 y,.int .u32 d] 29));have bd:=ag a9;have ba:=ag (a4.below a9);have c8:=ag (xu ba.o);have ea:0<=N/\N<=5000:=by have:=ac.stored;have:=az.2.1;omega
 have ec:ch.length<=13:=by have:=az.1;simpa using this
 have d9:A.length<=5000:=by have:=ac.Je.1;have:=az.2.1;omega
 have ed:(ch.map (·.2.1)).flatten.length<=5000:=az.2.1;clear a4 ac cV ht cu hF cQ bF bG a9 cM az;go_enter func57,ntmps57
 go_wp2_with (go_at_call 134;refine c8.o.mono ?_;rintro e w1 ⟨rfl,cb⟩;have dz:=cb.symm;clear cb;subst dz)
 generalize w.alloc (.cells #[.int .i64 x,.int .i64 y,.int .u32 d] 29)=w1 at*;have bq:w1.cell? ⟨w.heap.size,0,none⟩=some (.int .i64 x):=fC ao.o;have aq:w1.cell? ⟨w.heap.size,1,none⟩=some (.int .i64 y):=fC ao.o;have t:w1.cell? ⟨w.heap.size,2,none⟩=some (.int .u32 d):=fC ao.o;have aR:=ah bq;have aS:=ah aq;have aL:=ah t;have bt:=ah (w:=w1) ba.o.cell.2.2.2.2.2.2;have lk:∀p:aQ w1,(Instr.lookup 188 (.map (some mb)) (iT x y d) true).run prog p.W=.ok (.tuple #[.int .i64 0,.bool false]) p.W:=fun p=>b9.o p.W (bd.o.trans (p.h.mono bd.o.size));refine kM [(0,false),(1,false),(2,false),(3,true),(4,true),(5,true),(6,false),(7,false),(8,false),(9,false),(10,false)] 0 ?_;refine lq aO ?_;clear aR aS aL bt lk b9
 go_wp2_with fail
 have aV:=ag (ba.o.below (aJ _ _).drew);obtain⟨d4,d5,br,-,-,-⟩:=Rd.aI aV.o.dL;have aR:=ah (w:=w1.drew) bq;have aS:=ah (w:=w1.drew) aq;have aL:=ah (w:=w1.drew) t;have Q:=aV.o.cell.2.2.2.2.1;rw[br]at Q;have ar:=ah (w:=w1.drew) Q;have bt:=ah (w:=w1.drew) aV.o.cell.2.2.2.2.2.2;have c9:=ag br;clear br Q;refine ak (fun W=>∃p:aQ w1.drew,W=p.W) [10] [(0,false),(1,false),(2,false),(3,true),(4,true),(5,false),(6,false),(7,false),(8,true),(9,false)] ⟨⟨_,(aJ _ _).drew⟩,rfl⟩ 1 ?_;refine aH [10] ?_;clear aR aS aL ar bt;have bN:=ag (aV.o.below (aJ _ _).drew);obtain⟨D,ci,cj⟩:=bN.o.map;refine uF _ rfl _ _ _ _ rfl _ _ (Keyed.of_law Gh) underlying188 (plainElem prog 3) mb A.length D rfl ci dD (iT x y d) (.int .i64 (al.length:Int)) (kp (x,y,d)) rfl rfl (yw a5) (.lit (.int .i64 (al.length:Int))) [] (rO underlying3 (by simp[Lit.wf,IntKind.min,IntKind.max,IntKind.bits,IntKind.signed];omega)) ?_;intro w4 cP a3;have cs:lG w4 mb (A++[((x,y,d),(al.length:Int))]):=⟨_,by rw[bS];exact cP,cj.put a5 dl.o _⟩;have ae:=ag (bN.o.PI a3 cs);have bU:Hid (ax (fun k=>k=mb) w w4):=(((ax.refl (fun k=>k=mb) w).below bd.o).drew.drew).grown a3 fun k e=>.inl (by injection e with e;exact e.symm);have bo:Hid (w4.heap[w.heap.size]? =some (Obj.cells #[.int .i64 x,.int .i64 y,.int .u32 d] 29 (0,0))):=(a3.block _ (aZ.1 ao.o).1 (fun e=>by injection e with e;have:=u.o.map.lt;omega)).trans ao.o;clear ci cj cP a3 cs bq aq t
 go_wp2_with fail
 have c1:w4.cell? ⟨w.heap.size,0,none⟩=some (.int .i64 x):=fC bo.o;have c2:w4.cell? ⟨w.heap.size,1,none⟩=some (.int .i64 y):=fC bo.o;have c3:w4.cell? ⟨w.heap.size,2,none⟩=some (.int .u32 d):=fC bo.o;have aR:=ah c1;have aS:=ah c2;have aL:=ah c3;have ca:=ae.o.cell.2.2.1;have Q:=ae.o.cell.2.2.2.2.1;rw[c9.o]at Q;have dE:=ah ca;have ar:=ah Q;have bK:=ag (Sy (ae.o.below (aJ _ _).drew).fI (aX _) (ae.o.below (aJ _ _).drew).rows x y d (al.length:Int) aa aa aa);have dW:=bU.o.size;refine ak (fun W=>∃p:aQ w4,W=p.W) [11,12,13,14,15,16] [(0,false),(1,false),(2,false),(3,true),(4,true),(5,false),(6,false),(7,false),(8,true),(9,false),(10,false)] ⟨⟨_,(aJ _ _).drew⟩,rfl⟩ 6 ?_;refine aF 11 rfl fun K g=>?_;refine bf MZ rfl _ _ rfl (vals:=#[.pointer (some ⟨Cb,0,none⟩),Ui x y d al.length]) rfl bK.o ?_;rintro e f ⟨i,ew,R,O,Y,rfl,hi,P,cA,bw,⟨bH,-⟩,cJ,cO,cy,cp,cN,cY⟩;refine⟨_,rfl,?_⟩;refine g _ _ (fun _ h=>absurd ai h) ?_;clear g K aR aS aL dE ar ca Q c1 c2 c3;have bj:=ag P;have be:=ag cA;have bi:=ag cJ;have b1:=ag cO;have dt:=ag cY;have a1:ax (fun k=>k=Cb\/cv.ownBlock=some k) w4 f:=((ax.refl _ w4).drew).trans cp;have eq:=a1.size;have cd:=ae.o.PD a1 bw bH cN (cy.imp (fun h=>h) fun⟨b,e,au⟩=>.inr ⟨b,e,au⟩);have v:Hid (iX f (fun k=>X k\/w.heap.size<=k/\k<f.heap.size) Hb Cb mb R tv av lv O T al eH (A++[((x,y,d),(al.length:Int))]) (N+1) Y):=cd.more fun k hk=>by
  rcases hk with hk|⟨J,E⟩
  .exact .inl hk
  .refine .inr ⟨aa,?_⟩;rcases E with E|⟨q,aC,dV,a,dJ,rfl⟩
   .exact(bw.row.lt k E).2
   .rcases(bH q aC).1 with h9|⟨b,off,d6,fr,aW,au,-⟩
    .exact absurd h9 dV
    .rw[dJ]at aW;injection aW with aW;rw[aW];exact(aZ.1 au).1
 have bV:Hid (ax (fun k=>k=mb\/k=Cb\/cv.ownBlock=some k) w f):=(bU.o.mono fun k h=>.inl h).trans (a1.mono fun k h=>.inr h);clear P cA bw bH cJ cO cy cp cN cY a1 cd bK;refine iR (fun _=>True) [15,16] aO ?_;refine bu [(12,false),(13,false),(14,false)] trivial rfl ?_;refine aH [15,16] ?_
 go_wp2_with fail
 have eb:w.heap.size<=f.heap.size:=bV.o.size
 go_cut []from 49 to 67 (fun ad=>∃dx bI:Value,Hid (iX ad (fun k=>X k\/w.heap.size<=k/\k<ad.heap.size) Hb Cb mb R tv dx bI O T (al++[true]) (eH++[(i:Int)]) (A++[((x,y,d),(al.length:Int))]) (N+1) Y)/\Hid (bI.ownBlock=lv.ownBlock\/∃b,bI.ownBlock=some b/\w.heap.size<=b)/\Hid (ax (fun k=>k=Hb\/av.ownBlock=some k\/lv.ownBlock=some k) f ad))
 case first=>
  obtain⟨-,-,-,-,c4,c5,-⟩:=v.o.cell;have cm:=v.o.lt;have cx:=v.o.blk;have a7:av.ownBlock≠some Hb:=v.o.zz v.o.dL ai;have c0:lv.ownBlock≠some Hb:=v.o.zz v.o.nk ai;have cZ:∀c,av.ownBlock=some c->lv.ownBlock≠some c:=fun c e t=>bA v.o.dL v.o.nk ai c e t;have cW:∀c,av.ownBlock=some c->c<f.heap.size:=fun c e=>(v.o.dL.lt c e).2;have cX:∀c,lv.ownBlock=some c->c<f.heap.size:=fun c e=>(v.o.nk.lt c e).2;have ar:∀p:wD (fun k=>av.ownBlock=some k) f,p.W.cell? ⟨Hb,4,none⟩=some av:=fun p=>((bZ p.h cm a7).1 4).trans c4;have dF:∀p:wD (fun k=>av.ownBlock=some k) f,p.W.cell? ⟨Hb,5,none⟩=some lv:=fun p=>((bZ p.h cm a7).1 5).trans c5;have bc:=ag v.o.dL;have di:=ag v.o.nk;have bW:=ag a7;have bY:=ag c0;have bX:=ag cZ;have b3:=ag cW;have ds:=ag cX;have dd:=ag cx;have cE:=bm.o.Jd;clear a7 c0 cZ cW cX cx c4 c5;refine ak (fun W=>∃p:wD (fun k=>av.ownBlock=some k) f,W=p.W) [14,15,16,17,18,19,20] [(0,false),(1,false),(2,false),(3,false),(4,false),(5,true),(8,false),(9,false),(10,false),(11,true),(12,false)] ⟨⟨_,(ax.refl _ _).drew⟩,rfl⟩ 10 ?_;clear ar dF;have d3:ax (fun k=>av.ownBlock=some k) f f.drew:=(ax.refl _ _).drew;refine qd [6,13] aO aA ?_;have b5:ax (fun k=>av.ownBlock=some k) f (f.alloc (.cells #[.bool true] 4)).drew:=((ax.refl _ _).alloc _).drew;have b6:ax (fun k=>av.ownBlock=some k) f ((f.alloc (.cells #[.bool true] 4)).alloc (.cells #[.int .i64 (i:Int)] 3)).drew:=(((ax.refl _ _).alloc _).alloc _).drew;have b7:ax (fun k=>av.ownBlock=some k) f ((f.alloc (.cells #[.int .i64 (i:Int)] 3)).alloc (.cells #[.bool true] 4)).drew:=(((ax.refl _ _).alloc _).alloc _).drew;have du:(f.alloc (.cells #[.bool true] 4)).drew.ownsRow 0 4 1 av al.length (al.map Value.bool):=aT (S:=fun _=>False) bc.o (((ax.refl _ _).alloc _).drew) (fun _ _ h=>h);have dv:((f.alloc (.cells #[.bool true] 4)).alloc (.cells #[.int .i64 (i:Int)] 3)).drew.ownsRow 0 4 1 av al.length (al.map Value.bool):=aT (S:=fun _=>False) bc.o ((((ax.refl _ _).alloc _).alloc _).drew) (fun _ _ h=>h);have dw:((f.alloc (.cells #[.int .i64 (i:Int)] 3)).alloc (.cells #[.bool true] 4)).drew.ownsRow 0 4 1 av al.length (al.map Value.bool):=aT (S:=fun _=>False) bc.o ((((ax.refl _ _).alloc _).alloc _).drew) (fun _ _ h=>h);refine fB.cons rfl (fun K g=>?_) (fB.cons rfl (fun K g=>?_) fB.nil);go_simp;refine g _ _ (fun _ _=>⟨⟨_,b5⟩,rfl⟩) ?_;clear g K;refine iQ 7 13 rfl rfl (fun K g=>?_) (fun K g=>?_);refine bC yf 0 du [.bool true] rfl (by simp[Value.oneCell']) rfl (.tmp 54) (.tmp 55) rfl rfl _ rfl (lg _ _) dD aa (aX _) ?_;intro l H u2 cf r s cF;have aw:av.ownBlock=some l\/f.heap.size<=l:=s.imp id fun e=>by rw[e];simp
  have K2:=b5.grown r (fun k e=>.inl e);refine g _ _ (fun _ _=>⟨⟨_,K2⟩,rfl⟩) ?_;clear g K s;refine aF 13 rfl fun K g=>?_;go_simp;refine g _ _ (fun _ _=>⟨⟨_,K2.alloc _⟩,rfl⟩) ?_;clear g K;have Z:=cB u2 (.cells #[.int .i64 (i:Int)] 3);have M:=K2.alloc (.cells #[.int .i64 (i:Int)] 3);have aY:=cf.alloc (.cells #[.int .i64 (i:Int)] 3);have cG:l<(u2.alloc (.cells #[.int .i64 (i:Int)] 3)).heap.size:=aD;clear r K2 cf cF;generalize u2.alloc (.cells #[.int .i64 (i:Int)] 3)=u3 at*;generalize u2.heap.size=lb at*;clear u2
  rotate_left
  go_simp;refine g _ _ (fun _ _=>⟨⟨_,b6⟩,rfl⟩) ?_;clear g K;refine aF 7 rfl fun K g=>?_;refine bC yf 0 dv [.bool true] rfl (by simp[Value.oneCell']) rfl (.tmp 54) (.tmp 55) rfl rfl _ rfl (Dc _ _ _) dD aa (aX _) ?_;intro l H u3 aY r s cG;have aw:av.ownBlock=some l\/f.heap.size<=l:=s.imp id fun e=>by rw[e];simp;omega
  have M:=b6.grown r (fun k e=>.inl e);refine g _ _ (fun _ _=>⟨⟨_,M⟩,rfl⟩) ?_;clear g K s;have Z:=(r.block (f.heap.size+1) aA (fun e=>by have:=b3.o _ e.symm;omega)).trans (De f (.cells #[.bool true] 4) (.cells #[.int .i64 (i:Int)] 3));clear r;obtain⟨lb,V⟩:∃lb,lb=f.heap.size+1:=⟨_,rfl⟩;rw[<-V]at Z;rw[<-V];clear V
  rotate_left
  go_simp;refine g _ _ (fun _ _=>⟨⟨_,((ax.refl _ _).alloc (.cells #[.int .i64 (i:Int)] 3)).drew⟩,rfl⟩) ?_;clear g K;refine aF 6 rfl fun K g=>?_;go_simp;refine g _ _ (fun _ _=>⟨⟨_,b7⟩,rfl⟩) ?_;clear g K;refine aF 7 rfl fun K g=>?_;refine bC yf 0 dw [.bool true] rfl (by simp[Value.oneCell']) rfl (.tmp 54) (.tmp 55) rfl rfl _ rfl (De _ _ _) dD aa (aX _) ?_;intro l H u3 aY r s cG;have aw:av.ownBlock=some l\/f.heap.size<=l:=s.imp id fun e=>by rw[e];simp;omega
  have M:=b7.grown r (fun k e=>.inl e);refine g _ _ (fun _ _=>⟨⟨_,M⟩,rfl⟩) ?_;clear g K s;have Z:=(r.block f.heap.size aD (fun e=>by have:=b3.o _ e.symm;omega)).trans (Dc f (.cells #[.int .i64 (i:Int)] 3) (.cells #[.bool true] 4));clear r;obtain⟨lb,V⟩:∃lb,lb=f.heap.size:=⟨_,rfl⟩;rw[<-V]at Z;rw[<-V];clear V
  all_goals
   refine aF 14 rfl fun K g=>?_;refine bC nA 0 (aT di.o M (fun c e t=>bX.o c t e)) [.int .i64 (i:Int)] rfl (by simp[Value.oneCell']) rfl (.tmp 60) (.tmp 62) rfl rfl _ rfl Z dD aa (aX _) ?_;intro gl cl u4 cr r s eg;have bx:lv.ownBlock=some gl\/f.heap.size<=gl:=s.imp id fun e=>by rw[e];exact M.size
   have bn:ax (fun k=>av.ownBlock=some k\/lv.ownBlock=some k) f u4:=(M.mono fun k h=>.inl h).grown r (fun k e=>.inl (.inr e));refine g _ _ (fun _ h=>absurd ai h) ?_;have dG:=aT aY ((ax.refl (fun k=>lv.ownBlock=some k) u3).grown r fun k e=>.inl e) (fun c e t=>by
    have I:l=c:=by injection e
    rcases aw with h9|h9
    .exact bX.o l h9 (by rw[I];exact t)
    .have:=ds.o c t;omega)
   have a2:=bz bn dd.o (fun e=>e.elim (fun e=>bW.o e) (fun e=>bY.o e));have ex:u4.cell? ⟨Hb,4,none⟩=some av:=fC a2;have ey:u4.cell? ⟨Hb,5,none⟩=some lv:=fC a2;have d8:∀j,u4.frozen? ⟨Hb,j,none⟩=false:=fun j=>aG a2;clear g K s r Z M aY;refine aH [15,16,17,18,19,20] ?_
   go_wp2_with fail
   go_meet;have dS:l≠Hb:=fun e=>aw.elim (fun h=>bW.o (by rw[h,e])) fun h=>aa;have dT:gl≠Hb:=fun e=>bx.elim (fun h=>bY.o (by rw[h,e])) fun h=>aa;have dW:=bn.size;have dM:(u4.setCell ⟨Hb,4,none⟩ (.slice (some ⟨l,0,none⟩) (al.length+1) H)).heap[Hb]? =some (Obj.cells (vS Cb mb tv (.slice (some ⟨l,0,none⟩) (al.length+1) H) lv) qW (0,0)):=by
    rw[dC u4 Hb 4 _ _ _ a2];rfl
   have dN:((u4.setCell ⟨Hb,4,none⟩ (.slice (some ⟨l,0,none⟩) (al.length+1) H)).setCell ⟨Hb,5,none⟩ (.slice (some ⟨gl,0,none⟩) (al.length+1) cl)).heap[Hb]? =some (Obj.cells (vS Cb mb tv (.slice (some ⟨l,0,none⟩) (al.length+1) H) (.slice (some ⟨gl,0,none⟩) (al.length+1) cl)) qW (0,0)):=by
    rw[dC _ Hb 5 _ _ _ dM];rfl
   have b4:ax (fun k=>k=Hb\/av.ownBlock=some k\/lv.ownBlock=some k) f ((u4.setCell ⟨Hb,4,none⟩ (.slice (some ⟨l,0,none⟩) (al.length+1) H)).setCell ⟨Hb,5,none⟩ (.slice (some ⟨gl,0,none⟩) (al.length+1) cl)):=((bn.mono fun k h=>.inr h).set (a:=⟨Hb,4,none⟩) _ (.inl (.inl rfl))).set (a:=⟨Hb,5,none⟩) _ (.inl (.inl rfl));have b8:ax (fun k=>k=Hb) u4 ((u4.setCell ⟨Hb,4,none⟩ (.slice (some ⟨l,0,none⟩) (al.length+1) H)).setCell ⟨Hb,5,none⟩ (.slice (some ⟨gl,0,none⟩) (al.length+1) cl)):=((ax.refl (fun k=>k=Hb) u4).set (a:=⟨Hb,4,none⟩) _ (.inl rfl)).set (a:=⟨Hb,5,none⟩) _ (.inl rfl);rw[cE]at cr;have c6:=aT dG b8 (fun c e t=>dS (by have I:l=c:=(by injection e);rw[I];exact t));have c7:=aT cr b8 (fun c e t=>dT (by have I:gl=c:=(by injection e);rw[I];exact t));refine⟨_,_,(v.o.TI (al':=al++[true]) (lev':=eH++[(i:Int)]) b4 dN (by rw[bS,bL];exact c6) (by rw[bS,bL,cE];exact c7)).more (fun k hk=>?_),bx.elim (fun h=>.inl h.symm) (fun h=>.inr ⟨gl,rfl,aa⟩),b4⟩;have et:((u4.setCell ⟨Hb,4,none⟩ (.slice (some ⟨l,0,none⟩) (al.length+1) H)).setCell ⟨Hb,5,none⟩ (.slice (some ⟨gl,0,none⟩) (al.length+1) cl)).heap.size=u4.heap.size:=aA;rcases hk with(hk|hk)|hk|hk
   .exact .inl hk
   .exact .inr ⟨hk.1,aa⟩
   .have I:l=k:=by injection hk
    have ce:=(c6.lt l rfl).2;rcases aw with h9|h9
    .exact .inl (I▸u.o.jh.2.2.2.2.2.1 l h9)
    .exact .inr ⟨aa,aa⟩
   .have I:gl=k:=by injection hk
    have ce:=(c7.lt gl rfl).2;rcases bx with h9|h9
    .exact .inl (I▸u.o.jh.2.2.2.2.2.2 gl h9)
    .exact .inr ⟨aa,aa⟩
 case rest=>
  obtain⟨ap,aK,bb,dg,bh⟩:=hcut;obtain⟨w6,dA⟩:∃w6:World,w6=wc:=⟨_,rfl⟩;subst dA;have er:=bh.o.size;have b0:=ag (aT b1.o bh.o (fun c e h=>by
   have J:w4.heap.size<=c:=(b1.o.lt c e).1;have E:=u.o.lt;rcases h with h|h|h
   .omega
   .have:=(u.o.dL.lt c h).2;omega
   .have:=(u.o.nk.lt c h).2;omega))
  obtain⟨eu,tc,bs,-,-,-⟩:=Rd.aI (enc:=vTr) bb.o.jA;have d2:=ag bs;have bp:=bb.o.cell.2.2.2.1;rw[bs]at bp;clear bs;obtain⟨C,cK,dQ,ek⟩:∃C:Nat,C=min i T.length/\C<=T.length/\min (i:Int) (T.length:Int)=(C:Int):=⟨min i T.length,rfl,aa,aa⟩;have dk:=ag cK;clear cK;have de:Hid (iX w6 (fun k=>X k\/w.heap.size<=k/\k<w6.heap.size) Hb Cb mb R tv ap aK O (vT T 0) (al++[true]) (eH++[(i:Int)]) (A++[((x,y,d),(al.length:Int))]) (N+1) Y):=by rw[M0];exact bb.o
  have dr:Hid (∀c,tv.ownBlock=some c->c<w.heap.size):=fun c e=>(u.o.jA.lt c e).2
  go_upto_block 0 with fail
  go_cut [11,75]from 76 to 85 (fun bv a6 ad=>Hid (iX ad (fun k=>X k\/w.heap.size<=k/\k<w6.heap.size) Hb Cb mb R tv ap aK O (vT T C) (al++[true]) (eH++[(i:Int)]) (A++[((x,y,d),(al.length:Int))]) (N+1) Y)/\Hid (ax (fun k=>tv.ownBlock=some k) w6 ad))
  case first=>
   go_wp2_with fail
   go_loopw [75] (fun a6 wr=>∃n:Nat,a6=.int .i64 n/\n<=C/\Hid (iX wr (fun k=>X k\/w.heap.size<=k/\k<w6.heap.size) Hb Cb mb R tv ap aK O (vT T n) (al++[true]) (eH++[(i:Int)]) (A++[((x,y,d),(al.length:Int))]) (N+1) Y)/\Hid (ax (fun k=>tv.ownBlock=some k) w6 wr)) (fun a6 _=>C-(intOf a6).toNat)
   case atStart=>exact⟨0,rfl,aX _,de,ax.refl _ _⟩
   case round=>
    obtain⟨n,rfl,el,af,bP⟩:=hrel;by_cases cF:n<C
    .have dP:=Cn (T:=T) (n:=n) aa;obtain⟨cc,ev,ab,-,ef,-,-⟩:=aU af.o.jA aa;have aE:=af.o.jA;rw[dP]at ab aE;rw[ab]at aE;have d1:=aE.cellAt n aa;rw[cz (by rw[bT];omega)]at d1;have d7:=aE.frozenAt n;have dp:Hid (iX (wr.setCell ⟨cc,n,none⟩ (vTr none)) (fun k=>X k\/w.heap.size<=k/\k<w6.heap.size) Hb Cb mb R tv ap aK O (vT T (n+1)) (al++[true]) (eH++[(i:Int)]) (A++[((x,y,d),(al.length:Int))]) (N+1) Y):=by
      have J:=af.o;rw[ab]at J |-;rw[<-PK aa];exact J.UJ n none
     have aj:Hid (ax (fun k=>tv.ownBlock=some k) w6 (wr.setCell ⟨cc,n,none⟩ (vTr none))):=bP.o.set _ (.inl (by rw[ab];rfl));have bp:=af.o.cell.2.2.2.1;rw[ab]at bp;have em:(n:Int)<(T.length:Int):=aa;have en:(n:Int)<(C:Int):=aa;clear ab aE;go_wp2;go_roundw
     case rel=>exact⟨n+1,by go_num,aa,dp,aj⟩
     case measure=>exact dU
    .obtain rfl:n=C:=aa;have ee:¬(n:Int)<(n:Int):=aa
     go_wp2_with fail
     go_meet;exact⟨af,bP⟩
  case rest=>
   obtain⟨da,aj⟩:=hcut;obtain⟨a8,dB⟩:∃a8:World,a8=wc:=⟨_,rfl⟩;subst dB;have es:=aj.o.size;have dn:=ag (aT b0.o aj.o (fun c e h=>by
    have J:w4.heap.size<=c:=(b0.o.lt c e).1;have:=dr.o c h;omega))
   obtain⟨dY,dZ,rfl,-,-,cT⟩:=LC.aI dn.o;have U:=L.o.add dR (x,y,d) a5 dm.o aa i (aP hi) (fun j B ay=>by rw[fM];exact bj.o j (aP B) ay) (fun B=>by rw[fM];exact be.o (aP B));have bB:i<(ko (ch.map (·.2.1)) i ((x,y,d),(al.length:Int))).length:=by rw[oW _ _ _ (aP hi)];split<;>omega
   have cD:(ko (ch.map (·.2.1)) i ((x,y,d),(al.length:Int)))[i]=eG (ch.map (·.2.1)) i++[((x,y,d),(al.length:Int))]:=by rw[oZ,aM aa,aN rfl]
   have s:=U.bk i bB;have cC:=U.few i bB;rw[cD]at s cC;have db:=ag U;have dI:∀k,(X k\/w.heap.size<=k/\k<w6.heap.size)->k<a8.heap.size:=fun k hk=>by
    rcases hk with hk|hk
    .have:=(am.o k hk).1;omega
    .omega
   have bM:=ag (KX da.o dY dZ (eG (ch.map (·.2.1)) i++[((x,y,d),(al.length:Int))]) i cT aa (by rw[Cn aa];omega) cC s.2.2 (by simp[bm.o.Jd]) aD s.1 s.2.1 dI);have eo:0<(eG (ch.map (·.2.1)) i++[((x,y,d),(al.length:Int))]).length:=aA;generalize cn:eG (ch.map (·.2.1)) i++[((x,y,d),(al.length:Int))]=an at*;have bg:=ag cn;clear U cD s cn cT bB
   go_wp2_with fail
   refine bM.o.mono ?_;rintro e d0 ⟨rfl,tv',tb,bJ,Fn,ct,cg,ck,cI,-,co⟩;have dq:=ag ct;have dc:=ag cg;have bO:=ag ck;have dj:=ag cI;have bQ:=ag co;clear ct cg ck cI co bM;go_wp2;go_ret2;have a0:=congrArg List.length bg.o;rw[bS,Ae]at a0;have ep:=bQ.o.size;obtain⟨eh,ei⟩:=dj.o;have cL:w.heap.size<=bJ:=aa;have cq:ax (fun k=>k=Hb\/k=Cb\/k=mb\/cv.ownBlock=some k\/tv.ownBlock=some k\/av.ownBlock=some k\/lv.ownBlock=some k) w d0:=by
    refine ax.strip ((((bV.o.mono fun k h=>?_).trans (bh.o.mono fun k h=>?_)).trans (aj.o.mono fun k h=>?_)).trans (bQ.o.mono fun k h=>?_))
    .rcases h with h|h|h
     .exact .inl (.inr (.inr (.inl h)))
     .exact .inl (.inr (.inl h))
     .exact .inl (.inr (.inr (.inr (.inl h))))
    .rcases h with h|h|h
     .exact .inl (.inl h)
     .exact .inl (.inr (.inr (.inr (.inr (.inr (.inl h))))))
     .exact .inl (.inr (.inr (.inr (.inr (.inr (.inr h))))))
    .exact .inl (.inr (.inr (.inr (.inr (.inl h)))))
    .rcases h with h|h|h
     .exact .inl (.inl h)
     .exact .inl (.inr (.inr (.inr (.inr (.inl h)))))
     .rcases dg.o with h9|⟨b,h9,ce⟩
      .exact .inl (.inr (.inr (.inr (.inr (.inr (.inr (h9.symm.trans h)))))))
      .rw[h9]at h;injection h with h;exact .inr aa
   have cU:=(bl.o.kept cq (u.o.UN bl.o)).step (X':=fun k=>(X k\/w.heap.size<=k/\k<w6.heap.size)\/a8.heap.size<=k/\k<bJ) (i:=i) (m0:=w.heap.size) (m:=bJ) (CB':=ko (ch.map (·.2.1)) i ((x,y,d),(al.length:Int))) (T':=zK (vT T C) i tb) dc.o (by unfold sJ;rw[bT];exact gT _ _) (fun j B P=>by
     rw[oZ]at P |-;by_cases J:j<i
     .rw[aN J]at P;exact absurd rfl P
     .rw[aM J]at P |-;by_cases E:j=i
      .left;rw[aN E,E];exact⟨rfl,bg.o⟩
      .right;rw[aM E]at P |-;have bE:j<(ch.map (·.2.1)).length:=by rw[oW _ _ _ (aP hi)]at B;split at B<;>omega
       rw[ja,cz bE,gG];refine⟨E,bE,rfl,fun q aC=>KY E (by rw[PL (by have:=dk.o;omega)];exact aC),?_⟩;unfold sJ;rw[KA L.o true fun q aC=>L.o.inl bE aC]) G7 (fun k hk=>by
     rcases hk with(hk|hk)|hk
     .exact .inl hk
     .exact .inr ⟨hk.1,aa⟩
     .exact .inr ⟨aa,hk.2⟩) bO.o (fun j k hk=>bl.o.lt j k hk) (fun k hk=>bR (am.o k hk).1 cL) cL
   have cH:=bm.o.add L.o (x,y,d) i (aP hi);rw[bg.o,<-bi.o]at cH;rw[<-bi.o]at cU;have cR:=b2.o.add L.o.Je.1 (bD (zA L.o) dK) i (aP hi) L.o.size (fun j B ay=>by rw[fM];exact bj.o j (aP B) ay) (fun B=>by rw[fM];exact be.o (aP B)) ((x,y,d),(al.length:Int));have U:=db.o;rw[<-bi.o]at U cR;have cS:KZ (O.map (·.2.1)) (A.length+1) (wk+(an.length:Int)) (m+1):=by
    rw[<-a0];exact cR
   have dX:Y=wk+(an.length:Int):=(dt.o.trans (congrArg (fun z=>wrap64 (wk+z)) (show _=(an.length:Int) by rw[<-a0];rfl))).trans (IntWalk.wrap64_in _ (by have J:=cS.bound aa;have E:=b2.o.1;omega));have cw:=L.o.Wi i (aP hi) (fun j B ay=>by rw[fM];exact bj.o j (aP B) ay) (fun B=>by rw[fM];exact be.o (aP B));rw[a0]at cw;refine⟨an.length,al.length,cw,rfl,⟨_,_,Cb,mb,R,tv',ap,aK,O,zK (vT T C) i tb,al++[true],il (eH++[(i:Int)]) an i,?_,U,cH,cU,?_,G8 (by rw[Cn dQ];exact dH) aa,fun k hk=>?_,?_,aD,?_⟩,cq.mono ?_⟩
   .rw[<-dX];exact dq.o
   .rw[bS,Ae];omega
   .rcases hk with(hk|hk)|hk
    .exact⟨by have:=(am.o k hk).1;omega,.inl (am.o k hk).2⟩
    .exact⟨aa,.inr hk.1⟩
    .exact⟨aa,.inr aa⟩
   .rintro j k (⟨-,hk⟩|⟨-,hk⟩)
    .have:=bO.o k hk;exact .inr aa
    .exact .inl (df.o j k hk)
   .rw[bS,Ae];exact cS
   .have r:∀k,X k->G k:=fun k hk=>(am.o k hk).2;rintro k (rfl|rfl|rfl|h|h|h|h)
    .exact r _ u.o.jh.1
    .exact r _ u.o.jh.2.1
    .exact r _ u.o.jh.2.2.1
    .exact r _ (u.o.jh.2.2.2.1 k h)
    .exact r _ (u.o.jh.2.2.2.2.1 k h)
    .exact r _ (u.o.jh.2.2.2.2.2.1 k h)
    .exact r _ (u.o.jh.2.2.2.2.2.2 k h)
end
end
section
open Go.RowKit Go.Sort Go.Shelf Go.Lib Go.Maps
attribute [local irreducible] wpQuiet
section
variable {w w':World} {S G:Nat->Prop} {Hb m:Nat} {A:List eO} {N wk:Int}
theorem jG.kept (h:jG w Hb G m A N wk) (K:ax S w w') (hS:∀k,G k->¬S k):jG w' Hb G m A N wk:=by
 have⟨X,F,Cb,mb,cv,tv,av,lv,ch,T,al,eH,d,e,f,g,j,l,b,c,n⟩:=h;exact⟨X,F,Cb,mb,cv,tv,av,lv,ch,T,al,eH,d.kept K fun k a=>hS k (b k a).2,e,f,g.kept K fun i k a=>hS k (c i k a),j,l,fun k a=>⟨bR (b k a).1 K.size,(b k a).2⟩,c,n⟩
theorem jG.facts (h:jG w Hb G m A N wk):(A.length:Int)<=N/\N<=2*A.length/\N<=m/\(ids (A.map (·.1))).Nodup/\(∀c∈A,zi c.1)/\0<=wk/\(∀L,m<2^L->wk<=(L*m:Nat))/\Hb<w.heap.size/\G Hb:=by
 have⟨X,F,Cb,mb,cv,tv,av,lv,ch,T,al,eH,b,a,n,o,e,p,f,q,r,d⟩:=h;have j:=a.stored;have k:=a.Je.1;have l:=zA a;refine⟨aa,e,aa,a.keys,fun c i=>a.good c (bF.1 (a.live.mem_iff.1 i)).1,d.1,fun L g=>?_,b.lt,(f _ b.jh.1).2⟩;have:=d.2 L g;omega
theorem UR (h:jG w Hb G m A N wk):aK 60 #[aj Hb] w fun e w'=>e=.returned (af A.length)/\w'=w:=by
 have⟨X,F,Cb,mb,cv,tv,av,lv,ch,T,al,eH,a,b⟩:=h;exact TH a
theorem PM (h:jG w Hb G m A N wk):aK 87 #[aj Hb] w (fV w (af N)):=by
 have⟨X,F,Cb,mb,cv,tv,av,lv,ch,T,al,eH,a,b⟩:=h;exact MS a
structure oo (w:World) (G:Nat->Prop) (F:Nat->Nat->Prop) (B:List (Nat×Nat×List Pt)):Prop where
 bk:∀(i:Nat) (h:i<B.length),Bk w (F i) B[i].1 B[i].2.1 B[i].2.2
 UT:∀i k,F i k->G k
 ap:∀i j k,F i k->F j k->i=j
def jm (B:List (Nat×Nat×List Pt)):List Pt:=B.flatMap fun b=>b.2.2
theorem oo.kept {F:Nat->Nat->Prop} {B:List (Nat×Nat×List Pt)} (h:oo w G F B) (K:ax S w w') (hS:∀k,G k->¬S k):oo w' G F B:=⟨fun i hi=>(h.bk i hi).kept K fun k a=>hS k (h.UT i k a),h.UT,h.ap⟩
theorem UU (w:World):aK 51 #[yV,DK] w fun e w'=>e=.returned (aj (w.heap.size+2))/\jG w' (w.heap.size+2) (fun k=>w.heap.size<=k) 0 [] 0 0/\Below w.heap.size w w':=by
 have m:=@vv prog;have n:∀w,(binOp .eql 107 yV .nilFunc).run prog w=.ok (.bool false) w:=fun w=>by
  have h:∀d:Nat,(Op.equalIn (d+1) 107 yV .nilFunc).run prog w=.ok false w:=fun d=>by simp[Op.equalIn,pF underlying107]
  simp only[binOp];simp[Op.equal,Op.maxDepth,h 9999]
 have o:∀w,(binOp .eql 108 DK .nilFunc).run prog w=.ok (.bool false) w:=fun w=>by
  have h:∀d:Nat,(Op.equalIn (d+1) 108 DK .nilFunc).run prog w=.ok false w:=fun d=>by simp[Op.equalIn,pF underlying108]
  simp only[binOp];simp[Op.equal,Op.maxDepth,h 9999]
 go_enter func51,ntmps51;go_wp2;go_ret;have j:(w.alloc (.cells #[.bool true,aL,af 0,af 0] 278)).heap.size=w.heap.size+1:=aA;have l:((w.alloc (.cells #[.bool true,aL,af 0,af 0] 278)).alloc (.map #[] 0)).heap.size=w.heap.size+2:=aA;have f:=cB w (.cells #[.bool true,aL,af 0,af 0] 278);have m1:lG ((w.alloc (.cells #[.bool true,aL,af 0,af 0] 278)).alloc (.map #[] 0)) (w.heap.size+1) []:=by
  rw[<-j];exact⟨.map [],uK _ _ _ _,su.empty⟩
 have c:Below w.heap.size w (((w.alloc (.cells #[.bool true,aL,af 0,af 0] 278)).alloc (.map #[] 0)).alloc (.cells (vS w.heap.size (w.heap.size+1) (aL) (aL) (aL)) qW)):=(((aJ _ _).alloc (aB _) _).alloc aA _).alloc aD _;have b:=cB ((w.alloc (.cells #[.bool true,aL,af 0,af 0] 278)).alloc (.map #[] 0)) (.cells (vS w.heap.size (w.heap.size+1) (aL) (aL) (aL)) qW);rw[l]at b;refine⟨rfl,⟨fun k=>w.heap.size<=k/\k<w.heap.size+3,fun _ _=>False,w.heap.size,w.heap.size+1,aL,aL,aL,aL,[],[],[],[],⟨b,⟨aX _,Vj,(bY _ _ _ aD).trans ((bY _ _ _ aA).trans f),dw _ _ _ _⟩,fun h a=>absurd a iA,dw _ _ _ _,dw _ _ _ _,dw _ _ _ _,m1.same (bY _ _ _ aA),⟨aa,aa,aa,(fun k e=>by cases e),(fun k e=>by cases e),(fun k e=>by cases e),(fun k e=>by cases e)⟩,fun h a=>absurd a iA⟩,Ta,Tc,⟨fun i h=>absurd h (kC _),fun _ _ h=>h.elim,fun _ _ _ h=>h.elim,fun _ _ h=>h.elim⟩,aA,aA,fun k g=>⟨aD,g.1⟩,fun _ _ h=>h.elim,aB _,Ru⟩,c⟩
end
end
section
open Go.RowKit Go.Sort Go.Shelf Go.Lib Go.Maps
theorem sO {α b:Type} (p:α->Bool) (f:α->List b):∀(l:List α),(∀x∈l,p x=false->f x=[])->(l.filter p).flatMap f=l.flatMap f
 |[],_=>rfl
 |x::l,h=>by
  have ih:=sO p f l fun y a=>h y (kz _ a);rw[lY,lX];cases hp:p x with
  |true=>rw[aN rfl,lX,ih]
  |false=>rw[aM aA,h x nP hp,fO,ih]
theorem PN {CB:List (List eO)} {i:Nat} (h:i∈dS CB 0):∃hi:i<CB.length,CB[i]≠[]:=by
 unfold dS at h;have⟨b,a⟩:=bF.1 h;have hi:i<CB.length:=aP b;rw[ja,cz hi,gG]at a;exact⟨hi,fun e=>by rw[e]at a;cases a⟩
theorem M3 {CB:List (List eO)} {i:Nat} (hi:i<CB.length) (h:CB[i]≠[]):i∈dS CB 0:=by
 unfold dS;refine bF.2 ⟨aP hi,?_⟩;rw[ja,cz hi,gG];cases e:CB[i]with
 |nil=>exact absurd e h
 |cons=>rfl
theorem JR (CB:List (List eO)):(dS CB 0).Nodup:=by
 unfold dS;refine lT _ ?_;rw[lK];exact(uM _).nodup_iff.2 List.nodup_range
theorem PO (CB:List (List eO)):((dS CB 0).flatMap fun i=>CB.getD i []).Perm CB.flatten:=by
 unfold dS;rw[sO _ _ _ fun i _ hi=>aP hi,lK];refine((uM _).flatMap_right _).trans (List.Perm.of_eq ?_);rw[AA];congr 1;refine rC aA fun i b a=>?_;rw[fM,xK,ja,cz a,gG]
section
variable {w w':World} {S G:Nat->Prop} {Hb m:Nat} {A:List eO} {N wk:Int}
def R7 (b:Nat×Nat×List Pt):Value:=aj b.1
def UW (w:World) (Hb:Nat) (G:Nat->Prop) (m:Nat) (A:List eO) (N wk:Int) (e:Ending) (w':World):Prop:=
 ∃(v:Value) (B:List (Nat×Nat×List Pt)) (F:Nat->Nat->Prop),e=.returned v/\w'.ownsRow w.heap.size 106 1 v B.length (B.map R7)/\Below w.heap.size w w'/\oo w' G F B/\(jm B).Perm (A.map (·.1))/\(B.length≠0->2^(B.length-1)<=N)/\(∀b∈B,(b.2.1:Int)<=N/\b.2.1<=20000)/\B.length<=13/\
  ∀w2 F2 (G2:Nat->Prop),ax (fun k=>∃i,F i k) w' w2->oo w2 G2 F2 B->(∀k,G k->G2 k)->(∀i k,F2 i k->F i k\/w'.heap.size<=k)->jG w2 Hb G2 m A N wk
theorem K4 (h:jG w Hb G m A N wk):aK 61 #[aj Hb] w (UW w Hb G m A N wk):=by
 have⟨X,F,Cb,mb,cv,tv,av,lv,ch,T,al,eH,E,r,ac,ht,W,P,B,hF,R,Z⟩:=h;have Q:∀(i:Nat) (hi:i<(ch.map (·.2.1)).length),(ch.map (·.2.1))[i]≠[]->i<T.length:=fun i hi C=>by
  obtain⟨tb,n0,h1,-⟩:=ht.tr i hi C;exact(fE.1 h1).1
 refine(PE E r Q).mono ?_;rintro e w' ⟨v,rfl,Y,u⟩;have V:=r.levels;have ak:=r.stored;have U:=r.live;generalize t:ch.map (·.2.1)=CB at*;have g:∀i:Nat,∃b:Nat×Nat×List Pt,i∈dS CB 0->T[i]? =some (some b.1)/\(b.2.1:Int)<=N/\b.2.1<=20000/\b.2.2=sJ al (CB.getD i [])/\Bk w (F i) b.1 b.2.1 b.2.2/\b.2.1<=(CB.getD i []).length:=fun i=>by
  by_cases hi:i∈dS CB 0
  .obtain⟨h1,c⟩:=PN hi;have⟨tb,n0,d,o,J⟩:=ht.tr i h1 c;have ae:CB[i].length<=CB.flatten.length:=(D5 (bB h1)).length_le;exact⟨(tb,n0,sJ al CB[i]),fun _=>⟨d,by show(n0:Int)<=N;omega,by show n0<=20000;omega,by rw[ja,cz h1,gG],J,by rw[ja,cz h1,gG];exact o⟩⟩
  .exact⟨(0,0,[]),fun h=>absurd h hi⟩
 have⟨f,g⟩:=Classical.axiomOfChoice g;have L:(dS CB 0).map (R6 T)=((dS CB 0).map f).map R7:=by
  rw[ve];refine Ei fun i hi=>?_;unfold R6;rw[ja,(g i hi).1];rfl
 have D:=JR CB;refine⟨v,(dS CB 0).map f,fun p k=>∃hp:p<(dS CB 0).length,F (dS CB 0)[p] k,rfl,?_,u,⟨fun p hp=>?_,fun p k a=>hF _ k a.2,fun p q k hp x=>?_⟩,?_,fun I=>?_,?_,?_,?_⟩
 .rw[<-L,bT];exact Y
 .rw[bT]at hp;rw[fM];have:(fun k=>∃hp:p<(dS CB 0).length,F (dS CB 0)[p] k)=F (dS CB 0)[p]:=by funext k;simp[hp]
  rw[this];exact((g _ (bB hp)).2.2.2.2.1).below u
 .obtain⟨h1,c⟩:=hp;have⟨d,o⟩:=x;exact(List.getElem_inj D).1 (ht.ap _ _ k c o)
 .have l:jm ((dS CB 0).map f)=(((dS CB 0).flatMap fun i=>CB.getD i []).filter (cO al)).map (·.1):=by
   unfold jm;rw[List.flatMap_map,List.filter_flatMap,List.map_flatMap];rw[AA,AA];congr 1;exact Ei fun i hi=>(g i hi).2.2.2.1
  rw[l];exact(((PO CB).filter _).trans U.symm).map _
 .rw[bT]at I |-;have h1:=yX CB 0;have c:=V.2.2.2 aa;have d:=Eb (n:=2) ai (show(dS CB 0).length-1<=CB.length-1 by omega);have o:((2:Int)^((dS CB 0).length-1))=((2^((dS CB 0).length-1):Nat):Int):=aA;rw[o];omega
 .intro b S;obtain⟨i,hi,rfl⟩:=dh.1 S;exact⟨(g i hi).2.1,(g i hi).2.2.1⟩
 .rw[bT];have h1:=yX CB 0;omega
 .intro w2 y ad K s O M;have ag:=u.size;have ah:=K.size;have ab:nN w2 (fun i k=>∃p,∃hp:p<(dS CB 0).length,(dS CB 0)[p]=i/\y p k) X CB T al:=by
   refine⟨fun i hi C=>?_,?_,?_,?_⟩
   .obtain⟨p,hp,rfl⟩:=jb (M3 hi C);have h1:=g _ (bB hp);have c:=s.bk p (by rw[bT];exact hp);rw[fM]at c;refine⟨_,(f (dS CB 0)[p]).2.1,h1.1,?_,?_⟩
    .have d:=h1.2.2.2.2.2;rwa [ja,cz hi,gG]at d
    .have e:(fun k=>∃q,∃x:q<(dS CB 0).length,(dS CB 0)[q]=(dS CB 0)[p]/\y q k)=y p:=by
      funext k;refine propext ⟨?_,fun h=>⟨p,hp,rfl,h⟩⟩;rintro⟨q,x,l,z⟩;rw[<-(List.getElem_inj D).1 l];exact z
     have d:=h1.2.2.2.1;rw[ja,cz hi,gG]at d;rw[e,<-d];exact c
   .rintro i k ⟨p,hp,-,a⟩ H;rcases M p k a with⟨af,h1⟩|h1
    .exact ht.off _ k h1 H
    .have:=(B k H).1;omega
   .rintro i j k ⟨p,hp,l,h1⟩ ⟨q,x,z,c⟩;have:=s.ap p q k h1 c;subst this;rw[<-l,<-z]
   .rintro i k ⟨p,hp,-,a⟩;exact(s.bk p (by rw[bT];exact hp)).lt k a
  exact⟨X,_,Cb,mb,cv,tv,av,lv,ch,T,al,eH,(E.below u).kept K (fun k a h=>by obtain⟨p,hp,h1⟩:=h;exact ht.off _ k h1 a),by rw[t];exact r,by rw[t];exact ac,by rw[t];exact ab,W,P,fun k a=>⟨by have:=(B k a).1;omega,O k (B k a).2⟩,(fun i k h=>by obtain⟨p,hp,-,a⟩:=h;exact s.UT p k a),R,by rw[t];exact Z⟩
end
end
section
open Go.RowKit Go.Sort Go.Shelf Go.Lib Go.Maps
attribute [local irreducible] wpQuiet
theorem TK (b off:Nat) (x y:Int) (w:World) (a:w.cell? (ae b off)=some (af x)) (c:w.frozen? (ae b off)=false):
  aK 151 #[.pointer (some (ae b off)),af y] w fun e w'=>e=.returned (af (wrap64 (x+y)))/\w'=w.setCell (ae b off) (.int .i64 (wrap64 (x+y))):=by
 have d:=run_call_add (P:=prog) func227 aO aO aO .i64 aO (y:=y) (s:=wrap64 (x+y)) a c (by rw[<-IntWalk.i64_left];simp[go_sem];try rfl);go_enter func151,ntmps151;go_wp2;go_ret;exact⟨rfl,rfl⟩
abbrev Co:TypeId:=74
section
variable {w:World} {Pb Hb:Nat} {dv av:Value} {gP:Int} {GH:Nat->Prop} {m:Nat} {A:List eO} {N wk:Int}
theorem mi (a:w.heap[Pb]? =some (Obj.cells #[aj Hb,dv,av,af gP] Co (0,0))):aK 55 #[aj Pb] w fun e w'=>e=.returned (.bool false)/\w'=w:=by
 have b:w.cell? (ae Pb 0)=some (aj Hb):=aG a;go_enter func55,ntmps55;go_wp2;go_ret;exact⟨rfl,rfl⟩
def SumB (bd:Nat->Nat->Prop):Nat->Nat->Prop
 |0,n=>n=0
 |i+1,n=>∃n' t,SumB bd i n'/\bd i t/\n=n'+t
theorem SumB.le {bd:Nat->Nat->Prop} {b:Nat} (h:∀i t,bd i t->t<=b):∀{i n:Nat},SumB bd i n->n<=i*b
 |0,n,a=>by simp[SumB]at a;omega
 |i+1,n,a=>by
  obtain⟨n',t,c,d,rfl⟩:=a;have e:=SumB.le h c;have f:=h i t d;rw[Nat.succ_mul];omega
def VI (fn:FuncId) (cs:Array Value) (Sx:Nat->Prop) (Q:List (Nat×Nat×List Pt)->Nat->World->Prop) (w1:World) (B:List (Nat×Nat×List Pt)):Prop:=
 ∃(I:Nat->Nat->World->Prop),I 0 0 w1/\(∀i n u,I i n u->ax Sx w1 u)/\(∀i n u,I i n u->n<=i*1000000)/\(∀i n (hi:i<B.length) u,I i n u->aK fn (#[aj (B[i].1)]++cs) u fun e u'=>∃c:Nat,e=.returned (af c)/\I (i+1) (n+c) u')/\∀n u,I B.length n u->Q B n u
def UX (w:World) (Pb:Nat) (gP:Int) (Sx:Nat->Prop) (Q:List (Nat×Nat×List Pt)->Nat->World->Prop) (e:Ending) (w':World):Prop:=
 ∃(B:List (Nat×Nat×List Pt)) (CU:Nat) (u:World),e=.returned (af CU)/\Q B CU u/\ax Sx w u/\w'=u.setCell (ae Pb 3) (.int .i64 (wrap64 (gP+CU)))
theorem K5 {fn:FuncId} {cs:Array Value} {Sx:Nat->Prop} {Q:List (Nat×Nat×List Pt)->Nat->World->Prop} (aC:∀args w,(callFunc fn args).run prog w=.ok (.enter fn args) w) (f:w.heap[Pb]? =some (Obj.cells #[aj Hb,dv,av,af gP] Co (0,0))) (h:jG w Hb GH m A N wk) (L:∀k,Sx k->k≠Pb/\k<w.heap.size)
  (O:∀w1 B F,Below w.heap.size w w1->oo w1 GH F B->(jm B).Perm (A.map (·.1))->(B.length≠0->(2:Int)^(B.length-1)<=N)->(∀b∈B,(b.2.1:Int)<=N/\b.2.1<=20000)->B.length<=13->VI fn cs Sx Q w1 B):
  aK 69 #[aj Pb,.func (.func fn) #[] cs] w (UX w Pb gP Sx Q):=by
 have x:=ag (mi f);have y:=ag (K4 h);have ao:w.cell? (ae Pb 0)=some (aj Hb):=aG f;have ac:=ag O;have D:=ag L;have ad:=ag f;clear O L f h;go_enter func69,ntmps69
 go_wp2_with (go_at_call 55;refine x.o.mono ?_;rintro e w1 ⟨rfl,E⟩;have ar:=E.symm;clear E;subst ar)
 refine y.o.mono ?_;rintro e w1 ⟨v,B,F,rfl,s,r,M,Y,V,X,au,-⟩;obtain⟨an,H,I,R,P,T⟩:=ac.o w1 B F r M Y V X au;obtain⟨aO,aQ,rfl,-,-,-⟩:=Rd.aI (enc:=R7) s;have C:=ag s;have a:=ag r;have am:=ag I;have ah:=ag P;have ai:=ag T;have z:=ag R;have ak:=ag H;clear s r I P T H M Y V X R y x ao
 go_wp2_with fail
 go_loopw [16,5] (fun t ay wr=>∃i n:Nat,t=.int .i64 i/\ay=.int .i64 n/\i<=B.length/\Hid (an i n wr)) (fun t _ _=>B.length-(intOf t).toNat)
 case atStart=>exact⟨0,0,rfl,rfl,aX _,ak⟩
 case round=>
  obtain⟨i,n,rfl,rfl,hi,d⟩:=hrel;have K:=ag (am.o i n wr d.o);have J:Hid (ax Sx w wr):=⟨K.o.os.trans a.o.os,K.o.tape.trans a.o.tape,K.o.output.trans a.o.output,bD a.o.size K.o.size,fun k U aw=>(K.o.block k (bR U a.o.size) aw).trans (a.o.block k U)⟩;have aJ:=z.o i n wr d.o;by_cases W:i<B.length
  .have ab:=aT C.o K.o (fun G e l=>by have aD:=(C.o.lt G e).1;have aE:=(D.o G l).2;omega);obtain⟨aP,aR,j,-,-,Z⟩:=Rd.aI (enc:=R7) ab;injection j with j _ aq;subst j aq;obtain⟨aA,aB,ap,-,S⟩:=Z.get aa;have az:=S i W;have g:=ag (ah.o i n W wr d.o);unfold R7 at az;subst ap;generalize B[i].1=tb at*;clear S Z ab;have aN:(i:Int)<(B.length:Int):=aa;have aM:(i+1)*1000000<=13*1000000:=o8 _ aa
   go_wp2_with (refine g.o.mono ?_;rintro e u ⟨c,rfl,p⟩;have aH:=z.o (i+1) (n+c) u p;have aF:(-9223372036854775808:Int)<=(n:Int)+(c:Int)/\(n:Int)+(c:Int)<=9223372036854775807:=aa;have al:=ag p;clear p)
   go_roundw
   case rel=>exact⟨i+1,n+c,by go_num,by go_num,aa,al⟩
   case measure=>exact dU
  .obtain rfl:i=B.length:=aa;have aL:¬(B.length:Int)<(B.length:Int):=aa;have q:wr.heap[Pb]? =some (Obj.cells #[aj Hb,dv,av,af gP] Co (0,0)):=bz J.o ad.o (fun l=>(D.o Pb l).1 rfl);have g:=ag (TK Pb 3 gP n wr (aG q) (aG q));clear q
   go_wp2_with fail
   refine g.o.mono ?_;rintro e aS ⟨rfl,rfl⟩;go_wp2;go_ret;exact⟨B,n,wr,rfl,ai.o n wr d.o,J.o,rfl⟩
end
theorem M4:gF 150:=di func150 aO rfl
theorem PQ (l:List Int):l.map (Value.int .u32)=l.flatMap fun x=>[ay x]:=by
 induction l with
 |nil=>rfl
 |cons x l ih=>simp[ih]
theorem PR {fn:FuncId} {cs:Array Value} (W:∀args w,(callFunc fn args).run prog w=.ok (.enter fn args) w) {u:World} {r ob tb:Nat} {m:Value} {b R:List Int} {base:Nat} {bd:Nat->Prop} (X:u.cell? (ae r 0)=some (.func (.func fn) #[] cs)) (y:u.heap[ob]? =some (Obj.cells #[m] 35 (0,0))) (ab:ob<base) (Y:base<=u.heap.size) (z:u.ownsRow base 27 1 m b.length (b.map (Value.int .u32))) (Z:b.length+R.length<=1000000)
  (M:aK fn (#[aj tb]++cs) u fun e d=>∃(v:Value) (c:Nat),e=.returned (.tuple #[v,af (c:Nat)])/\bd c/\d.ownsRow u.heap.size 27 1 v R.length (R.map (Value.int .u32))/\Below u.heap.size u d):
  aK 150 #[aj tb,aj r,aj ob] u fun e d=>∃c:Nat,e=.returned (af (c:Nat))/\bd c/\∃A,d.heap[ob]? =some (Obj.cells #[A] 35 (0,0))/\d.ownsRow base 27 1 A (b++R).length ((b++R).map (Value.int .u32))/\ax (fun k=>k=ob\/m.ownBlock=some k) u d:=by
 have C:=ag M;have HO:=ag y;have p:=ag z;obtain⟨i,j,rfl,-,-,-⟩:=Rd.aI z;have ac:=(aZ.1 y).1;go_enter func150,ntmps150
 go_wp2_with fail
 refine C.o.mono ?_;rintro e u1 ⟨v,c,rfl,K,P,I⟩;have B:=ag K;have E:=ag P;have f:=ag I;obtain⟨U,V,rfl,-,-,S⟩:=Rd.aI E.o;have G:=ag (Rd.Vm (show Rd (.int .u32) u1 U R from S));have n:=ag ((aS f.o HO.o).trans HO.o);have F:=ag (az p.o f.o);have ad:=f.o.size;have ak:u1.cell? (ae ob 0)=some (.slice i b.length j):=fC n.o;have N:b.length+R.length<=maxLen:=dD;have O:(b.length+R.length)*4<=140737488355328:=aa;have L:base<=u1.heap.size:=aa;have D:Hid (Value.ownBlock (.slice i b.length j)≠some ob):=fun e=>by have:=(p.o.lt ob e).1;omega
 go_wp2_with (at_builtin;go_loud (refine iO uk (enc:=fun x=>[ay x]) (fun _=>rfl) (fun x u hu=>by simp at hu;subst hu;rfl) base F.o G.o rfl _ _ rfl rfl V rfl N O L ?_;intro T u6 Q t;have l:=(t.block ob aa (fun e=>D.o e.symm)).trans n.o;have ah:u6.cell? (ae ob 0)=some (.slice i b.length j):=(fC l);have ai:u6.frozen? (ae ob 0)=false:=(aG l);have g:u6.ownsRow base 27 1 T (b++R).length ((b++R).map (Value.int .u32)):=(by rw[bL,bS,PQ R];exact Q);obtain⟨q,s,rfl,-,-,-⟩:=Rd.aI g))
 go_ret;rw[bS]at g;have J:(u6.setCell (ae ob 0) (.slice q (b.length+R.length) s)).heap[ob]? =some (Obj.cells #[.slice q (b.length+R.length) s] 35 (0,0)):=by
  rw[dC u6 ob 0 _ _ _ l];rfl
 refine⟨c,rfl,B.o,_,J,?_,((((ax.refl (fun k=>k=ob\/Value.ownBlock (.slice i b.length j)=some k) u).below f.o).grown t fun k e=>.inl (.inr e))).set (a:=(ae ob 0)) _ (.inl (.inl rfl))⟩;rw[bS];exact aT g ((ax.refl (fun k=>k=ob) u6).set (a:=(ae ob 0)) _ (.inl rfl)) (fun H e h=>by have:=(g.lt H e).1;omega)
section
variable {w:World} {Pb Hb:Nat} {dv av:Value} {gP:Int} {GH:Nat->Prop} {m:Nat} {A:List eO} {N wk:Int}
structure Fq (w w1:World) (GH:Nat->Prop) (A:List eO) (N:Int) (B:List (Nat×Nat×List Pt)) (F:Nat->Nat->Prop):Prop where
 below:Below w.heap.size w w1
 wd:oo w1 GH F B
 perm:(jm B).Perm (A.map (·.1))
 log:B.length≠0->(2:Int)^(B.length-1)<=N
 built:∀b∈B,(b.2.1:Int)<=N/\b.2.1<=20000
 few:B.length<=13
def VJ (w:World) (GH:Nat->Prop) (fn:FuncId) (cs:Array Value) (B:List (Nat×Nat×List Pt)) (F:Nat->Nat->Prop) (R:Nat->List Int) (bd:Nat->Nat->Prop):Prop:=
 ∀(i:Nat) (hi:i<B.length) (u:World),Below w.heap.size w u->oo u GH F B->aK fn (#[aj (B[i].1)]++cs) u fun e u'=>∃(v:Value) (c:Nat),e=.returned (.tuple #[v,af (c:Nat)])/\bd i c/\u'.ownsRow u.heap.size 27 1 v (R i).length ((R i).map (Value.int .u32))/\Below u.heap.size u u'
def UY (w:World) (Pb Hb:Nat) (dv av:Value) (gP:Int) (Q:List Int->Nat->Prop) (e:Ending) (w':World):Prop:=
 ∃(v:Value) (L:List Int) (CU:Nat),e=.returned (.tuple #[v,af CU])/\w'.ownsRow w.heap.size 27 1 v L.length (L.map (Value.int .u32))/\Q L CU/\ax (fun k=>k=Pb) w w'/\w'.heap[Pb]? =some (Obj.cells #[aj Hb,dv,av,af (wrap64 (gP+CU))] Co (0,0))
theorem Fs {R:Nat->List Int} {b:Nat} (h:∀i,(R i).length<=b):∀i,((List.range i).flatMap R).length<=i*b
 |0=>aA
 |i+1=>by
  have e:([i].flatMap R).length=(R i).length:=aA;rw[uU,gZ,bS,Nat.succ_mul,e];have a:=Fs h i;have c:=h i;omega
theorem K6 {r:Nat->Nat} {b:Nat} (h:∀i,r i<=b):∀i,((List.range i).map r).sum<=i*b
 |0=>aA
 |i+1=>by
  have e:([i].map r).sum=r i:=aA;rw[uU,bL,AO,Nat.succ_mul,e];have a:=K6 h i;have c:=h i;omega
theorem Rw {fn:FuncId} {cs:Array Value} {Q:List Int->Nat->Prop} (ai:∀args w,(callFunc fn args).run prog w=.ok (.enter fn args) w) (G:w.heap[Pb]? =some (Obj.cells #[aj Hb,dv,av,af gP] Co (0,0))) (h:jG w Hb GH m A N wk) (al:∀k,GH k->k<w.heap.size)
  (aq:∀w1 B F,Fq w w1 GH A N B F->∃R bd,(∀i t,bd i t->t<=1000000)/\(∀i,(R i).length<=20000)/\VJ w GH fn cs B F R bd/\∀n,SumB bd B.length n->Q (dE ((List.range B.length).flatMap R)) n):
  aK 65 #[aj Pb,.func (.func fn) #[] cs] w (UY w Pb Hb dv av gP Q):=by
 have aW:=(aZ.1 G).1;have T:ax (fun _=>False) w ((w.alloc (.cells #[.func (.func fn) #[] cs] 121)).alloc (.cells #[aL] 35)):=((ax.refl _ w).alloc _).alloc _;have C:=IG w (.cells #[.func (.func fn) #[] cs] 121) (.cells #[aL] 35);have U:=Ex w (.cells #[.func (.func fn) #[] cs] 121) (.cells #[aL] 35);have s:Below w.heap.size w ((w.alloc (.cells #[.func (.func fn) #[] cs] 121)).alloc (.cells #[aL] 35)):=((aJ _ _).alloc (aB _) _).alloc aA _;have aR:((w.alloc (.cells #[.func (.func fn) #[] cs] 121)).alloc (.cells #[aL] 35)).heap.size=w.heap.size+2:=aA;have H:=bz T G (fun h=>h);have V:=ag (K5 (Sx:=fun k=>k=w.heap.size+1) (cs:=#[aj w.heap.size,aj (w.heap.size+1)]) (Q:=fun B f u=>∃(L:List Int) (d:Value),u.heap[w.heap.size+1]? =some (Obj.cells #[d] 35 (0,0))/\u.ownsRow w.heap.size 27 1 d L.length (L.map (Value.int .u32))/\w.heap.size+2<=u.heap.size/\(∀l,d.ownBlock=some l->w.heap.size+2<=l)/\L.length<=1000000/\Q (dE L) f) M4 H (h.kept T (fun _ _ h=>h)) (fun k I=>by rw[aR];omega) (fun w1 B F p E aH aE aF D=>by
  have⟨R,bd,aw,x,ak,v⟩:=aq w1 B F ⟨s.trans (p.mono aa),E,aH,aE,aF,D⟩;have aY:=p.size;have ah:=(aS p C).trans C;have aN:=(aS p U).trans U;refine⟨fun i n u=>SumB bd i n/\∃d,u.heap[w.heap.size+1]? =some (Obj.cells #[d] 35 (0,0))/\u.ownsRow w1.heap.size 27 1 d ((List.range i).flatMap R).length (((List.range i).flatMap R).map (Value.int .u32))/\ax (fun k=>k=w.heap.size+1) w1 u,⟨rfl,_,aN,dw _ _ _ _,ax.refl _ _⟩,fun i n u g=>g.2.choose_spec.2.2,fun i n u g=>g.1.le aw,fun i n hi u g=>?_,fun n u g=>?_⟩
  .obtain⟨y,d,q,j,b⟩:=g;have S:=b.size;have ap:u.cell? (ae w.heap.size 0)=some (.func (.func fn) #[] cs):=by
    have:=bz b ah aa;simp only[World.cell?,this];rfl
   have au:Below w.heap.size w u:=s.trans ((p.mono aa).trans (b.toBelow aa (by rintro k rfl;omega)));have az:=Fs x i;have ay:i*20000<=13*20000:=o8 _ aa;have aX:=x i;refine(PR (bd:=bd i) ai ap q aa S j aa (ak i hi u au (E.kept b fun k I e=>by have:=al k I;omega))).mono ?_;rintro e a0 ⟨c,rfl,ar,aQ,aG,aM,am⟩;refine⟨c,rfl,⟨n,c,y,ar,rfl⟩,aQ,aG,?_,?_⟩
   .rw[uU,gZ];simpa using aM
   .refine ax.strip ((b.mono fun k h=>.inl h).trans (am.mono fun k h=>?_));rcases h with h|h
    .exact .inl h
    .exact .inr (j.lt k h).1
  .obtain⟨y,d,q,j,b⟩:=g;have az:=Fs x B.length;have ay:B.length*20000<=13*20000:=o8 _ D;exact⟨_,d,q,eB j aa,by have:=b.size;omega,fun l e=>by have:=(j.lt l e).1;omega,aa,v n y⟩))
 have X:=ag s;have Y:=ag H;go_enter func65,ntmps65
 go_wp2_with fail
 refine V.o.mono ?_;rintro e aV ⟨B,f,u,rfl,⟨L,d,q,j,S,M,aD,v⟩,b,rfl⟩;have ao:=bz b Y.o aa;have an:Hid ((u.setCell (ae Pb 3) (.int .i64 (wrap64 (gP+(f:Int))))).heap[Pb]? =some (Obj.cells #[aj Hb,dv,av,af (wrap64 (gP+(f:Int)))] Co (0,0))):=by
  show _=_;rw[dC u Pb 3 _ _ _ ao];rfl
 have K:(u.setCell (ae Pb 3) (.int .i64 (wrap64 (gP+(f:Int))))).heap[w.heap.size+1]? =some (Obj.cells #[d] 35 (0,0)):=(aC (a:=(ae Pb 3)) (fun e:Pb=w.heap.size+1=>aa)).trans q;have P:=aT j ((ax.refl (fun k=>k=Pb) u).set (a:=(ae Pb 3)) (.int .i64 (wrap64 (gP+(f:Int)))) (.inl rfl)) (fun l e h=>by have:=M l e;omega);have Z:Hid (ax (fun k=>k=Pb) w (u.setCell (ae Pb 3) (.int .i64 (wrap64 (gP+(f:Int)))))):=ax.strip ((((ax.refl (fun k=>k=Pb\/w.heap.size<=k) w).below X.o).trans (b.mono fun k h=>.inr aa)).set (a:=(ae Pb 3)) _ (.inl (.inl rfl)));have r:=ag M;have ad:=ag v;have a2:(u.setCell (ae Pb 3) (.int .i64 (wrap64 (gP+(f:Int))))).cell? (ae (w.heap.size+1) 0)=some d:=fC K;have W:=ag (zN P aD);have ab:=ag K;obtain⟨aO,aP,rfl,-,-,-⟩:=Rd.aI P;generalize u.setCell (ae Pb 3) (.int .i64 (wrap64 (gP+(f:Int))))=aV at*
 go_wp2_with (go_at_call 64;refine W.o.mono ?_;rintro e aU ⟨rfl,O,b⟩;have J:=bz b ab.o (fun e=>by have:=r.o _ e;omega);have a1:aU.cell? (ae (w.heap.size+1) 0)=some (.slice aO L.length aP):=(fC J);have ac:=ag O;have z:=ag b;clear O b J)
 go_ret2;refine⟨_,dE L,f,rfl,by rw[iP];exact ac.o,ad.o,ax.strip ((Z.o.mono fun k h=>.inl h).trans (z.o.mono fun k h=>.inr (by have:=r.o k h;omega))),bz z.o an.o (fun e=>by have:=r.o _ e;omega)⟩
end
end
end Go.Proofs.YtkjdbndekceffaaGreat
