/- Made small by a program. -/
import Derived.Test.YtkjdbndekceffaaGreatW15
set_option linter.unusedSimpArgs false
set_option linter.unusedVariables false
set_option maxRecDepth 100000
set_option maxHeartbeats 16000000
namespace Go.Proofs.YtkjdbndekceffaaGreat
open Tryz
section
open Go.RowKit Go.Sort Go.Shelf Go.Lib Go.Maps
attribute [local irreducible] wpQuiet
attribute [local go_sem] Oper.fw
theorem JX:fV 213:=bY func213 aM rfl
theorem Ht {T:List (Option Nat)} {i tb:Nat}:(zT T i tb)[i]? =some (some tb):=by
 unfold zT;rw[uj aG]
theorem K4 {T:List (Option Nat)} {i tb j:Nat} (h:j≠i) {x:Nat} (a:T[j]? =some (some x)):(zT T i tb)[j]? =some (some x):=by
 unfold zT;have b:=(fq.1 a).1;rw[nT (fun e=>h e.symm),lT b,a]
theorem Hu {T:List (Option Nat)} {i tb n:Nat} (h:T.length<=n) (hi:i<n):(zT T i tb).length<=n:=by
 unfold zT;simp;omega
section
variable {w w':World} {X X' S Fn:Nat->Prop} {F:Nat->Nat->Prop} {Hb Cb mb:Nat} {cv tv av lv:Value} {ch:List Ac} {T T':List (Option Nat)} {al al':List Bool} {eY:List Int} {A:List eU} {N wk:Int} {CB CB':List (List eU)}
theorem nR.skip (h:nR w F X CB T al):nR w F X (CB++[[]]) T al:=by
 refine⟨fun j b a=>?_,h.off,h.ap,h.lt⟩;by_cases e:j<CB.length
 .rw[qO e]at a |-;exact h.tr j e a
 .rw[wm aa]at a;simp at a
theorem nR.step (h:nR w F X CB T al) {i tb n0 m0 m:Nat} {l:List eU} (o:Bk w Fn tb n0 (sJ al' l)) (C:n0<=l.length) (B:∀(j:Nat) (b:j<CB'.length),CB'[j]≠[]->(j=i/\CB'[j]=l)\/(j≠i/\∃n:j<CB.length,CB'[j]=CB[j]/\(∀x,T[j]? =some (some x)->T'[j]? =some (some x))/\sJ al' CB[j]=sJ al CB[j]))
  (z:T'[i]? =some (some tb)) (p:∀k,X' k->X k\/(m0<=k/\k<m)) (g:∀k,Fn k->m<=k) (f:∀j k,F j k->k<m0) (A:∀k,X k->k<m) (G:m0<=m):nR w (fun j k=>(j=i/\Fn k)\/(j≠i/\F j k)) X' CB' T' al':=by
 refine⟨fun j b q=>?_,?_,?_,?_⟩
 .rcases B j b q with⟨rfl,e⟩|⟨c,n,e,h2,y⟩
  .refine⟨tb,n0,z,by rw[e];exact C,?_⟩;have:(fun k=>(j=j/\Fn k)\/(j≠j/\F j k))=Fn:=by funext k;simp
   rw[this,e];exact o
  .obtain⟨E,D,t,u,v⟩:=h.tr j n (by rw[<-e];exact q);refine⟨E,D,h2 _ t,by rw[e];exact u,?_⟩;have:(fun k=>(j=i/\Fn k)\/(j≠i/\F j k))=F j:=by funext k;simp[c]
   rw[this,e,y];exact v
 .rintro j k (⟨rfl,a⟩|⟨b,a⟩) r
  .have c:=g k a;rcases p k r with h2|h2
   .have:=A k h2;omega
   .omega
  .rcases p k r with h2|h2
   .exact h.off j k a h2
   .have:=f j k a;omega
 .rintro j s k (⟨rfl,a⟩|⟨b,a⟩) (⟨rfl,d⟩|⟨n,d⟩)
  .rfl
  .have c:=g k a;have h2:=f s k d;omega
  .have c:=g k d;have h2:=f j k a;omega
  .exact h.ap j s k a d
 .rintro j k (⟨rfl,a⟩|⟨b,a⟩)
  .exact o.lt k a
  .exact h.lt j k a
def U3 (w:World) (X:Nat->Prop) (Hb Cb mb:Nat) (cv tv av lv:Value) (ch:List Ac) (al:List Bool) (A:List eU) (wk:Int) (e:Ending) (w':World):Prop:=
 e=.returned (ae A.length)/\∃(X':Nat->Prop) (F':Nat->Nat->Prop) (CS tv':Value) (qW:List Ac) (T':List (Option Nat)) (lev':List Int),jb w' X' Hb Cb mb CS tv' av lv qW T' al lev' A A.length (wrap64 (wk+(A.length:Int)))/\
  qW.map (·.2.1)=setC (Lib.bitLen A.length) (kI al (ch.map (·.2.1)) 0)/\nR w' F' X' (qW.map (·.2.1)) T' al/\oh (qW.map (·.2.1)) al A A.length/\Ul (qW.map (·.2.1)) al lev'/\T'.length<=14/\(∀k,X' k->k<w'.heap.size/\(X k\/w.heap.size<=k))/\(∀i k,F' i k->w.heap.size<=k)/\
  ay (fun k=>k=Hb\/k=Cb\/cv.ownBlock=some k\/tv.ownBlock=some k\/lv.ownBlock=some k) w w'
theorem RF (h:jb w X Hb Cb mb cv tv av lv ch T al eY A N wk) (ae:oh (ch.map (·.2.1)) al A N) (bw:eY.length=al.length) (bg:∀k,X k->k<w.heap.size):
  aK 140 #[aj Hb] w (U3 w X Hb Cb mb cv tv av lv ch al A wk):=by
 have H:=af h;have bR:=af bg;obtain⟨a7,bc⟩:=ae.anew (L:=kI al (ch.map (·.2.1)) 0) (by unfold kI;rw[kD]);have bC:=af a7;have aE:=ae.levels;have bH:=af bw;have aO:=af (fun p:aS w=>PL (h.below p.h) ae);obtain⟨-,-,U,-⟩:=h.cell;have ck:(kI al (ch.map (·.2.1)) 0).length<=5000:=bB (D6 _ _ _) aE.2.1;have cl:=aE.2.2.1;have b0:=ah U;clear h ae bw bg a7 U aE;generalize bd:kI al (ch.map (·.2.1)) 0=L at*;have bG:=af bd;have ap:=af bc;clear bd bc;go_enter func140,ntmps140
 go_wp2_with fail
 refine ax (fun W=>∃p:aS w,W=p.W) [6,7] [(0,false),(1,false),(2,false),(3,true),(4,false)] ⟨⟨_,(aJ _ _).drew⟩,rfl⟩ 3 ?_;clear b0;refine aH 5 rfl fun K ba=>?_;refine bf JX rfl _ _ rfl (vals:=#[aj Hb]) rfl (aO.o ⟨_,(aJ _ _).drew⟩) ?_;rintro e w2 ⟨v,rfl,bp,bh⟩;obtain⟨cf,cg,rfl,-,b9,br⟩:=LH.aD bp;have M:Below w.heap.size w w2:=(aJ _ _).drew.trans bh;refine⟨_,rfl,?_⟩;refine ba _ _ (fun _ _=>⟨⟨_,M⟩,rfl⟩) ?_;clear ba K;have aU:=af (H.o.below M);have aV:=af M;have aR:=af (TT aU.o.fM (aY _) cf L cg br b9 aa);clear bp bh M aO br;refine aI [6,7] ?_
 go_wp2_with fail
 refine aR.o.mono ?_;rintro e w4 ⟨V,f,aM,rfl,az,aF,ad,bi,ab,bn,bx⟩;have cw:=aV.o.size;have cx:=ab.size;have a6:=aU.o.PI (ab.mono fun k h=>.inl h) az aF (Nw.nil bn (aB _)) (.inr bi);have ak:Hid (jb w4 (fun k=>X k\/w.heap.size<=k/\k<w4.heap.size) Hb Cb mb V tv av lv f T al eY A L.length aM):=a6.more fun k hk=>by
  rcases hk with hk|⟨E,Z⟩
  .exact .inl hk
  .refine .inr ⟨aa,?_⟩;rcases Z with Z|⟨x,J,bo,a,b3,rfl⟩
   .exact(az.row.lt k Z).2
   .rcases(aF x J).1 with h9|⟨b,off,ci,fr,Y,b4,-⟩
    .exact absurd h9 bo
    .rw[b3]at Y;injection Y with Y;rw[Y];exact(aZ.1 b4).1
 have bI:=af ad;have a5:=af bx;have bF:Hid (ay (fun k=>k=Cb) w w4):=((ay.refl (fun k=>k=Cb) w).below aV.o).trans ab;have cm:f.length<=13:=by
  have E:=congrArg List.length ad;rw[eF,bU]at E;have Z:=fC (a:=L.length) (b:=5000) aa ai;have cj:Lib.bitLen 5000<=13:=ai;omega
 have B:Hid (oh (f.map (·.2.1)) al A L.length):=by rw[ad];exact bC.o
 have bS:Hid (∀(j:Nat) (g:j<f.length),f[j].2.1.length<=5000):=fun j g=>by
  have E:=B.o.few j (by rw[bU];exact g);rwa [fO]at E
 obtain⟨-,-,-,cc,-⟩:=ak.o.cell;have f3:=ak.o.frozen 3;have O:Hid (jb (w4.setCell (ag Hb 3) (aL)) (fun k=>X k\/w.heap.size<=k/\k<w4.heap.size) Hb Cb mb V (aL) av lv f [] al eY A L.length aM):=(ak.o.Sl (tv':=aL) (T':=[]) (bM (aJ _ _)|>fun h=>⟨h.os,h.tape,h.output,h.size,fun k hk _=>rfl⟩) (dA _ _ _ _) (by simp[Value.ownBlock])).more fun k hk=>hk.elim (fun h=>h) fun h=>by cases h
 have a1:Hid (ay (fun k=>k=Hb\/k=Cb) w (w4.setCell (ag Hb 3) (aL))):=(bF.o.mono fun k h=>.inr h).set (a:=(ag Hb 3)) _ (.inl (.inl rfl));have aP:=af (yB O.o.fM aa);obtain⟨-,-,cd,-⟩:=O.o.cell;have bt:(w4.setCell (ag Hb 3) (aL)).heap.size=w4.heap.size:=aA;have bN:=af bt;clear az aF ad bi ab bn bx a6 aR bt
 go_wp2_with fail
 generalize w4.setCell (ag Hb 3) (aL)=cB at*;refine aP.o.mono ?_;rintro e w6 ⟨rfl,ac⟩;have bA:=af (O.o.below ac);have b6:=ac.size;have a2:Hid (ay (fun k=>k=Hb\/k=Cb) w w6):=a1.o.below ac;have bO:Hid (w4.heap.size<=w6.heap.size):=by have:=bN.o;show _<=_;omega
 clear aP ac O a1 cc f3 cd b6
 go_wp2_with fail
 go_loopw [21] (fun aG wr=>∃(i:Nat) (s:Nat->Prop) (u:Nat->Nat->Prop) (t:Value) (r:List (Option Nat)) (n:List Int),aG=.int .i64 i/\i<=f.length/\Hid (jb wr s Hb Cb mb V t av lv f r al n A L.length aM)/\Hid (nR wr u s ((f.map (·.2.1)).take i) r al)/\Hid (∀(j:Nat) (g:j<f.length),j<i->∀c∈f[j].2.1,n[c.2.toNat]? =some (j:Int))/\Hid (n.length=al.length)/\Hid (r.length<=i)/\
  Hid (∀k,s k->k<wr.heap.size/\(X k\/w.heap.size<=k))/\Hid (∀j k,u j k->w.heap.size<=k)/\Hid (t.ownBlock=none\/∃b,t.ownBlock=some b/\w.heap.size<=b)/\Hid (ay (fun k=>k=Hb\/k=Cb\/lv.ownBlock=some k) w wr)) (fun aG _=>f.length-(intOf aG).toNat)
 case atStart=>exact⟨0,_,fun _ _=>False,_,[],eY,rfl,aY _,bA,⟨fun j g=>absurd g aA,fun _ _ h=>h.elim,fun _ _ _ h=>h.elim,fun _ _ h=>h.elim⟩,fun j _ g=>absurd g (kC _),bH,aY _,fun k hk=>by
   have E:=bO.o;rcases hk with hk|hk
   .have:=bR.o k hk;have:=a2.o.size;exact⟨aa,.inl hk⟩
   .exact⟨aa,.inr hk.1⟩,fun _ _ h=>h.elim,.inl rfl,a2.o.mono fun k h=>h.imp id .inl⟩
 case round=>
  obtain⟨i,s,u,t,r,n,rfl,hi,y,a4,aq,C,R,au,am,ar,an⟩:=hrel;have cz:=an.o.size;by_cases G:i<f.length
  .have ca:=bS.o i G;have aN:=af (yC y.o.fM y.o.rows aa i G aa);have bm:(f.map (·.2.1))[i]? =some f[i].2.1:=by rw[iB,bZ G];rfl
   have a3:Hid ((f.map (·.2.1)).take (i+1)=(f.map (·.2.1)).take i++[f[i].2.1]):=by
    show _=_;rw[List.take_add_one,bm];rfl
   have aw:=B.o.bk i (by rw[bU];exact G);rw[fO]at aw;have P:=af aw;have aW:Hid (∀(j:Nat) (g:j<f.length),j=i->f[j].2.1=f[i].2.1):=fun j g e=>by subst e;rfl
   have bD:Hid (∀(j:Nat) (g:j<f.length),j≠i->∀c∈f[j].2.1,∀d∈f[i].2.1,d.2.toNat≠c.2.toNat):=fun j g aC c l d hd=>B.o.apart (i:=i) (j:=j) (by rw[bU];exact G) (by rw[bU];exact g) (fun e=>aC e.symm) (by rw[fO];exact hd) (by rw[fO];exact l);generalize f[i].2.1=lk at*;obtain⟨-,-,U,-⟩:=y.o.cell;have co:(i:Int)<(f.length:Int):=aa;clear bm aw;obtain⟨bz,bY⟩:∃bz:World,bz=wr:=⟨_,rfl⟩;subst bY
   go_wp2_with fail
   refine aN.o.mono ?_;rintro e w3 ⟨cA,rfl,bq,F⟩;have b5:=F.size;obtain⟨bT,bV,bW,-,-,bs⟩:=LH.aD bq;subst bW;have z:=af (y.o.below F);have Q:=af (a4.o.kept (S:=fun _=>False) ((ay.refl _ _).below F) fun _ _ _ h=>h);have a0:Hid (ay (fun k=>k=Hb\/k=Cb\/lv.ownBlock=some k) w w3):=an.o.below F;have D:Hid (∀k,s k->k<w3.heap.size/\(X k\/w.heap.size<=k)):=fun k hk=>⟨bX (au.o k hk).1 b5,(au.o k hk).2⟩;have bL:=af bs;clear bq F bs aN U;by_cases bl:lk=[]
   .subst bl;have cb:¬(0:Int)<((([]:List eU).length:Nat):Int):=aA;go_wp2;go_roundw
    case rel=>exact⟨i+1,s,u,t,r,n,by go_num,aa,z,by rw[a3.o];exact Q.o.skip,fun j g aC c l=>by
      by_cases e:j=i
      .rw[aW.o j g e]at l;cases l
      .exact aq.o j g aa c l,C,Nat.le_succ_of_le R.o,D,am,ar,a0⟩
    case measure=>exact eO
   .have cs:0<lk.length:=Au.2 bl;have cb:(0:Int)<((lk.length:Nat):Int):=aa;have aT:=af (K3 z.o bT bV lk i bL.o aa (by have:=R.o;omega) ca P.o.2.2 C.o aa P.o.1 P.o.2.1 (fun k hk=>(D.o k hk).1))
    go_wp2_with fail
    refine aT.o.mono ?_;rintro e cC ⟨rfl,ce,tb,m,Fn,be,a8,a9,I,bv,bb⟩;have bK:=af be;have bE:=af a8;have aX:=af a9;have bJ:=af I;have bP:=af bv;have ao:=af bb;clear be a8 a9 I bv bb aT;go_wp2;go_roundw
    case rel=>
     have cy:=R.o;obtain⟨I,cr⟩:=bJ.o;have b2:∀j k,u j k->¬(k=Hb\/t.ownBlock=some k\/lv.ownBlock=some k):=fun j k hk h9=>by
      refine Q.o.off j k hk ?_;rcases h9 with rfl|h9|h9
      .exact z.o.jh.1
      .exact z.o.jh.2.2.2.2.1 k h9
      .exact z.o.jh.2.2.2.2.2.2 k h9
     have b8:=(Q.o.kept ao.o b2).step (X':=fun k=>s k\/w3.heap.size<=k/\k<m) (i:=i) (m0:=w3.heap.size) (m:=m) (CB':=(f.map (·.2.1)).take i++[lk]) (T':=zT r i tb) bE.o (by unfold sJ;rw[bU];exact gD _ _) (fun j g bo=>by
       have bj:((f.map (·.2.1)).take i).length=i:=by rw[eQ,bU];omega
       by_cases e:j=i
       .subst e;left;refine⟨rfl,?_⟩;rw[wm aa];simp[bj]
       .right;have cp:j<i:=by rw[bQ,bj]at g;simp at g;omega
        exact⟨e,aa,qO aa,fun x J=>K4 e J,rfl⟩) Ht (fun k hk=>hk) aX.o (fun j k hk=>Q.o.lt j k hk) (fun k hk=>bX (D.o k hk).1 I) I
     have b7:=ao.o.size;refine⟨i+1,_,_,ce,zT r i tb,iq n lk i,by go_num,aa,bK,by rw[a3.o];exact b8,fun j g aC c l=>?_,by rw[nk];exact C.o,Hu aa aa,fun k hk=>?_,fun j k hk=>?_,?_,ay.strip ((a0.o.mono fun k h=>.inl h).trans (ao.o.mono fun k h=>?_))⟩
     .by_cases e:j=i
      .rw[aW.o j g e]at l;rw[e];obtain⟨q,ct,cu⟩:=P.o.2.2 c l;exact yO lk n i c l (by have:=C.o;omega)
      .rw[qG lk n i _ (fun x J=>bD.o j g e c l x J)];exact aq.o j g aa c l
     .rcases hk with hk|hk
      .exact⟨bX (D.o k hk).1 b7,(D.o k hk).2⟩
      .exact⟨aa,.inr aa⟩
     .rcases hk with⟨-,hk⟩|⟨-,hk⟩
      .have:=aX.o k hk;omega
      .exact am.o j k hk
     .rcases bP.o with h9|⟨b,h9,b1⟩
      .rw[h9];exact ar.o
      .exact .inr ⟨b,h9,aa⟩
     .rcases h with h|h|h
      .exact .inl (.inl h)
      .rcases ar.o with h9|⟨b,h9,b1⟩
       .rw[h9]at h;cases h
       .rw[h9]at h;injection h with h;exact .inr aa
      .exact .inl (.inr (.inr h))
    case measure=>exact eO
  .obtain rfl:i=f.length:=aa;have cn:¬(f.length:Int)<(f.length:Int):=aa;rw[ap.o]at B y a5;have cq:(L.length:Int)=(A.length:Int):=by rw[ap.o]
   go_wp2;go_ret;have bu:=a4.o;rw[jK aA]at bu;refine⟨rfl,s,u,V,t,f,r,n,by rw[<-a5.o];exact y.o,by rw[bI.o,ap.o,bG.o],bu,B.o,⟨C.o,fun j g c l=>?_⟩,by have:=R.o;omega,au.o,am.o,an.o.mono fun k h=>?_⟩
   .rw[fO]at l;exact aq.o j (aQ g) (aQ g) c l
   .rcases h with h|h|h
    .exact .inl h
    .exact .inr (.inl h)
    .exact .inr (.inr (.inr (.inr h)))
end
end
section
open Go.RowKit Go.Maps
def pot (L:Nat):Nat->List Nat->Nat
 |_,[]=>0
 |i,s::l=>s*(L-1-i)+pot L (i+1) l
theorem Ai (L:Nat):∀(i:Nat) (a b:List Nat),pot L i (a++b)=pot L i a+pot L (i+a.length) b
 |i,[],b=>by simp[pot]
 |i,s::a,b=>by
  simp only[mK,pot,Ai L (i+1) a b,ed];rw[show i+1+a.length=i+(a.length+1) by omega];omega
theorem Hw (L:Nat):∀(i k:Nat),pot L i (List.replicate k 0)=0
 |_,0=>rfl
 |i,k+1=>by simp[List.replicate_succ,pot,Hw L (i+1) k]
theorem PM (L:Nat):∀(i:Nat) (l:List Nat),pot L i l<=l.sum*(L-1)
 |_,[]=>by simp[pot]
 |i,s::l=>by
  have a:=PM L (i+1) l;have b:=Nat.mul_le_mul_left s (show L-1-i<=L-1 by omega);simp only[pot,List.sum_cons,mU];omega
theorem Hy (L:Nat) (S:List Nat):∀(i:Nat),i<=L->i<=S.length->(∀(j:Nat) (h:j<S.length),j<i->S[j]=2^j)->2^i*(L-i)<=L+pot L 0 (S.take i)
 |0,_,_,_=>aA
 |i+1,hi,g,h=>by
  have ih:=Hy L S i aa aa fun j b f=>h j b aa;have a:i<S.length:=aa;rw[ik a,Ai,eQ,show min i S.length=i by omega,h i a aa];simp only[pot,kF,dI];rw[pY];have d:2^i*(L-i)=2^i*(L-1-i)+2^i:=by
   rw[show L-i=(L-1-i)+1 by omega,jd,iQ]
  have e:2^i*2*(L-(i+1))=2^i*(L-1-i)+2^i*(L-1-i):=by
   rw[show L-(i+1)=L-1-i by omega,Nat.mul_assoc,Nat.two_mul,jd]
  generalize 2^i*(L-1-i)=Q at*;generalize 2^i*(L-i)=R at*;generalize 2^i*2*(L-(i+1))=c at*;generalize 2^i=P at*;omega
def K5 (CB:List (List eU)) (a:Nat) (wk:Int) (m:Nat):Prop:=0<=wk/\∀L,m<2^L->wk+(pot L 0 (CB.map List.length):Nat)+(L*(CB.flatten.length-a):Nat)<=(L*m:Nat)
theorem RG (CB:List (List eU)):CB.flatten.length=(CB.map List.length).sum:=by rw[Er]
theorem RH:K5 [] 0 0 0:=⟨vC _,fun L _=>by simp[pot]⟩
theorem K5.bound {CB:List (List eU)} {a m:Nat} {wk:Int} (h:K5 CB a wk m) (b:m<=5000):wk<=65000:=by
 have:=h.2 13 aa;omega
theorem K5.add {CB:List (List eU)} {a m:Nat} {wk:Int} (h:K5 CB a wk m) (z:a<=CB.flatten.length) (y:CB.flatten.length<=m) (i:Nat) (hi:i<=CB.length) (s:∀(j:Nat) (b:j<CB.length),CB[j].length=0\/CB[j].length=2^j) (r:∀j (b:j<CB.length),j<i->CB[j]≠[]) (f:∀h:i<CB.length,CB[i]=[]) (x:eU):
  K5 (ky CB i x) (a+1) (wk+((eT CB i).length+1:Nat)) (m+1):=by
 have g:∀j (b:j<CB.length),j<i->CB[j].length=2^j:=fun j b d=>by
  rcases s j b with h1|h1
  .exact absurd (gV h1) (r j b d)
  .exact h1
 have e:=yN CB i hi g;have hP:=(tQ CB i x f).length_eq;rw[ed]at hP;refine⟨by have:=h.1;omega,fun L w=>?_⟩;have h1:=h.2 L aa;have v:(eT CB i).length<=CB.flatten.length:=by
  rw[(jB CB i).length_eq];have c:(CB.take i).flatten++(CB.drop i).flatten=CB.flatten:=by rw[<-kX,jD]
  have:=congrArg List.length c;rw[bQ]at this;omega
 have A:i<L:=by
  rcases Nat.lt_or_ge i L with h9|h9
  .exact h9
  .have:=Aq (n:=2) ai h9;omega
 have u:=Hy L (CB.map List.length) i aa (aQ hi) fun j b d=>by rw[fO];exact g j (aQ b) d
 have l:(ky CB i x).map List.length=List.replicate i 0++2^i::(CB.map List.length).drop (i+1):=by
  unfold ky;rw[bL,Eu,l6,yc];simp[e]
 have o:pot L 0 (CB.map List.length)=pot L 0 ((CB.map List.length).take i)+pot L (i+1) ((CB.map List.length).drop (i+1)):=by
  have p:CB.map List.length=(CB.map List.length).take i++(CB.map List.length).drop i:=(jD _ _).symm;have q:((CB.map List.length).take i).length=i:=by rw[eQ,bU];omega
  conv=>lhs;rw[p,Ai,q,kF]
  by_cases k:i<CB.length
  .rw[lU (aQ k)];simp[pot,f k]
  .rw[oC aG,oC aG];rfl
 have c:pot L 0 ((ky CB i x).map List.length)=2^i*(L-1-i)+pot L (i+1) ((CB.map List.length).drop (i+1)):=by
  rw[l,Ai,Hw,iA];simp[pot]
 have t:2^i*(L-i)=2^i*(L-1-i)+2^i:=by
  rw[show L-i=(L-1-i)+1 by omega,jd,iQ]
 rw[c,e,hP,show CB.flatten.length+1-(a+1)=CB.flatten.length-a by omega,jd];rw[o]at h1;omega
theorem K5.drop {CB:List (List eU)} {a m:Nat} {wk:Int} (h:K5 CB (a+1) wk m) (d:a+1<=CB.flatten.length):K5 CB a wk (m+1):=by
 refine⟨h.1,fun L c=>?_⟩;have b:=h.2 L aa;rw[show CB.flatten.length-a=(CB.flatten.length-(a+1))+1 by omega,jd,jd];omega
theorem K5.anew {CB CB':List (List eU)} {a m:Nat} {wk:Int} (h:K5 CB a wk m) (j:2*a<=CB.flatten.length) (c:CB'.flatten.length=a):K5 CB' a (wk+a) m:=by
 refine⟨by have:=h.1;omega,fun L b=>?_⟩;have g:=h.2 L b;have d:=PM L 0 (CB'.map List.length);rw[<-RG,c]at d;rw[c,iP,Nat.mul_zero];have i:L*a<=L*(CB.flatten.length-a):=Nat.mul_le_mul_left L aa;rcases nG L with h0|h0
 .subst h0;simp at b;subst b;simp at*;have:=h.1;have f:=h.2 1 ai;simp at f;omega
 .have e:a*(L-1)+a=L*a:=by
   rw[yl L a]
   conv=>rhs;rw[show L=(L-1)+1 by omega,jd,iQ]
  omega
end
section
open Go.RowKit Go.Sort Go.Shelf Go.Lib Go.Maps
attribute [local irreducible] wpQuiet
attribute [local go_sem] Oper.fw
def jI (w:World) (Hb:Nat) (G:Nat->Prop) (m:Nat) (A:List eU) (N wk:Int):Prop:=
 ∃(X:Nat->Prop) (F:Nat->Nat->Prop) (Cb mb:Nat) (cv tv av lv:Value) (ch:List Ac) (T:List (Option Nat)) (al:List Bool) (eY:List Int),jb w X Hb Cb mb cv tv av lv ch T al eY A N wk/\oh (ch.map (·.2.1)) al A N/\Ul (ch.map (·.2.1)) al eY/\nR w F X (ch.map (·.2.1)) T al/\
  N<=2*A.length/\T.length<=14/\(∀k,X k->k<w.heap.size/\G k)/\(∀i k,F i k->G k)/\al.length<=m/\K5 (ch.map (·.2.1)) A.length wk m
theorem M4:fV 139:=bY func139 aM rfl
theorem M5:fV 53:=bY func53 aM rfl
section
variable {w w':World} {X S G:Nat->Prop} {F:Nat->Nat->Prop} {Hb Cb mb m:Nat} {cv tv av lv:Value} {ch:List Ac} {T:List (Option Nat)} {al:List Bool} {eY:List Int} {A A':List eU} {N wk:Int}
theorem jb.PN (h:jb w X Hb Cb mb cv tv av lv ch T al eY A N wk) (p:w.grownBy w' (some mb)) (q:lD w' mb A'):jb w' X Hb Cb mb cv tv av lv ch T al eY A' N wk:=by
 have K:ay (fun k=>k=mb) w w':=(ay.refl (fun k=>k=mb) w).grown p fun k e=>.inl (by injection e with e;exact e.symm);have c:∀{b:Nat} {cs:Array Value} {g:TypeId} {fr:Nat×Nat},w.heap[b]? =some (Obj.cells cs g fr)->w'.heap[b]? =w.heap[b]? :=fun{b cs g fr} a=>K.block b (aZ.1 a).1 fun l=>by
  obtain⟨D,⟨s,r,m,-⟩,-⟩:=h.map;rw[l,m]at a;cases a
 have d:∀{e:TypeId} {sz n:Nat} {v:Value} {xs:List Value},w.ownsRow 0 e sz v n xs->w'.ownsRow 0 e sz v n xs:=fun{e sz n v xs} f=>aX f fun t j=>by
  have⟨i,o⟩:=dG f j;exact c o
 exact⟨(c h.blk).trans h.blk,⟨aY _,h.fM.ds,(c h.fM.blk).trans h.fM.blk,d h.fM.row⟩,h.rows.kept fun b i fr a=>c a,d h.jC,d h.dK,d h.nz,q,h.jh,h.Qq⟩
theorem jb.U4 (h:jb w X Hb Cb mb cv tv av lv ch T al eY A N wk) {CB:List (List eU)} (ht:nR w F X CB T al) (j k:Nat) (a:F j k):¬(k=Hb\/k=Cb\/k=mb\/cv.ownBlock=some k\/tv.ownBlock=some k\/av.ownBlock=some k\/lv.ownBlock=some k):=fun h9=>by
 refine ht.off j k a ?_;rcases h9 with rfl|rfl|rfl|h9|h9|h9|h9
 .exact h.jh.1
 .exact h.jh.2.1
 .exact h.jh.2.2.1
 .exact h.jh.2.2.2.1 k h9
 .exact h.jh.2.2.2.2.1 k h9
 .exact h.jh.2.2.2.2.2.1 k h9
 .exact h.jh.2.2.2.2.2.2 k h9
def V9 (a:Nat) (N N':Int) (n:Nat):Prop:=(2*(a:Int)<N/\n=a/\N'=a)\/(N<=2*(a:Int)/\n=0/\N'=N)
def U5 (w:World) (Hb:Nat) (G:Nat->Prop) (m:Nat) (A:List eU) (N wk:Int) (p:Pt) (e:Ending) (w':World):Prop:=
 ∃(n:Nat) (N':Int),e=.returned (.tuple #[ae n,.bool true])/\jI w' Hb (fun k=>G k\/w.heap.size<=k) (m+1) (A.filter fun d=>decide (d.1≠p)) N' (wk+n)/\ay G w w'/\V9 (A.filter fun d=>decide (d.1≠p)).length N N' n
theorem RI (h:jI w Hb G m A N wk) (c9:m<5000) (c:eU) (J:c∈A) (x y d:Int) (v:c.1=(x,y,d)):
  aK 59 #[aj Hb,iZ x y d] w (U5 w Hb G m A N wk (x,y,d)):=by
 have⟨X,F,Cb,mb,cv,tv,av,lv,ch,T,al,eY,aY,E,bs,ht,ct,cd,ck,hF,cY,cz⟩:=h;have c8:=E.levels;have aR:=(bG.1 (E.live.mem_iff.1 J)).1;have⟨k,aT,c7⟩:=E.num aR;obtain⟨cN,-⟩:∃q,q=(c.1,c.2):=⟨_,rfl⟩;have a1:BB (x,y,d):=by rw[<-v];exact E.good c aR
 have aW:(A.map (·.1)).Nodup:=Fg E.keys;have⟨bl,bp,bn⟩:=E.dead ct J;rw[v,aT,ib]at bl bp;rw[v]at bn;have⟨l,cq,aw⟩:=pK.1 aR;obtain⟨i,hi,rfl⟩:=jk cq;have bo:=bs.lvl i hi c aw;rw[aT,ib]at bo;have⟨tb,n0,cg,cu,b7⟩:=ht.tr i hi (List.ne_nil_of_mem aw);have co:(x,y,d)∈sJ al (ch.map (·.2.1))[i]:=dm.2 ⟨c,bG.2 ⟨aw,(bG.1 (E.live.mem_iff.1 J)).2⟩,v⟩;have bQ:Hid (∀W,Below w.heap.size w W->(Instr.lookup 188 (.map (some mb)) (iZ x y d) true).run prog W=.ok (.tuple #[ae k,.bool true]) W):=fun W f=>by
  rcases(aY.below f).map.look a1 aW with⟨aL,V,I,R⟩|⟨I,-⟩
  .have S:A.Pairwise fun p q=>p.1≠q.1:=dx.1 aW;have aN:aL=c:=by
    rcases eD S V J with h1|h1|h1
    .exact h1
    .exact absurd (I.trans v.symm) h1
    .exact absurd (v.trans I.symm) h1
   rw[aN,aT]at R;exact R
  .exact absurd (dm.2 ⟨c,J,v⟩) I
 have bM:Hid ((x,y,d)∈A.map (·.1)):=dm.2 ⟨c,J,v⟩;have a8:=af aW;have r:=af aY;have M:=af ht;have t:=af E;have aE:=af bs;have n:=af ck;have a6:=af hF;have an:=af cz;have a5:=af bl;have am:=af bn;have bF:Hid (c∈(ch.map (·.2.1))[i]):=aw;have a4:=af v;have bE:=af J;have a7:=af bp;have bI:=af co;have bD:=af b7;have aD:=af cg;have bL:=af bo;have a2:Below w.heap.size w (w.alloc (.cells #[ae x,ae y,au d] 29)):=(aJ _ _).alloc (aB _) _;have Q:=af (bV w (.cells #[ae x,ae y,au d] 29));have aA:=af a2;have ad:=af (aY.below a2);have bz:=af (Ah ad.o);go_enter func59,ntmps59
 go_wp2_with (go_at_call 134;refine bz.o.mono ?_;rintro e w1 ⟨rfl,bi⟩;have b0:=bi.symm;clear bi;subst b0)
 generalize w.alloc (.cells #[ae x,ae y,au d] 29)=w1 at*;have be:w1.cell? (ag w.heap.size 0)=some (ae x):=eP Q.o;have cD:=ah be;have I:w1.cell? (ag w.heap.size 1)=some (ae y):=eP Q.o;have cE:=ah I;have R:w1.cell? (ag w.heap.size 2)=some (au d):=eP Q.o;have cC:=ah R;have bj:=ah (w:=w1) ad.o.cell.2.2.2.2.2.2;have lk:∀p:aS w1,(Instr.lookup 188 (.map (some mb)) (iZ x y d) true).run prog p.W=.ok (.tuple #[ae k,.bool true]) p.W:=fun p=>bQ.o p.W (aA.o.trans (p.h.mono aA.o.size));refine kM [(0,false),(1,false),(2,false),(3,true),(4,true),(5,true),(6,false),(7,false),(8,false),(9,false),(10,false)] 0 ?_;refine lh aM ?_
 go_wp2_with fail
 have cD:=ah (w:=w1.drew) be;have cE:=ah (w:=w1.drew) I;have cC:=ah (w:=w1.drew) R;have bj:=ah (w:=w1.drew) ad.o.cell.2.2.2.2.2.2;refine ax (fun W=>∃p:aS w1.drew,W=p.W) [5] [(0,false),(1,false),(2,false),(3,true),(4,true)] ⟨⟨_,(aJ _ _).drew⟩,rfl⟩ 1 ?_;refine aI [5] ?_;have a3:=af ((ad.o.below (aJ _ _).drew).below (aJ _ _).drew);have⟨D,b8,b9⟩:=a3.o.map;refine wpList_delete_own _ rfl _ _ _ _ rfl _ (Keyed.of_law Gw) underlying188 (plainElem prog 3) mb A.length D rfl b8 (iZ x y d) (kp (x,y,d)) rfl (yH a1) ?_;intro ab cy br;have b4:(x,y,d)∈A.map (·.1):=bM.o;have cb:=af (lD.fit cy (b9.del a1 a8.o b4));have P:=af (a3.o.PN br.grown cb.o);have bm:=br.grown;have bJ:Hid (ay (fun k=>k=mb) w ab):=(((ay.refl (fun k=>k=mb) w).below aA.o).drew.drew).grown bm fun k e=>.inl (by injection e with e;exact e.symm);have bR:Hid (ab.heap[w.heap.size]? =some (Obj.cells #[ae x,ae y,au d] 29 (0,0))):=(bm.block _ (aZ.1 Q.o).1 (fun e=>by injection e with e;have:=r.o.map.lt;omega)).trans Q.o;obtain⟨u,cW,bY,-,c1,-,-⟩:=aU P.o.dK aa;subst bY;have cJ:=P.o.dK.cellAt k aa;rw[bZ (by rw[bU];omega)]at cJ;have cO:=P.o.dK.frozenAt k;obtain⟨-,-,-,-,cM,-,-⟩:=P.o.cell;have c6:(k:Int)<(al.length:Int):=aa;have az:=af (P.o.VR k false);have bK:Hid (ay (fun k=>k=mb\/k=u) w (ab.setCell (ag u k) (.bool false))):=(bJ.o.mono fun k h=>.inl h).set _ (.inl (.inr rfl));have bc:Hid ((ab.setCell (ag u k) (.bool false)).heap[w.heap.size]? =some (Obj.cells #[ae x,ae y,au d] 29 (0,0))):=(aC (a:=(ag u k)) (fun e:u=w.heap.size=>by have:=(r.o.dK.lt u rfl).2;omega)).trans bR.o
 go_wp2_with fail
 generalize ab.setCell (ag u k) (.bool false)=w6 at*;have c0:(A.filter fun q=>decide (q.1≠(x,y,d))).length<=A.length:=gD _ _;have cX:A.length<=5000:=by have:=t.o.Jn.1;have:=t.o.levels.2.1;omega
 obtain⟨-,-,bS,-,-,-,bT⟩:=az.o.cell;have b1:=ah bS;have bj:=ah bT;have bx:=af (NQ (az.o.below (aJ _ _).drew).fM);refine ax (fun W=>∃p:aS w6,W=p.W) [9,10,11] [(0,false),(1,false),(2,false),(3,true),(5,false),(6,false),(7,false),(8,true)] ⟨⟨_,(aJ _ _).drew⟩,rfl⟩ 4 ?_;refine aH 4 rfl fun K aO=>?_;refine bf M4 rfl _ _ rfl (vals:=#[aj Cb]) rfl bx.o ?_;rintro e g ⟨rfl,cm⟩;have ac:Below w6.heap.size w6 g:=(aJ _ _).drew.trans cm;refine⟨_,rfl,?_⟩;refine aO _ _ (fun _ _=>⟨⟨_,ac⟩,rfl⟩) ?_;have z:=af (az.o.below ac);have H:Hid (ay (fun k=>k=mb\/k=u) w g):=bK.o.below ac;have aF:Hid (g.heap[w.heap.size]? =some (Obj.cells #[ae x,ae y,au d] 29 (0,0))):=(aP ac bc.o).trans bc.o;have dd:=z.o.map.size;generalize b5:(A.filter fun q=>decide (q.1≠(x,y,d)))=s at*;have ak:=af b5;have cZ:(-9223372036854775808:Int)<=2*(s.length:Int)/\2*(s.length:Int)<=9223372036854775807:=aa;have dc:IntKind.i64.wrap (2*(s.length:Int))=2*(s.length:Int):=x8 _ aa;refine aI [9,10,11] ?_;by_cases cs:2*(s.length:Int)<N
 .have ar:∀b,X b->b<g.heap.size:=fun b f=>bX (n.o b f).1 H.o.size;have bv:=af (RF z.o a5.o (by have:=aE.o.Jm;simpa using this) ar)
  go_wp2_with fail
  refine bv.o.mono ?_;rintro e O ⟨rfl,X',bA,bW,tv',bd,T',lev',cc,-,cf,cj,ci,ce,cl,ca,aq⟩;have a9:=af cc;have bO:=af cf;have ba:=af cj;have bP:=af ci;have bb:=af cl;have bH:=af ca;have L:=af aq;have bN:=af ce;go_wp2;go_ret2;have Y:=an.o;rw[<-am.o]at Y;have da:=t.o.stored;have db:=ba.o.stored;have aV:s.length+1<=(ch.map (·.2.1)).flatten.length:=by have:=t.o.Jn.1;have:=am.o;omega
  have aX:=(Y.drop aV).anew (CB':=bd.map (·.2.1)) aa aa;have cA:wrap64 (wk+(s.length:Int))=wk+(s.length:Int):=IntWalk.wrap64_in _ (by have h1:=an.o.bound aa;have B:=an.o.1;omega);rw[cA]at a9;have bq:=H.o.size;have a0:=L.o.size;refine⟨s.length,s.length,rfl,?_,?_,by rw[ak.o];exact .inl ⟨cs,rfl,rfl⟩⟩
  .rw[ak.o];exact⟨X',bA,Cb,mb,bW,tv',_,lv,bd,T',_,lev',a9.o,ba.o,bP.o,bO.o,aa,bN.o,fun b f=>⟨(bb.o b f).1,(bb.o b f).2.imp (fun h=>(n.o b h).2) fun h=>aa⟩,fun j b f=>.inr (by have:=bH.o j b f;omega),aG,aX⟩
  .refine ay.trans (H.o.mono ?_) (L.o.mono ?_)
   .rintro b (rfl|rfl)
    .exact(n.o _ r.o.jh.2.2.1).2
    .exact(n.o _ (r.o.jh.2.2.2.2.2.1 _ rfl)).2
   .rintro b (rfl|rfl|h|h|h)
    .exact(n.o _ r.o.jh.1).2
    .exact(n.o _ r.o.jh.2.1).2
    .exact(n.o _ (r.o.jh.2.2.2.1 _ h)).2
    .exact(n.o _ (r.o.jh.2.2.2.2.1 _ h)).2
    .exact(n.o _ (r.o.jh.2.2.2.2.2.2 _ h)).2
 .go_wp2_with fail
  have cr:=aE.o.Jm;have c4:=(fq.1 aD.o).1;obtain⟨gl,lc,bg,-,c2,-,-⟩:=aU z.o.nz aa;obtain⟨b2,tc,bh,-,c3,-,-⟩:=aU z.o.jC aa;have cK:g.cell? (ag gl k)=some (ae i):=by
   have h1:=z.o.nz;rw[bg]at h1;have B:=h1.cellAt k aa;rw[iB,bL.o]at B;exact B
  have cL:g.cell? (ag b2 i)=some (aj tb):=by
   have h1:=z.o.jC;rw[bh]at h1;have B:=h1.cellAt i aa;rw[iB,aD.o]at B;exact B
  obtain⟨-,d1,-,d3,-,d5,-⟩:=z.o.cell;rw[bh]at d3;rw[bg]at d5;have c5:(i:Int)<(T.length:Int):=aa;have cF:g.cell? (ag w.heap.size 0)=some (ae x):=eP aF.o;have cG:g.cell? (ag w.heap.size 1)=some (ae y):=eP aF.o;have cH:g.cell? (ag w.heap.size 2)=some (au d):=eP aF.o;have cP:=ah cF;have cQ:=ah cG;have b1:=ah cH;have cR:=ah d1;have cS:=ah d3;have cT:=ah d5;have cU:=ah cK;have cV:=ah cL;have bk:∀j b,F j b->¬(b=mb\/b=u):=fun j b f b3=>r.o.U4 M.o j b f (b3.elim (fun h=>.inr (.inr (.inl h))) fun h=>.inr (.inr (.inr (.inr (.inr (.inl (by rw[h];rfl)))))));have bB:=af ((bD.o.kept H.o (bk i)).below (aJ _ _).drew);have ao:=af ((M.o.kept H.o bk));have bw:=af (UY bB.o (x,y,d) bI.o);have bq:=H.o.size;refine ax (fun W=>∃p:aS g,W=p.W) [18] [(0,false),(1,false),(2,false),(3,true),(4,false),(5,false),(6,false),(7,true),(8,false),(9,false),(10,false),(11,true),(12,false),(13,false),(14,true),(15,false),(16,true),(17,true)] ⟨⟨_,(aJ _ _).drew⟩,rfl⟩ 1 ?_;refine aH 18 rfl fun K aO=>?_;refine Cy M5 rfl _ _ _ rfl rfl (vals:=#[aj tb,iZ x y d]) rfl bw.o ?_;rintro e O ⟨rfl,b6,aq⟩;refine⟨_,rfl,?_⟩;refine aO _ _ (fun _ h=>absurd ai h) ?_;have bC:=af b6;have L:Hid (ay (F i) g O):=((ay.refl _ g).drew).trans aq;have a0:=aq.size;refine lh aM ?_
  go_wp2_with fail
  go_ret2;have Y:=an.o;rw[<-am.o]at Y;have aV:s.length+1<=(ch.map (·.2.1)).flatten.length:=by have:=t.o.Jn.1;have:=am.o;omega
  have aX:=Y.drop aV;have ar:∀b,X b->b<g.heap.size:=fun b f=>bX (n.o b f).1 bq;have cx:∀(j:Nat) (C:j<(ch.map (·.2.1)).length),j≠i->sJ (al.set k false) (ch.map (·.2.1))[j]=sJ al (ch.map (·.2.1))[j]:=fun j C cp=>by
   rw[a7.o _ fun q Z=>t.o.inl C Z];refine lW.2 fun q Z=>?_;simp only[dH];rintro rfl;have⟨aL,V,e⟩:=dm.1 Z;have cn:=t.o.live.mem_iff.2 (bG.2 ⟨t.o.inl C (bG.1 V).1,(bG.1 V).2⟩);have S:A.Pairwise fun p q=>p.1≠q.1:=dx.1 a8.o;have aN:aL=c:=by
    rcases eD S cn bE.o with h1|h1|h1
    .exact h1
    .exact absurd (e.trans a4.o.symm) h1
    .exact absurd (a4.o.trans e.symm) h1
   subst aN;exact t.o.apart C hi cp (bG.1 V).1 bF.o rfl
  refine⟨0,N,rfl,?_,?_,by rw[ak.o];exact .inr ⟨aa,rfl,rfl⟩⟩
  .rw[ak.o,show wk+((0:Nat):Int)=wk by omega];refine⟨X,fun j b=>F j b\/(j=i/\g.heap.size<=b/\b<O.heap.size),Cb,mb,cv,tv,_,lv,ch,T,_,eY,z.o.kept L.o (fun b f h=>M.o.off i b h f),a5.o,⟨aQ cr,aE.o.lvl⟩,⟨fun j C cw=>?_,?_,?_,?_⟩,aa,cd,fun b f=>⟨bX (ar b f) a0,.inl (n.o b f).2⟩,?_,aG,aX⟩
   .by_cases e:j=i
    .subst e;refine⟨tb,n0,aD.o,cu,?_⟩;rw[a7.o _ fun q Z=>t.o.inl C Z];have:(fun b=>F j b\/(j=j/\g.heap.size<=b/\b<O.heap.size))=fun b=>F j b\/g.drew.heap.size<=b/\b<O.heap.size:=by funext b;simp
     rw[this];exact bC.o
    .obtain⟨cI,cB,h1,B,S⟩:=ao.o.tr j C cw;refine⟨cI,cB,h1,B,?_⟩;have:(fun b=>F j b\/(j=i/\g.heap.size<=b/\b<O.heap.size))=F j:=by funext b;simp[e]
     rw[this,cx j C e];exact S.kept L.o fun b f U=>e (M.o.ap j i b f U)
   .rintro j b (f|⟨-,f,-⟩) bt
    .exact M.o.off j b f bt
    .have:=ar b bt;omega
   .rintro j bu b (f|⟨rfl,f,-⟩) (U|⟨rfl,U,-⟩)
    .exact M.o.ap j bu b f U
    .have:=ao.o.lt j b f;omega
    .have:=ao.o.lt bu b U;omega
    .rfl
   .rintro j b (f|⟨-,-,f⟩)
    .exact bX (ao.o.lt j b f) a0
    .exact f
   .rintro j b (f|⟨-,f,-⟩)
    .exact .inl (a6.o j b f)
    .exact .inr aa
  .refine ay.trans (H.o.mono ?_) (L.o.mono fun b f=>a6.o i b f);rintro b (rfl|rfl)
   .exact(n.o _ r.o.jh.2.2.1).2
   .exact(n.o _ (r.o.jh.2.2.2.2.2.1 _ rfl)).2
end
theorem M6:fV 135:=bY func135 aM rfl
def vX (T:List (Option Nat)) (n:Nat):List (Option Nat):=List.replicate n none++T.drop n
theorem CE {T:List (Option Nat)} {n:Nat} (h:n<=T.length):(vX T n).length=T.length:=by simp[vX];omega
theorem M7 {T:List (Option Nat)}:vX T 0=T:=by simp[vX]
theorem PO {T:List (Option Nat)} {n:Nat} (h:n<T.length):(vX T n).set n none=vX T (n+1):=by
 unfold vX;rw[uk _ _ aA,iA,iP,lU h,oF,rA,dY];rfl
theorem PQ {T:List (Option Nat)} {n j:Nat} (h:n<=j):(vX T n)[j]? =T[j]? :=by
 unfold vX;rw[nD (aQ h),iA,Ev,show n+(j-n)=j by omega]
section
variable {w w':World} {X S G:Nat->Prop} {F:Nat->Nat->Prop} {Hb Cb mb m:Nat} {cv tv av lv:Value} {ch:List Ac} {T:List (Option Nat)} {al al':List Bool} {eY lev':List Int} {A A':List eU} {N wk:Int}
theorem zK {CB:List (List eU)} (h:oh CB al A N):CB.flatten.length<=al.length:=by
 have d:(CB.flatten.map fun c=>c.2.toNat).Nodup:=by
  refine dx.2 ((dx.1 h.Tn).imp_of_mem ?_);intro a b g j i f;exact i (by rw[h.one g j f])
 have e:=xc d (n:=al.length) (fun k m=>by
  obtain⟨c,l,rfl⟩:=dm.1 m;have⟨q,o,p⟩:=h.num l;omega)
 rwa [bU]at e
theorem jb.TV (h:jb w X Hb Cb mb cv tv av lv ch T al eY A N wk) {i j:Value} (K:ay (fun k=>k=Hb\/av.ownBlock=some k\/lv.ownBlock=some k) w w') (u:w'.heap[Hb]? =some (Obj.cells (vW Cb mb tv i j) q9 (0,0))) (t:w'.ownsRow 0 4 1 i al'.length (al'.map Value.bool)) (y:w'.ownsRow 0 3 1 j lev'.length (lev'.map (Value.int .i64))):
  jb w' (fun k=>X k\/i.ownBlock=some k\/j.ownBlock=some k) Hb Cb mb cv tv i j ch T al' lev' A N wk:=by
 have p:∀{b:Nat} {cs:Array Value} {g:TypeId} {fr:Nat×Nat},w.heap[b]? =some (Obj.cells cs g fr)->g≠q9->g≠4->g≠3->w'.heap[b]? =w.heap[b]? :=fun{b cs g fr} c l m o=>K.block b (aZ.1 c).1 fun h9=>by
  rcases h9 with rfl|h9|h9
  .exact dW c h.blk l rfl
  .obtain⟨f,d⟩:=dG h.dK h9;exact dW c d m rfl
  .obtain⟨f,d⟩:=dG h.nz h9;exact dW c d o rfl
 have r:∀{e:TypeId} {sz n:Nat} {v:Value} {xs:List Value},w.ownsRow 0 e sz v n xs->e≠q9->e≠4->e≠3->w'.ownsRow 0 e sz v n xs:=fun{e sz n v xs} q l m o=>aX q fun F s=>by
  have⟨f,d⟩:=dG q s;exact p d l m o
 refine⟨u,⟨aY _,h.fM.ds,(p h.fM.blk ai ai ai).trans h.fM.blk,r h.fM.row ai ai ai⟩,h.rows.kept fun b f fr c=>p c ai ai ai,r h.jC ai ai ai,t,y,h.map.same ?_,⟨.inl h.jh.1,.inl h.jh.2.1,.inl h.jh.2.2.1,fun k e=>.inl (h.jh.2.2.2.1 k e),fun k e=>.inl (h.jh.2.2.2.2.1 k e),fun k e=>.inr (.inl e),fun k e=>.inr (.inr e)⟩,fun x B z a e=>.inl (h.Qq x B z a e)⟩;refine K.block _ h.map.lt fun h9=>?_;obtain⟨D,⟨E,C,c,-⟩,-⟩:=h.map;rcases h9 with e|e|e
 .rw[e,h.blk]at c;cases c
 .obtain⟨f,d⟩:=dG h.dK e;rw[d]at c;cases c
 .obtain⟨f,d⟩:=dG h.nz e;rw[d]at c;cases c
def K6 (N:Int) (n:Nat):Prop:=∃i q:Nat,n=2^i/\N+1=((2^i+2^(i+1)*q:Nat):Int)
theorem K6.pos {N:Int} {n:Nat} (h:K6 N n):1<=n:=by
 obtain⟨i,q,rfl,-⟩:=h;exact qa ai
theorem Hz {d:Nat}:∀{L:List Nat},(∀x∈L,d∣x)->d∣L.sum
 |[],_=>⟨0,rfl⟩
 |x::L,h=>by
  rw[List.sum_cons];exact Nat.dvd_add (h x nV) (Hz fun y a=>h y (kW _ a))
theorem oh.Wu {CB:List (List eU)} (h:oh CB al A N) (i:Nat) (hi:i<=CB.length) (n:∀j (a:j<CB.length),j<i->CB[j]≠[]) (g:∀h:i<CB.length,CB[i]=[]):K6 N ((eT CB i).length+1):=by
 have f:=yN CB i hi fun j a k=>(h.size j a).elim (fun e=>absurd (gV e) (n j a k)) id;have b:(CB.take i).flatten++(CB.drop i).flatten=CB.flatten:=by rw[<-kX,jD]
 have c:=congrArg List.length b;rw[bQ,<-(jB CB i).length_eq]at c;have hd:2^(i+1)∣(CB.drop i).flatten.length:=by
  rw[Er];refine Hz fun x p=>?_;obtain⟨l,m,rfl⟩:=dm.1 p;obtain⟨j,a,rfl⟩:=jk m;rw[mQ]at a;rw[List.getElem_drop];by_cases r:j=0
  .subst r;have d:=g aa;simp only[dI];rw[d];exact⟨0,rfl⟩
  .rcases h.size (i+j) aa with e|e
   .rw[e];exact⟨0,rfl⟩
   .rw[e];exact Nat.pow_dvd_pow 2 aa
 have⟨q,s⟩:=hd;have o:=h.stored;refine⟨i,q,f,?_⟩;rw[o];omega
def U6 (w:World) (Hb:Nat) (G:Nat->Prop) (m:Nat) (A:List eU) (N wk:Int) (p:Pt) (e:Ending) (w':World):Prop:=
 ∃(n:Nat) (q:Int),K6 N n/\e=.returned (.tuple #[.int .i64 n,.bool true])/\jI w' Hb (fun k=>G k\/w.heap.size<=k) (m+1) (A++[(p,q)]) (N+1) (wk+n)/\ay G w w'
theorem TW (h:jI w Hb G m A N wk) (ej:m<5000) (x y d:Int) (a6:BB (x,y,d)) (bG:d∉ids (A.map (·.1))):
  Calls prog 57 #[.pointer (some ⟨Hb,0,none⟩),iZ x y d] w (U6 w Hb G m A N wk (x,y,d)):=by
 obtain⟨X,F,Cb,mb,cv,tv,av,lv,ch,T,al,eY,a5,ac,cW,ht,dS,dH,cx,hF,dM,cR⟩:=h;have az:=ac.levels;have cN:(A.map (·.1)).Nodup:=Fg ac.keys;have bH:(x,y,d)∉A.map (·.1):=fun h=>bG (dm.2 ⟨_,h,rfl⟩);have cb:Hid (∀W,Below w.heap.size w W->(Instr.lookup 188 (.map (some mb)) (iZ x y d) true).run prog W=.ok (.tuple #[.int .i64 0,.bool false]) W):=fun W ar=>by
  rcases(a5.below ar).map.look a6 cN with⟨dA,dP,ap,-⟩|⟨-,t⟩
  .exact absurd (dm.2 ⟨dA,dP,ap⟩) bH
  .exact t
 have u:=af a5;have bm:=af ht;have L:=af ac;have bn:=af cW;have ak:=af cx;have dg:=af hF;have b4:=af cR;have dp:=af bG;have dn:=af bH;have ba:Below w.heap.size w (w.alloc (.cells #[.int .i64 x,.int .i64 y,.int .u32 d] 29)):=(aJ _ _).alloc (aB _) _;have an:=af (bV w (.cells #[.int .i64 x,.int .i64 y,.int .u32 d] 29));have be:=af ba;have bb:=af (a5.below ba);have c9:=af (Ah bb.o);have ea:0<=N/\N<=5000:=by have:=ac.stored;have:=az.2.1;omega
 have ec:ch.length<=13:=by have:=az.1;simpa using this
 have d9:A.length<=5000:=by have:=ac.Jn.1;have:=az.2.1;omega
 have ed:(ch.map (·.2.1)).flatten.length<=5000:=az.2.1;clear a5 ac cW ht cx hF cR bG bH ba cN az;go_enter func57,ntmps57
 go_wp2_with (go_at_call 134;refine c9.o.mono ?_;rintro e w1 ⟨rfl,cd⟩;have dB:=cd.symm;clear cd;subst dB)
 generalize w.alloc (.cells #[.int .i64 x,.int .i64 y,.int .u32 d] 29)=w1 at*;have bs:w1.cell? ⟨w.heap.size,0,none⟩=some (.int .i64 x):=eP an.o;have ap:w1.cell? ⟨w.heap.size,1,none⟩=some (.int .i64 y):=eP an.o;have t:w1.cell? ⟨w.heap.size,2,none⟩=some (.int .u32 d):=eP an.o;have aP:=ah bs;have aT:=ah ap;have aL:=ah t;have bw:=ah (w:=w1) bb.o.cell.2.2.2.2.2.2;have lk:∀p:aS w1,(Instr.lookup 188 (.map (some mb)) (iZ x y d) true).run prog p.W=.ok (.tuple #[.int .i64 0,.bool false]) p.W:=fun p=>cb.o p.W (be.o.trans (p.h.mono be.o.size));refine kM [(0,false),(1,false),(2,false),(3,true),(4,true),(5,true),(6,false),(7,false),(8,false),(9,false),(10,false)] 0 ?_;refine lh aM ?_;clear aP aT aL bw lk cb
 go_wp2_with fail
 have aV:=af (bb.o.below (aJ _ _).drew);obtain⟨d4,d5,bt,-,-,-⟩:=Rd.aD aV.o.dK;have aP:=ah (w:=w1.drew) bs;have aT:=ah (w:=w1.drew) ap;have aL:=ah (w:=w1.drew) t;have Q:=aV.o.cell.2.2.2.2.1;rw[bt]at Q;have aq:=ah (w:=w1.drew) Q;have bw:=ah (w:=w1.drew) aV.o.cell.2.2.2.2.2.2;have da:=af bt;clear bt Q;refine ax (fun W=>∃p:aS w1.drew,W=p.W) [10] [(0,false),(1,false),(2,false),(3,true),(4,true),(5,false),(6,false),(7,false),(8,true),(9,false)] ⟨⟨_,(aJ _ _).drew⟩,rfl⟩ 1 ?_;refine aI [10] ?_;clear aP aT aL aq bw;have bO:=af (aV.o.below (aJ _ _).drew);obtain⟨D,ck,cm⟩:=bO.o.map;refine xO _ rfl _ _ _ _ rfl _ _ (Keyed.of_law Gw) underlying188 (plainElem prog 3) mb A.length D rfl ck dJ (iZ x y d) (.int .i64 (al.length:Int)) (kp (x,y,d)) rfl rfl (yH a6) (.lit (.int .i64 (al.length:Int))) [] (ve underlying3 (by simp[Lit.wf,IntKind.min,IntKind.max,IntKind.bits,IntKind.signed];omega)) ?_;intro w4 cQ a4;have cu:lD w4 mb (A++[((x,y,d),(al.length:Int))]):=⟨_,by rw[bQ];exact cQ,cm.put a6 dn.o _⟩;have ae:=af (bO.o.PN a4 cu);have bT:Hid (ay (fun k=>k=mb) w w4):=(((ay.refl (fun k=>k=mb) w).below be.o).drew.drew).grown a4 fun k e=>.inl (by injection e with e;exact e.symm);have bp:Hid (w4.heap[w.heap.size]? =some (Obj.cells #[.int .i64 x,.int .i64 y,.int .u32 d] 29 (0,0))):=(a4.block _ (aZ.1 an.o).1 (fun e=>by injection e with e;have:=u.o.map.lt;omega)).trans an.o;clear ck cm cQ a4 cu bs ap t
 go_wp2_with fail
 have c2:w4.cell? ⟨w.heap.size,0,none⟩=some (.int .i64 x):=eP bp.o;have c3:w4.cell? ⟨w.heap.size,1,none⟩=some (.int .i64 y):=eP bp.o;have c4:w4.cell? ⟨w.heap.size,2,none⟩=some (.int .u32 d):=eP bp.o;have aP:=ah c2;have aT:=ah c3;have aL:=ah c4;have cc:=ae.o.cell.2.2.1;have Q:=ae.o.cell.2.2.2.2.1;rw[da.o]at Q;have dE:=ah cc;have aq:=ah Q;have bM:=af (SN (ae.o.below (aJ _ _).drew).fM (aY _) (ae.o.below (aJ _ _).drew).rows x y d (al.length:Int) aa aa aa);have dW:=bT.o.size;refine ax (fun W=>∃p:aS w4,W=p.W) [11,12,13,14,15,16] [(0,false),(1,false),(2,false),(3,true),(4,true),(5,false),(6,false),(7,false),(8,true),(9,false),(10,false)] ⟨⟨_,(aJ _ _).drew⟩,rfl⟩ 6 ?_;refine aH 11 rfl fun K g=>?_;refine bf M6 rfl _ _ rfl (vals:=#[.pointer (some ⟨Cb,0,none⟩),Ux x y d al.length]) rfl bM.o ?_;rintro e f ⟨i,ew,R,O,Y,rfl,hi,P,cC,bx,⟨bI,-⟩,cK,cP,cB,cr,cO,cZ⟩;refine⟨_,rfl,?_⟩;refine g _ _ (fun _ h=>absurd ai h) ?_;clear g K aP aT aL dE aq cc Q c2 c3 c4;have bl:=af P;have bg:=af cC;have bj:=af cK;have b3:=af cP;have dv:=af cZ;have a2:ay (fun k=>k=Cb\/cv.ownBlock=some k) w4 f:=((ay.refl _ w4).drew).trans cr;have eq:=a2.size;have cf:=ae.o.PI a2 bx bI cO (cB.imp (fun h=>h) fun⟨b,e,ar⟩=>.inr ⟨b,e,ar⟩);have v:Hid (jb f (fun k=>X k\/w.heap.size<=k/\k<f.heap.size) Hb Cb mb R tv av lv O T al eY (A++[((x,y,d),(al.length:Int))]) (N+1) Y):=cf.more fun k hk=>by
  rcases hk with hk|⟨J,E⟩
  .exact .inl hk
  .refine .inr ⟨aa,?_⟩;rcases E with E|⟨q,aC,dV,a,dL,rfl⟩
   .exact(bx.row.lt k E).2
   .rcases(bI q aC).1 with h9|⟨b,off,d6,fr,aX,ar,-⟩
    .exact absurd h9 dV
    .rw[dL]at aX;injection aX with aX;rw[aX];exact(aZ.1 ar).1
 have bW:Hid (ay (fun k=>k=mb\/k=Cb\/cv.ownBlock=some k) w f):=(bT.o.mono fun k h=>.inl h).trans (a2.mono fun k h=>.inr h);clear P cC bx bI cK cP cB cr cO cZ a2 cf bM;refine ig (fun _=>True) [15,16] aM ?_;refine bz [(12,false),(13,false),(14,false)] trivial rfl ?_;refine aI [15,16] ?_
 go_wp2_with fail
 have eb:w.heap.size<=f.heap.size:=bW.o.size
 go_cut []from 49 to 67 (fun ad=>∃dz bJ:Value,Hid (jb ad (fun k=>X k\/w.heap.size<=k/\k<ad.heap.size) Hb Cb mb R tv dz bJ O T (al++[true]) (eY++[(i:Int)]) (A++[((x,y,d),(al.length:Int))]) (N+1) Y)/\Hid (bJ.ownBlock=lv.ownBlock\/∃b,bJ.ownBlock=some b/\w.heap.size<=b)/\Hid (ay (fun k=>k=Hb\/av.ownBlock=some k\/lv.ownBlock=some k) f ad))
 case first=>
  obtain⟨-,-,-,-,c5,c6,-⟩:=v.o.cell;have co:=v.o.lt;have cA:=v.o.blk;have a8:av.ownBlock≠some Hb:=v.o.zJ v.o.dK ai;have c1:lv.ownBlock≠some Hb:=v.o.zJ v.o.nz ai;have c0:∀c,av.ownBlock=some c->lv.ownBlock≠some c:=fun c e t=>bA v.o.dK v.o.nz ai c e t;have cX:∀c,av.ownBlock=some c->c<f.heap.size:=fun c e=>(v.o.dK.lt c e).2;have cY:∀c,lv.ownBlock=some c->c<f.heap.size:=fun c e=>(v.o.nz.lt c e).2;have aq:∀p:wH (fun k=>av.ownBlock=some k) f,p.W.cell? ⟨Hb,4,none⟩=some av:=fun p=>((cz p.h co a8).1 4).trans c5;have dF:∀p:wH (fun k=>av.ownBlock=some k) f,p.W.cell? ⟨Hb,5,none⟩=some lv:=fun p=>((cz p.h co a8).1 5).trans c6;have bd:=af v.o.dK;have dj:=af v.o.nz;have bY:=af a8;have b1:=af c1;have b0:=af c0;have b5:=af cX;have du:=af cY;have de:=af cA;have cF:=bn.o.Jm;clear a8 c1 c0 cX cY cA c5 c6;refine ax (fun W=>∃p:wH (fun k=>av.ownBlock=some k) f,W=p.W) [14,15,16,17,18,19,20] [(0,false),(1,false),(2,false),(3,false),(4,false),(5,true),(8,false),(9,false),(10,false),(11,true),(12,false)] ⟨⟨_,(ay.refl _ _).drew⟩,rfl⟩ 10 ?_;clear aq dF;have d3:ay (fun k=>av.ownBlock=some k) f f.drew:=(ay.refl _ _).drew;refine qp [6,13] aM aA ?_;have b7:ay (fun k=>av.ownBlock=some k) f (f.alloc (.cells #[.bool true] 4)).drew:=((ay.refl _ _).alloc _).drew;have b8:ay (fun k=>av.ownBlock=some k) f ((f.alloc (.cells #[.bool true] 4)).alloc (.cells #[.int .i64 (i:Int)] 3)).drew:=(((ay.refl _ _).alloc _).alloc _).drew;have b9:ay (fun k=>av.ownBlock=some k) f ((f.alloc (.cells #[.int .i64 (i:Int)] 3)).alloc (.cells #[.bool true] 4)).drew:=(((ay.refl _ _).alloc _).alloc _).drew;have dw:(f.alloc (.cells #[.bool true] 4)).drew.ownsRow 0 4 1 av al.length (al.map Value.bool):=aR (S:=fun _=>False) bd.o (((ay.refl _ _).alloc _).drew) (fun _ _ h=>h);have dx:((f.alloc (.cells #[.bool true] 4)).alloc (.cells #[.int .i64 (i:Int)] 3)).drew.ownsRow 0 4 1 av al.length (al.map Value.bool):=aR (S:=fun _=>False) bd.o ((((ay.refl _ _).alloc _).alloc _).drew) (fun _ _ h=>h);have dy:((f.alloc (.cells #[.int .i64 (i:Int)] 3)).alloc (.cells #[.bool true] 4)).drew.ownsRow 0 4 1 av al.length (al.map Value.bool):=aR (S:=fun _=>False) bd.o ((((ay.refl _ _).alloc _).alloc _).drew) (fun _ _ h=>h);refine fG.cons rfl (fun K g=>?_) (fG.cons rfl (fun K g=>?_) fG.nil);go_simp;refine g _ _ (fun _ _=>⟨⟨_,b7⟩,rfl⟩) ?_;clear g K;refine iU 7 13 rfl rfl (fun K g=>?_) (fun K g=>?_);refine bD yw 0 dw [.bool true] rfl (by simp[Value.oneCell']) rfl (.tmp 54) (.tmp 55) rfl rfl _ rfl (kY _ _) dJ aa (aY _) ?_;intro l H u2 ci r s cG;have au:av.ownBlock=some l\/f.heap.size<=l:=s.imp id fun e=>by rw[e];simp
  have aW:=b7.grown r (fun k e=>.inl e);refine g _ _ (fun _ _=>⟨⟨_,aW⟩,rfl⟩) ?_;clear g K s;refine aH 13 rfl fun K g=>?_;go_simp;refine g _ _ (fun _ _=>⟨⟨_,aW.alloc _⟩,rfl⟩) ?_;clear g K;have Z:=bV u2 (.cells #[.int .i64 (i:Int)] 3);have M:=aW.alloc (.cells #[.int .i64 (i:Int)] 3);have a0:=ci.alloc (.cells #[.int .i64 (i:Int)] 3);have cH:l<(u2.alloc (.cells #[.int .i64 (i:Int)] 3)).heap.size:=aG;clear r aW ci cG;generalize u2.alloc (.cells #[.int .i64 (i:Int)] 3)=u3 at*;generalize u2.heap.size=lb at*;clear u2
  rotate_left
  go_simp;refine g _ _ (fun _ _=>⟨⟨_,b8⟩,rfl⟩) ?_;clear g K;refine aH 7 rfl fun K g=>?_;refine bD yw 0 dx [.bool true] rfl (by simp[Value.oneCell']) rfl (.tmp 54) (.tmp 55) rfl rfl _ rfl (Dn _ _ _) dJ aa (aY _) ?_;intro l H u3 a0 r s cH;have au:av.ownBlock=some l\/f.heap.size<=l:=s.imp id fun e=>by rw[e];simp;omega
  have M:=b8.grown r (fun k e=>.inl e);refine g _ _ (fun _ _=>⟨⟨_,M⟩,rfl⟩) ?_;clear g K s;have Z:=(r.block (f.heap.size+1) aA (fun e=>by have:=b5.o _ e.symm;omega)).trans (Dp f (.cells #[.bool true] 4) (.cells #[.int .i64 (i:Int)] 3));clear r;obtain⟨lb,V⟩:∃lb,lb=f.heap.size+1:=⟨_,rfl⟩;rw[<-V]at Z;rw[<-V];clear V
  rotate_left
  go_simp;refine g _ _ (fun _ _=>⟨⟨_,((ay.refl _ _).alloc (.cells #[.int .i64 (i:Int)] 3)).drew⟩,rfl⟩) ?_;clear g K;refine aH 6 rfl fun K g=>?_;go_simp;refine g _ _ (fun _ _=>⟨⟨_,b9⟩,rfl⟩) ?_;clear g K;refine aH 7 rfl fun K g=>?_;refine bD yw 0 dy [.bool true] rfl (by simp[Value.oneCell']) rfl (.tmp 54) (.tmp 55) rfl rfl _ rfl (Dp _ _ _) dJ aa (aY _) ?_;intro l H u3 a0 r s cH;have au:av.ownBlock=some l\/f.heap.size<=l:=s.imp id fun e=>by rw[e];simp;omega
  have M:=b9.grown r (fun k e=>.inl e);refine g _ _ (fun _ _=>⟨⟨_,M⟩,rfl⟩) ?_;clear g K s;have Z:=(r.block f.heap.size aG (fun e=>by have:=b5.o _ e.symm;omega)).trans (Dn f (.cells #[.int .i64 (i:Int)] 3) (.cells #[.bool true] 4));clear r;obtain⟨lb,V⟩:∃lb,lb=f.heap.size:=⟨_,rfl⟩;rw[<-V]at Z;rw[<-V];clear V
  all_goals
   refine aH 14 rfl fun K g=>?_;refine bD nI 0 (aR dj.o M (fun c e t=>b0.o c t e)) [.int .i64 (i:Int)] rfl (by simp[Value.oneCell']) rfl (.tmp 60) (.tmp 62) rfl rfl _ rfl Z dJ aa (aY _) ?_;intro gl cl u4 ct r s eg;have bC:lv.ownBlock=some gl\/f.heap.size<=gl:=s.imp id fun e=>by rw[e];exact M.size
   have bo:ay (fun k=>av.ownBlock=some k\/lv.ownBlock=some k) f u4:=(M.mono fun k h=>.inl h).grown r (fun k e=>.inl (.inr e));refine g _ _ (fun _ h=>absurd ai h) ?_;have dG:=aR a0 ((ay.refl (fun k=>lv.ownBlock=some k) u3).grown r fun k e=>.inl e) (fun c e t=>by
    have I:l=c:=by injection e
    rcases au with h9|h9
    .exact b0.o l h9 (by rw[I];exact t)
    .have:=du.o c t;omega)
   have a3:=bq bo de.o (fun e=>e.elim (fun e=>bY.o e) (fun e=>b1.o e));have ex:u4.cell? ⟨Hb,4,none⟩=some av:=eP a3;have ey:u4.cell? ⟨Hb,5,none⟩=some lv:=eP a3;have d8:∀j,u4.frozen? ⟨Hb,j,none⟩=false:=fun j=>aF a3;clear g K s r Z M a0;refine aI [15,16,17,18,19,20] ?_
   go_wp2_with fail
   go_meet;have dT:l≠Hb:=fun e=>au.elim (fun h=>bY.o (by rw[h,e])) fun h=>aa;have dU:gl≠Hb:=fun e=>bC.elim (fun h=>b1.o (by rw[h,e])) fun h=>aa;have dW:=bo.size;have dN:(u4.setCell ⟨Hb,4,none⟩ (.slice (some ⟨l,0,none⟩) (al.length+1) H)).heap[Hb]? =some (Obj.cells (vW Cb mb tv (.slice (some ⟨l,0,none⟩) (al.length+1) H) lv) q9 (0,0)):=by
    rw[di u4 Hb 4 _ _ _ a3];rfl
   have dO:((u4.setCell ⟨Hb,4,none⟩ (.slice (some ⟨l,0,none⟩) (al.length+1) H)).setCell ⟨Hb,5,none⟩ (.slice (some ⟨gl,0,none⟩) (al.length+1) cl)).heap[Hb]? =some (Obj.cells (vW Cb mb tv (.slice (some ⟨l,0,none⟩) (al.length+1) H) (.slice (some ⟨gl,0,none⟩) (al.length+1) cl)) q9 (0,0)):=by
    rw[di _ Hb 5 _ _ _ dN];rfl
   have b6:ay (fun k=>k=Hb\/av.ownBlock=some k\/lv.ownBlock=some k) f ((u4.setCell ⟨Hb,4,none⟩ (.slice (some ⟨l,0,none⟩) (al.length+1) H)).setCell ⟨Hb,5,none⟩ (.slice (some ⟨gl,0,none⟩) (al.length+1) cl)):=((bo.mono fun k h=>.inr h).set (a:=⟨Hb,4,none⟩) _ (.inl (.inl rfl))).set (a:=⟨Hb,5,none⟩) _ (.inl (.inl rfl));have ca:ay (fun k=>k=Hb) u4 ((u4.setCell ⟨Hb,4,none⟩ (.slice (some ⟨l,0,none⟩) (al.length+1) H)).setCell ⟨Hb,5,none⟩ (.slice (some ⟨gl,0,none⟩) (al.length+1) cl)):=((ay.refl (fun k=>k=Hb) u4).set (a:=⟨Hb,4,none⟩) _ (.inl rfl)).set (a:=⟨Hb,5,none⟩) _ (.inl rfl);rw[cF]at ct;have c7:=aR dG ca (fun c e t=>dT (by have I:l=c:=(by injection e);rw[I];exact t));have c8:=aR ct ca (fun c e t=>dU (by have I:gl=c:=(by injection e);rw[I];exact t));refine⟨_,_,(v.o.TV (al':=al++[true]) (lev':=eY++[(i:Int)]) b6 dO (by rw[bQ,bL];exact c7) (by rw[bQ,bL,cF];exact c8)).more (fun k hk=>?_),bC.elim (fun h=>.inl h.symm) (fun h=>.inr ⟨gl,rfl,aa⟩),b6⟩;have et:((u4.setCell ⟨Hb,4,none⟩ (.slice (some ⟨l,0,none⟩) (al.length+1) H)).setCell ⟨Hb,5,none⟩ (.slice (some ⟨gl,0,none⟩) (al.length+1) cl)).heap.size=u4.heap.size:=aA;rcases hk with(hk|hk)|hk|hk
   .exact .inl hk
   .exact .inr ⟨hk.1,aa⟩
   .have I:l=k:=by injection hk
    have cg:=(c7.lt l rfl).2;rcases au with h9|h9
    .exact .inl (I▸u.o.jh.2.2.2.2.2.1 l h9)
    .exact .inr ⟨aa,aa⟩
   .have I:gl=k:=by injection hk
    have cg:=(c8.lt gl rfl).2;rcases bC with h9|h9
    .exact .inl (I▸u.o.jh.2.2.2.2.2.2 gl h9)
    .exact .inr ⟨aa,aa⟩
 case rest=>
  obtain⟨ao,aK,bc,dh,bi⟩:=hcut;obtain⟨w6,dC⟩:∃w6:World,w6=wc:=⟨_,rfl⟩;subst dC;have er:=bi.o.size;have b2:=af (aR b3.o bi.o (fun c e h=>by
   have J:w4.heap.size<=c:=(b3.o.lt c e).1;have E:=u.o.lt;rcases h with h|h|h
   .omega
   .have:=(u.o.dK.lt c h).2;omega
   .have:=(u.o.nz.lt c h).2;omega))
  obtain⟨eu,tc,bu,-,-,-⟩:=Rd.aD (enc:=vTr) bc.o.jC;have d2:=af bu;have br:=bc.o.cell.2.2.2.1;rw[bu]at br;clear bu;obtain⟨C,cL,dR,ek⟩:∃C:Nat,C=min i T.length/\C<=T.length/\min (i:Int) (T.length:Int)=(C:Int):=⟨min i T.length,rfl,aa,aa⟩;have dl:=af cL;clear cL;have df:Hid (jb w6 (fun k=>X k\/w.heap.size<=k/\k<w6.heap.size) Hb Cb mb R tv ao aK O (vX T 0) (al++[true]) (eY++[(i:Int)]) (A++[((x,y,d),(al.length:Int))]) (N+1) Y):=by rw[M7];exact bc.o
  have dt:Hid (∀c,tv.ownBlock=some c->c<w.heap.size):=fun c e=>(u.o.jC.lt c e).2
  go_upto_block 0 with fail
  go_cut [11,75]from 76 to 85 (fun bv a7 ad=>Hid (jb ad (fun k=>X k\/w.heap.size<=k/\k<w6.heap.size) Hb Cb mb R tv ao aK O (vX T C) (al++[true]) (eY++[(i:Int)]) (A++[((x,y,d),(al.length:Int))]) (N+1) Y)/\Hid (ay (fun k=>tv.ownBlock=some k) w6 ad))
  case first=>
   go_wp2_with fail
   go_loopw [75] (fun a7 wr=>∃n:Nat,a7=.int .i64 n/\n<=C/\Hid (jb wr (fun k=>X k\/w.heap.size<=k/\k<w6.heap.size) Hb Cb mb R tv ao aK O (vX T n) (al++[true]) (eY++[(i:Int)]) (A++[((x,y,d),(al.length:Int))]) (N+1) Y)/\Hid (ay (fun k=>tv.ownBlock=some k) w6 wr)) (fun a7 _=>C-(intOf a7).toNat)
   case atStart=>exact⟨0,rfl,aY _,df,ay.refl _ _⟩
   case round=>
    obtain⟨n,rfl,el,ag,bR⟩:=hrel;by_cases cG:n<C
    .have dQ:=CE (T:=T) (n:=n) aa;obtain⟨ce,ev,ab,-,ef,-,-⟩:=aU ag.o.jC aa;have aE:=ag.o.jC;rw[dQ]at ab aE;rw[ab]at aE;have d1:=aE.cellAt n aa;rw[bZ (by rw[bU];omega)]at d1;have d7:=aE.frozenAt n;have dr:Hid (jb (wr.setCell ⟨ce,n,none⟩ (vTr none)) (fun k=>X k\/w.heap.size<=k/\k<w6.heap.size) Hb Cb mb R tv ao aK O (vX T (n+1)) (al++[true]) (eY++[(i:Int)]) (A++[((x,y,d),(al.length:Int))]) (N+1) Y):=by
      have J:=ag.o;rw[ab]at J |-;rw[<-PO aa];exact J.U0 n none
     have aj:Hid (ay (fun k=>tv.ownBlock=some k) w6 (wr.setCell ⟨ce,n,none⟩ (vTr none))):=bR.o.set _ (.inl (by rw[ab];rfl));have br:=ag.o.cell.2.2.2.1;rw[ab]at br;have em:(n:Int)<(T.length:Int):=aa;have en:(n:Int)<(C:Int):=aa;clear ab aE;go_wp2;go_roundw
     case rel=>exact⟨n+1,by go_num,aa,dr,aj⟩
     case measure=>exact eO
    .obtain rfl:n=C:=aa;have ee:¬(n:Int)<(n:Int):=aa
     go_wp2_with fail
     go_meet;exact⟨ag,bR⟩
  case rest=>
   obtain⟨db,aj⟩:=hcut;obtain⟨a9,dD⟩:∃a9:World,a9=wc:=⟨_,rfl⟩;subst dD;have es:=aj.o.size;have dq:=af (aR b2.o aj.o (fun c e h=>by
    have J:w4.heap.size<=c:=(b2.o.lt c e).1;have:=dt.o c h;omega))
   obtain⟨dY,dZ,rfl,-,-,cU⟩:=LH.aD dq.o;have U:=L.o.add dS (x,y,d) a6 dp.o aa i (aQ hi) (fun j B aw=>by rw[fO];exact bl.o j (aQ B) aw) (fun B=>by rw[fO];exact bg.o (aQ B));have bE:i<(ky (ch.map (·.2.1)) i ((x,y,d),(al.length:Int))).length:=by rw[o7 _ _ _ (aQ hi)];split<;>omega
   have cE:(ky (ch.map (·.2.1)) i ((x,y,d),(al.length:Int)))[i]=eT (ch.map (·.2.1)) i++[((x,y,d),(al.length:Int))]:=by rw[o8,aN aa,aO rfl]
   have s:=U.bk i bE;have cD:=U.few i bE;rw[cE]at s cD;have dc:=af U;have dI:∀k,(X k\/w.heap.size<=k/\k<w6.heap.size)->k<a9.heap.size:=fun k hk=>by
    rcases hk with hk|hk
    .have:=(ak.o k hk).1;omega
    .omega
   have bN:=af (K3 db.o dY dZ (eT (ch.map (·.2.1)) i++[((x,y,d),(al.length:Int))]) i cU aa (by rw[CE aa];omega) cD s.2.2 (by simp[bn.o.Jm]) aG s.1 s.2.1 dI);have eo:0<(eT (ch.map (·.2.1)) i++[((x,y,d),(al.length:Int))]).length:=aA;generalize cp:eT (ch.map (·.2.1)) i++[((x,y,d),(al.length:Int))]=am at*;have bh:=af cp;clear U cE s cp cU bE
   go_wp2_with fail
   refine bN.o.mono ?_;rintro e d0 ⟨rfl,tv',tb,bK,Fn,cw,cj,cn,cJ,-,cq⟩;have ds:=af cw;have dd:=af cj;have bP:=af cn;have dk:=af cJ;have bS:=af cq;clear cw cj cn cJ cq bN;go_wp2;go_ret2;have a1:=congrArg List.length bh.o;rw[bQ,Ao]at a1;have ep:=bS.o.size;obtain⟨eh,ei⟩:=dk.o;have cM:w.heap.size<=bK:=aa;have cs:ay (fun k=>k=Hb\/k=Cb\/k=mb\/cv.ownBlock=some k\/tv.ownBlock=some k\/av.ownBlock=some k\/lv.ownBlock=some k) w d0:=by
    refine ay.strip ((((bW.o.mono fun k h=>?_).trans (bi.o.mono fun k h=>?_)).trans (aj.o.mono fun k h=>?_)).trans (bS.o.mono fun k h=>?_))
    .rcases h with h|h|h
     .exact .inl (.inr (.inr (.inl h)))
     .exact .inl (.inr (.inl h))
     .exact .inl (.inr (.inr (.inr (.inl h))))
    .rcases h with h|h|h
     .exact .inl (.inl h)
     .exact .inl (.inr (.inr (.inr (.inr (.inr (.inl h))))))
     .exact .inl (.inr (.inr (.inr (.inr (.inr (.inr h))))))
    .exact .inl (.inr (.inr (.inr (.inr (.inl h)))))
    .rcases h with h|h|h
     .exact .inl (.inl h)
     .exact .inl (.inr (.inr (.inr (.inr (.inl h)))))
     .rcases dh.o with h9|⟨b,h9,cg⟩
      .exact .inl (.inr (.inr (.inr (.inr (.inr (.inr (h9.symm.trans h)))))))
      .rw[h9]at h;injection h with h;exact .inr aa
   have cV:=(bm.o.kept cs (u.o.U4 bm.o)).step (X':=fun k=>(X k\/w.heap.size<=k/\k<w6.heap.size)\/a9.heap.size<=k/\k<bK) (i:=i) (m0:=w.heap.size) (m:=bK) (CB':=ky (ch.map (·.2.1)) i ((x,y,d),(al.length:Int))) (T':=zT (vX T C) i tb) dd.o (by unfold sJ;rw[bU];exact gD _ _) (fun j B P=>by
     rw[o8]at P |-;by_cases J:j<i
     .rw[aO J]at P;exact absurd rfl P
     .rw[aN J]at P |-;by_cases E:j=i
      .left;rw[aO E,E];exact⟨rfl,bh.o⟩
      .right;rw[aN E]at P |-;have bF:j<(ch.map (·.2.1)).length:=by rw[o7 _ _ _ (aQ hi)]at B;split at B<;>omega
       rw[jc,bZ bF,gI];refine⟨E,bF,rfl,fun q aC=>K4 E (by rw[PQ (by have:=dl.o;omega)];exact aC),?_⟩;unfold sJ;rw[KG L.o true fun q aC=>L.o.inl bF aC]) Ht (fun k hk=>by
     rcases hk with(hk|hk)|hk
     .exact .inl hk
     .exact .inr ⟨hk.1,aa⟩
     .exact .inr ⟨aa,hk.2⟩) bP.o (fun j k hk=>bm.o.lt j k hk) (fun k hk=>bX (ak.o k hk).1 cM) cM
   have cI:=bn.o.add L.o (x,y,d) i (aQ hi);rw[bh.o,<-bj.o]at cI;rw[<-bj.o]at cV;have cS:=b4.o.add L.o.Jn.1 (bB (zK L.o) dM) i (aQ hi) L.o.size (fun j B aw=>by rw[fO];exact bl.o j (aQ B) aw) (fun B=>by rw[fO];exact bg.o (aQ B)) ((x,y,d),(al.length:Int));have U:=dc.o;rw[<-bj.o]at U cS;have cT:K5 (O.map (·.2.1)) (A.length+1) (wk+(am.length:Int)) (m+1):=by
    rw[<-a1];exact cS
   have dX:Y=wk+(am.length:Int):=(dv.o.trans (congrArg (fun z=>wrap64 (wk+z)) (show _=(am.length:Int) by rw[<-a1];rfl))).trans (IntWalk.wrap64_in _ (by have J:=cT.bound aa;have E:=b4.o.1;omega));have cy:=L.o.Wu i (aQ hi) (fun j B aw=>by rw[fO];exact bl.o j (aQ B) aw) (fun B=>by rw[fO];exact bg.o (aQ B));rw[a1]at cy;refine⟨am.length,al.length,cy,rfl,⟨_,_,Cb,mb,R,tv',ao,aK,O,zT (vX T C) i tb,al++[true],iq (eY++[(i:Int)]) am i,?_,U,cI,cV,?_,Hu (by rw[CE dR];exact dH) aa,fun k hk=>?_,?_,aG,?_⟩,cs.mono ?_⟩
   .rw[<-dX];exact ds.o
   .rw[bQ,Ao];omega
   .rcases hk with(hk|hk)|hk
    .exact⟨by have:=(ak.o k hk).1;omega,.inl (ak.o k hk).2⟩
    .exact⟨aa,.inr hk.1⟩
    .exact⟨aa,.inr aa⟩
   .rintro j k (⟨-,hk⟩|⟨-,hk⟩)
    .have:=bP.o k hk;exact .inr aa
    .exact .inl (dg.o j k hk)
   .rw[bQ,Ao];exact cT
   .have r:∀k,X k->G k:=fun k hk=>(ak.o k hk).2;rintro k (rfl|rfl|rfl|h|h|h|h)
    .exact r _ u.o.jh.1
    .exact r _ u.o.jh.2.1
    .exact r _ u.o.jh.2.2.1
    .exact r _ (u.o.jh.2.2.2.1 k h)
    .exact r _ (u.o.jh.2.2.2.2.1 k h)
    .exact r _ (u.o.jh.2.2.2.2.2.1 k h)
    .exact r _ (u.o.jh.2.2.2.2.2.2 k h)
end
end
section
open Go.RowKit Go.Sort Go.Shelf Go.Lib Go.Maps
attribute [local irreducible] wpQuiet
section
variable {w w':World} {S G:Nat->Prop} {Hb m:Nat} {A:List eU} {N wk:Int}
theorem jI.kept (h:jI w Hb G m A N wk) (K:ay S w w') (hS:∀k,G k->¬S k):jI w' Hb G m A N wk:=by
 have⟨X,F,Cb,mb,cv,tv,av,lv,ch,T,al,eY,d,e,f,g,j,l,b,c,n⟩:=h;exact⟨X,F,Cb,mb,cv,tv,av,lv,ch,T,al,eY,d.kept K fun k a=>hS k (b k a).2,e,f,g.kept K fun i k a=>hS k (c i k a),j,l,fun k a=>⟨bX (b k a).1 K.size,(b k a).2⟩,c,n⟩
theorem jI.facts (h:jI w Hb G m A N wk):(A.length:Int)<=N/\N<=2*A.length/\N<=m/\(ids (A.map (·.1))).Nodup/\(∀c∈A,BB c.1)/\0<=wk/\(∀L,m<2^L->wk<=(L*m:Nat))/\Hb<w.heap.size/\G Hb:=by
 have⟨X,F,Cb,mb,cv,tv,av,lv,ch,T,al,eY,b,a,n,o,e,p,f,q,r,d⟩:=h;have j:=a.stored;have k:=a.Jn.1;have l:=zK a;refine⟨aa,e,aa,a.keys,fun c i=>a.good c (bG.1 (a.live.mem_iff.1 i)).1,d.1,fun L g=>?_,b.lt,(f _ b.jh.1).2⟩;have:=d.2 L g;omega
theorem PR (h:jI w Hb G m A N wk):aK 87 #[aj Hb] w (gm w (ae N)):=by
 have⟨X,F,Cb,mb,cv,tv,av,lv,ch,T,al,eY,a,b⟩:=h;exact MZ a
structure nA (w:World) (G:Nat->Prop) (F:Nat->Nat->Prop) (B:List (Nat×Nat×List Pt)):Prop where
 bk:∀(i:Nat) (h:i<B.length),Bk w (F i) B[i].1 B[i].2.1 B[i].2.2
 U7:∀i k,F i k->G k
 ap:∀i j k,F i k->F j k->i=j
def iN (B:List (Nat×Nat×List Pt)):List Pt:=B.flatMap fun b=>b.2.2
theorem nA.kept {F:Nat->Nat->Prop} {B:List (Nat×Nat×List Pt)} (h:nA w G F B) (K:ay S w w') (hS:∀k,G k->¬S k):nA w' G F B:=⟨fun i hi=>(h.bk i hi).kept K fun k a=>hS k (h.U7 i k a),h.U7,h.ap⟩
theorem U8 (w:World):aK 51 #[zf,D5] w fun e w'=>e=.returned (aj (w.heap.size+2))/\jI w' (w.heap.size+2) (fun k=>w.heap.size<=k) 0 [] 0 0/\Below w.heap.size w w':=by
 have m:=@run_makeMap prog;have n:∀w,(binOp .eql 107 zf .nilFunc).run prog w=.ok (.bool false) w:=fun w=>by
  have h:∀d:Nat,(Op.equalIn (d+1) 107 zf .nilFunc).run prog w=.ok false w:=fun d=>by simp[Op.equalIn,pQ underlying107]
  simp only[binOp];simp[Op.equal,Op.maxDepth,h 9999]
 have o:∀w,(binOp .eql 108 D5 .nilFunc).run prog w=.ok (.bool false) w:=fun w=>by
  have h:∀d:Nat,(Op.equalIn (d+1) 108 D5 .nilFunc).run prog w=.ok false w:=fun d=>by simp[Op.equalIn,pQ underlying108]
  simp only[binOp];simp[Op.equal,Op.maxDepth,h 9999]
 go_enter func51,ntmps51;go_wp2;go_ret;have j:(w.alloc (.cells #[.bool true,aL,ae 0,ae 0] 278)).heap.size=w.heap.size+1:=aA;have l:((w.alloc (.cells #[.bool true,aL,ae 0,ae 0] 278)).alloc (.map #[] 0)).heap.size=w.heap.size+2:=aA;have f:=bV w (.cells #[.bool true,aL,ae 0,ae 0] 278);have m1:lD ((w.alloc (.cells #[.bool true,aL,ae 0,ae 0] 278)).alloc (.map #[] 0)) (w.heap.size+1) []:=by
  rw[<-j];exact⟨.map [],xU _ _ _ _,su.empty⟩
 have c:Below w.heap.size w (((w.alloc (.cells #[.bool true,aL,ae 0,ae 0] 278)).alloc (.map #[] 0)).alloc (.cells (vW w.heap.size (w.heap.size+1) (aL) (aL) (aL)) q9)):=(((aJ _ _).alloc (aB _) _).alloc aA _).alloc aG _;have b:=bV ((w.alloc (.cells #[.bool true,aL,ae 0,ae 0] 278)).alloc (.map #[] 0)) (.cells (vW w.heap.size (w.heap.size+1) (aL) (aL) (aL)) q9);rw[l]at b;refine⟨rfl,⟨fun k=>w.heap.size<=k/\k<w.heap.size+3,fun _ _=>False,w.heap.size,w.heap.size+1,aL,aL,aL,aL,[],[],[],[],⟨b,⟨aY _,Vu,(bR _ _ _ aG).trans ((bR _ _ _ aA).trans f),dA _ _ _ _⟩,fun h a=>absurd a iC,dA _ _ _ _,dA _ _ _ _,dA _ _ _ _,m1.same (bR _ _ _ aA),⟨aa,aa,aa,(fun k e=>by cases e),(fun k e=>by cases e),(fun k e=>by cases e),(fun k e=>by cases e)⟩,fun h a=>absurd a iC⟩,Tp,Tq,⟨fun i h=>absurd h (kC _),fun _ _ h=>h.elim,fun _ _ _ h=>h.elim,fun _ _ h=>h.elim⟩,aA,aA,fun k g=>⟨aG,g.1⟩,fun _ _ h=>h.elim,aB _,RH⟩,c⟩
end
end
section
open Go.RowKit Go.Sort Go.Shelf Go.Lib Go.Maps
theorem sP {α b:Type} (p:α->Bool) (f:α->List b):∀(l:List α),(∀x∈l,p x=false->f x=[])->(l.filter p).flatMap f=l.flatMap f
 |[],_=>rfl
 |x::l,h=>by
  have ih:=sP p f l fun y a=>h y (kW _ a);rw[l5,lZ];cases hp:p x with
  |true=>rw[aO rfl,lZ,ih]
  |false=>rw[aN aA,h x nV hp,fP,ih]
theorem PS {CB:List (List eU)} {i:Nat} (h:i∈dV CB 0):∃hi:i<CB.length,CB[i]≠[]:=by
 unfold dV at h;have⟨b,a⟩:=bG.1 h;have hi:i<CB.length:=aQ b;rw[jc,bZ hi,gI]at a;exact⟨hi,fun e=>by rw[e]at a;cases a⟩
theorem M8 {CB:List (List eU)} {i:Nat} (hi:i<CB.length) (h:CB[i]≠[]):i∈dV CB 0:=by
 unfold dV;refine bG.2 ⟨aQ hi,?_⟩;rw[jc,bZ hi,gI];cases e:CB[i]with
 |nil=>exact absurd e h
 |cons=>rfl
theorem JY (CB:List (List eU)):(dV CB 0).Nodup:=by
 unfold dV;refine lV _ ?_;rw[kD];exact(uQ _).nodup_iff.2 List.nodup_range
theorem PT (CB:List (List eU)):((dV CB 0).flatMap fun i=>CB.getD i []).Perm CB.flatten:=by
 unfold dV;rw[sP _ _ _ fun i _ hi=>aQ hi,kD];refine((uQ _).flatMap_right _).trans (List.Perm.of_eq ?_);rw[AY];congr 1;refine rG aA fun i b a=>?_;rw[fO,xS,jc,bZ a,gI]
section
variable {w w':World} {S G:Nat->Prop} {Hb m:Nat} {A:List eU} {N wk:Int}
def Sn (b:Nat×Nat×List Pt):Value:=aj b.1
def U9 (w:World) (Hb:Nat) (G:Nat->Prop) (m:Nat) (A:List eU) (N wk:Int) (e:Ending) (w':World):Prop:=
 ∃(v:Value) (B:List (Nat×Nat×List Pt)) (F:Nat->Nat->Prop),e=.returned v/\w'.ownsRow w.heap.size 106 1 v B.length (B.map Sn)/\Below w.heap.size w w'/\nA w' G F B/\(iN B).Perm (A.map (·.1))/\(B.length≠0->2^(B.length-1)<=N)/\(∀b∈B,(b.2.1:Int)<=N/\b.2.1<=20000)/\B.length<=13/\
  ∀w2 F2 (G2:Nat->Prop),ay (fun k=>∃i,F i k) w' w2->nA w2 G2 F2 B->(∀k,G k->G2 k)->(∀i k,F2 i k->F i k\/w'.heap.size<=k)->jI w2 Hb G2 m A N wk
theorem K7 (h:jI w Hb G m A N wk):aK 61 #[aj Hb] w (U9 w Hb G m A N wk):=by
 have⟨X,F,Cb,mb,cv,tv,av,lv,ch,T,al,eY,E,r,ac,ht,W,P,B,hF,R,Z⟩:=h;have Q:∀(i:Nat) (hi:i<(ch.map (·.2.1)).length),(ch.map (·.2.1))[i]≠[]->i<T.length:=fun i hi C=>by
  obtain⟨tb,n0,h1,-⟩:=ht.tr i hi C;exact(fq.1 h1).1
 refine(PK E r Q).mono ?_;rintro e w' ⟨v,rfl,Y,u⟩;have V:=r.levels;have ak:=r.stored;have U:=r.live;generalize t:ch.map (·.2.1)=CB at*;have g:∀i:Nat,∃b:Nat×Nat×List Pt,i∈dV CB 0->T[i]? =some (some b.1)/\(b.2.1:Int)<=N/\b.2.1<=20000/\b.2.2=sJ al (CB.getD i [])/\Bk w (F i) b.1 b.2.1 b.2.2/\b.2.1<=(CB.getD i []).length:=fun i=>by
  by_cases hi:i∈dV CB 0
  .obtain⟨h1,c⟩:=PS hi;have⟨tb,n0,d,o,J⟩:=ht.tr i h1 c;have ae:CB[i].length<=CB.flatten.length:=(Ef (bF h1)).length_le;exact⟨(tb,n0,sJ al CB[i]),fun _=>⟨d,by show(n0:Int)<=N;omega,by show n0<=20000;omega,by rw[jc,bZ h1,gI],J,by rw[jc,bZ h1,gI];exact o⟩⟩
  .exact⟨(0,0,[]),fun h=>absurd h hi⟩
 have⟨f,g⟩:=Classical.axiomOfChoice g;have L:(dV CB 0).map (Sm T)=((dV CB 0).map f).map Sn:=by
  rw[vz];refine Et fun i hi=>?_;unfold Sm;rw[jc,(g i hi).1];rfl
 have D:=JY CB;refine⟨v,(dV CB 0).map f,fun p k=>∃hp:p<(dV CB 0).length,F (dV CB 0)[p] k,rfl,?_,u,⟨fun p hp=>?_,fun p k a=>hF _ k a.2,fun p q k hp x=>?_⟩,?_,fun I=>?_,?_,?_,?_⟩
 .rw[<-L,bU];exact Y
 .rw[bU]at hp;rw[fO];have:(fun k=>∃hp:p<(dV CB 0).length,F (dV CB 0)[p] k)=F (dV CB 0)[p]:=by funext k;simp[hp]
  rw[this];exact((g _ (bF hp)).2.2.2.2.1).below u
 .obtain⟨h1,c⟩:=hp;have⟨d,o⟩:=x;exact(List.getElem_inj D).1 (ht.ap _ _ k c o)
 .have l:iN ((dV CB 0).map f)=(((dV CB 0).flatMap fun i=>CB.getD i []).filter (cO al)).map (·.1):=by
   unfold iN;rw[List.flatMap_map,List.filter_flatMap,List.map_flatMap];rw[AY,AY];congr 1;exact Et fun i hi=>(g i hi).2.2.2.1
  rw[l];exact(((PT CB).filter _).trans U.symm).map _
 .rw[bU]at I |-;have h1:=zg CB 0;have c:=V.2.2.2 aa;have d:=Aq (n:=2) ai (show(dV CB 0).length-1<=CB.length-1 by omega);have o:((2:Int)^((dV CB 0).length-1))=((2^((dV CB 0).length-1):Nat):Int):=aA;rw[o];omega
 .intro b S;obtain⟨i,hi,rfl⟩:=dm.1 S;exact⟨(g i hi).2.1,(g i hi).2.2.1⟩
 .rw[bU];have h1:=zg CB 0;omega
 .intro w2 y ad K s O M;have ag:=u.size;have ah:=K.size;have ab:nR w2 (fun i k=>∃p,∃hp:p<(dV CB 0).length,(dV CB 0)[p]=i/\y p k) X CB T al:=by
   refine⟨fun i hi C=>?_,?_,?_,?_⟩
   .obtain⟨p,hp,rfl⟩:=jk (M8 hi C);have h1:=g _ (bF hp);have c:=s.bk p (by rw[bU];exact hp);rw[fO]at c;refine⟨_,(f (dV CB 0)[p]).2.1,h1.1,?_,?_⟩
    .have d:=h1.2.2.2.2.2;rwa [jc,bZ hi,gI]at d
    .have e:(fun k=>∃q,∃x:q<(dV CB 0).length,(dV CB 0)[q]=(dV CB 0)[p]/\y q k)=y p:=by
      funext k;refine propext ⟨?_,fun h=>⟨p,hp,rfl,h⟩⟩;rintro⟨q,x,l,z⟩;rw[<-(List.getElem_inj D).1 l];exact z
     have d:=h1.2.2.2.1;rw[jc,bZ hi,gI]at d;rw[e,<-d];exact c
   .rintro i k ⟨p,hp,-,a⟩ H;rcases M p k a with⟨af,h1⟩|h1
    .exact ht.off _ k h1 H
    .have:=(B k H).1;omega
   .rintro i j k ⟨p,hp,l,h1⟩ ⟨q,x,z,c⟩;have:=s.ap p q k h1 c;subst this;rw[<-l,<-z]
   .rintro i k ⟨p,hp,-,a⟩;exact(s.bk p (by rw[bU];exact hp)).lt k a
  exact⟨X,_,Cb,mb,cv,tv,av,lv,ch,T,al,eY,(E.below u).kept K (fun k a h=>by obtain⟨p,hp,h1⟩:=h;exact ht.off _ k h1 a),by rw[t];exact r,by rw[t];exact ac,by rw[t];exact ab,W,P,fun k a=>⟨by have:=(B k a).1;omega,O k (B k a).2⟩,(fun i k h=>by obtain⟨p,hp,-,a⟩:=h;exact s.U7 p k a),R,by rw[t];exact Z⟩
end
end
section
open Go.RowKit Go.Sort Go.Shelf Go.Lib Go.Maps
attribute [local irreducible] wpQuiet
theorem TY (b off:Nat) (x y:Int) (w:World) (a:w.cell? (ag b off)=some (ae x)) (c:w.frozen? (ag b off)=false):
  aK 151 #[.pointer (some (ag b off)),ae y] w fun e w'=>e=.returned (ae (wrap64 (x+y)))/\w'=w.setCell (ag b off) (.int .i64 (wrap64 (x+y))):=by
 have d:=run_call_add (P:=prog) func227 aM aM aM .i64 aM (y:=y) (s:=wrap64 (x+y)) a c (by rw[<-IntWalk.i64_left];simp[go_sem];try rfl);go_enter func151,ntmps151;go_wp2;go_ret;exact⟨rfl,rfl⟩
abbrev xB:TypeId:=74
section
variable {w:World} {Pb Hb:Nat} {dv av:Value} {fD:Int} {GH:Nat->Prop} {m:Nat} {A:List eU} {N wk:Int}
theorem mo (a:w.heap[Pb]? =some (Obj.cells #[aj Hb,dv,av,ae fD] xB (0,0))):aK 55 #[aj Pb] w fun e w'=>e=.returned (.bool false)/\w'=w:=by
 have b:w.cell? (ag Pb 0)=some (aj Hb):=aF a;go_enter func55,ntmps55;go_wp2;go_ret;exact⟨rfl,rfl⟩
def SumB (bd:Nat->Nat->Prop):Nat->Nat->Prop
 |0,n=>n=0
 |i+1,n=>∃n' t,SumB bd i n'/\bd i t/\n=n'+t
theorem SumB.le {bd:Nat->Nat->Prop} {b:Nat} (h:∀i t,bd i t->t<=b):∀{i n:Nat},SumB bd i n->n<=i*b
 |0,n,a=>by simp[SumB]at a;omega
 |i+1,n,a=>by
  obtain⟨n',t,c,d,rfl⟩:=a;have e:=SumB.le h c;have f:=h i t d;rw[Nat.succ_mul];omega
def VS (fn:FuncId) (cs:Array Value) (Sx:Nat->Prop) (Q:List (Nat×Nat×List Pt)->Nat->World->Prop) (w1:World) (B:List (Nat×Nat×List Pt)):Prop:=
 ∃(I:Nat->Nat->World->Prop),I 0 0 w1/\(∀i n u,I i n u->ay Sx w1 u)/\(∀i n u,I i n u->n<=i*1000000)/\(∀i n (hi:i<B.length) u,I i n u->aK fn (#[aj (B[i].1)]++cs) u fun e u'=>∃c:Nat,e=.returned (ae c)/\I (i+1) (n+c) u')/\∀n u,I B.length n u->Q B n u
def Va (w:World) (Pb:Nat) (fD:Int) (Sx:Nat->Prop) (Q:List (Nat×Nat×List Pt)->Nat->World->Prop) (e:Ending) (w':World):Prop:=
 ∃(B:List (Nat×Nat×List Pt)) (xm:Nat) (u:World),e=.returned (ae xm)/\Q B xm u/\ay Sx w u/\w'=u.setCell (ag Pb 3) (.int .i64 (wrap64 (fD+xm)))
theorem FE {fn:FuncId} {cs:Array Value} {Sx:Nat->Prop} {Q:List (Nat×Nat×List Pt)->Nat->World->Prop} (aC:∀args w,(callFunc fn args).run prog w=.ok (.enter fn args) w) (f:w.heap[Pb]? =some (Obj.cells #[aj Hb,dv,av,ae fD] xB (0,0))) (h:jI w Hb GH m A N wk) (L:∀k,Sx k->k≠Pb/\k<w.heap.size)
  (O:∀w1 B F,Below w.heap.size w w1->nA w1 GH F B->(iN B).Perm (A.map (·.1))->(B.length≠0->(2:Int)^(B.length-1)<=N)->(∀b∈B,(b.2.1:Int)<=N/\b.2.1<=20000)->B.length<=13->VS fn cs Sx Q w1 B):
  aK 69 #[aj Pb,.func (.func fn) #[] cs] w (Va w Pb fD Sx Q):=by
 have x:=af (mo f);have y:=af (K7 h);have ao:w.cell? (ag Pb 0)=some (aj Hb):=aF f;have ac:=af O;have D:=af L;have ad:=af f;clear O L f h;go_enter func69,ntmps69
 go_wp2_with (go_at_call 55;refine x.o.mono ?_;rintro e w1 ⟨rfl,E⟩;have ar:=E.symm;clear E;subst ar)
 refine y.o.mono ?_;rintro e w1 ⟨v,B,F,rfl,s,r,M,Y,V,X,au,-⟩;obtain⟨an,H,I,R,P,T⟩:=ac.o w1 B F r M Y V X au;obtain⟨aO,aQ,rfl,-,-,-⟩:=Rd.aD (enc:=Sn) s;have C:=af s;have a:=af r;have am:=af I;have ah:=af P;have ai:=af T;have z:=af R;have ak:=af H;clear s r I P T H M Y V X R y x ao
 go_wp2_with fail
 go_loopw [16,5] (fun t ax wr=>∃i n:Nat,t=.int .i64 i/\ax=.int .i64 n/\i<=B.length/\Hid (an i n wr)) (fun t _ _=>B.length-(intOf t).toNat)
 case atStart=>exact⟨0,0,rfl,rfl,aY _,ak⟩
 case round=>
  obtain⟨i,n,rfl,rfl,hi,d⟩:=hrel;have K:=af (am.o i n wr d.o);have J:Hid (ay Sx w wr):=⟨K.o.os.trans a.o.os,K.o.tape.trans a.o.tape,K.o.output.trans a.o.output,bB a.o.size K.o.size,fun k U aw=>(K.o.block k (bX U a.o.size) aw).trans (a.o.block k U)⟩;have aJ:=z.o i n wr d.o;by_cases W:i<B.length
  .have ab:=aR C.o K.o (fun G e l=>by have aE:=(C.o.lt G e).1;have aG:=(D.o G l).2;omega);obtain⟨aP,aS,j,-,-,Z⟩:=Rd.aD (enc:=Sn) ab;injection j with j _ aq;subst j aq;obtain⟨aA,aB,ap,-,S⟩:=Z.get aa;have az:=S i W;have g:=af (ah.o i n W wr d.o);unfold Sn at az;subst ap;generalize B[i].1=tb at*;clear S Z ab;have aN:(i:Int)<(B.length:Int):=aa;have aM:(i+1)*1000000<=13*1000000:=nS _ aa
   go_wp2_with (refine g.o.mono ?_;rintro e u ⟨c,rfl,p⟩;have aI:=z.o (i+1) (n+c) u p;have aH:(-9223372036854775808:Int)<=(n:Int)+(c:Int)/\(n:Int)+(c:Int)<=9223372036854775807:=aa;have al:=af p;clear p)
   go_roundw
   case rel=>exact⟨i+1,n+c,by go_num,by go_num,aa,al⟩
   case measure=>exact eO
  .obtain rfl:i=B.length:=aa;have aL:¬(B.length:Int)<(B.length:Int):=aa;have q:wr.heap[Pb]? =some (Obj.cells #[aj Hb,dv,av,ae fD] xB (0,0)):=bq J.o ad.o (fun l=>(D.o Pb l).1 rfl);have g:=af (TY Pb 3 fD n wr (aF q) (aF q));clear q
   go_wp2_with fail
   refine g.o.mono ?_;rintro e aT ⟨rfl,rfl⟩;go_wp2;go_ret;exact⟨B,n,wr,rfl,ai.o n wr d.o,J.o,rfl⟩
end
end
end Go.Proofs.YtkjdbndekceffaaGreat
