/- Made small by a program. -/
import Derived.Test.YtkjdbndekceffaaGreatY15
set_option linter.unusedSimpArgs false
set_option linter.unusedVariables false
set_option maxRecDepth 100000
set_option maxHeartbeats 16000000
namespace Go.Proofs.YtkjdbndekceffaaGreat
open Tryz
section
open Go.RowKit Go.Sort Go.Shelf Go.Lib Go.Maps
attribute [local irreducible] wpQuiet
attribute [local go_sem] Oper.eT
theorem JL:gF 213:=dh func213 aN rfl
theorem GY {T:List (Option Nat)} {i tb:Nat}:(zF T i tb)[i]? =some (some tb):=by
 unfold zF;rw[uh aF]
theorem KV {T:List (Option Nat)} {i tb j:Nat} (h:j≠i) {x:Nat} (a:T[j]? =some (some x)):(zF T i tb)[j]? =some (some x):=by
 unfold zF;have b:=(fo.1 a).1;rw[nP (fun e=>h e.symm),lQ b,a]
theorem GZ {T:List (Option Nat)} {i tb n:Nat} (h:T.length<=n) (hi:i<n):(zF T i tb).length<=n:=by
 unfold zF;simp;omega
section
variable {w w':World} {X X' S Fn:Nat->Prop} {F:Nat->Nat->Prop} {Hb Cb mb:Nat} {cv tv av lv:Value} {ch:List zN} {T T':List (Option Nat)} {al al':List Bool} {eU:List Int} {A:List eP} {N wk:Int} {CB CB':List (List eP)}
theorem nO.skip (h:nO w F X CB T al):nO w F X (CB++[[]]) T al:=by
 refine⟨fun j b a=>?_,h.off,h.ap,h.lt⟩;by_cases e:j<CB.length
 .rw[qK e]at a |-;exact h.tr j e a
 .rw[vX aa]at a;simp at a
theorem nO.step (h:nO w F X CB T al) {i tb n0 m0 m:Nat} {l:List eP} (o:Bk w Fn tb n0 (sG al' l)) (C:n0<=l.length) (B:∀(j:Nat) (b:j<CB'.length),CB'[j]≠[]->(j=i/\CB'[j]=l)\/(j≠i/\∃n:j<CB.length,CB'[j]=CB[j]/\(∀x,T[j]? =some (some x)->T'[j]? =some (some x))/\sG al' CB[j]=sG al CB[j]))
  (z:T'[i]? =some (some tb)) (p:∀k,X' k->X k\/(m0<=k/\k<m)) (g:∀k,Fn k->m<=k) (f:∀j k,F j k->k<m0) (A:∀k,X k->k<m) (G:m0<=m):nO w (fun j k=>(j=i/\Fn k)\/(j≠i/\F j k)) X' CB' T' al':=by
 refine⟨fun j b q=>?_,?_,?_,?_⟩
 .rcases B j b q with⟨rfl,e⟩|⟨c,n,e,h2,y⟩
  .refine⟨tb,n0,z,by rw[e];exact C,?_⟩;have:(fun k=>(j=j/\Fn k)\/(j≠j/\F j k))=Fn:=by funext k;simp
   rw[this,e];exact o
  .obtain⟨E,D,t,u,v⟩:=h.tr j n (by rw[<-e];exact q);refine⟨E,D,h2 _ t,by rw[e];exact u,?_⟩;have:(fun k=>(j=i/\Fn k)\/(j≠i/\F j k))=F j:=by funext k;simp[c]
   rw[this,e,y];exact v
 .rintro j k (⟨rfl,a⟩|⟨b,a⟩) r
  .have c:=g k a;rcases p k r with h2|h2
   .have:=A k h2;omega
   .omega
  .rcases p k r with h2|h2
   .exact h.off j k a h2
   .have:=f j k a;omega
 .rintro j s k (⟨rfl,a⟩|⟨b,a⟩) (⟨rfl,d⟩|⟨n,d⟩)
  .rfl
  .have c:=g k a;have h2:=f s k d;omega
  .have c:=g k d;have h2:=f j k a;omega
  .exact h.ap j s k a d
 .rintro j k (⟨rfl,a⟩|⟨b,a⟩)
  .exact o.lt k a
  .exact h.lt j k a
def UN (w:World) (X:Nat->Prop) (Hb Cb mb:Nat) (cv tv av lv:Value) (ch:List zN) (al:List Bool) (A:List eP) (wk:Int) (e:Ending) (w':World):Prop:=
 e=.returned (ae A.length)/\∃(X':Nat->Prop) (F':Nat->Nat->Prop) (Ct tv':Value) (qU:List zN) (T':List (Option Nat)) (lev':List Int),iZ w' X' Hb Cb mb Ct tv' av lv qU T' al lev' A A.length (wrap64 (wk+(A.length:Int)))/\
  qU.map (·.2.1)=setC (Lib.bitLen A.length) (kJ al (ch.map (·.2.1)) 0)/\nO w' F' X' (qU.map (·.2.1)) T' al/\nY (qU.map (·.2.1)) al A A.length/\TZ (qU.map (·.2.1)) al lev'/\T'.length<=14/\(∀k,X' k->k<w'.heap.size/\(X k\/w.heap.size<=k))/\(∀i k,F' i k->w.heap.size<=k)/\
  ay (fun k=>k=Hb\/k=Cb\/cv.ownBlock=some k\/tv.ownBlock=some k\/lv.ownBlock=some k) w w'
theorem Ro (h:iZ w X Hb Cb mb cv tv av lv ch T al eU A N wk) (ae:nY (ch.map (·.2.1)) al A N) (bv:eU.length=al.length) (bf:∀k,X k->k<w.heap.size):
  aK 140 #[aj Hb] w (UN w X Hb Cb mb cv tv av lv ch al A wk):=by
 have H:=ag h;have bS:=ag bf;obtain⟨a7,bc⟩:=ae.anew (L:=kJ al (ch.map (·.2.1)) 0) (by unfold kJ;rw[kE]);have bB:=ag a7;have aD:=ae.levels;have bG:=ag bv;have aO:=ag (fun p:aR w=>Px (h.below p.h) ae);obtain⟨-,-,U,-⟩:=h.cell;have cj:(kJ al (ch.map (·.2.1)) 0).length<=5000:=bA (DJ _ _ _) aD.2.1;have ck:=aD.2.2.1;have b0:=ah U;clear h ae bv bf a7 U aD;generalize bd:kJ al (ch.map (·.2.1)) 0=L at*;have bF:=ag bd;have ap:=ag bc;clear bd bc;go_enter func140,ntmps140
 go_wp2_with fail
 refine au (fun W=>∃p:aR w,W=p.W) [6,7] [(0,false),(1,false),(2,false),(3,true),(4,false)] ⟨⟨_,(aJ _ _).drew⟩,rfl⟩ 3 ?_;clear b0;refine aH 5 rfl fun K ba=>?_;refine aZ JL rfl _ _ rfl (vals:=#[aj Hb]) rfl (aO.o ⟨_,(aJ _ _).drew⟩) ?_;rintro e w2 ⟨v,rfl,bo,bg⟩;obtain⟨va,cf,rfl,-,b9,bq⟩:=LB.aG bo;have M:Below w.heap.size w w2:=(aJ _ _).drew.trans bg;refine⟨_,rfl,?_⟩;refine ba _ _ (fun _ _=>⟨⟨_,M⟩,rfl⟩) ?_;clear ba K;have aU:=ag (H.o.below M);have aV:=ag M;have aS:=ag (TF aU.o.fJ (bH _) va L cf bq b9 aa);clear bo bg M aO bq;refine aI [6,7] ?_
 go_wp2_with fail
 refine aS.o.mono ?_;rintro e w4 ⟨V,f,aM,rfl,az,aE,ad,bh,ab,bm,bw⟩;have cu:=aV.o.size;have cw:=ab.size;have a6:=aU.o.Pv (ab.mono fun k h=>.inl h) az aE (Nw.nil bm (aB _)) (.inr bh);have ak:Hid (iZ w4 (fun k=>X k\/w.heap.size<=k/\k<w4.heap.size) Hb Cb mb V tv av lv f T al eU A L.length aM):=a6.more fun k hk=>by
  rcases hk with hk|⟨E,Z⟩
  .exact .inl hk
  .refine .inr ⟨aa,?_⟩;rcases Z with Z|⟨x,J,bn,a,b3,rfl⟩
   .exact(az.row.lt k Z).2
   .rcases(aE x J).1 with h9|⟨b,off,cg,fr,Y,b4,-⟩
    .exact absurd h9 bn
    .rw[b3]at Y;injection Y with Y;rw[Y];exact(aY.1 b4).1
 have bI:=ag ad;have a5:=ag bw;have bE:Hid (ay (fun k=>k=Cb) w w4):=((ay.refl (fun k=>k=Cb) w).below aV.o).trans ab;have cl:f.length<=13:=by
  have E:=congrArg List.length ad;rw[eD,bR]at E;have Z:=fA (a:=L.length) (b:=5000) aa ai;have ci:Lib.bitLen 5000<=13:=ai;omega
 have B:Hid (nY (f.map (·.2.1)) al A L.length):=by rw[ad];exact bB.o
 have bU:Hid (∀(j:Nat) (g:j<f.length),f[j].2.1.length<=5000):=fun j g=>by
  have E:=B.o.few j (by rw[bR];exact g);rwa [fM]at E
 obtain⟨-,-,-,cc,-⟩:=ak.o.cell;have f3:=ak.o.frozen 3;have O:Hid (iZ (w4.setCell (af Hb 3) (aL)) (fun k=>X k\/w.heap.size<=k/\k<w4.heap.size) Hb Cb mb V (aL) av lv f [] al eU A L.length aM):=(ak.o.R6 (tv':=aL) (T':=[]) (bM (aJ _ _)|>fun h=>⟨h.os,h.tape,h.output,h.size,fun k hk _=>rfl⟩) (dA _ _ _ _) (by simp[Value.ownBlock])).more fun k hk=>hk.elim (fun h=>h) fun h=>by cases h
 have a1:Hid (ay (fun k=>k=Hb\/k=Cb) w (w4.setCell (af Hb 3) (aL))):=(bE.o.mono fun k h=>.inr h).set (a:=(af Hb 3)) _ (.inl (.inl rfl));have aQ:=ag (yl O.o.fJ aa);obtain⟨-,-,cd,-⟩:=O.o.cell;have bs:(w4.setCell (af Hb 3) (aL)).heap.size=w4.heap.size:=aA;have bN:=ag bs;clear az aE ad bh ab bm bw a6 aS bs
 go_wp2_with fail
 generalize w4.setCell (af Hb 3) (aL)=cA at*;refine aQ.o.mono ?_;rintro e w6 ⟨rfl,ac⟩;have bz:=ag (O.o.below ac);have b6:=ac.size;have a2:Hid (ay (fun k=>k=Hb\/k=Cb) w w6):=a1.o.below ac;have bO:Hid (w4.heap.size<=w6.heap.size):=by have:=bN.o;show _<=_;omega
 clear aQ ac O a1 cc f3 cd b6
 go_wp2_with fail
 go_loopw [21] (fun aF wr=>∃(i:Nat) (s:Nat->Prop) (u:Nat->Nat->Prop) (t:Value) (r:List (Option Nat)) (n:List Int),aF=.int .i64 i/\i<=f.length/\Hid (iZ wr s Hb Cb mb V t av lv f r al n A L.length aM)/\Hid (nO wr u s ((f.map (·.2.1)).take i) r al)/\Hid (∀(j:Nat) (g:j<f.length),j<i->∀c∈f[j].2.1,n[c.2.toNat]? =some (j:Int))/\Hid (n.length=al.length)/\Hid (r.length<=i)/\
  Hid (∀k,s k->k<wr.heap.size/\(X k\/w.heap.size<=k))/\Hid (∀j k,u j k->w.heap.size<=k)/\Hid (t.ownBlock=none\/∃b,t.ownBlock=some b/\w.heap.size<=b)/\Hid (ay (fun k=>k=Hb\/k=Cb\/lv.ownBlock=some k) w wr)) (fun aF _=>f.length-(intOf aF).toNat)
 case atStart=>exact⟨0,_,fun _ _=>False,_,[],eU,rfl,bH _,bz,⟨fun j g=>absurd g aA,fun _ _ h=>h.elim,fun _ _ _ h=>h.elim,fun _ _ h=>h.elim⟩,fun j _ g=>absurd g (jL _),bG,bH _,fun k hk=>by
   have E:=bO.o;rcases hk with hk|hk
   .have:=bS.o k hk;have:=a2.o.size;exact⟨aa,.inl hk⟩
   .exact⟨aa,.inr hk.1⟩,fun _ _ h=>h.elim,.inl rfl,a2.o.mono fun k h=>h.imp id .inl⟩
 case round=>
  obtain⟨i,s,u,t,r,n,rfl,hi,y,a4,aq,C,R,aw,am,ar,an⟩:=hrel;have cy:=an.o.size;by_cases G:i<f.length
  .have ca:=bU.o i G;have aN:=ag (ym y.o.fJ y.o.rows aa i G aa);have bl:(f.map (·.2.1))[i]? =some f[i].2.1:=by rw[iy,bZ G];rfl
   have a3:Hid ((f.map (·.2.1)).take (i+1)=(f.map (·.2.1)).take i++[f[i].2.1]):=by
    show _=_;rw[List.take_add_one,bl];rfl
   have ax:=B.o.bk i (by rw[bR];exact G);rw[fM]at ax;have P:=ag ax;have aW:Hid (∀(j:Nat) (g:j<f.length),j=i->f[j].2.1=f[i].2.1):=fun j g e=>by subst e;rfl
   have bC:Hid (∀(j:Nat) (g:j<f.length),j≠i->∀c∈f[j].2.1,∀d∈f[i].2.1,d.2.toNat≠c.2.toNat):=fun j g aC c l d hd=>B.o.apart (i:=i) (j:=j) (by rw[bR];exact G) (by rw[bR];exact g) (fun e=>aC e.symm) (by rw[fM];exact hd) (by rw[fM];exact l);generalize f[i].2.1=lk at*;obtain⟨-,-,U,-⟩:=y.o.cell;have cn:(i:Int)<(f.length:Int):=aa;clear bl ax;obtain⟨bx,bY⟩:∃bx:World,bx=wr:=⟨_,rfl⟩;subst bY
   go_wp2_with fail
   refine aN.o.mono ?_;rintro e w3 ⟨cz,rfl,bp,F⟩;have b5:=F.size;obtain⟨bV,bW,bX,-,-,br⟩:=LB.aG bp;subst bX;have z:=ag (y.o.below F);have Q:=ag (a4.o.kept (S:=fun _=>False) ((ay.refl _ _).below F) fun _ _ _ h=>h);have a0:Hid (ay (fun k=>k=Hb\/k=Cb\/lv.ownBlock=some k) w w3):=an.o.below F;have D:Hid (∀k,s k->k<w3.heap.size/\(X k\/w.heap.size<=k)):=fun k hk=>⟨bT (aw.o k hk).1 b5,(aw.o k hk).2⟩;have bL:=ag br;clear bp F br aN U;by_cases bj:lk=[]
   .subst bj;have cb:¬(0:Int)<((([]:List eP).length:Nat):Int):=aA;go_wp2;go_roundw
    case rel=>exact⟨i+1,s,u,t,r,n,by go_num,aa,z,by rw[a3.o];exact Q.o.skip,fun j g aC c l=>by
      by_cases e:j=i
      .rw[aW.o j g e]at l;cases l
      .exact aq.o j g aa c l,C,Nat.le_succ_of_le R.o,D,am,ar,a0⟩
    case measure=>exact dX
   .have cr:0<lk.length:=Aa.2 bj;have cb:(0:Int)<((lk.length:Nat):Int):=aa;have aT:=ag (KU z.o bV bW lk i bL.o aa (by have:=R.o;omega) ca P.o.2.2 C.o aa P.o.1 P.o.2.1 (fun k hk=>(D.o k hk).1))
    go_wp2_with fail
    refine aT.o.mono ?_;rintro e cB ⟨rfl,ce,tb,m,Fn,be,a8,a9,I,bu,bb⟩;have bK:=ag be;have bD:=ag a8;have aX:=ag a9;have bJ:=ag I;have bP:=ag bu;have ao:=ag bb;clear be a8 a9 I bu bb aT;go_wp2;go_roundw
    case rel=>
     have cx:=R.o;obtain⟨I,cq⟩:=bJ.o;have b2:∀j k,u j k->¬(k=Hb\/t.ownBlock=some k\/lv.ownBlock=some k):=fun j k hk h9=>by
      refine Q.o.off j k hk ?_;rcases h9 with rfl|h9|h9
      .exact z.o.jg.1
      .exact z.o.jg.2.2.2.2.1 k h9
      .exact z.o.jg.2.2.2.2.2.2 k h9
     have b8:=(Q.o.kept ao.o b2).step (X':=fun k=>s k\/w3.heap.size<=k/\k<m) (i:=i) (m0:=w3.heap.size) (m:=m) (CB':=(f.map (·.2.1)).take i++[lk]) (T':=zF r i tb) bD.o (by unfold sG;rw[bR];exact gV _ _) (fun j g bn=>by
       have bi:((f.map (·.2.1)).take i).length=i:=by rw[eX,bR];omega
       by_cases e:j=i
       .subst e;left;refine⟨rfl,?_⟩;rw[vX aa];simp[bi]
       .right;have co:j<i:=by rw[bQ,bi]at g;simp at g;omega
        exact⟨e,aa,qK aa,fun x J=>KV e J,rfl⟩) GY (fun k hk=>hk) aX.o (fun j k hk=>Q.o.lt j k hk) (fun k hk=>bT (D.o k hk).1 I) I
     have b7:=ao.o.size;refine⟨i+1,_,_,ce,zF r i tb,il n lk i,by go_num,aa,bK,by rw[a3.o];exact b8,fun j g aC c l=>?_,by rw[mY];exact C.o,GZ aa aa,fun k hk=>?_,fun j k hk=>?_,?_,ay.strip ((a0.o.mono fun k h=>.inl h).trans (ao.o.mono fun k h=>?_))⟩
     .by_cases e:j=i
      .rw[aW.o j g e]at l;rw[e];obtain⟨q,cs,ct⟩:=P.o.2.2 c l;exact yE lk n i c l (by have:=C.o;omega)
      .rw[qE lk n i _ (fun x J=>bC.o j g e c l x J)];exact aq.o j g aa c l
     .rcases hk with hk|hk
      .exact⟨bT (D.o k hk).1 b7,(D.o k hk).2⟩
      .exact⟨aa,.inr aa⟩
     .rcases hk with⟨-,hk⟩|⟨-,hk⟩
      .have:=aX.o k hk;omega
      .exact am.o j k hk
     .rcases bP.o with h9|⟨b,h9,b1⟩
      .rw[h9];exact ar.o
      .exact .inr ⟨b,h9,aa⟩
     .rcases h with h|h|h
      .exact .inl (.inl h)
      .rcases ar.o with h9|⟨b,h9,b1⟩
       .rw[h9]at h;cases h
       .rw[h9]at h;injection h with h;exact .inr aa
      .exact .inl (.inr (.inr h))
    case measure=>exact dX
  .obtain rfl:i=f.length:=aa;have cm:¬(f.length:Int)<(f.length:Int):=aa;rw[ap.o]at B y a5;have cp:(L.length:Int)=(A.length:Int):=by rw[ap.o]
   go_wp2;go_ret;have bt:=a4.o;rw[jJ aA]at bt;refine⟨rfl,s,u,V,t,f,r,n,by rw[<-a5.o];exact y.o,by rw[bI.o,ap.o,bF.o],bt,B.o,⟨C.o,fun j g c l=>?_⟩,by have:=R.o;omega,aw.o,am.o,an.o.mono fun k h=>?_⟩
   .rw[fM]at l;exact aq.o j (aP g) (aP g) c l
   .rcases h with h|h|h
    .exact .inl h
    .exact .inr (.inl h)
    .exact .inr (.inr (.inr (.inr h)))
end
end
section
open Go.RowKit Go.Maps
def pot (L:Nat):Nat->List Nat->Nat
 |_,[]=>0
 |i,s::l=>s*(L-1-i)+pot L (i+1) l
theorem zT (L:Nat):∀(i:Nat) (a b:List Nat),pot L i (a++b)=pot L i a+pot L (i+a.length) b
 |i,[],b=>by simp[pot]
 |i,s::a,b=>by
  simp only[mG,pot,zT L (i+1) a b,ed];rw[show i+1+a.length=i+(a.length+1) by omega];omega
theorem G5 (L:Nat):∀(i k:Nat),pot L i (List.replicate k 0)=0
 |_,0=>rfl
 |i,k+1=>by simp[List.replicate_succ,pot,G5 L (i+1) k]
theorem Py (L:Nat):∀(i:Nat) (l:List Nat),pot L i l<=l.sum*(L-1)
 |_,[]=>by simp[pot]
 |i,s::l=>by
  have a:=Py L (i+1) l;have b:=Nat.mul_le_mul_left s (show L-1-i<=L-1 by omega);simp only[pot,List.sum_cons,mM];omega
theorem G6 (L:Nat) (S:List Nat):∀(i:Nat),i<=L->i<=S.length->(∀(j:Nat) (h:j<S.length),j<i->S[j]=2^j)->2^i*(L-i)<=L+pot L 0 (S.take i)
 |0,_,_,_=>aA
 |i+1,hi,g,h=>by
  have ih:=G6 L S i aa aa fun j b f=>h j b aa;have a:i<S.length:=aa;rw[ig a,zT,eX,show min i S.length=i by omega,h i a aa];simp only[pot,kG,dH];rw[pW];have d:2^i*(L-i)=2^i*(L-1-i)+2^i:=by
   rw[show L-i=(L-1-i)+1 by omega,jc,iN]
  have e:2^i*2*(L-(i+1))=2^i*(L-1-i)+2^i*(L-1-i):=by
   rw[show L-(i+1)=L-1-i by omega,Nat.mul_assoc,Nat.two_mul,jc]
  generalize 2^i*(L-1-i)=Q at*;generalize 2^i*(L-i)=R at*;generalize 2^i*2*(L-(i+1))=c at*;generalize 2^i=P at*;omega
def KW (CB:List (List eP)) (a:Nat) (wk:Int) (m:Nat):Prop:=0<=wk/\∀L,m<2^L->wk+(pot L 0 (CB.map List.length):Nat)+(L*(CB.flatten.length-a):Nat)<=(L*m:Nat)
theorem Rp (CB:List (List eP)):CB.flatten.length=(CB.map List.length).sum:=by rw[Ef]
theorem Rq:KW [] 0 0 0:=⟨vz _,fun L _=>by simp[pot]⟩
theorem KW.bound {CB:List (List eP)} {a m:Nat} {wk:Int} (h:KW CB a wk m) (b:m<=5000):wk<=65000:=by
 have:=h.2 13 aa;omega
theorem KW.add {CB:List (List eP)} {a m:Nat} {wk:Int} (h:KW CB a wk m) (z:a<=CB.flatten.length) (y:CB.flatten.length<=m) (i:Nat) (hi:i<=CB.length) (s:∀(j:Nat) (b:j<CB.length),CB[j].length=0\/CB[j].length=2^j) (r:∀j (b:j<CB.length),j<i->CB[j]≠[]) (f:∀h:i<CB.length,CB[i]=[]) (x:eP):
  KW (kC CB i x) (a+1) (wk+((eO CB i).length+1:Nat)) (m+1):=by
 have g:∀j (b:j<CB.length),j<i->CB[j].length=2^j:=fun j b d=>by
  rcases s j b with h1|h1
  .exact absurd (gU h1) (r j b d)
  .exact h1
 have e:=yD CB i hi g;have hP:=(tJ CB i x f).length_eq;rw[ed]at hP;refine⟨by have:=h.1;omega,fun L w=>?_⟩;have h1:=h.2 L aa;have v:(eO CB i).length<=CB.flatten.length:=by
  rw[(jy CB i).length_eq];have c:(CB.take i).flatten++(CB.drop i).flatten=CB.flatten:=by rw[<-kY,jB]
  have:=congrArg List.length c;rw[bQ]at this;omega
 have A:i<L:=by
  rcases Nat.lt_or_ge i L with h9|h9
  .exact h9
  .have:=zZ (n:=2) ai h9;omega
 have u:=G6 L (CB.map List.length) i aa (aP hi) fun j b d=>by rw[fM];exact g j (aP b) d
 have l:(kC CB i x).map List.length=List.replicate i 0++2^i::(CB.map List.length).drop (i+1):=by
  unfold kC;rw[bP,Ei,lX,xS];simp[e]
 have o:pot L 0 (CB.map List.length)=pot L 0 ((CB.map List.length).take i)+pot L (i+1) ((CB.map List.length).drop (i+1)):=by
  have p:CB.map List.length=(CB.map List.length).take i++(CB.map List.length).drop i:=(jB _ _).symm;have q:((CB.map List.length).take i).length=i:=by rw[eX,bR];omega
  conv=>lhs;rw[p,zT,q,kG]
  by_cases k:i<CB.length
  .rw[mE (aP k)];simp[pot,f k]
  .rw[ow aF,ow aF];rfl
 have c:pot L 0 ((kC CB i x).map List.length)=2^i*(L-1-i)+pot L (i+1) ((CB.map List.length).drop (i+1)):=by
  rw[l,zT,G5,iw];simp[pot]
 have t:2^i*(L-i)=2^i*(L-1-i)+2^i:=by
  rw[show L-i=(L-1-i)+1 by omega,jc,iN]
 rw[c,e,hP,show CB.flatten.length+1-(a+1)=CB.flatten.length-a by omega,jc];rw[o]at h1;omega
theorem KW.drop {CB:List (List eP)} {a m:Nat} {wk:Int} (h:KW CB (a+1) wk m) (d:a+1<=CB.flatten.length):KW CB a wk (m+1):=by
 refine⟨h.1,fun L c=>?_⟩;have b:=h.2 L aa;rw[show CB.flatten.length-a=(CB.flatten.length-(a+1))+1 by omega,jc,jc];omega
theorem KW.anew {CB CB':List (List eP)} {a m:Nat} {wk:Int} (h:KW CB a wk m) (j:2*a<=CB.flatten.length) (c:CB'.flatten.length=a):KW CB' a (wk+a) m:=by
 refine⟨by have:=h.1;omega,fun L b=>?_⟩;have g:=h.2 L b;have d:=Py L 0 (CB'.map List.length);rw[<-Rp,c]at d;rw[c,iM,Nat.mul_zero];have i:L*a<=L*(CB.flatten.length-a):=Nat.mul_le_mul_left L aa;rcases nC L with h0|h0
 .subst h0;simp at b;subst b;simp at*;have:=h.1;have f:=h.2 1 ai;simp at f;omega
 .have e:a*(L-1)+a=L*a:=by
   rw[xY L a]
   conv=>rhs;rw[show L=(L-1)+1 by omega,jc,iN]
  omega
end
section
open Go.RowKit Go.Sort Go.Shelf Go.Lib Go.Maps
attribute [local irreducible] wpQuiet
attribute [local go_sem] Oper.eT
def ko (w:World) (Hb:Nat) (G:Nat->Prop) (m:Nat) (A:List eP) (N wk:Int):Prop:=
 ∃(X:Nat->Prop) (F:Nat->Nat->Prop) (Cb mb:Nat) (cv tv av lv:Value) (ch:List zN) (T:List (Option Nat)) (al:List Bool) (eU:List Int),iZ w X Hb Cb mb cv tv av lv ch T al eU A N wk/\nY (ch.map (·.2.1)) al A N/\TZ (ch.map (·.2.1)) al eU/\nO w F X (ch.map (·.2.1)) T al/\
  N<=2*A.length/\T.length<=14/\(∀k,X k->k<w.heap.size/\G k)/\(∀i k,F i k->G k)/\al.length<=m/\KW (ch.map (·.2.1)) A.length wk m
theorem MW:gF 139:=dh func139 aN rfl
theorem MX:gF 53:=dh func53 aN rfl
section
variable {w w':World} {X S G:Nat->Prop} {F:Nat->Nat->Prop} {Hb Cb mb m:Nat} {cv tv av lv:Value} {ch:List zN} {T:List (Option Nat)} {al:List Bool} {eU:List Int} {A A':List eP} {N wk:Int}
theorem iZ.Pz (h:iZ w X Hb Cb mb cv tv av lv ch T al eU A N wk) (p:w.grownBy w' (some mb)) (q:lD w' mb A'):iZ w' X Hb Cb mb cv tv av lv ch T al eU A' N wk:=by
 have K:ay (fun k=>k=mb) w w':=(ay.refl (fun k=>k=mb) w).grown p fun k e=>.inl (by injection e with e;exact e.symm);have c:∀{b:Nat} {cs:Array Value} {g:TypeId} {fr:Nat×Nat},w.heap[b]? =some (Obj.cells cs g fr)->w'.heap[b]? =w.heap[b]? :=fun{b cs g fr} a=>K.block b (aY.1 a).1 fun l=>by
  obtain⟨D,⟨s,r,m,-⟩,-⟩:=h.map;rw[l,m]at a;cases a
 have d:∀{e:TypeId} {sz n:Nat} {v:Value} {xs:List Value},w.ownsRow 0 e sz v n xs->w'.ownsRow 0 e sz v n xs:=fun{e sz n v xs} f=>aX f fun t j=>by
  have⟨i,o⟩:=dG f j;exact c o
 exact⟨(c h.blk).trans h.blk,⟨bH _,h.fJ.ds,(c h.fJ.blk).trans h.fJ.blk,d h.fJ.row⟩,h.rows.kept fun b i fr a=>c a,d h.jA,d h.dJ,d h.nk,q,h.jg,h.Qc⟩
theorem iZ.UO (h:iZ w X Hb Cb mb cv tv av lv ch T al eU A N wk) {CB:List (List eP)} (ht:nO w F X CB T al) (j k:Nat) (a:F j k):¬(k=Hb\/k=Cb\/k=mb\/cv.ownBlock=some k\/tv.ownBlock=some k\/av.ownBlock=some k\/lv.ownBlock=some k):=fun h9=>by
 refine ht.off j k a ?_;rcases h9 with rfl|rfl|rfl|h9|h9|h9|h9
 .exact h.jg.1
 .exact h.jg.2.1
 .exact h.jg.2.2.1
 .exact h.jg.2.2.2.1 k h9
 .exact h.jg.2.2.2.2.1 k h9
 .exact h.jg.2.2.2.2.2.1 k h9
 .exact h.jg.2.2.2.2.2.2 k h9
def VW (a:Nat) (N N':Int) (n:Nat):Prop:=(2*(a:Int)<N/\n=a/\N'=a)\/(N<=2*(a:Int)/\n=0/\N'=N)
def UQ (w:World) (Hb:Nat) (G:Nat->Prop) (m:Nat) (A:List eP) (N wk:Int) (p:Pt) (e:Ending) (w':World):Prop:=
 ∃(n:Nat) (N':Int),e=.returned (.tuple #[ae n,.bool true])/\ko w' Hb (fun k=>G k\/w.heap.size<=k) (m+1) (A.filter fun d=>decide (d.1≠p)) N' (wk+n)/\ay G w w'/\VW (A.filter fun d=>decide (d.1≠p)).length N N' n
theorem Rs (h:ko w Hb G m A N wk) (da:m<5000) (c:eP) (J:c∈A) (x y d:Int) (v:c.1=(x,y,d)):
  aK 59 #[aj Hb,iV x y d] w (UQ w Hb G m A N wk (x,y,d)):=by
 have⟨X,F,Cb,mb,cv,tv,av,lv,ch,T,al,eU,a0,E,bs,ht,ct,cd,ck,hF,cZ,cA⟩:=h;have c9:=E.levels;have aS:=(bD.1 (E.live.mem_iff.1 J)).1;have⟨k,aU,c8⟩:=E.num aS;obtain⟨cO,-⟩:∃q,q=(c.1,c.2):=⟨_,rfl⟩;have a2:Be (x,y,d):=by rw[<-v];exact E.good c aS
 have aW:(A.map (·.1)).Nodup:=Bz E.keys;have⟨bl,bp,bn⟩:=E.dead ct J;rw[v,aU,ib]at bl bp;rw[v]at bn;have⟨l,cq,ax⟩:=pM.1 aS;obtain⟨i,hi,rfl⟩:=jb cq;have bo:=bs.lvl i hi c ax;rw[aU,ib]at bo;have⟨tb,n0,cg,cw,b7⟩:=ht.tr i hi (List.ne_nil_of_mem ax);have co:(x,y,d)∈sG al (ch.map (·.2.1))[i]:=cu.2 ⟨c,bD.2 ⟨ax,(bD.1 (E.live.mem_iff.1 J)).2⟩,v⟩;have bS:Hid (∀W,Below w.heap.size w W->(Instr.lookup 188 (.map (some mb)) (iV x y d) true).run prog W=.ok (.tuple #[ae k,.bool true]) W):=fun W f=>by
  rcases(a0.below f).map.look a2 aW with⟨aL,V,I,R⟩|⟨I,-⟩
  .have S:A.Pairwise fun p q=>p.1≠q.1:=dm.1 aW;have aM:aL=c:=by
    rcases eB S V J with h1|h1|h1
    .exact h1
    .exact absurd (I.trans v.symm) h1
    .exact absurd (v.trans I.symm) h1
   rw[aM,aU]at R;exact R
  .exact absurd (cu.2 ⟨c,J,v⟩) I
 have bM:Hid ((x,y,d)∈A.map (·.1)):=cu.2 ⟨c,J,v⟩;have a9:=ag aW;have r:=ag a0;have M:=ag ht;have t:=ag E;have aE:=ag bs;have n:=ag ck;have a7:=ag hF;have ao:=ag cA;have a6:=ag bl;have an:=ag bn;have bG:Hid (c∈(ch.map (·.2.1))[i]):=ax;have a5:=ag v;have bF:=ag J;have a8:=ag bp;have bI:=ag co;have bE:=ag b7;have aD:=ag cg;have bL:=ag bo;have a3:Below w.heap.size w (w.alloc (.cells #[ae x,ae y,ak d] 29)):=(aJ _ _).alloc (aB _) _;have Q:=ag (df w (.cells #[ae x,ae y,ak d] 29));have aA:=ag a3;have ad:=ag (a0.below a3);have bz:=ag (zS ad.o);go_enter func59,ntmps59
 go_wp2_with (go_at_call 134;refine bz.o.mono ?_;rintro e w1 ⟨rfl,bi⟩;have b0:=bi.symm;clear bi;subst b0)
 generalize w.alloc (.cells #[ae x,ae y,ak d] 29)=w1 at*;have bf:w1.cell? (af w.heap.size 0)=some (ae x):=fE Q.o;have cE:=ah bf;have I:w1.cell? (af w.heap.size 1)=some (ae y):=fE Q.o;have cF:=ah I;have R:w1.cell? (af w.heap.size 2)=some (ak d):=fE Q.o;have cD:=ah R;have bj:=ah (w:=w1) ad.o.cell.2.2.2.2.2.2;have lk:∀p:aR w1,(Instr.lookup 188 (.map (some mb)) (iV x y d) true).run prog p.W=.ok (.tuple #[ae k,.bool true]) p.W:=fun p=>bS.o p.W (aA.o.trans (p.h.mono aA.o.size));refine kN [(0,false),(1,false),(2,false),(3,true),(4,true),(5,true),(6,false),(7,false),(8,false),(9,false),(10,false)] 0 ?_;refine lh aN ?_
 go_wp2_with fail
 have cE:=ah (w:=w1.drew) bf;have cF:=ah (w:=w1.drew) I;have cD:=ah (w:=w1.drew) R;have bj:=ah (w:=w1.drew) ad.o.cell.2.2.2.2.2.2;refine au (fun W=>∃p:aR w1.drew,W=p.W) [5] [(0,false),(1,false),(2,false),(3,true),(4,true)] ⟨⟨_,(aJ _ _).drew⟩,rfl⟩ 1 ?_;refine aI [5] ?_;have a4:=ag ((ad.o.below (aJ _ _).drew).below (aJ _ _).drew);have⟨D,b8,b9⟩:=a4.o.map;refine wpList_delete_own _ rfl _ _ _ _ rfl _ (Keyed.of_law Gf) underlying188 (plainElem prog 3) mb A.length D rfl b8 (iV x y d) (kp (x,y,d)) rfl (yw a2) ?_;intro ab cz br;have b4:(x,y,d)∈A.map (·.1):=bM.o;have cb:=ag (lD.fit cz (b9.del a2 a9.o b4));have P:=ag (a4.o.Pz br.grown cb.o);have bm:=br.grown;have bJ:Hid (ay (fun k=>k=mb) w ab):=(((ay.refl (fun k=>k=mb) w).below aA.o).drew.drew).grown bm fun k e=>.inl (by injection e with e;exact e.symm);have bU:Hid (ab.heap[w.heap.size]? =some (Obj.cells #[ae x,ae y,ak d] 29 (0,0))):=(bm.block _ (aY.1 Q.o).1 (fun e=>by injection e with e;have:=r.o.map.lt;omega)).trans Q.o;obtain⟨u,cX,bY,-,c2,-,-⟩:=aQ P.o.dJ aa;subst bY;have cK:=P.o.dJ.cellAt k aa;rw[bZ (by rw[bR];omega)]at cK;have cP:=P.o.dJ.frozenAt k;obtain⟨-,-,-,-,cN,-,-⟩:=P.o.cell;have c7:(k:Int)<(al.length:Int):=aa;have az:=ag (P.o.VF k false);have bK:Hid (ay (fun k=>k=mb\/k=u) w (ab.setCell (af u k) (.bool false))):=(bJ.o.mono fun k h=>.inl h).set _ (.inl (.inr rfl));have bd:Hid ((ab.setCell (af u k) (.bool false)).heap[w.heap.size]? =some (Obj.cells #[ae x,ae y,ak d] 29 (0,0))):=(aC (a:=(af u k)) (fun e:u=w.heap.size=>by have:=(r.o.dJ.lt u rfl).2;omega)).trans bU.o
 go_wp2_with fail
 generalize ab.setCell (af u k) (.bool false)=w6 at*;have c1:(A.filter fun q=>decide (q.1≠(x,y,d))).length<=A.length:=gV _ _;have cY:A.length<=5000:=by have:=t.o.Ja.1;have:=t.o.levels.2.1;omega
 obtain⟨-,-,bV,-,-,-,bW⟩:=az.o.cell;have b1:=ah bV;have bj:=ah bW;have bx:=ag (NL (az.o.below (aJ _ _).drew).fJ);refine au (fun W=>∃p:aR w6,W=p.W) [9,10,11] [(0,false),(1,false),(2,false),(3,true),(5,false),(6,false),(7,false),(8,true)] ⟨⟨_,(aJ _ _).drew⟩,rfl⟩ 4 ?_;refine aH 4 rfl fun K aO=>?_;refine aZ MW rfl _ _ rfl (vals:=#[aj Cb]) rfl bx.o ?_;rintro e g ⟨rfl,cm⟩;have ac:Below w6.heap.size w6 g:=(aJ _ _).drew.trans cm;refine⟨_,rfl,?_⟩;refine aO _ _ (fun _ _=>⟨⟨_,ac⟩,rfl⟩) ?_;have z:=ag (az.o.below ac);have H:Hid (ay (fun k=>k=mb\/k=u) w g):=bK.o.below ac;have aG:Hid (g.heap[w.heap.size]? =some (Obj.cells #[ae x,ae y,ak d] 29 (0,0))):=(aT ac bd.o).trans bd.o;have de:=z.o.map.size;generalize b5:(A.filter fun q=>decide (q.1≠(x,y,d)))=s at*;have am:=ag b5;have c0:(-9223372036854775808:Int)<=2*(s.length:Int)/\2*(s.length:Int)<=9223372036854775807:=aa;have dd:IntKind.i64.wrap (2*(s.length:Int))=2*(s.length:Int):=IntWalk.i64_in _ aa;refine aI [9,10,11] ?_;by_cases cs:2*(s.length:Int)<N
 .have aw:∀b,X b->b<g.heap.size:=fun b f=>bT (n.o b f).1 H.o.size;have bv:=ag (Ro z.o a6.o (by have:=aE.o.I9;simpa using this) aw)
  go_wp2_with fail
  refine bv.o.mono ?_;rintro e O ⟨rfl,X',bA,bX,tv',be,T',lev',cc,-,cf,cj,ci,ce,cl,ca,ar⟩;have ba:=ag cc;have bP:=ag cf;have bb:=ag cj;have bQ:=ag ci;have bc:=ag cl;have bH:=ag ca;have L:=ag ar;have bO:=ag ce;go_wp2;go_ret2;have Y:=ao.o;rw[<-an.o]at Y;have db:=t.o.stored;have dc:=bb.o.stored;have aV:s.length+1<=(ch.map (·.2.1)).flatten.length:=by have:=t.o.Ja.1;have:=an.o;omega
  have aX:=(Y.drop aV).anew (CB':=be.map (·.2.1)) aa aa;have cB:wrap64 (wk+(s.length:Int))=wk+(s.length:Int):=IntWalk.wrap64_in _ (by have h1:=ao.o.bound aa;have B:=ao.o.1;omega);rw[cB]at ba;have bq:=H.o.size;have a1:=L.o.size;refine⟨s.length,s.length,rfl,?_,?_,by rw[am.o];exact .inl ⟨cs,rfl,rfl⟩⟩
  .rw[am.o];exact⟨X',bA,Cb,mb,bX,tv',_,lv,be,T',_,lev',ba.o,bb.o,bQ.o,bP.o,aa,bO.o,fun b f=>⟨(bc.o b f).1,(bc.o b f).2.imp (fun h=>(n.o b h).2) fun h=>aa⟩,fun j b f=>.inr (by have:=bH.o j b f;omega),aF,aX⟩
  .refine ay.trans (H.o.mono ?_) (L.o.mono ?_)
   .rintro b (rfl|rfl)
    .exact(n.o _ r.o.jg.2.2.1).2
    .exact(n.o _ (r.o.jg.2.2.2.2.2.1 _ rfl)).2
   .rintro b (rfl|rfl|h|h|h)
    .exact(n.o _ r.o.jg.1).2
    .exact(n.o _ r.o.jg.2.1).2
    .exact(n.o _ (r.o.jg.2.2.2.1 _ h)).2
    .exact(n.o _ (r.o.jg.2.2.2.2.1 _ h)).2
    .exact(n.o _ (r.o.jg.2.2.2.2.2.2 _ h)).2
 .go_wp2_with fail
  have cr:=aE.o.I9;have c5:=(fo.1 aD.o).1;obtain⟨gl,lc,bg,-,c3,-,-⟩:=aQ z.o.nk aa;obtain⟨b2,tc,bh,-,c4,-,-⟩:=aQ z.o.jA aa;have cL:g.cell? (af gl k)=some (ae i):=by
   have h1:=z.o.nk;rw[bg]at h1;have B:=h1.cellAt k aa;rw[iy,bL.o]at B;exact B
  have cM:g.cell? (af b2 i)=some (aj tb):=by
   have h1:=z.o.jA;rw[bh]at h1;have B:=h1.cellAt i aa;rw[iy,aD.o]at B;exact B
  obtain⟨-,d1,-,d3,-,d5,-⟩:=z.o.cell;rw[bh]at d3;rw[bg]at d5;have c6:(i:Int)<(T.length:Int):=aa;have cG:g.cell? (af w.heap.size 0)=some (ae x):=fE aG.o;have cH:g.cell? (af w.heap.size 1)=some (ae y):=fE aG.o;have cI:g.cell? (af w.heap.size 2)=some (ak d):=fE aG.o;have cQ:=ah cG;have cR:=ah cH;have b1:=ah cI;have cS:=ah d1;have cT:=ah d3;have cU:=ah d5;have cV:=ah cL;have cW:=ah cM;have bk:∀j b,F j b->¬(b=mb\/b=u):=fun j b f b3=>r.o.UO M.o j b f (b3.elim (fun h=>.inr (.inr (.inl h))) fun h=>.inr (.inr (.inr (.inr (.inr (.inl (by rw[h];rfl)))))));have bB:=ag ((bE.o.kept H.o (bk i)).below (aJ _ _).drew);have aq:=ag ((M.o.kept H.o bk));have bw:=ag (UI bB.o (x,y,d) bI.o);have bq:=H.o.size;refine au (fun W=>∃p:aR g,W=p.W) [18] [(0,false),(1,false),(2,false),(3,true),(4,false),(5,false),(6,false),(7,true),(8,false),(9,false),(10,false),(11,true),(12,false),(13,false),(14,true),(15,false),(16,true),(17,true)] ⟨⟨_,(aJ _ _).drew⟩,rfl⟩ 1 ?_;refine aH 18 rfl fun K aO=>?_;refine Cg MX rfl _ _ _ rfl rfl (vals:=#[aj tb,iV x y d]) rfl bw.o ?_;rintro e O ⟨rfl,b6,ar⟩;refine⟨_,rfl,?_⟩;refine aO _ _ (fun _ h=>absurd ai h) ?_;have bC:=ag b6;have L:Hid (ay (F i) g O):=((ay.refl _ g).drew).trans ar;have a1:=ar.size;refine lh aN ?_
  go_wp2_with fail
  go_ret2;have Y:=ao.o;rw[<-an.o]at Y;have aV:s.length+1<=(ch.map (·.2.1)).flatten.length:=by have:=t.o.Ja.1;have:=an.o;omega
  have aX:=Y.drop aV;have aw:∀b,X b->b<g.heap.size:=fun b f=>bT (n.o b f).1 bq;have cy:∀(j:Nat) (C:j<(ch.map (·.2.1)).length),j≠i->sG (al.set k false) (ch.map (·.2.1))[j]=sG al (ch.map (·.2.1))[j]:=fun j C cp=>by
   rw[a8.o _ fun q Z=>t.o.inl C Z];refine mF.2 fun q Z=>?_;simp only[bN];rintro rfl;have⟨aL,V,e⟩:=cu.1 Z;have cn:=t.o.live.mem_iff.2 (bD.2 ⟨t.o.inl C (bD.1 V).1,(bD.1 V).2⟩);have S:A.Pairwise fun p q=>p.1≠q.1:=dm.1 a9.o;have aM:aL=c:=by
    rcases eB S cn bF.o with h1|h1|h1
    .exact h1
    .exact absurd (e.trans a5.o.symm) h1
    .exact absurd (a5.o.trans e.symm) h1
   subst aM;exact t.o.apart C hi cp (bD.1 V).1 bG.o rfl
  refine⟨0,N,rfl,?_,?_,by rw[am.o];exact .inr ⟨aa,rfl,rfl⟩⟩
  .rw[am.o,show wk+((0:Nat):Int)=wk by omega];refine⟨X,fun j b=>F j b\/(j=i/\g.heap.size<=b/\b<O.heap.size),Cb,mb,cv,tv,_,lv,ch,T,_,eU,z.o.kept L.o (fun b f h=>M.o.off i b h f),a6.o,⟨aP cr,aE.o.lvl⟩,⟨fun j C cx=>?_,?_,?_,?_⟩,aa,cd,fun b f=>⟨bT (aw b f) a1,.inl (n.o b f).2⟩,?_,aF,aX⟩
   .by_cases e:j=i
    .subst e;refine⟨tb,n0,aD.o,cw,?_⟩;rw[a8.o _ fun q Z=>t.o.inl C Z];have:(fun b=>F j b\/(j=j/\g.heap.size<=b/\b<O.heap.size))=fun b=>F j b\/g.drew.heap.size<=b/\b<O.heap.size:=by funext b;simp
     rw[this];exact bC.o
    .obtain⟨cJ,cC,h1,B,S⟩:=aq.o.tr j C cx;refine⟨cJ,cC,h1,B,?_⟩;have:(fun b=>F j b\/(j=i/\g.heap.size<=b/\b<O.heap.size))=F j:=by funext b;simp[e]
     rw[this,cy j C e];exact S.kept L.o fun b f U=>e (M.o.ap j i b f U)
   .rintro j b (f|⟨-,f,-⟩) bt
    .exact M.o.off j b f bt
    .have:=aw b bt;omega
   .rintro j bu b (f|⟨rfl,f,-⟩) (U|⟨rfl,U,-⟩)
    .exact M.o.ap j bu b f U
    .have:=aq.o.lt j b f;omega
    .have:=aq.o.lt bu b U;omega
    .rfl
   .rintro j b (f|⟨-,-,f⟩)
    .exact bT (aq.o.lt j b f) a1
    .exact f
   .rintro j b (f|⟨-,f,-⟩)
    .exact .inl (a7.o j b f)
    .exact .inr aa
  .refine ay.trans (H.o.mono ?_) (L.o.mono fun b f=>a7.o i b f);rintro b (rfl|rfl)
   .exact(n.o _ r.o.jg.2.2.1).2
   .exact(n.o _ (r.o.jg.2.2.2.2.2.1 _ rfl)).2
end
theorem MZ:gF 135:=dh func135 aN rfl
def vU (T:List (Option Nat)) (n:Nat):List (Option Nat):=List.replicate n none++T.drop n
theorem Ci {T:List (Option Nat)} {n:Nat} (h:n<=T.length):(vU T n).length=T.length:=by simp[vU];omega
theorem M0 {T:List (Option Nat)}:vU T 0=T:=by simp[vU]
theorem PD {T:List (Option Nat)} {n:Nat} (h:n<T.length):(vU T n).set n none=vU T (n+1):=by
 unfold vU;rw[ui _ _ aA,iw,iM,mE h,oD,ry,dY];rfl
theorem PE {T:List (Option Nat)} {n j:Nat} (h:n<=j):(vU T n)[j]? =T[j]? :=by
 unfold vU;rw[nz (aP h),iw,Ej,show n+(j-n)=j by omega]
section
variable {w w':World} {X S G:Nat->Prop} {F:Nat->Nat->Prop} {Hb Cb mb m:Nat} {cv tv av lv:Value} {ch:List zN} {T:List (Option Nat)} {al al':List Bool} {eU lev':List Int} {A A':List eP} {N wk:Int}
theorem zu {CB:List (List eP)} (h:nY CB al A N):CB.flatten.length<=al.length:=by
 have d:(CB.flatten.map fun c=>c.2.toNat).Nodup:=by
  refine dm.2 ((dm.1 h.S9).imp_of_mem ?_);intro a b g j i f;exact i (by rw[h.one g j f])
 have e:=wX d (n:=al.length) (fun k m=>by
  obtain⟨c,l,rfl⟩:=cu.1 m;have⟨q,o,p⟩:=h.num l;omega)
 rwa [bR]at e
theorem iZ.TH (h:iZ w X Hb Cb mb cv tv av lv ch T al eU A N wk) {i j:Value} (K:ay (fun k=>k=Hb\/av.ownBlock=some k\/lv.ownBlock=some k) w w') (u:w'.heap[Hb]? =some (Obj.cells (vT Cb mb tv i j) qZ (0,0))) (t:w'.ownsRow 0 4 1 i al'.length (al'.map Value.bool)) (y:w'.ownsRow 0 3 1 j lev'.length (lev'.map (Value.int .i64))):
  iZ w' (fun k=>X k\/i.ownBlock=some k\/j.ownBlock=some k) Hb Cb mb cv tv i j ch T al' lev' A N wk:=by
 have p:∀{b:Nat} {cs:Array Value} {g:TypeId} {fr:Nat×Nat},w.heap[b]? =some (Obj.cells cs g fr)->g≠qZ->g≠4->g≠3->w'.heap[b]? =w.heap[b]? :=fun{b cs g fr} c l m o=>K.block b (aY.1 c).1 fun h9=>by
  rcases h9 with rfl|h9|h9
  .exact dV c h.blk l rfl
  .obtain⟨f,d⟩:=dG h.dJ h9;exact dV c d m rfl
  .obtain⟨f,d⟩:=dG h.nk h9;exact dV c d o rfl
 have r:∀{e:TypeId} {sz n:Nat} {v:Value} {xs:List Value},w.ownsRow 0 e sz v n xs->e≠qZ->e≠4->e≠3->w'.ownsRow 0 e sz v n xs:=fun{e sz n v xs} q l m o=>aX q fun F s=>by
  have⟨f,d⟩:=dG q s;exact p d l m o
 refine⟨u,⟨bH _,h.fJ.ds,(p h.fJ.blk ai ai ai).trans h.fJ.blk,r h.fJ.row ai ai ai⟩,h.rows.kept fun b f fr c=>p c ai ai ai,r h.jA ai ai ai,t,y,h.map.same ?_,⟨.inl h.jg.1,.inl h.jg.2.1,.inl h.jg.2.2.1,fun k e=>.inl (h.jg.2.2.2.1 k e),fun k e=>.inl (h.jg.2.2.2.2.1 k e),fun k e=>.inr (.inl e),fun k e=>.inr (.inr e)⟩,fun x B z a e=>.inl (h.Qc x B z a e)⟩;refine K.block _ h.map.lt fun h9=>?_;obtain⟨D,⟨E,C,c,-⟩,-⟩:=h.map;rcases h9 with e|e|e
 .rw[e,h.blk]at c;cases c
 .obtain⟨f,d⟩:=dG h.dJ e;rw[d]at c;cases c
 .obtain⟨f,d⟩:=dG h.nk e;rw[d]at c;cases c
def KX (N:Int) (n:Nat):Prop:=∃i q:Nat,n=2^i/\N+1=((2^i+2^(i+1)*q:Nat):Int)
theorem KX.pos {N:Int} {n:Nat} (h:KX N n):1<=n:=by
 obtain⟨i,q,rfl,-⟩:=h;exact p8 ai
theorem G7 {d:Nat}:∀{L:List Nat},(∀x∈L,d∣x)->d∣L.sum
 |[],_=>⟨0,rfl⟩
 |x::L,h=>by
  rw[List.sum_cons];exact Nat.dvd_add (h x nQ) (G7 fun y a=>h y (kX _ a))
theorem nY.Wj {CB:List (List eP)} (h:nY CB al A N) (i:Nat) (hi:i<=CB.length) (n:∀j (a:j<CB.length),j<i->CB[j]≠[]) (g:∀h:i<CB.length,CB[i]=[]):KX N ((eO CB i).length+1):=by
 have f:=yD CB i hi fun j a k=>(h.size j a).elim (fun e=>absurd (gU e) (n j a k)) id;have b:(CB.take i).flatten++(CB.drop i).flatten=CB.flatten:=by rw[<-kY,jB]
 have c:=congrArg List.length b;rw[bQ,<-(jy CB i).length_eq]at c;have hd:2^(i+1)∣(CB.drop i).flatten.length:=by
  rw[Ef];refine G7 fun x p=>?_;obtain⟨l,m,rfl⟩:=cu.1 p;obtain⟨j,a,rfl⟩:=jb m;rw[mJ]at a;rw[List.getElem_drop];by_cases r:j=0
  .subst r;have d:=g aa;simp only[dH];rw[d];exact⟨0,rfl⟩
  .rcases h.size (i+j) aa with e|e
   .rw[e];exact⟨0,rfl⟩
   .rw[e];exact Nat.pow_dvd_pow 2 aa
 have⟨q,s⟩:=hd;have o:=h.stored;refine⟨i,q,f,?_⟩;rw[o];omega
def UR (w:World) (Hb:Nat) (G:Nat->Prop) (m:Nat) (A:List eP) (N wk:Int) (p:Pt) (e:Ending) (w':World):Prop:=
 ∃(n:Nat) (q:Int),KX N n/\e=.returned (.tuple #[.int .i64 n,.bool true])/\ko w' Hb (fun k=>G k\/w.heap.size<=k) (m+1) (A++[(p,q)]) (N+1) (wk+n)/\ay G w w'
theorem TI (h:ko w Hb G m A N wk) (ei:m<5000) (x y d:Int) (a6:Be (x,y,d)) (bF:d∉ids (A.map (·.1))):
  Calls prog 57 #[.pointer (some ⟨Hb,0,none⟩),iV x y d] w (UR w Hb G m A N wk (x,y,d)):=by
 obtain⟨X,F,Cb,mb,cv,tv,av,lv,ch,T,al,eU,a5,ac,cV,ht,dR,dG,cx,hF,dL,cQ⟩:=h;have az:=ac.levels;have cM:(A.map (·.1)).Nodup:=Bz ac.keys;have bG:(x,y,d)∉A.map (·.1):=fun h=>bF (cu.2 ⟨_,h,rfl⟩);have ca:Hid (∀W,Below w.heap.size w W->(Instr.lookup 188 (.map (some mb)) (iV x y d) true).run prog W=.ok (.tuple #[.int .i64 0,.bool false]) W):=fun W ar=>by
  rcases(a5.below ar).map.look a6 cM with⟨dy,dO,ap,-⟩|⟨-,t⟩
  .exact absurd (cu.2 ⟨dy,dO,ap⟩) bG
  .exact t
 have u:=ag a5;have bl:=ag ht;have L:=ag ac;have bm:=ag cV;have ak:=ag cx;have dg:=ag hF;have b3:=ag cQ;have dm:=ag bF;have dl:=ag bG;have ba:Below w.heap.size w (w.alloc (.cells #[.int .i64 x,.int .i64 y,.int .u32 d] 29)):=(aJ _ _).alloc (aB _) _;have an:=ag (df w (.cells #[.int .i64 x,.int .i64 y,.int .u32 d] 29));have be:=ag ba;have bb:=ag (a5.below ba);have c8:=ag (zS bb.o);have d9:0<=N/\N<=5000:=by have:=ac.stored;have:=az.2.1;omega
 have eb:ch.length<=13:=by have:=az.1;simpa using this
 have d8:A.length<=5000:=by have:=ac.Ja.1;have:=az.2.1;omega
 have ec:(ch.map (·.2.1)).flatten.length<=5000:=az.2.1;clear a5 ac cV ht cx hF cQ bF bG ba cM az;go_enter func57,ntmps57
 go_wp2_with (go_at_call 134;refine c8.o.mono ?_;rintro e w1 ⟨rfl,cc⟩;have dz:=cc.symm;clear cc;subst dz)
 generalize w.alloc (.cells #[.int .i64 x,.int .i64 y,.int .u32 d] 29)=w1 at*;have br:w1.cell? ⟨w.heap.size,0,none⟩=some (.int .i64 x):=fE an.o;have ap:w1.cell? ⟨w.heap.size,1,none⟩=some (.int .i64 y):=fE an.o;have t:w1.cell? ⟨w.heap.size,2,none⟩=some (.int .u32 d):=fE an.o;have aS:=ah br;have aT:=ah ap;have aL:=ah t;have bw:=ah (w:=w1) bb.o.cell.2.2.2.2.2.2;have lk:∀p:aR w1,(Instr.lookup 188 (.map (some mb)) (iV x y d) true).run prog p.W=.ok (.tuple #[.int .i64 0,.bool false]) p.W:=fun p=>ca.o p.W (be.o.trans (p.h.mono be.o.size));refine kN [(0,false),(1,false),(2,false),(3,true),(4,true),(5,true),(6,false),(7,false),(8,false),(9,false),(10,false)] 0 ?_;refine lh aN ?_;clear aS aT aL bw lk ca
 go_wp2_with fail
 have aV:=ag (bb.o.below (aJ _ _).drew);obtain⟨d3,d4,bs,-,-,-⟩:=Rd.aG aV.o.dJ;have aS:=ah (w:=w1.drew) br;have aT:=ah (w:=w1.drew) ap;have aL:=ah (w:=w1.drew) t;have Q:=aV.o.cell.2.2.2.2.1;rw[bs]at Q;have aq:=ah (w:=w1.drew) Q;have bw:=ah (w:=w1.drew) aV.o.cell.2.2.2.2.2.2;have c9:=ag bs;clear bs Q;refine au (fun W=>∃p:aR w1.drew,W=p.W) [10] [(0,false),(1,false),(2,false),(3,true),(4,true),(5,false),(6,false),(7,false),(8,true),(9,false)] ⟨⟨_,(aJ _ _).drew⟩,rfl⟩ 1 ?_;refine aI [10] ?_;clear aS aT aL aq bw;have bM:=ag (aV.o.below (aJ _ _).drew);obtain⟨D,cj,ck⟩:=bM.o.map;refine xD _ rfl _ _ _ _ rfl _ _ (Keyed.of_law Gf) underlying188 (plainElem prog 3) mb A.length D rfl cj dI (iV x y d) (.int .i64 (al.length:Int)) (kp (x,y,d)) rfl rfl (yw a6) (.lit (.int .i64 (al.length:Int))) [] (uY underlying3 (by simp[Lit.wf,IntKind.min,IntKind.max,IntKind.bits,IntKind.signed];omega)) ?_;intro w4 cP a4;have ct:lD w4 mb (A++[((x,y,d),(al.length:Int))]):=⟨_,by rw[bQ];exact cP,ck.put a6 dl.o _⟩;have ae:=ag (bM.o.Pz a4 ct);have bU:Hid (ay (fun k=>k=mb) w w4):=(((ay.refl (fun k=>k=mb) w).below be.o).drew.drew).grown a4 fun k e=>.inl (by injection e with e;exact e.symm);have bo:Hid (w4.heap[w.heap.size]? =some (Obj.cells #[.int .i64 x,.int .i64 y,.int .u32 d] 29 (0,0))):=(a4.block _ (aY.1 an.o).1 (fun e=>by injection e with e;have:=u.o.map.lt;omega)).trans an.o;clear cj ck cP a4 ct br ap t
 go_wp2_with fail
 have c1:w4.cell? ⟨w.heap.size,0,none⟩=some (.int .i64 x):=fE bo.o;have c2:w4.cell? ⟨w.heap.size,1,none⟩=some (.int .i64 y):=fE bo.o;have c3:w4.cell? ⟨w.heap.size,2,none⟩=some (.int .u32 d):=fE bo.o;have aS:=ah c1;have aT:=ah c2;have aL:=ah c3;have cb:=ae.o.cell.2.2.1;have Q:=ae.o.cell.2.2.2.2.1;rw[c9.o]at Q;have dD:=ah cb;have aq:=ah Q;have bK:=ag (Sz (ae.o.below (aJ _ _).drew).fJ (bH _) (ae.o.below (aJ _ _).drew).rows x y d (al.length:Int) aa aa aa);have dV:=bU.o.size;refine au (fun W=>∃p:aR w4,W=p.W) [11,12,13,14,15,16] [(0,false),(1,false),(2,false),(3,true),(4,true),(5,false),(6,false),(7,false),(8,true),(9,false),(10,false)] ⟨⟨_,(aJ _ _).drew⟩,rfl⟩ 6 ?_;refine aH 11 rfl fun K g=>?_;refine aZ MZ rfl _ _ rfl (vals:=#[.pointer (some ⟨Cb,0,none⟩),Uj x y d al.length]) rfl bK.o ?_;rintro e f ⟨i,ev,R,O,Y,rfl,hi,P,cB,bx,⟨bI,-⟩,cJ,cO,cA,cq,cN,cY⟩;refine⟨_,rfl,?_⟩;refine g _ _ (fun _ h=>absurd ai h) ?_;clear g K aS aT aL dD aq cb Q c1 c2 c3;have bj:=ag P;have bf:=ag cB;have bi:=ag cJ;have b2:=ag cO;have dt:=ag cY;have a2:ay (fun k=>k=Cb\/cv.ownBlock=some k) w4 f:=((ay.refl _ w4).drew).trans cq;have ep:=a2.size;have ce:=ae.o.Pv a2 bx bI cN (cA.imp (fun h=>h) fun⟨b,e,ar⟩=>.inr ⟨b,e,ar⟩);have v:Hid (iZ f (fun k=>X k\/w.heap.size<=k/\k<f.heap.size) Hb Cb mb R tv av lv O T al eU (A++[((x,y,d),(al.length:Int))]) (N+1) Y):=ce.more fun k hk=>by
  rcases hk with hk|⟨J,E⟩
  .exact .inl hk
  .refine .inr ⟨aa,?_⟩;rcases E with E|⟨q,aC,dU,a,dK,rfl⟩
   .exact(bx.row.lt k E).2
   .rcases(bI q aC).1 with h9|⟨b,off,d5,fr,aX,ar,-⟩
    .exact absurd h9 dU
    .rw[dK]at aX;injection aX with aX;rw[aX];exact(aY.1 ar).1
 have bV:Hid (ay (fun k=>k=mb\/k=Cb\/cv.ownBlock=some k) w f):=(bU.o.mono fun k h=>.inl h).trans (a2.mono fun k h=>.inr h);clear P cB bx bI cJ cO cA cq cN cY a2 ce bK;refine iR (fun _=>True) [15,16] aN ?_;refine bq [(12,false),(13,false),(14,false)] trivial rfl ?_;refine aI [15,16] ?_
 go_wp2_with fail
 have ea:w.heap.size<=f.heap.size:=bV.o.size
 go_cut []from 49 to 67 (fun ad=>∃dx bJ:Value,Hid (iZ ad (fun k=>X k\/w.heap.size<=k/\k<ad.heap.size) Hb Cb mb R tv dx bJ O T (al++[true]) (eU++[(i:Int)]) (A++[((x,y,d),(al.length:Int))]) (N+1) Y)/\Hid (bJ.ownBlock=lv.ownBlock\/∃b,bJ.ownBlock=some b/\w.heap.size<=b)/\Hid (ay (fun k=>k=Hb\/av.ownBlock=some k\/lv.ownBlock=some k) f ad))
 case first=>
  obtain⟨-,-,-,-,c4,c5,-⟩:=v.o.cell;have cn:=v.o.lt;have cz:=v.o.blk;have a8:av.ownBlock≠some Hb:=v.o.zt v.o.dJ ai;have c0:lv.ownBlock≠some Hb:=v.o.zt v.o.nk ai;have cZ:∀c,av.ownBlock=some c->lv.ownBlock≠some c:=fun c e t=>bu v.o.dJ v.o.nk ai c e t;have cW:∀c,av.ownBlock=some c->c<f.heap.size:=fun c e=>(v.o.dJ.lt c e).2;have cX:∀c,lv.ownBlock=some c->c<f.heap.size:=fun c e=>(v.o.nk.lt c e).2;have aq:∀p:wD (fun k=>av.ownBlock=some k) f,p.W.cell? ⟨Hb,4,none⟩=some av:=fun p=>((bY p.h cn a8).1 4).trans c4;have dE:∀p:wD (fun k=>av.ownBlock=some k) f,p.W.cell? ⟨Hb,5,none⟩=some lv:=fun p=>((bY p.h cn a8).1 5).trans c5;have bd:=ag v.o.dJ;have di:=ag v.o.nk;have bW:=ag a8;have b0:=ag c0;have bX:=ag cZ;have b4:=ag cW;have ds:=ag cX;have dd:=ag cz;have cE:=bm.o.I9;clear a8 c0 cZ cW cX cz c4 c5;refine au (fun W=>∃p:wD (fun k=>av.ownBlock=some k) f,W=p.W) [14,15,16,17,18,19,20] [(0,false),(1,false),(2,false),(3,false),(4,false),(5,true),(8,false),(9,false),(10,false),(11,true),(12,false)] ⟨⟨_,(ay.refl _ _).drew⟩,rfl⟩ 10 ?_;clear aq dE;have d2:ay (fun k=>av.ownBlock=some k) f f.drew:=(ay.refl _ _).drew;refine qm [6,13] aN aA ?_;have b6:ay (fun k=>av.ownBlock=some k) f (f.alloc (.cells #[.bool true] 4)).drew:=((ay.refl _ _).alloc _).drew;have b7:ay (fun k=>av.ownBlock=some k) f ((f.alloc (.cells #[.bool true] 4)).alloc (.cells #[.int .i64 (i:Int)] 3)).drew:=(((ay.refl _ _).alloc _).alloc _).drew;have b8:ay (fun k=>av.ownBlock=some k) f ((f.alloc (.cells #[.int .i64 (i:Int)] 3)).alloc (.cells #[.bool true] 4)).drew:=(((ay.refl _ _).alloc _).alloc _).drew;have du:(f.alloc (.cells #[.bool true] 4)).drew.ownsRow 0 4 1 av al.length (al.map Value.bool):=aU (S:=fun _=>False) bd.o (((ay.refl _ _).alloc _).drew) (fun _ _ h=>h);have dv:((f.alloc (.cells #[.bool true] 4)).alloc (.cells #[.int .i64 (i:Int)] 3)).drew.ownsRow 0 4 1 av al.length (al.map Value.bool):=aU (S:=fun _=>False) bd.o ((((ay.refl _ _).alloc _).alloc _).drew) (fun _ _ h=>h);have dw:((f.alloc (.cells #[.int .i64 (i:Int)] 3)).alloc (.cells #[.bool true] 4)).drew.ownsRow 0 4 1 av al.length (al.map Value.bool):=aU (S:=fun _=>False) bd.o ((((ay.refl _ _).alloc _).alloc _).drew) (fun _ _ h=>h);refine fD.cons rfl (fun K g=>?_) (fD.cons rfl (fun K g=>?_) fD.nil);go_simp;refine g _ _ (fun _ _=>⟨⟨_,b6⟩,rfl⟩) ?_;clear g K;refine iQ 7 13 rfl rfl (fun K g=>?_) (fun K g=>?_);refine bC yf 0 du [.bool true] rfl (by simp[Value.oneCell']) rfl (.tmp 54) (.tmp 55) rfl rfl _ rfl (kZ _ _) dI aa (bH _) ?_;intro l H u2 cg r s cF;have aw:av.ownBlock=some l\/f.heap.size<=l:=s.imp id fun e=>by rw[e];simp
  have aW:=b6.grown r (fun k e=>.inl e);refine g _ _ (fun _ _=>⟨⟨_,aW⟩,rfl⟩) ?_;clear g K s;refine aH 13 rfl fun K g=>?_;go_simp;refine g _ _ (fun _ _=>⟨⟨_,aW.alloc _⟩,rfl⟩) ?_;clear g K;have Z:=df u2 (.cells #[.int .i64 (i:Int)] 3);have M:=aW.alloc (.cells #[.int .i64 (i:Int)] 3);have a0:=cg.alloc (.cells #[.int .i64 (i:Int)] 3);have cG:l<(u2.alloc (.cells #[.int .i64 (i:Int)] 3)).heap.size:=aF;clear r aW cg cF;generalize u2.alloc (.cells #[.int .i64 (i:Int)] 3)=u3 at*;generalize u2.heap.size=lb at*;clear u2
  rotate_left
  go_simp;refine g _ _ (fun _ _=>⟨⟨_,b7⟩,rfl⟩) ?_;clear g K;refine aH 7 rfl fun K g=>?_;refine bC yf 0 dv [.bool true] rfl (by simp[Value.oneCell']) rfl (.tmp 54) (.tmp 55) rfl rfl _ rfl (C9 _ _ _) dI aa (bH _) ?_;intro l H u3 a0 r s cG;have aw:av.ownBlock=some l\/f.heap.size<=l:=s.imp id fun e=>by rw[e];simp;omega
  have M:=b7.grown r (fun k e=>.inl e);refine g _ _ (fun _ _=>⟨⟨_,M⟩,rfl⟩) ?_;clear g K s;have Z:=(r.block (f.heap.size+1) aA (fun e=>by have:=b4.o _ e.symm;omega)).trans (Da f (.cells #[.bool true] 4) (.cells #[.int .i64 (i:Int)] 3));clear r;obtain⟨lb,V⟩:∃lb,lb=f.heap.size+1:=⟨_,rfl⟩;rw[<-V]at Z;rw[<-V];clear V
  rotate_left
  go_simp;refine g _ _ (fun _ _=>⟨⟨_,((ay.refl _ _).alloc (.cells #[.int .i64 (i:Int)] 3)).drew⟩,rfl⟩) ?_;clear g K;refine aH 6 rfl fun K g=>?_;go_simp;refine g _ _ (fun _ _=>⟨⟨_,b8⟩,rfl⟩) ?_;clear g K;refine aH 7 rfl fun K g=>?_;refine bC yf 0 dw [.bool true] rfl (by simp[Value.oneCell']) rfl (.tmp 54) (.tmp 55) rfl rfl _ rfl (Da _ _ _) dI aa (bH _) ?_;intro l H u3 a0 r s cG;have aw:av.ownBlock=some l\/f.heap.size<=l:=s.imp id fun e=>by rw[e];simp;omega
  have M:=b8.grown r (fun k e=>.inl e);refine g _ _ (fun _ _=>⟨⟨_,M⟩,rfl⟩) ?_;clear g K s;have Z:=(r.block f.heap.size aF (fun e=>by have:=b4.o _ e.symm;omega)).trans (C9 f (.cells #[.int .i64 (i:Int)] 3) (.cells #[.bool true] 4));clear r;obtain⟨lb,V⟩:∃lb,lb=f.heap.size:=⟨_,rfl⟩;rw[<-V]at Z;rw[<-V];clear V
  all_goals
   refine aH 14 rfl fun K g=>?_;refine bC nD 0 (aU di.o M (fun c e t=>bX.o c t e)) [.int .i64 (i:Int)] rfl (by simp[Value.oneCell']) rfl (.tmp 60) (.tmp 62) rfl rfl _ rfl Z dI aa (bH _) ?_;intro gl cl u4 cs r s ef;have bB:lv.ownBlock=some gl\/f.heap.size<=gl:=s.imp id fun e=>by rw[e];exact M.size
   have bn:ay (fun k=>av.ownBlock=some k\/lv.ownBlock=some k) f u4:=(M.mono fun k h=>.inl h).grown r (fun k e=>.inl (.inr e));refine g _ _ (fun _ h=>absurd ai h) ?_;have dF:=aU a0 ((ay.refl (fun k=>lv.ownBlock=some k) u3).grown r fun k e=>.inl e) (fun c e t=>by
    have I:l=c:=by injection e
    rcases aw with h9|h9
    .exact bX.o l h9 (by rw[I];exact t)
    .have:=ds.o c t;omega)
   have a3:=bz bn dd.o (fun e=>e.elim (fun e=>bW.o e) (fun e=>b0.o e));have ew:u4.cell? ⟨Hb,4,none⟩=some av:=fE a3;have ex:u4.cell? ⟨Hb,5,none⟩=some lv:=fE a3;have d7:∀j,u4.frozen? ⟨Hb,j,none⟩=false:=fun j=>aD a3;clear g K s r Z M a0;refine aI [15,16,17,18,19,20] ?_
   go_wp2_with fail
   go_meet;have dS:l≠Hb:=fun e=>aw.elim (fun h=>bW.o (by rw[h,e])) fun h=>aa;have dT:gl≠Hb:=fun e=>bB.elim (fun h=>b0.o (by rw[h,e])) fun h=>aa;have dV:=bn.size;have dM:(u4.setCell ⟨Hb,4,none⟩ (.slice (some ⟨l,0,none⟩) (al.length+1) H)).heap[Hb]? =some (Obj.cells (vT Cb mb tv (.slice (some ⟨l,0,none⟩) (al.length+1) H) lv) qZ (0,0)):=by
    rw[dC u4 Hb 4 _ _ _ a3];rfl
   have dN:((u4.setCell ⟨Hb,4,none⟩ (.slice (some ⟨l,0,none⟩) (al.length+1) H)).setCell ⟨Hb,5,none⟩ (.slice (some ⟨gl,0,none⟩) (al.length+1) cl)).heap[Hb]? =some (Obj.cells (vT Cb mb tv (.slice (some ⟨l,0,none⟩) (al.length+1) H) (.slice (some ⟨gl,0,none⟩) (al.length+1) cl)) qZ (0,0)):=by
    rw[dC _ Hb 5 _ _ _ dM];rfl
   have b5:ay (fun k=>k=Hb\/av.ownBlock=some k\/lv.ownBlock=some k) f ((u4.setCell ⟨Hb,4,none⟩ (.slice (some ⟨l,0,none⟩) (al.length+1) H)).setCell ⟨Hb,5,none⟩ (.slice (some ⟨gl,0,none⟩) (al.length+1) cl)):=((bn.mono fun k h=>.inr h).set (a:=⟨Hb,4,none⟩) _ (.inl (.inl rfl))).set (a:=⟨Hb,5,none⟩) _ (.inl (.inl rfl));have b9:ay (fun k=>k=Hb) u4 ((u4.setCell ⟨Hb,4,none⟩ (.slice (some ⟨l,0,none⟩) (al.length+1) H)).setCell ⟨Hb,5,none⟩ (.slice (some ⟨gl,0,none⟩) (al.length+1) cl)):=((ay.refl (fun k=>k=Hb) u4).set (a:=⟨Hb,4,none⟩) _ (.inl rfl)).set (a:=⟨Hb,5,none⟩) _ (.inl rfl);rw[cE]at cs;have c6:=aU dF b9 (fun c e t=>dS (by have I:l=c:=(by injection e);rw[I];exact t));have c7:=aU cs b9 (fun c e t=>dT (by have I:gl=c:=(by injection e);rw[I];exact t));refine⟨_,_,(v.o.TH (al':=al++[true]) (lev':=eU++[(i:Int)]) b5 dN (by rw[bQ,bP];exact c6) (by rw[bQ,bP,cE];exact c7)).more (fun k hk=>?_),bB.elim (fun h=>.inl h.symm) (fun h=>.inr ⟨gl,rfl,aa⟩),b5⟩;have es:((u4.setCell ⟨Hb,4,none⟩ (.slice (some ⟨l,0,none⟩) (al.length+1) H)).setCell ⟨Hb,5,none⟩ (.slice (some ⟨gl,0,none⟩) (al.length+1) cl)).heap.size=u4.heap.size:=aA;rcases hk with(hk|hk)|hk|hk
   .exact .inl hk
   .exact .inr ⟨hk.1,aa⟩
   .have I:l=k:=by injection hk
    have cf:=(c6.lt l rfl).2;rcases aw with h9|h9
    .exact .inl (I▸u.o.jg.2.2.2.2.2.1 l h9)
    .exact .inr ⟨aa,aa⟩
   .have I:gl=k:=by injection hk
    have cf:=(c7.lt gl rfl).2;rcases bB with h9|h9
    .exact .inl (I▸u.o.jg.2.2.2.2.2.2 gl h9)
    .exact .inr ⟨aa,aa⟩
 case rest=>
  obtain⟨ao,aK,bc,dh,bh⟩:=hcut;obtain⟨w6,dA⟩:∃w6:World,w6=wc:=⟨_,rfl⟩;subst dA;have eq:=bh.o.size;have b1:=ag (aU b2.o bh.o (fun c e h=>by
   have J:w4.heap.size<=c:=(b2.o.lt c e).1;have E:=u.o.lt;rcases h with h|h|h
   .omega
   .have:=(u.o.dJ.lt c h).2;omega
   .have:=(u.o.nk.lt c h).2;omega))
  obtain⟨et,tc,bt,-,-,-⟩:=Rd.aG (enc:=vTr) bc.o.jA;have d1:=ag bt;have bp:=bc.o.cell.2.2.2.1;rw[bt]at bp;clear bt;obtain⟨C,cK,dQ,ej⟩:∃C:Nat,C=min i T.length/\C<=T.length/\min (i:Int) (T.length:Int)=(C:Int):=⟨min i T.length,rfl,aa,aa⟩;have dk:=ag cK;clear cK;have de:Hid (iZ w6 (fun k=>X k\/w.heap.size<=k/\k<w6.heap.size) Hb Cb mb R tv ao aK O (vU T 0) (al++[true]) (eU++[(i:Int)]) (A++[((x,y,d),(al.length:Int))]) (N+1) Y):=by rw[M0];exact bc.o
  have dr:Hid (∀c,tv.ownBlock=some c->c<w.heap.size):=fun c e=>(u.o.jA.lt c e).2
  go_upto_block 0 with fail
  go_cut [11,75]from 76 to 85 (fun bv a7 ad=>Hid (iZ ad (fun k=>X k\/w.heap.size<=k/\k<w6.heap.size) Hb Cb mb R tv ao aK O (vU T C) (al++[true]) (eU++[(i:Int)]) (A++[((x,y,d),(al.length:Int))]) (N+1) Y)/\Hid (ay (fun k=>tv.ownBlock=some k) w6 ad))
  case first=>
   go_wp2_with fail
   go_loopw [75] (fun a7 wr=>∃n:Nat,a7=.int .i64 n/\n<=C/\Hid (iZ wr (fun k=>X k\/w.heap.size<=k/\k<w6.heap.size) Hb Cb mb R tv ao aK O (vU T n) (al++[true]) (eU++[(i:Int)]) (A++[((x,y,d),(al.length:Int))]) (N+1) Y)/\Hid (ay (fun k=>tv.ownBlock=some k) w6 wr)) (fun a7 _=>C-(intOf a7).toNat)
   case atStart=>exact⟨0,rfl,bH _,de,ay.refl _ _⟩
   case round=>
    obtain⟨n,rfl,ek,af,bO⟩:=hrel;by_cases cF:n<C
    .have dP:=Ci (T:=T) (n:=n) aa;obtain⟨cd,eu,ab,-,ee,-,-⟩:=aQ af.o.jA aa;have aE:=af.o.jA;rw[dP]at ab aE;rw[ab]at aE;have d0:=aE.cellAt n aa;rw[bZ (by rw[bR];omega)]at d0;have d6:=aE.frozenAt n;have dp:Hid (iZ (wr.setCell ⟨cd,n,none⟩ (vTr none)) (fun k=>X k\/w.heap.size<=k/\k<w6.heap.size) Hb Cb mb R tv ao aK O (vU T (n+1)) (al++[true]) (eU++[(i:Int)]) (A++[((x,y,d),(al.length:Int))]) (N+1) Y):=by
      have J:=af.o;rw[ab]at J |-;rw[<-PD aa];exact J.UK n none
     have aj:Hid (ay (fun k=>tv.ownBlock=some k) w6 (wr.setCell ⟨cd,n,none⟩ (vTr none))):=bO.o.set _ (.inl (by rw[ab];rfl));have bp:=af.o.cell.2.2.2.1;rw[ab]at bp;have el:(n:Int)<(T.length:Int):=aa;have em:(n:Int)<(C:Int):=aa;clear ab aE;go_wp2;go_roundw
     case rel=>exact⟨n+1,by go_num,aa,dp,aj⟩
     case measure=>exact dX
    .obtain rfl:n=C:=aa;have ed:¬(n:Int)<(n:Int):=aa
     go_wp2_with fail
     go_meet;exact⟨af,bO⟩
  case rest=>
   obtain⟨da,aj⟩:=hcut;obtain⟨a9,dB⟩:∃a9:World,a9=wc:=⟨_,rfl⟩;subst dB;have er:=aj.o.size;have dn:=ag (aU b1.o aj.o (fun c e h=>by
    have J:w4.heap.size<=c:=(b1.o.lt c e).1;have:=dr.o c h;omega))
   obtain⟨va,dY,rfl,-,-,cT⟩:=LB.aG dn.o;have U:=L.o.add dR (x,y,d) a6 dm.o aa i (aP hi) (fun j B ax=>by rw[fM];exact bj.o j (aP B) ax) (fun B=>by rw[fM];exact bf.o (aP B));have bD:i<(kC (ch.map (·.2.1)) i ((x,y,d),(al.length:Int))).length:=by rw[o6 _ _ _ (aP hi)];split<;>omega
   have cD:(kC (ch.map (·.2.1)) i ((x,y,d),(al.length:Int)))[i]=eO (ch.map (·.2.1)) i++[((x,y,d),(al.length:Int))]:=by rw[o7,aM aa,aO rfl]
   have s:=U.bk i bD;have cC:=U.few i bD;rw[cD]at s cC;have db:=ag U;have dH:∀k,(X k\/w.heap.size<=k/\k<w6.heap.size)->k<a9.heap.size:=fun k hk=>by
    rcases hk with hk|hk
    .have:=(ak.o k hk).1;omega
    .omega
   have bL:=ag (KU da.o va dY (eO (ch.map (·.2.1)) i++[((x,y,d),(al.length:Int))]) i cT aa (by rw[Ci aa];omega) cC s.2.2 (by simp[bm.o.I9]) aF s.1 s.2.1 dH);have en:0<(eO (ch.map (·.2.1)) i++[((x,y,d),(al.length:Int))]).length:=aA;generalize co:eO (ch.map (·.2.1)) i++[((x,y,d),(al.length:Int))]=am at*;have bg:=ag co;clear U cD s co cT bD
   go_wp2_with fail
   refine bL.o.mono ?_;rintro e dZ ⟨rfl,tv',tb,mm,Fn,cw,ci,cm,cI,-,cp⟩;have dq:=ag cw;have dc:=ag ci;have bN:=ag cm;have dj:=ag cI;have bS:=ag cp;clear cw ci cm cI cp bL;go_wp2;go_ret2;have a1:=congrArg List.length bg.o;rw[bQ,zX]at a1;have eo:=bS.o.size;obtain⟨eg,eh⟩:=dj.o;have cL:w.heap.size<=mm:=aa;have cr:ay (fun k=>k=Hb\/k=Cb\/k=mb\/cv.ownBlock=some k\/tv.ownBlock=some k\/av.ownBlock=some k\/lv.ownBlock=some k) w dZ:=by
    refine ay.strip ((((bV.o.mono fun k h=>?_).trans (bh.o.mono fun k h=>?_)).trans (aj.o.mono fun k h=>?_)).trans (bS.o.mono fun k h=>?_))
    .rcases h with h|h|h
     .exact .inl (.inr (.inr (.inl h)))
     .exact .inl (.inr (.inl h))
     .exact .inl (.inr (.inr (.inr (.inl h))))
    .rcases h with h|h|h
     .exact .inl (.inl h)
     .exact .inl (.inr (.inr (.inr (.inr (.inr (.inl h))))))
     .exact .inl (.inr (.inr (.inr (.inr (.inr (.inr h))))))
    .exact .inl (.inr (.inr (.inr (.inr (.inl h)))))
    .rcases h with h|h|h
     .exact .inl (.inl h)
     .exact .inl (.inr (.inr (.inr (.inr (.inl h)))))
     .rcases dh.o with h9|⟨b,h9,cf⟩
      .exact .inl (.inr (.inr (.inr (.inr (.inr (.inr (h9.symm.trans h)))))))
      .rw[h9]at h;injection h with h;exact .inr aa
   have cU:=(bl.o.kept cr (u.o.UO bl.o)).step (X':=fun k=>(X k\/w.heap.size<=k/\k<w6.heap.size)\/a9.heap.size<=k/\k<mm) (i:=i) (m0:=w.heap.size) (m:=mm) (CB':=kC (ch.map (·.2.1)) i ((x,y,d),(al.length:Int))) (T':=zF (vU T C) i tb) dc.o (by unfold sG;rw[bR];exact gV _ _) (fun j B P=>by
     rw[o7]at P |-;by_cases J:j<i
     .rw[aO J]at P;exact absurd rfl P
     .rw[aM J]at P |-;by_cases E:j=i
      .left;rw[aO E,E];exact⟨rfl,bg.o⟩
      .right;rw[aM E]at P |-;have bE:j<(ch.map (·.2.1)).length:=by rw[o6 _ _ _ (aP hi)]at B;split at B<;>omega
       rw[ja,bZ bE,gG];refine⟨E,bE,rfl,fun q aC=>KV E (by rw[PE (by have:=dk.o;omega)];exact aC),?_⟩;unfold sG;rw[Kw L.o true fun q aC=>L.o.inl bE aC]) GY (fun k hk=>by
     rcases hk with(hk|hk)|hk
     .exact .inl hk
     .exact .inr ⟨hk.1,aa⟩
     .exact .inr ⟨aa,hk.2⟩) bN.o (fun j k hk=>bl.o.lt j k hk) (fun k hk=>bT (ak.o k hk).1 cL) cL
   have cH:=bm.o.add L.o (x,y,d) i (aP hi);rw[bg.o,<-bi.o]at cH;rw[<-bi.o]at cU;have cR:=b3.o.add L.o.Ja.1 (bA (zu L.o) dL) i (aP hi) L.o.size (fun j B ax=>by rw[fM];exact bj.o j (aP B) ax) (fun B=>by rw[fM];exact bf.o (aP B)) ((x,y,d),(al.length:Int));have U:=db.o;rw[<-bi.o]at U cR;have cS:KW (O.map (·.2.1)) (A.length+1) (wk+(am.length:Int)) (m+1):=by
    rw[<-a1];exact cR
   have dW:Y=wk+(am.length:Int):=(dt.o.trans (congrArg (fun z=>wrap64 (wk+z)) (show _=(am.length:Int) by rw[<-a1];rfl))).trans (IntWalk.wrap64_in _ (by have J:=cS.bound aa;have E:=b3.o.1;omega));have cy:=L.o.Wj i (aP hi) (fun j B ax=>by rw[fM];exact bj.o j (aP B) ax) (fun B=>by rw[fM];exact bf.o (aP B));rw[a1]at cy;refine⟨am.length,al.length,cy,rfl,⟨_,_,Cb,mb,R,tv',ao,aK,O,zF (vU T C) i tb,al++[true],il (eU++[(i:Int)]) am i,?_,U,cH,cU,?_,GZ (by rw[Ci dQ];exact dG) aa,fun k hk=>?_,?_,aF,?_⟩,cr.mono ?_⟩
   .rw[<-dW];exact dq.o
   .rw[bQ,zX];omega
   .rcases hk with(hk|hk)|hk
    .exact⟨by have:=(ak.o k hk).1;omega,.inl (ak.o k hk).2⟩
    .exact⟨aa,.inr hk.1⟩
    .exact⟨aa,.inr aa⟩
   .rintro j k (⟨-,hk⟩|⟨-,hk⟩)
    .have:=bN.o k hk;exact .inr aa
    .exact .inl (dg.o j k hk)
   .rw[bQ,zX];exact cS
   .have r:∀k,X k->G k:=fun k hk=>(ak.o k hk).2;rintro k (rfl|rfl|rfl|h|h|h|h)
    .exact r _ u.o.jg.1
    .exact r _ u.o.jg.2.1
    .exact r _ u.o.jg.2.2.1
    .exact r _ (u.o.jg.2.2.2.1 k h)
    .exact r _ (u.o.jg.2.2.2.2.1 k h)
    .exact r _ (u.o.jg.2.2.2.2.2.1 k h)
    .exact r _ (u.o.jg.2.2.2.2.2.2 k h)
end
end
section
open Go.RowKit Go.Sort Go.Shelf Go.Lib Go.Maps
attribute [local irreducible] wpQuiet
section
variable {w w':World} {S G:Nat->Prop} {Hb m:Nat} {A:List eP} {N wk:Int}
theorem ko.kept (h:ko w Hb G m A N wk) (K:ay S w w') (hS:∀k,G k->¬S k):ko w' Hb G m A N wk:=by
 have⟨X,F,Cb,mb,cv,tv,av,lv,ch,T,al,eU,d,e,f,g,j,l,b,c,n⟩:=h;exact⟨X,F,Cb,mb,cv,tv,av,lv,ch,T,al,eU,d.kept K fun k a=>hS k (b k a).2,e,f,g.kept K fun i k a=>hS k (c i k a),j,l,fun k a=>⟨bT (b k a).1 K.size,(b k a).2⟩,c,n⟩
theorem ko.facts (h:ko w Hb G m A N wk):(A.length:Int)<=N/\N<=2*A.length/\N<=m/\(ids (A.map (·.1))).Nodup/\(∀c∈A,Be c.1)/\0<=wk/\(∀L,m<2^L->wk<=(L*m:Nat))/\Hb<w.heap.size/\G Hb:=by
 have⟨X,F,Cb,mb,cv,tv,av,lv,ch,T,al,eU,b,a,n,o,e,p,f,q,r,d⟩:=h;have j:=a.stored;have k:=a.Ja.1;have l:=zu a;refine⟨aa,e,aa,a.keys,fun c i=>a.good c (bD.1 (a.live.mem_iff.1 i)).1,d.1,fun L g=>?_,b.lt,(f _ b.jg.1).2⟩;have:=d.2 L g;omega
theorem PG (h:ko w Hb G m A N wk):aK 87 #[aj Hb] w (fV w (ae N)):=by
 have⟨X,F,Cb,mb,cv,tv,av,lv,ch,T,al,eU,a,b⟩:=h;exact MS a
structure oq (w:World) (G:Nat->Prop) (F:Nat->Nat->Prop) (B:List (Nat×Nat×List Pt)):Prop where
 bk:∀(i:Nat) (h:i<B.length),Bk w (F i) B[i].1 B[i].2.1 B[i].2.2
 UT:∀i k,F i k->G k
 ap:∀i j k,F i k->F j k->i=j
def jm (B:List (Nat×Nat×List Pt)):List Pt:=B.flatMap fun b=>b.2.2
theorem oq.kept {F:Nat->Nat->Prop} {B:List (Nat×Nat×List Pt)} (h:oq w G F B) (K:ay S w w') (hS:∀k,G k->¬S k):oq w' G F B:=⟨fun i hi=>(h.bk i hi).kept K fun k a=>hS k (h.UT i k a),h.UT,h.ap⟩
theorem UU (w:World):aK 51 #[yU,DI] w fun e w'=>e=.returned (aj (w.heap.size+2))/\ko w' (w.heap.size+2) (fun k=>w.heap.size<=k) 0 [] 0 0/\Below w.heap.size w w':=by
 have m:=@run_makeMap prog;have n:∀w,(binOp .eql 107 yU .nilFunc).run prog w=.ok (.bool false) w:=fun w=>by
  have h:∀d:Nat,(Op.equalIn (d+1) 107 yU .nilFunc).run prog w=.ok false w:=fun d=>by simp[Op.equalIn,pQ underlying107]
  simp only[binOp];simp[Op.equal,Op.maxDepth,h 9999]
 have o:∀w,(binOp .eql 108 DI .nilFunc).run prog w=.ok (.bool false) w:=fun w=>by
  have h:∀d:Nat,(Op.equalIn (d+1) 108 DI .nilFunc).run prog w=.ok false w:=fun d=>by simp[Op.equalIn,pQ underlying108]
  simp only[binOp];simp[Op.equal,Op.maxDepth,h 9999]
 go_enter func51,ntmps51;go_wp2;go_ret;have j:(w.alloc (.cells #[.bool true,aL,ae 0,ae 0] 278)).heap.size=w.heap.size+1:=aA;have l:((w.alloc (.cells #[.bool true,aL,ae 0,ae 0] 278)).alloc (.map #[] 0)).heap.size=w.heap.size+2:=aA;have f:=df w (.cells #[.bool true,aL,ae 0,ae 0] 278);have m1:lD ((w.alloc (.cells #[.bool true,aL,ae 0,ae 0] 278)).alloc (.map #[] 0)) (w.heap.size+1) []:=by
  rw[<-j];exact⟨.map [],xK _ _ _ _,si.empty⟩
 have c:Below w.heap.size w (((w.alloc (.cells #[.bool true,aL,ae 0,ae 0] 278)).alloc (.map #[] 0)).alloc (.cells (vT w.heap.size (w.heap.size+1) (aL) (aL) (aL)) qZ)):=(((aJ _ _).alloc (aB _) _).alloc aA _).alloc aF _;have b:=df ((w.alloc (.cells #[.bool true,aL,ae 0,ae 0] 278)).alloc (.map #[] 0)) (.cells (vT w.heap.size (w.heap.size+1) (aL) (aL) (aL)) qZ);rw[l]at b;refine⟨rfl,⟨fun k=>w.heap.size<=k/\k<w.heap.size+3,fun _ _=>False,w.heap.size,w.heap.size+1,aL,aL,aL,aL,[],[],[],[],⟨b,⟨bH _,Vi,(bW _ _ _ aF).trans ((bW _ _ _ aA).trans f),dA _ _ _ _⟩,fun h a=>absurd a iA,dA _ _ _ _,dA _ _ _ _,dA _ _ _ _,m1.same (bW _ _ _ aA),⟨aa,aa,aa,(fun k e=>by cases e),(fun k e=>by cases e),(fun k e=>by cases e),(fun k e=>by cases e)⟩,fun h a=>absurd a iA⟩,Ta,Tc,⟨fun i h=>absurd h (jL _),fun _ _ h=>h.elim,fun _ _ _ h=>h.elim,fun _ _ h=>h.elim⟩,aA,aA,fun k g=>⟨aF,g.1⟩,fun _ _ h=>h.elim,aB _,Rq⟩,c⟩
end
end
section
open Go.RowKit Go.Sort Go.Shelf Go.Lib Go.Maps
theorem sK {α b:Type} (p:α->Bool) (f:α->List b):∀(l:List α),(∀x∈l,p x=false->f x=[])->(l.filter p).flatMap f=l.flatMap f
 |[],_=>rfl
 |x::l,h=>by
  have ih:=sK p f l fun y a=>h y (kX _ a);rw[lW,lV];cases hp:p x with
  |true=>rw[aO rfl,lV,ih]
  |false=>rw[aM aA,h x nQ hp,fO,ih]
theorem PH {CB:List (List eP)} {i:Nat} (h:i∈dU CB 0):∃hi:i<CB.length,CB[i]≠[]:=by
 unfold dU at h;have⟨b,a⟩:=bD.1 h;have hi:i<CB.length:=aP b;rw[ja,bZ hi,gG]at a;exact⟨hi,fun e=>by rw[e]at a;cases a⟩
theorem M3 {CB:List (List eP)} {i:Nat} (hi:i<CB.length) (h:CB[i]≠[]):i∈dU CB 0:=by
 unfold dU;refine bD.2 ⟨aP hi,?_⟩;rw[ja,bZ hi,gG];cases e:CB[i]with
 |nil=>exact absurd e h
 |cons=>rfl
theorem JM (CB:List (List eP)):(dU CB 0).Nodup:=by
 unfold dU;refine lS _ ?_;rw[kE];exact(uN _).nodup_iff.2 List.nodup_range
theorem PI (CB:List (List eP)):((dU CB 0).flatMap fun i=>CB.getD i []).Perm CB.flatten:=by
 unfold dU;rw[sK _ _ _ fun i _ hi=>aP hi,kE];refine((uN _).flatMap_right _).trans (List.Perm.of_eq ?_);rw[Ar];congr 1;refine rF aA fun i b a=>?_;rw[fM,xI,ja,bZ a,gG]
section
variable {w w':World} {S G:Nat->Prop} {Hb m:Nat} {A:List eP} {N wk:Int}
def R8 (b:Nat×Nat×List Pt):Value:=aj b.1
def UW (w:World) (Hb:Nat) (G:Nat->Prop) (m:Nat) (A:List eP) (N wk:Int) (e:Ending) (w':World):Prop:=
 ∃(v:Value) (B:List (Nat×Nat×List Pt)) (F:Nat->Nat->Prop),e=.returned v/\w'.ownsRow w.heap.size 106 1 v B.length (B.map R8)/\Below w.heap.size w w'/\oq w' G F B/\(jm B).Perm (A.map (·.1))/\(B.length≠0->2^(B.length-1)<=N)/\(∀b∈B,(b.2.1:Int)<=N/\b.2.1<=20000)/\B.length<=13/\
  ∀w2 F2 (G2:Nat->Prop),ay (fun k=>∃i,F i k) w' w2->oq w2 G2 F2 B->(∀k,G k->G2 k)->(∀i k,F2 i k->F i k\/w'.heap.size<=k)->ko w2 Hb G2 m A N wk
theorem KY (h:ko w Hb G m A N wk):aK 61 #[aj Hb] w (UW w Hb G m A N wk):=by
 have⟨X,F,Cb,mb,cv,tv,av,lv,ch,T,al,eU,E,r,ac,ht,W,P,B,hF,R,Z⟩:=h;have Q:∀(i:Nat) (hi:i<(ch.map (·.2.1)).length),(ch.map (·.2.1))[i]≠[]->i<T.length:=fun i hi C=>by
  obtain⟨tb,n0,h1,-⟩:=ht.tr i hi C;exact(fo.1 h1).1
 refine(Pw E r Q).mono ?_;rintro e w' ⟨v,rfl,Y,u⟩;have V:=r.levels;have ak:=r.stored;have U:=r.live;generalize t:ch.map (·.2.1)=CB at*;have g:∀i:Nat,∃b:Nat×Nat×List Pt,i∈dU CB 0->T[i]? =some (some b.1)/\(b.2.1:Int)<=N/\b.2.1<=20000/\b.2.2=sG al (CB.getD i [])/\Bk w (F i) b.1 b.2.1 b.2.2/\b.2.1<=(CB.getD i []).length:=fun i=>by
  by_cases hi:i∈dU CB 0
  .obtain⟨h1,c⟩:=PH hi;have⟨tb,n0,d,o,J⟩:=ht.tr i h1 c;have ae:CB[i].length<=CB.flatten.length:=(DZ (bG h1)).length_le;exact⟨(tb,n0,sG al CB[i]),fun _=>⟨d,by show(n0:Int)<=N;omega,by show n0<=20000;omega,by rw[ja,bZ h1,gG],J,by rw[ja,bZ h1,gG];exact o⟩⟩
  .exact⟨(0,0,[]),fun h=>absurd h hi⟩
 have⟨f,g⟩:=Classical.axiomOfChoice g;have L:(dU CB 0).map (R7 T)=((dU CB 0).map f).map R8:=by
  rw[vv];refine Eh fun i hi=>?_;unfold R7;rw[ja,(g i hi).1];rfl
 have D:=JM CB;refine⟨v,(dU CB 0).map f,fun p k=>∃hp:p<(dU CB 0).length,F (dU CB 0)[p] k,rfl,?_,u,⟨fun p hp=>?_,fun p k a=>hF _ k a.2,fun p q k hp x=>?_⟩,?_,fun I=>?_,?_,?_,?_⟩
 .rw[<-L,bR];exact Y
 .rw[bR]at hp;rw[fM];have:(fun k=>∃hp:p<(dU CB 0).length,F (dU CB 0)[p] k)=F (dU CB 0)[p]:=by funext k;simp[hp]
  rw[this];exact((g _ (bG hp)).2.2.2.2.1).below u
 .obtain⟨h1,c⟩:=hp;have⟨d,o⟩:=x;exact(List.getElem_inj D).1 (ht.ap _ _ k c o)
 .have l:jm ((dU CB 0).map f)=(((dU CB 0).flatMap fun i=>CB.getD i []).filter (cK al)).map (·.1):=by
   unfold jm;rw[List.flatMap_map,List.filter_flatMap,List.map_flatMap];rw[Ar,Ar];congr 1;exact Eh fun i hi=>(g i hi).2.2.2.1
  rw[l];exact(((PI CB).filter _).trans U.symm).map _
 .rw[bR]at I |-;have h1:=yV CB 0;have c:=V.2.2.2 aa;have d:=zZ (n:=2) ai (show(dU CB 0).length-1<=CB.length-1 by omega);have o:((2:Int)^((dU CB 0).length-1))=((2^((dU CB 0).length-1):Nat):Int):=aA;rw[o];omega
 .intro b S;obtain⟨i,hi,rfl⟩:=cu.1 S;exact⟨(g i hi).2.1,(g i hi).2.2.1⟩
 .rw[bR];have h1:=yV CB 0;omega
 .intro w2 y ad K s O M;have ag:=u.size;have ah:=K.size;have ab:nO w2 (fun i k=>∃p,∃hp:p<(dU CB 0).length,(dU CB 0)[p]=i/\y p k) X CB T al:=by
   refine⟨fun i hi C=>?_,?_,?_,?_⟩
   .obtain⟨p,hp,rfl⟩:=jb (M3 hi C);have h1:=g _ (bG hp);have c:=s.bk p (by rw[bR];exact hp);rw[fM]at c;refine⟨_,(f (dU CB 0)[p]).2.1,h1.1,?_,?_⟩
    .have d:=h1.2.2.2.2.2;rwa [ja,bZ hi,gG]at d
    .have e:(fun k=>∃q,∃x:q<(dU CB 0).length,(dU CB 0)[q]=(dU CB 0)[p]/\y q k)=y p:=by
      funext k;refine propext ⟨?_,fun h=>⟨p,hp,rfl,h⟩⟩;rintro⟨q,x,l,z⟩;rw[<-(List.getElem_inj D).1 l];exact z
     have d:=h1.2.2.2.1;rw[ja,bZ hi,gG]at d;rw[e,<-d];exact c
   .rintro i k ⟨p,hp,-,a⟩ H;rcases M p k a with⟨af,h1⟩|h1
    .exact ht.off _ k h1 H
    .have:=(B k H).1;omega
   .rintro i j k ⟨p,hp,l,h1⟩ ⟨q,x,z,c⟩;have:=s.ap p q k h1 c;subst this;rw[<-l,<-z]
   .rintro i k ⟨p,hp,-,a⟩;exact(s.bk p (by rw[bR];exact hp)).lt k a
  exact⟨X,_,Cb,mb,cv,tv,av,lv,ch,T,al,eU,(E.below u).kept K (fun k a h=>by obtain⟨p,hp,h1⟩:=h;exact ht.off _ k h1 a),by rw[t];exact r,by rw[t];exact ac,by rw[t];exact ab,W,P,fun k a=>⟨by have:=(B k a).1;omega,O k (B k a).2⟩,(fun i k h=>by obtain⟨p,hp,-,a⟩:=h;exact s.UT p k a),R,by rw[t];exact Z⟩
end
end
section
open Go.RowKit Go.Sort Go.Shelf Go.Lib Go.Maps
attribute [local irreducible] wpQuiet
theorem TJ (b off:Nat) (x y:Int) (w:World) (a:w.cell? (af b off)=some (ae x)) (c:w.frozen? (af b off)=false):
  aK 151 #[.pointer (some (af b off)),ae y] w fun e w'=>e=.returned (ae (wrap64 (x+y)))/\w'=w.setCell (af b off) (.int .i64 (wrap64 (x+y))):=by
 have d:=run_call_add (P:=prog) func227 aN aN aN .i64 aN (y:=y) (s:=wrap64 (x+y)) a c (by rw[<-IntWalk.i64_left];simp[go_sem];try rfl);go_enter func151,ntmps151;go_wp2;go_ret;exact⟨rfl,rfl⟩
abbrev Cj:TypeId:=74
section
variable {w:World} {Pb Hb:Nat} {dv av:Value} {eH:Int} {GH:Nat->Prop} {m:Nat} {A:List eP} {N wk:Int}
theorem mf (a:w.heap[Pb]? =some (Obj.cells #[aj Hb,dv,av,ae eH] Cj (0,0))):aK 55 #[aj Pb] w fun e w'=>e=.returned (.bool false)/\w'=w:=by
 have b:w.cell? (af Pb 0)=some (aj Hb):=aD a;go_enter func55,ntmps55;go_wp2;go_ret;exact⟨rfl,rfl⟩
def SumB (bd:Nat->Nat->Prop):Nat->Nat->Prop
 |0,n=>n=0
 |i+1,n=>∃n' t,SumB bd i n'/\bd i t/\n=n'+t
theorem SumB.le {bd:Nat->Nat->Prop} {b:Nat} (h:∀i t,bd i t->t<=b):∀{i n:Nat},SumB bd i n->n<=i*b
 |0,n,a=>by simp[SumB]at a;omega
 |i+1,n,a=>by
  obtain⟨n',t,c,d,rfl⟩:=a;have e:=SumB.le h c;have f:=h i t d;rw[Nat.succ_mul];omega
def VG (fn:FuncId) (cs:Array Value) (Sx:Nat->Prop) (Q:List (Nat×Nat×List Pt)->Nat->World->Prop) (w1:World) (B:List (Nat×Nat×List Pt)):Prop:=
 ∃(I:Nat->Nat->World->Prop),I 0 0 w1/\(∀i n u,I i n u->ay Sx w1 u)/\(∀i n u,I i n u->n<=i*1000000)/\(∀i n (hi:i<B.length) u,I i n u->aK fn (#[aj (B[i].1)]++cs) u fun e u'=>∃c:Nat,e=.returned (ae c)/\I (i+1) (n+c) u')/\∀n u,I B.length n u->Q B n u
def UX (w:World) (Pb:Nat) (eH:Int) (Sx:Nat->Prop) (Q:List (Nat×Nat×List Pt)->Nat->World->Prop) (e:Ending) (w':World):Prop:=
 ∃(B:List (Nat×Nat×List Pt)) (CQ:Nat) (u:World),e=.returned (ae CQ)/\Q B CQ u/\ay Sx w u/\w'=u.setCell (af Pb 3) (.int .i64 (wrap64 (eH+CQ)))
theorem KZ {fn:FuncId} {cs:Array Value} {Sx:Nat->Prop} {Q:List (Nat×Nat×List Pt)->Nat->World->Prop} (aC:∀args w,(callFunc fn args).run prog w=.ok (.enter fn args) w) (f:w.heap[Pb]? =some (Obj.cells #[aj Hb,dv,av,ae eH] Cj (0,0))) (h:ko w Hb GH m A N wk) (L:∀k,Sx k->k≠Pb/\k<w.heap.size)
  (O:∀w1 B F,Below w.heap.size w w1->oq w1 GH F B->(jm B).Perm (A.map (·.1))->(B.length≠0->(2:Int)^(B.length-1)<=N)->(∀b∈B,(b.2.1:Int)<=N/\b.2.1<=20000)->B.length<=13->VG fn cs Sx Q w1 B):
  aK 69 #[aj Pb,.func (.func fn) #[] cs] w (UX w Pb eH Sx Q):=by
 have x:=ag (mf f);have y:=ag (KY h);have ao:w.cell? (af Pb 0)=some (aj Hb):=aD f;have ac:=ag O;have D:=ag L;have ad:=ag f;clear O L f h;go_enter func69,ntmps69
 go_wp2_with (go_at_call 55;refine x.o.mono ?_;rintro e w1 ⟨rfl,E⟩;have ar:=E.symm;clear E;subst ar)
 refine y.o.mono ?_;rintro e w1 ⟨v,B,F,rfl,s,r,M,Y,V,X,au,-⟩;obtain⟨an,H,I,R,P,T⟩:=ac.o w1 B F r M Y V X au;obtain⟨va,aP,rfl,-,-,-⟩:=Rd.aG (enc:=R8) s;have C:=ag s;have a:=ag r;have am:=ag I;have ah:=ag P;have ai:=ag T;have z:=ag R;have ak:=ag H;clear s r I P T H M Y V X R y x ao
 go_wp2_with fail
 go_loopw [16,5] (fun t ax wr=>∃i n:Nat,t=.int .i64 i/\ax=.int .i64 n/\i<=B.length/\Hid (an i n wr)) (fun t _ _=>B.length-(intOf t).toNat)
 case atStart=>exact⟨0,0,rfl,rfl,bH _,ak⟩
 case round=>
  obtain⟨i,n,rfl,rfl,hi,d⟩:=hrel;have K:=ag (am.o i n wr d.o);have J:Hid (ay Sx w wr):=⟨K.o.os.trans a.o.os,K.o.tape.trans a.o.tape,K.o.output.trans a.o.output,bA a.o.size K.o.size,fun k U aw=>(K.o.block k (bT U a.o.size) aw).trans (a.o.block k U)⟩;have aJ:=z.o i n wr d.o;by_cases W:i<B.length
  .have ab:=aU C.o K.o (fun G e l=>by have aE:=(C.o.lt G e).1;have aF:=(D.o G l).2;omega);obtain⟨aO,aQ,j,-,-,Z⟩:=Rd.aG (enc:=R8) ab;injection j with j _ aq;subst j aq;obtain⟨aA,aB,ap,-,S⟩:=Z.get aa;have az:=S i W;have g:=ag (ah.o i n W wr d.o);unfold R8 at az;subst ap;generalize B[i].1=tb at*;clear S Z ab;have aN:(i:Int)<(B.length:Int):=aa;have aM:(i+1)*1000000<=13*1000000:=pF _ aa
   go_wp2_with (refine g.o.mono ?_;rintro e u ⟨c,rfl,p⟩;have aI:=z.o (i+1) (n+c) u p;have aH:(-9223372036854775808:Int)<=(n:Int)+(c:Int)/\(n:Int)+(c:Int)<=9223372036854775807:=aa;have al:=ag p;clear p)
   go_roundw
   case rel=>exact⟨i+1,n+c,by go_num,by go_num,aa,al⟩
   case measure=>exact dX
  .obtain rfl:i=B.length:=aa;have aL:¬(B.length:Int)<(B.length:Int):=aa;have q:wr.heap[Pb]? =some (Obj.cells #[aj Hb,dv,av,ae eH] Cj (0,0)):=bz J.o ad.o (fun l=>(D.o Pb l).1 rfl);have g:=ag (TJ Pb 3 eH n wr (aD q) (aD q));clear q
   go_wp2_with fail
   refine g.o.mono ?_;rintro e aR ⟨rfl,rfl⟩;go_wp2;go_ret;exact⟨B,n,wr,rfl,ai.o n wr d.o,J.o,rfl⟩
end
theorem M4:gF 150:=dh func150 aN rfl
theorem PK (l:List Int):l.map (Value.int .u32)=l.flatMap fun x=>[ak x]:=by
 induction l with
 |nil=>rfl
 |cons x l ih=>simp[ih]
theorem PL {fn:FuncId} {cs:Array Value} (V:∀args w,(callFunc fn args).run prog w=.ok (.enter fn args) w) {u:World} {r ob tb:Nat} {m:Value} {b R:List Int} {base:Nat} {bd:Nat->Prop} (W:u.cell? (af r 0)=some (.func (.func fn) #[] cs)) (y:u.heap[ob]? =some (Obj.cells #[m] 35 (0,0))) (Z:ob<base) (X:base<=u.heap.size) (z:u.ownsRow base 27 1 m b.length (b.map (Value.int .u32))) (Y:b.length+R.length<=1000000)
  (M:aK fn (#[aj tb]++cs) u fun e d=>∃(v:Value) (c:Nat),e=.returned (.tuple #[v,ae (c:Nat)])/\bd c/\d.ownsRow u.heap.size 27 1 v R.length (R.map (Value.int .u32))/\Below u.heap.size u d):
  aK 150 #[aj tb,aj r,aj ob] u fun e d=>∃c:Nat,e=.returned (ae (c:Nat))/\bd c/\∃A,d.heap[ob]? =some (Obj.cells #[A] 35 (0,0))/\d.ownsRow base 27 1 A (b++R).length ((b++R).map (Value.int .u32))/\ay (fun k=>k=ob\/m.ownBlock=some k) u d:=by
 have C:=ag M;have HO:=ag y;have p:=ag z;obtain⟨i,j,rfl,-,-,-⟩:=Rd.aG z;have ab:=(aY.1 y).1;go_enter func150,ntmps150
 go_wp2_with fail
 refine C.o.mono ?_;rintro e u1 ⟨v,c,rfl,K,P,I⟩;have B:=ag K;have E:=ag P;have f:=ag I;obtain⟨va,U,rfl,-,-,S⟩:=Rd.aG E.o;have G:=ag (Rd.Vl (show Rd (.int .u32) u1 va R from S));have n:=ag ((aT f.o HO.o).trans HO.o);have F:=ag (az p.o f.o);have ac:=f.o.size;have ai:u1.cell? (af ob 0)=some (.slice i b.length j):=fE n.o;have N:b.length+R.length<=maxLen:=dI;have O:(b.length+R.length)*4<=140737488355328:=aa;have L:base<=u1.heap.size:=aa;have D:Hid (Value.ownBlock (.slice i b.length j)≠some ob):=fun e=>by have:=(p.o.lt ob e).1;omega
 go_wp2_with (at_builtin;go_loud (refine iP uj (enc:=fun x=>[ak x]) (fun _=>rfl) (fun x u hu=>by simp at hu;subst hu;rfl) base F.o G.o rfl _ _ rfl rfl U rfl N O L ?_;intro T u6 Q t;have l:=(t.block ob aa (fun e=>D.o e.symm)).trans n.o;have ad:u6.cell? (af ob 0)=some (.slice i b.length j):=(fE l);have ah:u6.frozen? (af ob 0)=false:=(aD l);have g:u6.ownsRow base 27 1 T (b++R).length ((b++R).map (Value.int .u32)):=(by rw[bP,bQ,PK R];exact Q);obtain⟨q,s,rfl,-,-,-⟩:=Rd.aG g))
 go_ret;rw[bQ]at g;have J:(u6.setCell (af ob 0) (.slice q (b.length+R.length) s)).heap[ob]? =some (Obj.cells #[.slice q (b.length+R.length) s] 35 (0,0)):=by
  rw[dC u6 ob 0 _ _ _ l];rfl
 refine⟨c,rfl,B.o,_,J,?_,((((ay.refl (fun k=>k=ob\/Value.ownBlock (.slice i b.length j)=some k) u).below f.o).grown t fun k e=>.inl (.inr e))).set (a:=(af ob 0)) _ (.inl (.inl rfl))⟩;rw[bQ];exact aU g ((ay.refl (fun k=>k=ob) u6).set (a:=(af ob 0)) _ (.inl rfl)) (fun H e h=>by have:=(g.lt H e).1;omega)
section
variable {w:World} {Pb Hb:Nat} {dv av:Value} {eH:Int} {GH:Nat->Prop} {m:Nat} {A:List eP} {N wk:Int}
structure Fp (w w1:World) (GH:Nat->Prop) (A:List eP) (N:Int) (B:List (Nat×Nat×List Pt)) (F:Nat->Nat->Prop):Prop where
 below:Below w.heap.size w w1
 wd:oq w1 GH F B
 perm:(jm B).Perm (A.map (·.1))
 log:B.length≠0->(2:Int)^(B.length-1)<=N
 built:∀b∈B,(b.2.1:Int)<=N/\b.2.1<=20000
 few:B.length<=13
def VH (w:World) (GH:Nat->Prop) (fn:FuncId) (cs:Array Value) (B:List (Nat×Nat×List Pt)) (F:Nat->Nat->Prop) (R:Nat->List Int) (bd:Nat->Nat->Prop):Prop:=
 ∀(i:Nat) (hi:i<B.length) (u:World),Below w.heap.size w u->oq u GH F B->aK fn (#[aj (B[i].1)]++cs) u fun e u'=>∃(v:Value) (c:Nat),e=.returned (.tuple #[v,ae (c:Nat)])/\bd i c/\u'.ownsRow u.heap.size 27 1 v (R i).length ((R i).map (Value.int .u32))/\Below u.heap.size u u'
def UY (w:World) (Pb Hb:Nat) (dv av:Value) (eH:Int) (Q:List Int->Nat->Prop) (e:Ending) (w':World):Prop:=
 ∃(v:Value) (L:List Int) (CQ:Nat),e=.returned (.tuple #[v,ae CQ])/\w'.ownsRow w.heap.size 27 1 v L.length (L.map (Value.int .u32))/\Q L CQ/\ay (fun k=>k=Pb) w w'/\w'.heap[Pb]? =some (Obj.cells #[aj Hb,dv,av,ae (wrap64 (eH+CQ))] Cj (0,0))
theorem Fq {R:Nat->List Int} {b:Nat} (h:∀i,(R i).length<=b):∀i,((List.range i).flatMap R).length<=i*b
 |0=>aA
 |i+1=>by
  have e:([i].flatMap R).length=(R i).length:=aA;rw[uU,gZ,bQ,Nat.succ_mul,e];have a:=Fq h i;have c:=h i;omega
theorem K3 {r:Nat->Nat} {b:Nat} (h:∀i,r i<=b):∀i,((List.range i).map r).sum<=i*b
 |0=>aA
 |i+1=>by
  have e:([i].map r).sum=r i:=aA;rw[uU,bP,Ay,Nat.succ_mul,e];have a:=K3 h i;have c:=h i;omega
theorem Rt {fn:FuncId} {cs:Array Value} {Q:List Int->Nat->Prop} (ai:∀args w,(callFunc fn args).run prog w=.ok (.enter fn args) w) (G:w.heap[Pb]? =some (Obj.cells #[aj Hb,dv,av,ae eH] Cj (0,0))) (h:ko w Hb GH m A N wk) (al:∀k,GH k->k<w.heap.size)
  (aq:∀w1 B F,Fp w w1 GH A N B F->∃R bd,(∀i t,bd i t->t<=1000000)/\(∀i,(R i).length<=20000)/\VH w GH fn cs B F R bd/\∀n,SumB bd B.length n->Q (dR ((List.range B.length).flatMap R)) n):
  aK 65 #[aj Pb,.func (.func fn) #[] cs] w (UY w Pb Hb dv av eH Q):=by
 have aW:=(aY.1 G).1;have T:ay (fun _=>False) w ((w.alloc (.cells #[.func (.func fn) #[] cs] 121)).alloc (.cells #[aL] 35)):=((ay.refl _ w).alloc _).alloc _;have C:=IA w (.cells #[.func (.func fn) #[] cs] 121) (.cells #[aL] 35);have U:=Ew w (.cells #[.func (.func fn) #[] cs] 121) (.cells #[aL] 35);have s:Below w.heap.size w ((w.alloc (.cells #[.func (.func fn) #[] cs] 121)).alloc (.cells #[aL] 35)):=((aJ _ _).alloc (aB _) _).alloc aA _;have aR:((w.alloc (.cells #[.func (.func fn) #[] cs] 121)).alloc (.cells #[aL] 35)).heap.size=w.heap.size+2:=aA;have H:=bz T G (fun h=>h);have V:=ag (KZ (Sx:=fun k=>k=w.heap.size+1) (cs:=#[aj w.heap.size,aj (w.heap.size+1)]) (Q:=fun B f u=>∃(L:List Int) (d:Value),u.heap[w.heap.size+1]? =some (Obj.cells #[d] 35 (0,0))/\u.ownsRow w.heap.size 27 1 d L.length (L.map (Value.int .u32))/\w.heap.size+2<=u.heap.size/\(∀l,d.ownBlock=some l->w.heap.size+2<=l)/\L.length<=1000000/\Q (dR L) f) M4 H (h.kept T (fun _ _ h=>h)) (fun k I=>by rw[aR];omega) (fun w1 B F p E aI aE aF D=>by
  have⟨R,bd,aw,x,ak,v⟩:=aq w1 B F ⟨s.trans (p.mono aa),E,aI,aE,aF,D⟩;have aZ:=p.size;have ah:=(aT p C).trans C;have aN:=(aT p U).trans U;refine⟨fun i n u=>SumB bd i n/\∃d,u.heap[w.heap.size+1]? =some (Obj.cells #[d] 35 (0,0))/\u.ownsRow w1.heap.size 27 1 d ((List.range i).flatMap R).length (((List.range i).flatMap R).map (Value.int .u32))/\ay (fun k=>k=w.heap.size+1) w1 u,⟨rfl,_,aN,dA _ _ _ _,ay.refl _ _⟩,fun i n u g=>g.2.choose_spec.2.2,fun i n u g=>g.1.le aw,fun i n hi u g=>?_,fun n u g=>?_⟩
  .obtain⟨y,d,q,j,b⟩:=g;have S:=b.size;have ap:u.cell? (af w.heap.size 0)=some (.func (.func fn) #[] cs):=by
    have:=bz b ah aa;simp only[World.cell?,this];rfl
   have au:Below w.heap.size w u:=s.trans ((p.mono aa).trans (b.toBelow aa (by rintro k rfl;omega)));have az:=Fq x i;have ax:i*20000<=13*20000:=pF _ aa;have aX:=x i;refine(PL (bd:=bd i) ai ap q aa S j aa (ak i hi u au (E.kept b fun k I e=>by have:=al k I;omega))).mono ?_;rintro e a0 ⟨c,rfl,ar,aQ,aH,aM,am⟩;refine⟨c,rfl,⟨n,c,y,ar,rfl⟩,aQ,aH,?_,?_⟩
   .rw[uU,gZ];simpa using aM
   .refine ay.strip ((b.mono fun k h=>.inl h).trans (am.mono fun k h=>?_));rcases h with h|h
    .exact .inl h
    .exact .inr (j.lt k h).1
  .obtain⟨y,d,q,j,b⟩:=g;have az:=Fq x B.length;have ax:B.length*20000<=13*20000:=pF _ D;exact⟨_,d,q,eF j aa,by have:=b.size;omega,fun l e=>by have:=(j.lt l e).1;omega,aa,v n y⟩))
 have X:=ag s;have Y:=ag H;go_enter func65,ntmps65
 go_wp2_with fail
 refine V.o.mono ?_;rintro e aV ⟨B,f,u,rfl,⟨L,d,q,j,S,M,aD,v⟩,b,rfl⟩;have ao:=bz b Y.o aa;have an:Hid ((u.setCell (af Pb 3) (.int .i64 (wrap64 (eH+(f:Int))))).heap[Pb]? =some (Obj.cells #[aj Hb,dv,av,ae (wrap64 (eH+(f:Int)))] Cj (0,0))):=by
  show _=_;rw[dC u Pb 3 _ _ _ ao];rfl
 have K:(u.setCell (af Pb 3) (.int .i64 (wrap64 (eH+(f:Int))))).heap[w.heap.size+1]? =some (Obj.cells #[d] 35 (0,0)):=(aC (a:=(af Pb 3)) (fun e:Pb=w.heap.size+1=>aa)).trans q;have P:=aU j ((ay.refl (fun k=>k=Pb) u).set (a:=(af Pb 3)) (.int .i64 (wrap64 (eH+(f:Int)))) (.inl rfl)) (fun l e h=>by have:=M l e;omega);have Z:Hid (ay (fun k=>k=Pb) w (u.setCell (af Pb 3) (.int .i64 (wrap64 (eH+(f:Int)))))):=ay.strip ((((ay.refl (fun k=>k=Pb\/w.heap.size<=k) w).below X.o).trans (b.mono fun k h=>.inr aa)).set (a:=(af Pb 3)) _ (.inl (.inl rfl)));have r:=ag M;have ad:=ag v;have a2:(u.setCell (af Pb 3) (.int .i64 (wrap64 (eH+(f:Int))))).cell? (af (w.heap.size+1) 0)=some d:=fE K;have W:=ag (zH P aD);have ab:=ag K;obtain⟨aO,aP,rfl,-,-,-⟩:=Rd.aG P;generalize u.setCell (af Pb 3) (.int .i64 (wrap64 (eH+(f:Int))))=aV at*
 go_wp2_with (go_at_call 64;refine W.o.mono ?_;rintro e aS ⟨rfl,O,b⟩;have J:=bz b ab.o (fun e=>by have:=r.o _ e;omega);have a1:aS.cell? (af (w.heap.size+1) 0)=some (.slice aO L.length aP):=(fE J);have ac:=ag O;have z:=ag b;clear O b J)
 go_ret2;refine⟨_,dR L,f,rfl,by rw[iB];exact ac.o,ad.o,ay.strip ((Z.o.mono fun k h=>.inl h).trans (z.o.mono fun k h=>.inr (by have:=r.o k h;omega))),bz z.o an.o (fun e=>by have:=r.o _ e;omega)⟩
end
end
end Go.Proofs.YtkjdbndekceffaaGreat
