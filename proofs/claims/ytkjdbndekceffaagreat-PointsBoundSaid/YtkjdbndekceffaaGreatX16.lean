/- Made small by a program. -/
import Derived.Test.YtkjdbndekceffaaGreatX15
set_option linter.unusedSimpArgs false
set_option linter.unusedVariables false
set_option maxRecDepth 100000
set_option maxHeartbeats 16000000
namespace Go.Proofs.YtkjdbndekceffaaGreat
open Tryz
section
open Go.RowKit Go.Sort Go.Shelf Go.Lib Go.Maps
attribute [local irreducible] wpQuiet
attribute [local go_sem] Oper.fB
theorem Kb:eY 213:=bO func213 aM rfl
theorem HZ {T:List (Option Nat)} {i tb:Nat}:(zW T i tb)[i]? =some (some tb):=by
 unfold zW;rw[uq aH]
theorem Lj {T:List (Option Nat)} {i tb j:Nat} (h:j≠i) {x:Nat} (a:T[j]? =some (some x)):(zW T i tb)[j]? =some (some x):=by
 unfold zW;have b:=(fH.1 a).1;rw[nS (fun e=>h e.symm),lW b,a]
theorem H5 {T:List (Option Nat)} {i tb n:Nat} (h:T.length<=n) (hi:i<n):(zW T i tb).length<=n:=by
 unfold zW;simp;omega
section
variable {w w':World} {X X' S Fn:Nat->Prop} {F:Nat->Nat->Prop} {Hb Cb mb:Nat} {cv tv av lv:Value} {ch:List Ae} {T T':List (Option Nat)} {al al':List Bool} {eQ:List Int} {A:List eX} {N wk:Int} {CB CB':List (List eX)}
theorem nQ.skip (h:nQ w F X CB T al):nQ w F X (CB++[[]]) T al:=by
 refine⟨fun j b a=>?_,h.off,h.ap,h.lt⟩;by_cases e:j<CB.length
 .rw[qJ e]at a |-;exact h.tr j e a
 .rw[wu aa]at a;simp at a
theorem nQ.step (h:nQ w F X CB T al) {i tb n0 m0 m:Nat} {l:List eX} (o:Bk w Fn tb n0 (sM al' l)) (C:n0<=l.length) (B:∀(j:Nat) (b:j<CB'.length),CB'[j]≠[]->(j=i/\CB'[j]=l)\/(j≠i/\∃n:j<CB.length,CB'[j]=CB[j]/\(∀x,T[j]? =some (some x)->T'[j]? =some (some x))/\sM al' CB[j]=sM al CB[j]))
  (z:T'[i]? =some (some tb)) (p:∀k,X' k->X k\/(m0<=k/\k<m)) (g:∀k,Fn k->m<=k) (f:∀j k,F j k->k<m0) (A:∀k,X k->k<m) (G:m0<=m):nQ w (fun j k=>(j=i/\Fn k)\/(j≠i/\F j k)) X' CB' T' al':=by
 refine⟨fun j b q=>?_,?_,?_,?_⟩
 .rcases B j b q with⟨rfl,e⟩|⟨c,n,e,h2,y⟩
  .refine⟨tb,n0,z,by rw[e];exact C,?_⟩;have:(fun k=>(j=j/\Fn k)\/(j≠j/\F j k))=Fn:=by funext k;simp
   rw[this,e];exact o
  .obtain⟨E,D,t,u,v⟩:=h.tr j n (by rw[<-e];exact q);refine⟨E,D,h2 _ t,by rw[e];exact u,?_⟩;have:(fun k=>(j=i/\Fn k)\/(j≠i/\F j k))=F j:=by funext k;simp[c]
   rw[this,e,y];exact v
 .rintro j k (⟨rfl,a⟩|⟨b,a⟩) r
  .have c:=g k a;rcases p k r with h2|h2
   .have:=A k h2;omega
   .omega
  .rcases p k r with h2|h2
   .exact h.off j k a h2
   .have:=f j k a;omega
 .rintro j s k (⟨rfl,a⟩|⟨b,a⟩) (⟨rfl,d⟩|⟨n,d⟩)
  .rfl
  .have c:=g k a;have h2:=f s k d;omega
  .have c:=g k d;have h2:=f j k a;omega
  .exact h.ap j s k a d
 .rintro j k (⟨rfl,a⟩|⟨b,a⟩)
  .exact o.lt k a
  .exact h.lt j k a
def Vd (w:World) (X:Nat->Prop) (Hb Cb mb:Nat) (cv tv av lv:Value) (ch:List Ae) (al:List Bool) (A:List eX) (wk:Int) (e:Ending) (w':World):Prop:=
 e=.returned (ae A.length)/\∃(X':Nat->Prop) (F':Nat->Nat->Prop) (CW tv':Value) (qV:List Ae) (T':List (Option Nat)) (lev':List Int),iY w' X' Hb Cb mb CW tv' av lv qV T' al lev' A A.length (wrap64 (wk+(A.length:Int)))/\
  qV.map (·.2.1)=setC (Lib.bitLen A.length) (kK al (ch.map (·.2.1)) 0)/\nQ w' F' X' (qV.map (·.2.1)) T' al/\oh (qV.map (·.2.1)) al A A.length/\Uw (qV.map (·.2.1)) al lev'/\T'.length<=14/\(∀k,X' k->k<w'.heap.size/\(X k\/w.heap.size<=k))/\(∀i k,F' i k->w.heap.size<=k)/\
  ax (fun k=>k=Hb\/k=Cb\/cv.ownBlock=some k\/tv.ownBlock=some k\/lv.ownBlock=some k) w w'
theorem RQ (h:iY w X Hb Cb mb cv tv av lv ch T al eQ A N wk) (ae:oh (ch.map (·.2.1)) al A N) (bv:eQ.length=al.length) (bf:∀k,X k->k<w.heap.size):
  aK 140 #[aj Hb] w (Vd w X Hb Cb mb cv tv av lv ch al A wk):=by
 have H:=ag h;have bQ:=ag bf;obtain⟨a7,bc⟩:=ae.anew (L:=kK al (ch.map (·.2.1)) 0) (by unfold kK;rw[kF]);have bB:=ag a7;have aE:=ae.levels;have bH:=ag bv;have aO:=ag (fun p:aS w=>PV (h.below p.h) ae);obtain⟨-,-,U,-⟩:=h.cell;have cj:(kK al (ch.map (·.2.1)) 0).length<=5000:=bA (D6 _ _ _) aE.2.1;have ck:=aE.2.2.1;have bZ:=ah U;clear h ae bv bf a7 U aE;generalize bd:kK al (ch.map (·.2.1)) 0=L at*;have bG:=ag bd;have ap:=ag bc;clear bd bc;go_enter func140,ntmps140
 go_wp2_with fail
 refine au (fun W=>∃p:aS w,W=p.W) [6,7] [(0,false),(1,false),(2,false),(3,true),(4,false)] ⟨⟨_,(aI _ _).drew⟩,rfl⟩ 3 ?_;clear bZ;refine aC 5 rfl fun K ba=>?_;refine aT Kb rfl _ _ rfl (vals:=#[aj Hb]) rfl (aO.o ⟨_,(aI _ _).drew⟩) ?_;rintro e w2 ⟨v,rfl,bo,bg⟩;obtain⟨ce,cf,rfl,-,b8,bq⟩:=L6.aJ bo;have M:Below w.heap.size w w2:=(aI _ _).drew.trans bg;refine⟨_,rfl,?_⟩;refine ba _ _ (fun _ _=>⟨⟨_,M⟩,rfl⟩) ?_;clear ba K;have aV:=ag (H.o.below M);have aW:=ag M;have aR:=ag (Ua aV.o.fJ (bD _) ce L cf bq b8 aa);clear bo bg M aO bq;refine aG [6,7] ?_
 go_wp2_with fail
 refine aR.o.mono ?_;rintro e w4 ⟨V,f,aM,rfl,aA,aF,ad,bh,ab,bm,bw⟩;have cu:=aW.o.size;have cw:=ab.size;have a6:=aV.o.PT (ab.mono fun k h=>.inl h) aA aF (Nw.nil bm (aB _)) (.inr bh);have ak:Hid (iY w4 (fun k=>X k\/w.heap.size<=k/\k<w4.heap.size) Hb Cb mb V tv av lv f T al eQ A L.length aM):=a6.more fun k hk=>by
  rcases hk with hk|⟨E,Z⟩
  .exact .inl hk
  .refine .inr ⟨aa,?_⟩;rcases Z with Z|⟨x,J,bn,a,b2,rfl⟩
   .exact(aA.row.lt k Z).2
   .rcases(aF x J).1 with h9|⟨b,off,cg,fr,Y,b3,-⟩
    .exact absurd h9 bn
    .rw[b2]at Y;injection Y with Y;rw[Y];exact(aY.1 b3).1
 have bI:=ag ad;have a5:=ag bw;have bF:Hid (ax (fun k=>k=Cb) w w4):=((ax.refl (fun k=>k=Cb) w).below aW.o).trans ab;have cl:f.length<=13:=by
  have E:=congrArg List.length ad;rw[eG,bR]at E;have Z:=eO (a:=L.length) (b:=5000) aa ai;have ci:Lib.bitLen 5000<=13:=ai;omega
 have B:Hid (oh (f.map (·.2.1)) al A L.length):=by rw[ad];exact bB.o
 have bT:Hid (∀(j:Nat) (g:j<f.length),f[j].2.1.length<=5000):=fun j g=>by
  have E:=B.o.few j (by rw[bR];exact g);rwa [fP]at E
 obtain⟨-,-,-,cb,-⟩:=ak.o.cell;have f3:=ak.o.frozen 3;have O:Hid (iY (w4.setCell (af Hb 3) (aL)) (fun k=>X k\/w.heap.size<=k/\k<w4.heap.size) Hb Cb mb V (aL) av lv f [] al eQ A L.length aM):=(ak.o.Sy (tv':=aL) (T':=[]) (bN (aI _ _)|>fun h=>⟨h.os,h.tape,h.output,h.size,fun k hk _=>rfl⟩) (dx _ _ _ _) (by simp[Value.ownBlock])).more fun k hk=>hk.elim (fun h=>h) fun h=>by cases h
 have a1:Hid (ax (fun k=>k=Hb\/k=Cb) w (w4.setCell (af Hb 3) (aL))):=(bF.o.mono fun k h=>.inr h).set (a:=(af Hb 3)) _ (.inl (.inl rfl));have aP:=ag (yC O.o.fJ aa);obtain⟨-,-,cc,-⟩:=O.o.cell;have bs:(w4.setCell (af Hb 3) (aL)).heap.size=w4.heap.size:=ay;have bM:=ag bs;clear aA aF ad bh ab bm bw a6 aR bs
 go_wp2_with fail
 generalize w4.setCell (af Hb 3) (aL)=cA at*;refine aP.o.mono ?_;rintro e w6 ⟨rfl,ac⟩;have bz:=ag (O.o.below ac);have b5:=ac.size;have a2:Hid (ax (fun k=>k=Hb\/k=Cb) w w6):=a1.o.below ac;have bO:Hid (w4.heap.size<=w6.heap.size):=by have:=bM.o;show _<=_;omega
 clear aP ac O a1 cb f3 cc b5
 go_wp2_with fail
 go_loopw [21] (fun aH wr=>∃(i:Nat) (s:Nat->Prop) (u:Nat->Nat->Prop) (t:Value) (r:List (Option Nat)) (n:List Int),aH=.int .i64 i/\i<=f.length/\Hid (iY wr s Hb Cb mb V t av lv f r al n A L.length aM)/\Hid (nQ wr u s ((f.map (·.2.1)).take i) r al)/\Hid (∀(j:Nat) (g:j<f.length),j<i->∀c∈f[j].2.1,n[c.2.toNat]? =some (j:Int))/\Hid (n.length=al.length)/\Hid (r.length<=i)/\
  Hid (∀k,s k->k<wr.heap.size/\(X k\/w.heap.size<=k))/\Hid (∀j k,u j k->w.heap.size<=k)/\Hid (t.ownBlock=none\/∃b,t.ownBlock=some b/\w.heap.size<=b)/\Hid (ax (fun k=>k=Hb\/k=Cb\/lv.ownBlock=some k) w wr)) (fun aH _=>f.length-(intOf aH).toNat)
 case atStart=>exact⟨0,_,fun _ _=>False,_,[],eQ,rfl,bD _,bz,⟨fun j g=>absurd g ay,fun _ _ h=>h.elim,fun _ _ _ h=>h.elim,fun _ _ h=>h.elim⟩,fun j _ g=>absurd g (kE _),bH,bD _,fun k hk=>by
   have E:=bO.o;rcases hk with hk|hk
   .have:=bQ.o k hk;have:=a2.o.size;exact⟨aa,.inl hk⟩
   .exact⟨aa,.inr hk.1⟩,fun _ _ h=>h.elim,.inl rfl,a2.o.mono fun k h=>h.imp id .inl⟩
 case round=>
  obtain⟨i,s,u,t,r,n,rfl,hi,y,a4,aq,C,R,aw,am,ar,an⟩:=hrel;have cy:=an.o.size;by_cases G:i<f.length
  .have b9:=bT.o i G;have aN:=ag (yD y.o.fJ y.o.rows aa i G aa);have bl:(f.map (·.2.1))[i]? =some f[i].2.1:=by rw[iB,cB G];rfl
   have a3:Hid ((f.map (·.2.1)).take (i+1)=(f.map (·.2.1)).take i++[f[i].2.1]):=by
    show _=_;rw[List.take_add_one,bl];rfl
   have az:=B.o.bk i (by rw[bR];exact G);rw[fP]at az;have P:=ag az;have aX:Hid (∀(j:Nat) (g:j<f.length),j=i->f[j].2.1=f[i].2.1):=fun j g e=>by subst e;rfl
   have bC:Hid (∀(j:Nat) (g:j<f.length),j≠i->∀c∈f[j].2.1,∀d∈f[i].2.1,d.2.toNat≠c.2.toNat):=fun j g aD c l d hd=>B.o.apart (i:=i) (j:=j) (by rw[bR];exact G) (by rw[bR];exact g) (fun e=>aD e.symm) (by rw[fP];exact hd) (by rw[fP];exact l);generalize f[i].2.1=lk at*;obtain⟨-,-,U,-⟩:=y.o.cell;have cn:(i:Int)<(f.length:Int):=aa;clear bl az;obtain⟨bx,bY⟩:∃bx:World,bx=wr:=⟨_,rfl⟩;subst bY
   go_wp2_with fail
   refine aN.o.mono ?_;rintro e w3 ⟨cz,rfl,bp,F⟩;have b4:=F.size;obtain⟨bU,bV,bW,-,-,br⟩:=L6.aJ bp;subst bW;have z:=ag (y.o.below F);have Q:=ag (a4.o.kept (S:=fun _=>False) ((ax.refl _ _).below F) fun _ _ _ h=>h);have a0:Hid (ax (fun k=>k=Hb\/k=Cb\/lv.ownBlock=some k) w w3):=an.o.below F;have D:Hid (∀k,s k->k<w3.heap.size/\(X k\/w.heap.size<=k)):=fun k hk=>⟨bX (aw.o k hk).1 b4,(aw.o k hk).2⟩;have bL:=ag br;clear bp F br aN U;by_cases bj:lk=[]
   .subst bj;have ca:¬(0:Int)<((([]:List eX).length:Nat):Int):=ay;go_wp2;go_roundw
    case rel=>exact⟨i+1,s,u,t,r,n,by go_num,aa,z,by rw[a3.o];exact Q.o.skip,fun j g aD c l=>by
      by_cases e:j=i
      .rw[aX.o j g e]at l;cases l
      .exact aq.o j g aa c l,C,Nat.le_succ_of_le R.o,D,am,ar,a0⟩
    case measure=>exact eT
   .have cr:0<lk.length:=Aw.2 bj;have ca:(0:Int)<((lk.length:Nat):Int):=aa;have aU:=ag (Li z.o bU bV lk i bL.o aa (by have:=R.o;omega) b9 P.o.2.2 C.o aa P.o.1 P.o.2.1 (fun k hk=>(D.o k hk).1))
    go_wp2_with fail
    refine aU.o.mono ?_;rintro e cC ⟨rfl,cd,tb,m,Fn,be,a8,a9,I,bu,bb⟩;have bK:=ag be;have bE:=ag a8;have aZ:=ag a9;have bJ:=ag I;have bP:=ag bu;have ao:=ag bb;clear be a8 a9 I bu bb aU;go_wp2;go_roundw
    case rel=>
     have cx:=R.o;obtain⟨I,cq⟩:=bJ.o;have b1:∀j k,u j k->¬(k=Hb\/t.ownBlock=some k\/lv.ownBlock=some k):=fun j k hk h9=>by
      refine Q.o.off j k hk ?_;rcases h9 with rfl|h9|h9
      .exact z.o.jl.1
      .exact z.o.jl.2.2.2.2.1 k h9
      .exact z.o.jl.2.2.2.2.2.2 k h9
     have b7:=(Q.o.kept ao.o b1).step (X':=fun k=>s k\/w3.heap.size<=k/\k<m) (i:=i) (m0:=w3.heap.size) (m:=m) (CB':=(f.map (·.2.1)).take i++[lk]) (T':=zW r i tb) bE.o (by unfold sM;rw[bR];exact fO _ _) (fun j g bn=>by
       have bi:((f.map (·.2.1)).take i).length=i:=by rw[eH,bR];omega
       by_cases e:j=i
       .subst e;left;refine⟨rfl,?_⟩;rw[wu aa];simp[bi]
       .right;have co:j<i:=by rw[bS,bi]at g;simp at g;omega
        exact⟨e,aa,qJ aa,fun x J=>Lj e J,rfl⟩) HZ (fun k hk=>hk) aZ.o (fun j k hk=>Q.o.lt j k hk) (fun k hk=>bX (D.o k hk).1 I) I
     have b6:=ao.o.size;refine⟨i+1,_,_,cd,zW r i tb,il n lk i,by go_num,aa,bK,by rw[a3.o];exact b7,fun j g aD c l=>?_,by rw[nk];exact C.o,H5 aa aa,fun k hk=>?_,fun j k hk=>?_,?_,ax.strip ((a0.o.mono fun k h=>.inl h).trans (ao.o.mono fun k h=>?_))⟩
     .by_cases e:j=i
      .rw[aX.o j g e]at l;rw[e];obtain⟨q,cs,ct⟩:=P.o.2.2 c l;exact yO lk n i c l (by have:=C.o;omega)
      .rw[qD lk n i _ (fun x J=>bC.o j g e c l x J)];exact aq.o j g aa c l
     .rcases hk with hk|hk
      .exact⟨bX (D.o k hk).1 b6,(D.o k hk).2⟩
      .exact⟨aa,.inr aa⟩
     .rcases hk with⟨-,hk⟩|⟨-,hk⟩
      .have:=aZ.o k hk;omega
      .exact am.o j k hk
     .rcases bP.o with h9|⟨b,h9,b0⟩
      .rw[h9];exact ar.o
      .exact .inr ⟨b,h9,aa⟩
     .rcases h with h|h|h
      .exact .inl (.inl h)
      .rcases ar.o with h9|⟨b,h9,b0⟩
       .rw[h9]at h;cases h
       .rw[h9]at h;injection h with h;exact .inr aa
      .exact .inl (.inr (.inr h))
    case measure=>exact eT
  .obtain rfl:i=f.length:=aa;have cm:¬(f.length:Int)<(f.length:Int):=aa;rw[ap.o]at B y a5;have cp:(L.length:Int)=(A.length:Int):=by rw[ap.o]
   go_wp2;go_ret;have bt:=a4.o;rw[kD ay]at bt;refine⟨rfl,s,u,V,t,f,r,n,by rw[<-a5.o];exact y.o,by rw[bI.o,ap.o,bG.o],bt,B.o,⟨C.o,fun j g c l=>?_⟩,by have:=R.o;omega,aw.o,am.o,an.o.mono fun k h=>?_⟩
   .rw[fP]at l;exact aq.o j (aQ g) (aQ g) c l
   .rcases h with h|h|h
    .exact .inl h
    .exact .inr (.inl h)
    .exact .inr (.inr (.inr (.inr h)))
end
end
section
open Go.RowKit Go.Maps
def pot (L:Nat):Nat->List Nat->Nat
 |_,[]=>0
 |i,s::l=>s*(L-1-i)+pot L (i+1) l
theorem Ak (L:Nat):∀(i:Nat) (a b:List Nat),pot L i (a++b)=pot L i a+pot L (i+a.length) b
 |i,[],b=>by simp[pot]
 |i,s::a,b=>by
  simp only[mM,pot,Ak L (i+1) a b,eu];rw[show i+1+a.length=i+(a.length+1) by omega];omega
theorem H6 (L:Nat):∀(i k:Nat),pot L i (List.replicate k 0)=0
 |_,0=>rfl
 |i,k+1=>by simp[List.replicate_succ,pot,H6 L (i+1) k]
theorem PW (L:Nat):∀(i:Nat) (l:List Nat),pot L i l<=l.sum*(L-1)
 |_,[]=>by simp[pot]
 |i,s::l=>by
  have a:=PW L (i+1) l;have b:=Nat.mul_le_mul_left s (show L-1-i<=L-1 by omega);simp only[pot,List.sum_cons,mV];omega
theorem H7 (L:Nat) (S:List Nat):∀(i:Nat),i<=L->i<=S.length->(∀(j:Nat) (h:j<S.length),j<i->S[j]=2^j)->2^i*(L-i)<=L+pot L 0 (S.take i)
 |0,_,_,_=>ay
 |i+1,hi,g,h=>by
  have ih:=H7 L S i aa aa fun j b f=>h j b aa;have a:i<S.length:=aa;rw[ic a,Ak,eH,show min i S.length=i by omega,h i a aa];simp only[pot,kH,dK];rw[nX];have d:2^i*(L-i)=2^i*(L-1-i)+2^i:=by
   rw[show L-i=(L-1-i)+1 by omega,je,iJ]
  have e:2^i*2*(L-(i+1))=2^i*(L-1-i)+2^i*(L-1-i):=by
   rw[show L-(i+1)=L-1-i by omega,Nat.mul_assoc,Nat.two_mul,je]
  generalize 2^i*(L-1-i)=Q at*;generalize 2^i*(L-i)=R at*;generalize 2^i*2*(L-(i+1))=c at*;generalize 2^i=P at*;omega
def Ll (CB:List (List eX)) (a:Nat) (wk:Int) (m:Nat):Prop:=0<=wk/\∀L,m<2^L->wk+(pot L 0 (CB.map List.length):Nat)+(L*(CB.flatten.length-a):Nat)<=(L*m:Nat)
theorem RS (CB:List (List eX)):CB.flatten.length=(CB.map List.length).sum:=by rw[Er]
theorem RU:Ll [] 0 0 0:=⟨vC _,fun L _=>by simp[pot]⟩
theorem Ll.bound {CB:List (List eX)} {a m:Nat} {wk:Int} (h:Ll CB a wk m) (b:m<=5000):wk<=65000:=by
 have:=h.2 13 aa;omega
theorem Ll.add {CB:List (List eX)} {a m:Nat} {wk:Int} (h:Ll CB a wk m) (z:a<=CB.flatten.length) (y:CB.flatten.length<=m) (i:Nat) (hi:i<=CB.length) (s:∀(j:Nat) (b:j<CB.length),CB[j].length=0\/CB[j].length=2^j) (r:∀j (b:j<CB.length),j<i->CB[j]≠[]) (f:∀h:i<CB.length,CB[i]=[]) (x:eX):
  Ll (kz CB i x) (a+1) (wk+((eU CB i).length+1:Nat)) (m+1):=by
 have g:∀j (b:j<CB.length),j<i->CB[j].length=2^j:=fun j b d=>by
  rcases s j b with h1|h1
  .exact absurd (gU h1) (r j b d)
  .exact h1
 have e:=yN CB i hi g;have hP:=(tX CB i x f).length_eq;rw[eu]at hP;refine⟨by have:=h.1;omega,fun L w=>?_⟩;have h1:=h.2 L aa;have v:(eU CB i).length<=CB.flatten.length:=by
  rw[(jG CB i).length_eq];have c:(CB.take i).flatten++(CB.drop i).flatten=CB.flatten:=by rw[<-ll,jJ]
  have:=congrArg List.length c;rw[bS]at this;omega
 have A:i<L:=by
  rcases Nat.lt_or_ge i L with h9|h9
  .exact h9
  .have:=Au (n:=2) ai h9;omega
 have u:=H7 L (CB.map List.length) i aa (aQ hi) fun j b d=>by rw[fP];exact g j (aQ b) d
 have l:(kz CB i x).map List.length=List.replicate i 0++2^i::(CB.map List.length).drop (i+1):=by
  unfold kz;rw[bM,Et,l8,yg];simp[e]
 have o:pot L 0 (CB.map List.length)=pot L 0 ((CB.map List.length).take i)+pot L (i+1) ((CB.map List.length).drop (i+1)):=by
  have p:CB.map List.length=(CB.map List.length).take i++(CB.map List.length).drop i:=(jJ _ _).symm;have q:((CB.map List.length).take i).length=i:=by rw[eH,bR];omega
  conv=>lhs;rw[p,Ak,q,kH]
  by_cases k:i<CB.length
  .rw[mJ (aQ k)];simp[pot,f k]
  .rw[oC aH,oC aH];rfl
 have c:pot L 0 ((kz CB i x).map List.length)=2^i*(L-1-i)+pot L (i+1) ((CB.map List.length).drop (i+1)):=by
  rw[l,Ak,H6,iA];simp[pot]
 have t:2^i*(L-i)=2^i*(L-1-i)+2^i:=by
  rw[show L-i=(L-1-i)+1 by omega,je,iJ]
 rw[c,e,hP,show CB.flatten.length+1-(a+1)=CB.flatten.length-a by omega,je];rw[o]at h1;omega
theorem Ll.drop {CB:List (List eX)} {a m:Nat} {wk:Int} (h:Ll CB (a+1) wk m) (d:a+1<=CB.flatten.length):Ll CB a wk (m+1):=by
 refine⟨h.1,fun L c=>?_⟩;have b:=h.2 L aa;rw[show CB.flatten.length-a=(CB.flatten.length-(a+1))+1 by omega,je,je];omega
theorem Ll.anew {CB CB':List (List eX)} {a m:Nat} {wk:Int} (h:Ll CB a wk m) (j:2*a<=CB.flatten.length) (c:CB'.flatten.length=a):Ll CB' a (wk+a) m:=by
 refine⟨by have:=h.1;omega,fun L b=>?_⟩;have g:=h.2 L b;have d:=PW L 0 (CB'.map List.length);rw[<-RS,c]at d;rw[c,iR,Nat.mul_zero];have i:L*a<=L*(CB.flatten.length-a):=Nat.mul_le_mul_left L aa;rcases qO L with h0|h0
 .subst h0;simp at b;subst b;simp at*;have:=h.1;have f:=h.2 1 ai;simp at f;omega
 .have e:a*(L-1)+a=L*a:=by
   rw[vo L a]
   conv=>rhs;rw[show L=(L-1)+1 by omega,je,iJ]
  omega
end
section
open Go.RowKit Go.Sort Go.Shelf Go.Lib Go.Maps
attribute [local irreducible] wpQuiet
attribute [local go_sem] Oper.fB
def jd (w:World) (Hb:Nat) (G:Nat->Prop) (m:Nat) (A:List eX) (N wk:Int):Prop:=
 ∃(X:Nat->Prop) (F:Nat->Nat->Prop) (Cb mb:Nat) (cv tv av lv:Value) (ch:List Ae) (T:List (Option Nat)) (al:List Bool) (eQ:List Int),iY w X Hb Cb mb cv tv av lv ch T al eQ A N wk/\oh (ch.map (·.2.1)) al A N/\Uw (ch.map (·.2.1)) al eQ/\nQ w F X (ch.map (·.2.1)) T al/\
  N<=2*A.length/\T.length<=14/\(∀k,X k->k<w.heap.size/\G k)/\(∀i k,F i k->G k)/\al.length<=m/\Ll (ch.map (·.2.1)) A.length wk m
theorem Ng:eY 139:=bO func139 aM rfl
theorem Nh:eY 53:=bO func53 aM rfl
section
variable {w w':World} {X S G:Nat->Prop} {F:Nat->Nat->Prop} {Hb Cb mb m:Nat} {cv tv av lv:Value} {ch:List Ae} {T:List (Option Nat)} {al:List Bool} {eQ:List Int} {A A':List eX} {N wk:Int}
theorem iY.PX (h:iY w X Hb Cb mb cv tv av lv ch T al eQ A N wk) (p:w.grownBy w' (some mb)) (q:lJ w' mb A'):iY w' X Hb Cb mb cv tv av lv ch T al eQ A' N wk:=by
 have K:ax (fun k=>k=mb) w w':=(ax.refl (fun k=>k=mb) w).grown p fun k e=>.inl (by injection e with e;exact e.symm);have c:∀{b:Nat} {cs:Array Value} {g:TypeId} {fr:Nat×Nat},w.heap[b]? =some (Obj.cells cs g fr)->w'.heap[b]? =w.heap[b]? :=fun{b cs g fr} a=>K.block b (aY.1 a).1 fun l=>by
  obtain⟨D,⟨s,r,m,-⟩,-⟩:=h.map;rw[l,m]at a;cases a
 have d:∀{e:TypeId} {sz n:Nat} {v:Value} {xs:List Value},w.ownsRow 0 e sz v n xs->w'.ownsRow 0 e sz v n xs:=fun{e sz n v xs} f=>aZ f fun t j=>by
  have⟨i,o⟩:=dH f j;exact c o
 exact⟨(c h.blk).trans h.blk,⟨bD _,h.fJ.ds,(c h.fJ.blk).trans h.fJ.blk,d h.fJ.row⟩,h.rows.kept fun b i fr a=>c a,d h.jH,d h.dO,d h.nz,q,h.jl,h.Qw⟩
theorem iY.Ve (h:iY w X Hb Cb mb cv tv av lv ch T al eQ A N wk) {CB:List (List eX)} (ht:nQ w F X CB T al) (j k:Nat) (a:F j k):¬(k=Hb\/k=Cb\/k=mb\/cv.ownBlock=some k\/tv.ownBlock=some k\/av.ownBlock=some k\/lv.ownBlock=some k):=fun h9=>by
 refine ht.off j k a ?_;rcases h9 with rfl|rfl|rfl|h9|h9|h9|h9
 .exact h.jl.1
 .exact h.jl.2.1
 .exact h.jl.2.2.1
 .exact h.jl.2.2.2.1 k h9
 .exact h.jl.2.2.2.2.1 k h9
 .exact h.jl.2.2.2.2.2.1 k h9
 .exact h.jl.2.2.2.2.2.2 k h9
def Wn (a:Nat) (N N':Int) (n:Nat):Prop:=(2*(a:Int)<N/\n=a/\N'=a)\/(N<=2*(a:Int)/\n=0/\N'=N)
def Vf (w:World) (Hb:Nat) (G:Nat->Prop) (m:Nat) (A:List eX) (N wk:Int) (p:Pt) (e:Ending) (w':World):Prop:=
 ∃(n:Nat) (N':Int),e=.returned (.tuple #[ae n,.bool true])/\jd w' Hb (fun k=>G k\/w.heap.size<=k) (m+1) (A.filter fun d=>decide (d.1≠p)) N' (wk+n)/\ax G w w'/\Wn (A.filter fun d=>decide (d.1≠p)).length N N' n
theorem RV (h:jd w Hb G m A N wk) (da:m<5000) (c:eX) (J:c∈A) (x y d:Int) (v:c.1=(x,y,d)):
  aK 59 #[aj Hb,jc x y d] w (Vf w Hb G m A N wk (x,y,d)):=by
 have⟨X,F,Cb,mb,cv,tv,av,lv,ch,T,al,eQ,a0,E,bs,ht,ct,cd,ck,hF,cZ,cz⟩:=h;have c9:=E.levels;have aR:=(bG.1 (E.live.mem_iff.1 J)).1;have⟨k,aU,c8⟩:=E.num aR;obtain⟨cO,-⟩:∃q,q=(c.1,c.2):=⟨_,rfl⟩;have a2:FX (x,y,d):=by rw[<-v];exact E.good c aR
 have aX:(A.map (·.1)).Nodup:=Fg E.keys;have⟨bl,bp,bn⟩:=E.dead ct J;rw[v,aU,gY]at bl bp;rw[v]at bn;have⟨l,cq,ay⟩:=pJ.1 aR;obtain⟨i,hi,rfl⟩:=jo cq;have bo:=bs.lvl i hi c ay;rw[aU,gY]at bo;have⟨tb,n0,cg,cu,b7⟩:=ht.tr i hi (List.ne_nil_of_mem ay);have co:(x,y,d)∈sM al (ch.map (·.2.1))[i]:=dA.2 ⟨c,bG.2 ⟨ay,(bG.1 (E.live.mem_iff.1 J)).2⟩,v⟩;have bS:Hid (∀W,Below w.heap.size w W->(Instr.lookup 188 (.map (some mb)) (jc x y d) true).run prog W=.ok (.tuple #[ae k,.bool true]) W):=fun W f=>by
  rcases(a0.below f).map.look a2 aX with⟨aL,V,I,R⟩|⟨I,-⟩
  .have S:A.Pairwise fun p q=>p.1≠q.1:=dz.1 aX;have aN:aL=c:=by
    rcases fo S V J with h1|h1|h1
    .exact h1
    .exact absurd (I.trans v.symm) h1
    .exact absurd (v.trans I.symm) h1
   rw[aN,aU]at R;exact R
  .exact absurd (dA.2 ⟨c,J,v⟩) I
 have bM:Hid ((x,y,d)∈A.map (·.1)):=dA.2 ⟨c,J,v⟩;have a9:=ag aX;have r:=ag a0;have M:=ag ht;have t:=ag E;have aE:=ag bs;have n:=ag ck;have a7:=ag hF;have ao:=ag cz;have a6:=ag bl;have an:=ag bn;have bF:Hid (c∈(ch.map (·.2.1))[i]):=ay;have a5:=ag v;have bE:=ag J;have a8:=ag bp;have bI:=ag co;have bD:=ag b7;have aD:=ag cg;have bL:=ag bo;have a3:Below w.heap.size w (w.alloc (.cells #[ae x,ae y,ak d] 29)):=(aI _ _).alloc (aB _) _;have Q:=ag (bW w (.cells #[ae x,ae y,ak d] 29));have aA:=ag a3;have ad:=ag (a0.below a3);have bz:=ag (uj ad.o);go_enter func59,ntmps59
 go_wp2_with (go_at_call 134;refine bz.o.mono ?_;rintro e w1 ⟨rfl,bi⟩;have b0:=bi.symm;clear bi;subst b0)
 generalize w.alloc (.cells #[ae x,ae y,ak d] 29)=w1 at*;have bf:w1.cell? (af w.heap.size 0)=some (ae x):=dV Q.o;have cE:=ah bf;have I:w1.cell? (af w.heap.size 1)=some (ae y):=dV Q.o;have cF:=ah I;have R:w1.cell? (af w.heap.size 2)=some (ak d):=dV Q.o;have cD:=ah R;have bj:=ah (w:=w1) ad.o.cell.2.2.2.2.2.2;have lk:∀p:aS w1,(Instr.lookup 188 (.map (some mb)) (jc x y d) true).run prog p.W=.ok (.tuple #[ae k,.bool true]) p.W:=fun p=>bS.o p.W (aA.o.trans (p.h.mono aA.o.size));refine kQ [(0,false),(1,false),(2,false),(3,true),(4,true),(5,true),(6,false),(7,false),(8,false),(9,false),(10,false)] 0 ?_;refine lD aM ?_
 go_wp2_with fail
 have cE:=ah (w:=w1.drew) bf;have cF:=ah (w:=w1.drew) I;have cD:=ah (w:=w1.drew) R;have bj:=ah (w:=w1.drew) ad.o.cell.2.2.2.2.2.2;refine au (fun W=>∃p:aS w1.drew,W=p.W) [5] [(0,false),(1,false),(2,false),(3,true),(4,true)] ⟨⟨_,(aI _ _).drew⟩,rfl⟩ 1 ?_;refine aG [5] ?_;have a4:=ag ((ad.o.below (aI _ _).drew).below (aI _ _).drew);have⟨D,b8,b9⟩:=a4.o.map;refine wpList_delete_own _ rfl _ _ _ _ rfl _ (Keyed.of_law GA) underlying188 (plainElem prog 3) mb A.length D rfl b8 (jc x y d) (kp (x,y,d)) rfl (yH a2) ?_;intro ab cy br;have b4:(x,y,d)∈A.map (·.1):=bM.o;have cb:=ag (lJ.fit cy (b9.del a2 a9.o b4));have P:=ag (a4.o.PX br.grown cb.o);have bm:=br.grown;have bJ:Hid (ax (fun k=>k=mb) w ab):=(((ax.refl (fun k=>k=mb) w).below aA.o).drew.drew).grown bm fun k e=>.inl (by injection e with e;exact e.symm);have bT:Hid (ab.heap[w.heap.size]? =some (Obj.cells #[ae x,ae y,ak d] 29 (0,0))):=(bm.block _ (aY.1 Q.o).1 (fun e=>by injection e with e;have:=r.o.map.lt;omega)).trans Q.o;obtain⟨u,cX,bZ,-,c2,-,-⟩:=aV P.o.dO aa;subst bZ;have cK:=P.o.dO.cellAt k aa;rw[cB (by rw[bR];omega)]at cK;have cP:=P.o.dO.frozenAt k;obtain⟨-,-,-,-,cN,-,-⟩:=P.o.cell;have c7:(k:Int)<(al.length:Int):=aa;have az:=ag (P.o.V5 k false);have bK:Hid (ax (fun k=>k=mb\/k=u) w (ab.setCell (af u k) (.bool false))):=(bJ.o.mono fun k h=>.inl h).set _ (.inl (.inr rfl));have bd:Hid ((ab.setCell (af u k) (.bool false)).heap[w.heap.size]? =some (Obj.cells #[ae x,ae y,ak d] 29 (0,0))):=(aF (a:=(af u k)) (fun e:u=w.heap.size=>by have:=(r.o.dO.lt u rfl).2;omega)).trans bT.o
 go_wp2_with fail
 generalize ab.setCell (af u k) (.bool false)=w6 at*;have c1:(A.filter fun q=>decide (q.1≠(x,y,d))).length<=A.length:=fO _ _;have cY:A.length<=5000:=by have:=t.o.Jy.1;have:=t.o.levels.2.1;omega
 obtain⟨-,-,bU,-,-,-,bV⟩:=az.o.cell;have b1:=ah bU;have bj:=ah bV;have bx:=ag (NZ (az.o.below (aI _ _).drew).fJ);refine au (fun W=>∃p:aS w6,W=p.W) [9,10,11] [(0,false),(1,false),(2,false),(3,true),(5,false),(6,false),(7,false),(8,true)] ⟨⟨_,(aI _ _).drew⟩,rfl⟩ 4 ?_;refine aC 4 rfl fun K aO=>?_;refine aT Ng rfl _ _ rfl (vals:=#[aj Cb]) rfl bx.o ?_;rintro e g ⟨rfl,cm⟩;have ac:Below w6.heap.size w6 g:=(aI _ _).drew.trans cm;refine⟨_,rfl,?_⟩;refine aO _ _ (fun _ _=>⟨⟨_,ac⟩,rfl⟩) ?_;have z:=ag (az.o.below ac);have H:Hid (ax (fun k=>k=mb\/k=u) w g):=bK.o.below ac;have aJ:Hid (g.heap[w.heap.size]? =some (Obj.cells #[ae x,ae y,ak d] 29 (0,0))):=(aP ac bd.o).trans bd.o;have de:=z.o.map.size;generalize b5:(A.filter fun q=>decide (q.1≠(x,y,d)))=s at*;have am:=ag b5;have c0:(-9223372036854775808:Int)<=2*(s.length:Int)/\2*(s.length:Int)<=9223372036854775807:=aa;have dd:IntKind.i64.wrap (2*(s.length:Int))=2*(s.length:Int):=iQ _ aa;refine aG [9,10,11] ?_;by_cases cs:2*(s.length:Int)<N
 .have aw:∀b,X b->b<g.heap.size:=fun b f=>bX (n.o b f).1 H.o.size;have bv:=ag (RQ z.o a6.o (by have:=aE.o.Jw;simpa using this) aw)
  go_wp2_with fail
  refine bv.o.mono ?_;rintro e O ⟨rfl,X',bA,bY,tv',be,T',lev',cc,-,cf,cj,ci,ce,cl,ca,ar⟩;have ba:=ag cc;have bO:=ag cf;have bb:=ag cj;have bP:=ag ci;have bc:=ag cl;have bH:=ag ca;have L:=ag ar;have bN:=ag ce;go_wp2;go_ret2;have Y:=ao.o;rw[<-an.o]at Y;have db:=t.o.stored;have dc:=bb.o.stored;have aW:s.length+1<=(ch.map (·.2.1)).flatten.length:=by have:=t.o.Jy.1;have:=an.o;omega
  have aZ:=(Y.drop aW).anew (CB':=be.map (·.2.1)) aa aa;have cA:wrap64 (wk+(s.length:Int))=wk+(s.length:Int):=IntWalk.wrap64_in _ (by have h1:=ao.o.bound aa;have B:=ao.o.1;omega);rw[cA]at ba;have bq:=H.o.size;have a1:=L.o.size;refine⟨s.length,s.length,rfl,?_,?_,by rw[am.o];exact .inl ⟨cs,rfl,rfl⟩⟩
  .rw[am.o];exact⟨X',bA,Cb,mb,bY,tv',_,lv,be,T',_,lev',ba.o,bb.o,bP.o,bO.o,aa,bN.o,fun b f=>⟨(bc.o b f).1,(bc.o b f).2.imp (fun h=>(n.o b h).2) fun h=>aa⟩,fun j b f=>.inr (by have:=bH.o j b f;omega),aH,aZ⟩
  .refine ax.trans (H.o.mono ?_) (L.o.mono ?_)
   .rintro b (rfl|rfl)
    .exact(n.o _ r.o.jl.2.2.1).2
    .exact(n.o _ (r.o.jl.2.2.2.2.2.1 _ rfl)).2
   .rintro b (rfl|rfl|h|h|h)
    .exact(n.o _ r.o.jl.1).2
    .exact(n.o _ r.o.jl.2.1).2
    .exact(n.o _ (r.o.jl.2.2.2.1 _ h)).2
    .exact(n.o _ (r.o.jl.2.2.2.2.1 _ h)).2
    .exact(n.o _ (r.o.jl.2.2.2.2.2.2 _ h)).2
 .go_wp2_with fail
  have cr:=aE.o.Jw;have c5:=(fH.1 aD.o).1;obtain⟨gl,lc,bg,-,c3,-,-⟩:=aV z.o.nz aa;obtain⟨b2,tc,bh,-,c4,-,-⟩:=aV z.o.jH aa;have cL:g.cell? (af gl k)=some (ae i):=by
   have h1:=z.o.nz;rw[bg]at h1;have B:=h1.cellAt k aa;rw[iB,bL.o]at B;exact B
  have cM:g.cell? (af b2 i)=some (aj tb):=by
   have h1:=z.o.jH;rw[bh]at h1;have B:=h1.cellAt i aa;rw[iB,aD.o]at B;exact B
  obtain⟨-,d1,-,d3,-,d5,-⟩:=z.o.cell;rw[bh]at d3;rw[bg]at d5;have c6:(i:Int)<(T.length:Int):=aa;have cG:g.cell? (af w.heap.size 0)=some (ae x):=dV aJ.o;have cH:g.cell? (af w.heap.size 1)=some (ae y):=dV aJ.o;have cI:g.cell? (af w.heap.size 2)=some (ak d):=dV aJ.o;have cQ:=ah cG;have cR:=ah cH;have b1:=ah cI;have cS:=ah d1;have cT:=ah d3;have cU:=ah d5;have cV:=ah cL;have cW:=ah cM;have bk:∀j b,F j b->¬(b=mb\/b=u):=fun j b f b3=>r.o.Ve M.o j b f (b3.elim (fun h=>.inr (.inr (.inl h))) fun h=>.inr (.inr (.inr (.inr (.inr (.inl (by rw[h];rfl)))))));have bB:=ag ((bD.o.kept H.o (bk i)).below (aI _ _).drew);have aq:=ag ((M.o.kept H.o bk));have bw:=ag (U7 bB.o (x,y,d) bI.o);have bq:=H.o.size;refine au (fun W=>∃p:aS g,W=p.W) [18] [(0,false),(1,false),(2,false),(3,true),(4,false),(5,false),(6,false),(7,true),(8,false),(9,false),(10,false),(11,true),(12,false),(13,false),(14,true),(15,false),(16,true),(17,true)] ⟨⟨_,(aI _ _).drew⟩,rfl⟩ 1 ?_;refine aC 18 rfl fun K aO=>?_;refine Cz Nh rfl _ _ _ rfl rfl (vals:=#[aj tb,jc x y d]) rfl bw.o ?_;rintro e O ⟨rfl,b6,ar⟩;refine⟨_,rfl,?_⟩;refine aO _ _ (fun _ h=>absurd ai h) ?_;have bC:=ag b6;have L:Hid (ax (F i) g O):=((ax.refl _ g).drew).trans ar;have a1:=ar.size;refine lD aM ?_
  go_wp2_with fail
  go_ret2;have Y:=ao.o;rw[<-an.o]at Y;have aW:s.length+1<=(ch.map (·.2.1)).flatten.length:=by have:=t.o.Jy.1;have:=an.o;omega
  have aZ:=Y.drop aW;have aw:∀b,X b->b<g.heap.size:=fun b f=>bX (n.o b f).1 bq;have cx:∀(j:Nat) (C:j<(ch.map (·.2.1)).length),j≠i->sM (al.set k false) (ch.map (·.2.1))[j]=sM al (ch.map (·.2.1))[j]:=fun j C cp=>by
   rw[a8.o _ fun q Z=>t.o.inl C Z];refine lY.2 fun q Z=>?_;simp only[bQ];rintro rfl;have⟨aL,V,e⟩:=dA.1 Z;have cn:=t.o.live.mem_iff.2 (bG.2 ⟨t.o.inl C (bG.1 V).1,(bG.1 V).2⟩);have S:A.Pairwise fun p q=>p.1≠q.1:=dz.1 a9.o;have aN:aL=c:=by
    rcases fo S cn bE.o with h1|h1|h1
    .exact h1
    .exact absurd (e.trans a5.o.symm) h1
    .exact absurd (a5.o.trans e.symm) h1
   subst aN;exact t.o.apart C hi cp (bG.1 V).1 bF.o rfl
  refine⟨0,N,rfl,?_,?_,by rw[am.o];exact .inr ⟨aa,rfl,rfl⟩⟩
  .rw[am.o,show wk+((0:Nat):Int)=wk by omega];refine⟨X,fun j b=>F j b\/(j=i/\g.heap.size<=b/\b<O.heap.size),Cb,mb,cv,tv,_,lv,ch,T,_,eQ,z.o.kept L.o (fun b f h=>M.o.off i b h f),a6.o,⟨aQ cr,aE.o.lvl⟩,⟨fun j C cw=>?_,?_,?_,?_⟩,aa,cd,fun b f=>⟨bX (aw b f) a1,.inl (n.o b f).2⟩,?_,aH,aZ⟩
   .by_cases e:j=i
    .subst e;refine⟨tb,n0,aD.o,cu,?_⟩;rw[a8.o _ fun q Z=>t.o.inl C Z];have:(fun b=>F j b\/(j=j/\g.heap.size<=b/\b<O.heap.size))=fun b=>F j b\/g.drew.heap.size<=b/\b<O.heap.size:=by funext b;simp
     rw[this];exact bC.o
    .obtain⟨cJ,cC,h1,B,S⟩:=aq.o.tr j C cw;refine⟨cJ,cC,h1,B,?_⟩;have:(fun b=>F j b\/(j=i/\g.heap.size<=b/\b<O.heap.size))=F j:=by funext b;simp[e]
     rw[this,cx j C e];exact S.kept L.o fun b f U=>e (M.o.ap j i b f U)
   .rintro j b (f|⟨-,f,-⟩) bt
    .exact M.o.off j b f bt
    .have:=aw b bt;omega
   .rintro j bu b (f|⟨rfl,f,-⟩) (U|⟨rfl,U,-⟩)
    .exact M.o.ap j bu b f U
    .have:=aq.o.lt j b f;omega
    .have:=aq.o.lt bu b U;omega
    .rfl
   .rintro j b (f|⟨-,-,f⟩)
    .exact bX (aq.o.lt j b f) a1
    .exact f
   .rintro j b (f|⟨-,f,-⟩)
    .exact .inl (a7.o j b f)
    .exact .inr aa
  .refine ax.trans (H.o.mono ?_) (L.o.mono fun b f=>a7.o i b f);rintro b (rfl|rfl)
   .exact(n.o _ r.o.jl.2.2.1).2
   .exact(n.o _ (r.o.jl.2.2.2.2.2.1 _ rfl)).2
end
theorem Ni:eY 135:=bO func135 aM rfl
def vX (T:List (Option Nat)) (n:Nat):List (Option Nat):=List.replicate n none++T.drop n
theorem CF {T:List (Option Nat)} {n:Nat} (h:n<=T.length):(vX T n).length=T.length:=by simp[vX];omega
theorem Nj {T:List (Option Nat)}:vX T 0=T:=by simp[vX]
theorem PY {T:List (Option Nat)} {n:Nat} (h:n<T.length):(vX T n).set n none=vX T (n+1):=by
 unfold vX;rw[uu _ _ ay,iA,iR,mJ h,oF,rA,ed];rfl
theorem PZ {T:List (Option Nat)} {n j:Nat} (h:n<=j):(vX T n)[j]? =T[j]? :=by
 unfold vX;rw[nD (aQ h),iA,Eu,show n+(j-n)=j by omega]
section
variable {w w':World} {X S G:Nat->Prop} {F:Nat->Nat->Prop} {Hb Cb mb m:Nat} {cv tv av lv:Value} {ch:List Ae} {T:List (Option Nat)} {al al':List Bool} {eQ lev':List Int} {A A':List eX} {N wk:Int}
theorem zN {CB:List (List eX)} (h:oh CB al A N):CB.flatten.length<=al.length:=by
 have d:(CB.flatten.map fun c=>c.2.toNat).Nodup:=by
  refine dz.2 ((dz.1 h.TA).imp_of_mem ?_);intro a b g j i f;exact i (by rw[h.one g j f])
 have e:=xg d (n:=al.length) (fun k m=>by
  obtain⟨c,l,rfl⟩:=dA.1 m;have⟨q,o,p⟩:=h.num l;omega)
 rwa [bR]at e
theorem iY.Ud (h:iY w X Hb Cb mb cv tv av lv ch T al eQ A N wk) {i j:Value} (K:ax (fun k=>k=Hb\/av.ownBlock=some k\/lv.ownBlock=some k) w w') (u:w'.heap[Hb]? =some (Obj.cells (vW Cb mb tv i j) q8 (0,0))) (t:w'.ownsRow 0 4 1 i al'.length (al'.map Value.bool)) (y:w'.ownsRow 0 3 1 j lev'.length (lev'.map (Value.int .i64))):
  iY w' (fun k=>X k\/i.ownBlock=some k\/j.ownBlock=some k) Hb Cb mb cv tv i j ch T al' lev' A N wk:=by
 have p:∀{b:Nat} {cs:Array Value} {g:TypeId} {fr:Nat×Nat},w.heap[b]? =some (Obj.cells cs g fr)->g≠q8->g≠4->g≠3->w'.heap[b]? =w.heap[b]? :=fun{b cs g fr} c l m o=>K.block b (aY.1 c).1 fun h9=>by
  rcases h9 with rfl|h9|h9
  .exact dY c h.blk l rfl
  .obtain⟨f,d⟩:=dH h.dO h9;exact dY c d m rfl
  .obtain⟨f,d⟩:=dH h.nz h9;exact dY c d o rfl
 have r:∀{e:TypeId} {sz n:Nat} {v:Value} {xs:List Value},w.ownsRow 0 e sz v n xs->e≠q8->e≠4->e≠3->w'.ownsRow 0 e sz v n xs:=fun{e sz n v xs} q l m o=>aZ q fun F s=>by
  have⟨f,d⟩:=dH q s;exact p d l m o
 refine⟨u,⟨bD _,h.fJ.ds,(p h.fJ.blk ai ai ai).trans h.fJ.blk,r h.fJ.row ai ai ai⟩,h.rows.kept fun b f fr c=>p c ai ai ai,r h.jH ai ai ai,t,y,h.map.same ?_,⟨.inl h.jl.1,.inl h.jl.2.1,.inl h.jl.2.2.1,fun k e=>.inl (h.jl.2.2.2.1 k e),fun k e=>.inl (h.jl.2.2.2.2.1 k e),fun k e=>.inr (.inl e),fun k e=>.inr (.inr e)⟩,fun x B z a e=>.inl (h.Qw x B z a e)⟩;refine K.block _ h.map.lt fun h9=>?_;obtain⟨D,⟨E,C,c,-⟩,-⟩:=h.map;rcases h9 with e|e|e
 .rw[e,h.blk]at c;cases c
 .obtain⟨f,d⟩:=dH h.dO e;rw[d]at c;cases c
 .obtain⟨f,d⟩:=dH h.nz e;rw[d]at c;cases c
def Lm (N:Int) (n:Nat):Prop:=∃i q:Nat,n=2^i/\N+1=((2^i+2^(i+1)*q:Nat):Int)
theorem Lm.pos {N:Int} {n:Nat} (h:Lm N n):1<=n:=by
 obtain⟨i,q,rfl,-⟩:=h;exact pY ai
theorem H8 {d:Nat}:∀{L:List Nat},(∀x∈L,d∣x)->d∣L.sum
 |[],_=>⟨0,rfl⟩
 |x::L,h=>by
  rw[List.sum_cons];exact Nat.dvd_add (h x nT) (H8 fun y a=>h y (lh _ a))
theorem oh.WC {CB:List (List eX)} (h:oh CB al A N) (i:Nat) (hi:i<=CB.length) (n:∀j (a:j<CB.length),j<i->CB[j]≠[]) (g:∀h:i<CB.length,CB[i]=[]):Lm N ((eU CB i).length+1):=by
 have f:=yN CB i hi fun j a k=>(h.size j a).elim (fun e=>absurd (gU e) (n j a k)) id;have b:(CB.take i).flatten++(CB.drop i).flatten=CB.flatten:=by rw[<-ll,jJ]
 have c:=congrArg List.length b;rw[bS,<-(jG CB i).length_eq]at c;have hd:2^(i+1)∣(CB.drop i).flatten.length:=by
  rw[Er];refine H8 fun x p=>?_;obtain⟨l,m,rfl⟩:=dA.1 p;obtain⟨j,a,rfl⟩:=jo m;rw[lM]at a;rw[List.getElem_drop];by_cases r:j=0
  .subst r;have d:=g aa;simp only[dK];rw[d];exact⟨0,rfl⟩
  .rcases h.size (i+j) aa with e|e
   .rw[e];exact⟨0,rfl⟩
   .rw[e];exact Nat.pow_dvd_pow 2 aa
 have⟨q,s⟩:=hd;have o:=h.stored;refine⟨i,q,f,?_⟩;rw[o];omega
def Vg (w:World) (Hb:Nat) (G:Nat->Prop) (m:Nat) (A:List eX) (N wk:Int) (p:Pt) (e:Ending) (w':World):Prop:=
 ∃(n:Nat) (q:Int),Lm N n/\e=.returned (.tuple #[.int .i64 n,.bool true])/\jd w' Hb (fun k=>G k\/w.heap.size<=k) (m+1) (A++[(p,q)]) (N+1) (wk+n)/\ax G w w'
theorem Ue (h:jd w Hb G m A N wk) (ek:m<5000) (x y d:Int) (a6:FX (x,y,d)) (bG:d∉ids (A.map (·.1))):
  Calls prog 57 #[.pointer (some ⟨Hb,0,none⟩),jc x y d] w (Vg w Hb G m A N wk (x,y,d)):=by
 obtain⟨X,F,Cb,mb,cv,tv,av,lv,ch,T,al,eQ,a5,ac,cW,ht,dS,dH,cx,hF,dL,cR⟩:=h;have aA:=ac.levels;have cN:(A.map (·.1)).Nodup:=Fg ac.keys;have bH:(x,y,d)∉A.map (·.1):=fun h=>bG (dA.2 ⟨_,h,rfl⟩);have ca:Hid (∀W,Below w.heap.size w W->(Instr.lookup 188 (.map (some mb)) (jc x y d) true).run prog W=.ok (.tuple #[.int .i64 0,.bool false]) W):=fun W ar=>by
  rcases(a5.below ar).map.look a6 cN with⟨dz,dP,ap,-⟩|⟨-,t⟩
  .exact absurd (dA.2 ⟨dz,dP,ap⟩) bH
  .exact t
 have u:=ag a5;have bm:=ag ht;have L:=ag ac;have bn:=ag cW;have ak:=ag cx;have dg:=ag hF;have b3:=ag cR;have dn:=ag bG;have dm:=ag bH;have ba:Below w.heap.size w (w.alloc (.cells #[.int .i64 x,.int .i64 y,.int .u32 d] 29)):=(aI _ _).alloc (aB _) _;have an:=ag (bW w (.cells #[.int .i64 x,.int .i64 y,.int .u32 d] 29));have be:=ag ba;have bb:=ag (a5.below ba);have c9:=ag (uj bb.o);have eb:0<=N/\N<=5000:=by have:=ac.stored;have:=aA.2.1;omega
 have ed:ch.length<=13:=by have:=aA.1;simpa using this
 have ea:A.length<=5000:=by have:=ac.Jy.1;have:=aA.2.1;omega
 have ee:(ch.map (·.2.1)).flatten.length<=5000:=aA.2.1;clear a5 ac cW ht cx hF cR bG bH ba cN aA;go_enter func57,ntmps57
 go_wp2_with (go_at_call 134;refine c9.o.mono ?_;rintro e w1 ⟨rfl,cc⟩;have dB:=cc.symm;clear cc;subst dB)
 generalize w.alloc (.cells #[.int .i64 x,.int .i64 y,.int .u32 d] 29)=w1 at*;have bs:w1.cell? ⟨w.heap.size,0,none⟩=some (.int .i64 x):=dV an.o;have ap:w1.cell? ⟨w.heap.size,1,none⟩=some (.int .i64 y):=dV an.o;have t:w1.cell? ⟨w.heap.size,2,none⟩=some (.int .u32 d):=dV an.o;have aP:=ah bs;have aU:=ah ap;have aL:=ah t;have bw:=ah (w:=w1) bb.o.cell.2.2.2.2.2.2;have lk:∀p:aS w1,(Instr.lookup 188 (.map (some mb)) (jc x y d) true).run prog p.W=.ok (.tuple #[.int .i64 0,.bool false]) p.W:=fun p=>ca.o p.W (be.o.trans (p.h.mono be.o.size));refine kQ [(0,false),(1,false),(2,false),(3,true),(4,true),(5,true),(6,false),(7,false),(8,false),(9,false),(10,false)] 0 ?_;refine lD aM ?_;clear aP aU aL bw lk ca
 go_wp2_with fail
 have aW:=ag (bb.o.below (aI _ _).drew);obtain⟨d5,d6,bt,-,-,-⟩:=Rd.aJ aW.o.dO;have aP:=ah (w:=w1.drew) bs;have aU:=ah (w:=w1.drew) ap;have aL:=ah (w:=w1.drew) t;have Q:=aW.o.cell.2.2.2.2.1;rw[bt]at Q;have aq:=ah (w:=w1.drew) Q;have bw:=ah (w:=w1.drew) aW.o.cell.2.2.2.2.2.2;have da:=ag bt;clear bt Q;refine au (fun W=>∃p:aS w1.drew,W=p.W) [10] [(0,false),(1,false),(2,false),(3,true),(4,true),(5,false),(6,false),(7,false),(8,true),(9,false)] ⟨⟨_,(aI _ _).drew⟩,rfl⟩ 1 ?_;refine aG [10] ?_;clear aP aU aL aq bw;have bO:=ag (aW.o.below (aI _ _).drew);obtain⟨D,cj,ck⟩:=bO.o.map;refine xR _ rfl _ _ _ _ rfl _ _ (Keyed.of_law GA) underlying188 (plainElem prog 3) mb A.length D rfl cj dJ (jc x y d) (.int .i64 (al.length:Int)) (kp (x,y,d)) rfl rfl (yH a6) (.lit (.int .i64 (al.length:Int))) [] (uZ underlying3 (by simp[Lit.wf,IntKind.min,IntKind.max,IntKind.bits,IntKind.signed];omega)) ?_;intro w4 cQ a4;have ct:lJ w4 mb (A++[((x,y,d),(al.length:Int))]):=⟨_,by rw[bS];exact cQ,ck.put a6 dm.o _⟩;have ae:=ag (bO.o.PX a4 ct);have bU:Hid (ax (fun k=>k=mb) w w4):=(((ax.refl (fun k=>k=mb) w).below be.o).drew.drew).grown a4 fun k e=>.inl (by injection e with e;exact e.symm);have bp:Hid (w4.heap[w.heap.size]? =some (Obj.cells #[.int .i64 x,.int .i64 y,.int .u32 d] 29 (0,0))):=(a4.block _ (aY.1 an.o).1 (fun e=>by injection e with e;have:=u.o.map.lt;omega)).trans an.o;clear cj ck cQ a4 ct bs ap t
 go_wp2_with fail
 have c2:w4.cell? ⟨w.heap.size,0,none⟩=some (.int .i64 x):=dV bp.o;have c3:w4.cell? ⟨w.heap.size,1,none⟩=some (.int .i64 y):=dV bp.o;have c4:w4.cell? ⟨w.heap.size,2,none⟩=some (.int .u32 d):=dV bp.o;have aP:=ah c2;have aU:=ah c3;have aL:=ah c4;have cb:=ae.o.cell.2.2.1;have Q:=ae.o.cell.2.2.2.2.1;rw[da.o]at Q;have dE:=ah cb;have aq:=ah Q;have bL:=ag (Tc (ae.o.below (aI _ _).drew).fJ (bD _) (ae.o.below (aI _ _).drew).rows x y d (al.length:Int) aa aa aa);have dX:=bU.o.size;refine au (fun W=>∃p:aS w4,W=p.W) [11,12,13,14,15,16] [(0,false),(1,false),(2,false),(3,true),(4,true),(5,false),(6,false),(7,false),(8,true),(9,false),(10,false)] ⟨⟨_,(aI _ _).drew⟩,rfl⟩ 6 ?_;refine aC 11 rfl fun K g=>?_;refine aT Ni rfl _ _ rfl (vals:=#[.pointer (some ⟨Cb,0,none⟩),UI x y d al.length]) rfl bL.o ?_;rintro e f ⟨i,ex,R,O,Y,rfl,hi,P,cC,bx,⟨bI,-⟩,cK,cP,cA,cq,cO,cZ⟩;refine⟨_,rfl,?_⟩;refine g _ _ (fun _ h=>absurd ai h) ?_;clear g K aP aU aL dE aq cb Q c2 c3 c4;have bl:=ag P;have bg:=ag cC;have bj:=ag cK;have b2:=ag cP;have du:=ag cZ;have a2:ax (fun k=>k=Cb\/cv.ownBlock=some k) w4 f:=((ax.refl _ w4).drew).trans cq;have er:=a2.size;have ce:=ae.o.PT a2 bx bI cO (cA.imp (fun h=>h) fun⟨b,e,ar⟩=>.inr ⟨b,e,ar⟩);have v:Hid (iY f (fun k=>X k\/w.heap.size<=k/\k<f.heap.size) Hb Cb mb R tv av lv O T al eQ (A++[((x,y,d),(al.length:Int))]) (N+1) Y):=ce.more fun k hk=>by
  rcases hk with hk|⟨J,E⟩
  .exact .inl hk
  .refine .inr ⟨aa,?_⟩;rcases E with E|⟨q,aE,dW,a,dK,rfl⟩
   .exact(bx.row.lt k E).2
   .rcases(bI q aE).1 with h9|⟨b,off,d7,fr,aZ,ar,-⟩
    .exact absurd h9 dW
    .rw[dK]at aZ;injection aZ with aZ;rw[aZ];exact(aY.1 ar).1
 have bV:Hid (ax (fun k=>k=mb\/k=Cb\/cv.ownBlock=some k) w f):=(bU.o.mono fun k h=>.inl h).trans (a2.mono fun k h=>.inr h);clear P cC bx bI cK cP cA cq cO cZ a2 ce bL;refine fV (fun _=>True) [15,16] aM ?_;refine bf [(12,false),(13,false),(14,false)] trivial rfl ?_;refine aG [15,16] ?_
 go_wp2_with fail
 have ec:w.heap.size<=f.heap.size:=bV.o.size
 go_cut []from 49 to 67 (fun ad=>∃dy bJ:Value,Hid (iY ad (fun k=>X k\/w.heap.size<=k/\k<ad.heap.size) Hb Cb mb R tv dy bJ O T (al++[true]) (eQ++[(i:Int)]) (A++[((x,y,d),(al.length:Int))]) (N+1) Y)/\Hid (bJ.ownBlock=lv.ownBlock\/∃b,bJ.ownBlock=some b/\w.heap.size<=b)/\Hid (ax (fun k=>k=Hb\/av.ownBlock=some k\/lv.ownBlock=some k) f ad))
 case first=>
  obtain⟨-,-,-,-,c5,c6,-⟩:=v.o.cell;have cn:=v.o.lt;have cz:=v.o.blk;have a8:av.ownBlock≠some Hb:=v.o.zM v.o.dO ai;have c1:lv.ownBlock≠some Hb:=v.o.zM v.o.nz ai;have c0:∀c,av.ownBlock=some c->lv.ownBlock≠some c:=fun c e t=>bB v.o.dO v.o.nz ai c e t;have cX:∀c,av.ownBlock=some c->c<f.heap.size:=fun c e=>(v.o.dO.lt c e).2;have cY:∀c,lv.ownBlock=some c->c<f.heap.size:=fun c e=>(v.o.nz.lt c e).2;have aq:∀p:wJ (fun k=>av.ownBlock=some k) f,p.W.cell? ⟨Hb,4,none⟩=some av:=fun p=>((cu p.h cn a8).1 4).trans c5;have dF:∀p:wJ (fun k=>av.ownBlock=some k) f,p.W.cell? ⟨Hb,5,none⟩=some lv:=fun p=>((cu p.h cn a8).1 5).trans c6;have bd:=ag v.o.dO;have dj:=ag v.o.nz;have bY:=ag a8;have b0:=ag c1;have bZ:=ag c0;have b4:=ag cX;have dt:=ag cY;have de:=ag cz;have cF:=bn.o.Jw;clear a8 c1 c0 cX cY cz c5 c6;refine au (fun W=>∃p:wJ (fun k=>av.ownBlock=some k) f,W=p.W) [14,15,16,17,18,19,20] [(0,false),(1,false),(2,false),(3,false),(4,false),(5,true),(8,false),(9,false),(10,false),(11,true),(12,false)] ⟨⟨_,(ax.refl _ _).drew⟩,rfl⟩ 10 ?_;clear aq dF;have d4:ax (fun k=>av.ownBlock=some k) f f.drew:=(ax.refl _ _).drew;refine ql [6,13] aM ay ?_;have b6:ax (fun k=>av.ownBlock=some k) f (f.alloc (.cells #[.bool true] 4)).drew:=((ax.refl _ _).alloc _).drew;have b7:ax (fun k=>av.ownBlock=some k) f ((f.alloc (.cells #[.bool true] 4)).alloc (.cells #[.int .i64 (i:Int)] 3)).drew:=(((ax.refl _ _).alloc _).alloc _).drew;have b8:ax (fun k=>av.ownBlock=some k) f ((f.alloc (.cells #[.int .i64 (i:Int)] 3)).alloc (.cells #[.bool true] 4)).drew:=(((ax.refl _ _).alloc _).alloc _).drew;have dv:(f.alloc (.cells #[.bool true] 4)).drew.ownsRow 0 4 1 av al.length (al.map Value.bool):=aR (S:=fun _=>False) bd.o (((ax.refl _ _).alloc _).drew) (fun _ _ h=>h);have dw:((f.alloc (.cells #[.bool true] 4)).alloc (.cells #[.int .i64 (i:Int)] 3)).drew.ownsRow 0 4 1 av al.length (al.map Value.bool):=aR (S:=fun _=>False) bd.o ((((ax.refl _ _).alloc _).alloc _).drew) (fun _ _ h=>h);have dx:((f.alloc (.cells #[.int .i64 (i:Int)] 3)).alloc (.cells #[.bool true] 4)).drew.ownsRow 0 4 1 av al.length (al.map Value.bool):=aR (S:=fun _=>False) bd.o ((((ax.refl _ _).alloc _).alloc _).drew) (fun _ _ h=>h);refine fG.cons rfl (fun K g=>?_) (fG.cons rfl (fun K g=>?_) fG.nil);go_simp;refine g _ _ (fun _ _=>⟨⟨_,b6⟩,rfl⟩) ?_;clear g K;refine ig 7 13 rfl rfl (fun K g=>?_) (fun K g=>?_);refine bC yx 0 dv [.bool true] rfl (by simp[Value.oneCell']) rfl (.tmp 54) (.tmp 55) rfl rfl _ rfl (jr _ _) dJ aa (bD _) ?_;intro l H u2 cg r s cG;have aw:av.ownBlock=some l\/f.heap.size<=l:=s.imp id fun e=>by rw[e];simp
  have aX:=b6.grown r (fun k e=>.inl e);refine g _ _ (fun _ _=>⟨⟨_,aX⟩,rfl⟩) ?_;clear g K s;refine aC 13 rfl fun K g=>?_;go_simp;refine g _ _ (fun _ _=>⟨⟨_,aX.alloc _⟩,rfl⟩) ?_;clear g K;have Z:=bW u2 (.cells #[.int .i64 (i:Int)] 3);have M:=aX.alloc (.cells #[.int .i64 (i:Int)] 3);have a0:=cg.alloc (.cells #[.int .i64 (i:Int)] 3);have cH:l<(u2.alloc (.cells #[.int .i64 (i:Int)] 3)).heap.size:=aH;clear r aX cg cG;generalize u2.alloc (.cells #[.int .i64 (i:Int)] 3)=u3 at*;generalize u2.heap.size=lb at*;clear u2
  rotate_left
  go_simp;refine g _ _ (fun _ _=>⟨⟨_,b7⟩,rfl⟩) ?_;clear g K;refine aC 7 rfl fun K g=>?_;refine bC yx 0 dw [.bool true] rfl (by simp[Value.oneCell']) rfl (.tmp 54) (.tmp 55) rfl rfl _ rfl (Dr _ _ _) dJ aa (bD _) ?_;intro l H u3 a0 r s cH;have aw:av.ownBlock=some l\/f.heap.size<=l:=s.imp id fun e=>by rw[e];simp;omega
  have M:=b7.grown r (fun k e=>.inl e);refine g _ _ (fun _ _=>⟨⟨_,M⟩,rfl⟩) ?_;clear g K s;have Z:=(r.block (f.heap.size+1) ay (fun e=>by have:=b4.o _ e.symm;omega)).trans (Dt f (.cells #[.bool true] 4) (.cells #[.int .i64 (i:Int)] 3));clear r;obtain⟨lb,V⟩:∃lb,lb=f.heap.size+1:=⟨_,rfl⟩;rw[<-V]at Z;rw[<-V];clear V
  rotate_left
  go_simp;refine g _ _ (fun _ _=>⟨⟨_,((ax.refl _ _).alloc (.cells #[.int .i64 (i:Int)] 3)).drew⟩,rfl⟩) ?_;clear g K;refine aC 6 rfl fun K g=>?_;go_simp;refine g _ _ (fun _ _=>⟨⟨_,b8⟩,rfl⟩) ?_;clear g K;refine aC 7 rfl fun K g=>?_;refine bC yx 0 dx [.bool true] rfl (by simp[Value.oneCell']) rfl (.tmp 54) (.tmp 55) rfl rfl _ rfl (Dt _ _ _) dJ aa (bD _) ?_;intro l H u3 a0 r s cH;have aw:av.ownBlock=some l\/f.heap.size<=l:=s.imp id fun e=>by rw[e];simp;omega
  have M:=b8.grown r (fun k e=>.inl e);refine g _ _ (fun _ _=>⟨⟨_,M⟩,rfl⟩) ?_;clear g K s;have Z:=(r.block f.heap.size aH (fun e=>by have:=b4.o _ e.symm;omega)).trans (Dr f (.cells #[.int .i64 (i:Int)] 3) (.cells #[.bool true] 4));clear r;obtain⟨lb,V⟩:∃lb,lb=f.heap.size:=⟨_,rfl⟩;rw[<-V]at Z;rw[<-V];clear V
  all_goals
   refine aC 14 rfl fun K g=>?_;refine bC nG 0 (aR dj.o M (fun c e t=>bZ.o c t e)) [.int .i64 (i:Int)] rfl (by simp[Value.oneCell']) rfl (.tmp 60) (.tmp 62) rfl rfl _ rfl Z dJ aa (bD _) ?_;intro gl cl u4 cs r s eh;have bz:lv.ownBlock=some gl\/f.heap.size<=gl:=s.imp id fun e=>by rw[e];exact M.size
   have bo:ax (fun k=>av.ownBlock=some k\/lv.ownBlock=some k) f u4:=(M.mono fun k h=>.inl h).grown r (fun k e=>.inl (.inr e));refine g _ _ (fun _ h=>absurd ai h) ?_;have dG:=aR a0 ((ax.refl (fun k=>lv.ownBlock=some k) u3).grown r fun k e=>.inl e) (fun c e t=>by
    have I:l=c:=by injection e
    rcases aw with h9|h9
    .exact bZ.o l h9 (by rw[I];exact t)
    .have:=dt.o c t;omega)
   have a3:=bq bo de.o (fun e=>e.elim (fun e=>bY.o e) (fun e=>b0.o e));have ey:u4.cell? ⟨Hb,4,none⟩=some av:=dV a3;have ez:u4.cell? ⟨Hb,5,none⟩=some lv:=dV a3;have d9:∀j,u4.frozen? ⟨Hb,j,none⟩=false:=fun j=>aD a3;clear g K s r Z M a0;refine aG [15,16,17,18,19,20] ?_
   go_wp2_with fail
   go_meet;have dT:l≠Hb:=fun e=>aw.elim (fun h=>bY.o (by rw[h,e])) fun h=>aa;have dU:gl≠Hb:=fun e=>bz.elim (fun h=>b0.o (by rw[h,e])) fun h=>aa;have dX:=bo.size;have dM:(u4.setCell ⟨Hb,4,none⟩ (.slice (some ⟨l,0,none⟩) (al.length+1) H)).heap[Hb]? =some (Obj.cells (vW Cb mb tv (.slice (some ⟨l,0,none⟩) (al.length+1) H) lv) q8 (0,0)):=by
    rw[di u4 Hb 4 _ _ _ a3];rfl
   have dN:((u4.setCell ⟨Hb,4,none⟩ (.slice (some ⟨l,0,none⟩) (al.length+1) H)).setCell ⟨Hb,5,none⟩ (.slice (some ⟨gl,0,none⟩) (al.length+1) cl)).heap[Hb]? =some (Obj.cells (vW Cb mb tv (.slice (some ⟨l,0,none⟩) (al.length+1) H) (.slice (some ⟨gl,0,none⟩) (al.length+1) cl)) q8 (0,0)):=by
    rw[di _ Hb 5 _ _ _ dM];rfl
   have b5:ax (fun k=>k=Hb\/av.ownBlock=some k\/lv.ownBlock=some k) f ((u4.setCell ⟨Hb,4,none⟩ (.slice (some ⟨l,0,none⟩) (al.length+1) H)).setCell ⟨Hb,5,none⟩ (.slice (some ⟨gl,0,none⟩) (al.length+1) cl)):=((bo.mono fun k h=>.inr h).set (a:=⟨Hb,4,none⟩) _ (.inl (.inl rfl))).set (a:=⟨Hb,5,none⟩) _ (.inl (.inl rfl));have b9:ax (fun k=>k=Hb) u4 ((u4.setCell ⟨Hb,4,none⟩ (.slice (some ⟨l,0,none⟩) (al.length+1) H)).setCell ⟨Hb,5,none⟩ (.slice (some ⟨gl,0,none⟩) (al.length+1) cl)):=((ax.refl (fun k=>k=Hb) u4).set (a:=⟨Hb,4,none⟩) _ (.inl rfl)).set (a:=⟨Hb,5,none⟩) _ (.inl rfl);rw[cF]at cs;have c7:=aR dG b9 (fun c e t=>dT (by have I:l=c:=(by injection e);rw[I];exact t));have c8:=aR cs b9 (fun c e t=>dU (by have I:gl=c:=(by injection e);rw[I];exact t));refine⟨_,_,(v.o.Ud (al':=al++[true]) (lev':=eQ++[(i:Int)]) b5 dN (by rw[bS,bM];exact c7) (by rw[bS,bM,cF];exact c8)).more (fun k hk=>?_),bz.elim (fun h=>.inl h.symm) (fun h=>.inr ⟨gl,rfl,aa⟩),b5⟩;have eu:((u4.setCell ⟨Hb,4,none⟩ (.slice (some ⟨l,0,none⟩) (al.length+1) H)).setCell ⟨Hb,5,none⟩ (.slice (some ⟨gl,0,none⟩) (al.length+1) cl)).heap.size=u4.heap.size:=ay;rcases hk with(hk|hk)|hk|hk
   .exact .inl hk
   .exact .inr ⟨hk.1,aa⟩
   .have I:l=k:=by injection hk
    have cf:=(c7.lt l rfl).2;rcases aw with h9|h9
    .exact .inl (I▸u.o.jl.2.2.2.2.2.1 l h9)
    .exact .inr ⟨aa,aa⟩
   .have I:gl=k:=by injection hk
    have cf:=(c8.lt gl rfl).2;rcases bz with h9|h9
    .exact .inl (I▸u.o.jl.2.2.2.2.2.2 gl h9)
    .exact .inr ⟨aa,aa⟩
 case rest=>
  obtain⟨ao,aK,bc,dh,bi⟩:=hcut;obtain⟨w6,dC⟩:∃w6:World,w6=wc:=⟨_,rfl⟩;subst dC;have es:=bi.o.size;have b1:=ag (aR b2.o bi.o (fun c e h=>by
   have J:w4.heap.size<=c:=(b2.o.lt c e).1;have E:=u.o.lt;rcases h with h|h|h
   .omega
   .have:=(u.o.dO.lt c h).2;omega
   .have:=(u.o.nz.lt c h).2;omega))
  obtain⟨ev,tc,bu,-,-,-⟩:=Rd.aJ (enc:=vTr) bc.o.jH;have d3:=ag bu;have br:=bc.o.cell.2.2.2.1;rw[bu]at br;clear bu;obtain⟨C,cL,dR,el⟩:∃C:Nat,C=min i T.length/\C<=T.length/\min (i:Int) (T.length:Int)=(C:Int):=⟨min i T.length,rfl,aa,aa⟩;have dl:=ag cL;clear cL;have df:Hid (iY w6 (fun k=>X k\/w.heap.size<=k/\k<w6.heap.size) Hb Cb mb R tv ao aK O (vX T 0) (al++[true]) (eQ++[(i:Int)]) (A++[((x,y,d),(al.length:Int))]) (N+1) Y):=by rw[Nj];exact bc.o
  have ds:Hid (∀c,tv.ownBlock=some c->c<w.heap.size):=fun c e=>(u.o.jH.lt c e).2
  go_upto_block 0 with fail
  go_cut [11,75]from 76 to 85 (fun bv a7 ad=>Hid (iY ad (fun k=>X k\/w.heap.size<=k/\k<w6.heap.size) Hb Cb mb R tv ao aK O (vX T C) (al++[true]) (eQ++[(i:Int)]) (A++[((x,y,d),(al.length:Int))]) (N+1) Y)/\Hid (ax (fun k=>tv.ownBlock=some k) w6 ad))
  case first=>
   go_wp2_with fail
   go_loopw [75] (fun a7 wr=>∃n:Nat,a7=.int .i64 n/\n<=C/\Hid (iY wr (fun k=>X k\/w.heap.size<=k/\k<w6.heap.size) Hb Cb mb R tv ao aK O (vX T n) (al++[true]) (eQ++[(i:Int)]) (A++[((x,y,d),(al.length:Int))]) (N+1) Y)/\Hid (ax (fun k=>tv.ownBlock=some k) w6 wr)) (fun a7 _=>C-(intOf a7).toNat)
   case atStart=>exact⟨0,rfl,bD _,df,ax.refl _ _⟩
   case round=>
    obtain⟨n,rfl,em,af,bQ⟩:=hrel;by_cases cG:n<C
    .have dQ:=CF (T:=T) (n:=n) aa;obtain⟨cd,ew,ab,-,eg,-,-⟩:=aV af.o.jH aa;have aF:=af.o.jH;rw[dQ]at ab aF;rw[ab]at aF;have d2:=aF.cellAt n aa;rw[cB (by rw[bR];omega)]at d2;have d8:=aF.frozenAt n;have dq:Hid (iY (wr.setCell ⟨cd,n,none⟩ (vTr none)) (fun k=>X k\/w.heap.size<=k/\k<w6.heap.size) Hb Cb mb R tv ao aK O (vX T (n+1)) (al++[true]) (eQ++[(i:Int)]) (A++[((x,y,d),(al.length:Int))]) (N+1) Y):=by
      have J:=af.o;rw[ab]at J |-;rw[<-PY aa];exact J.U9 n none
     have aj:Hid (ax (fun k=>tv.ownBlock=some k) w6 (wr.setCell ⟨cd,n,none⟩ (vTr none))):=bQ.o.set _ (.inl (by rw[ab];rfl));have br:=af.o.cell.2.2.2.1;rw[ab]at br;have en:(n:Int)<(T.length:Int):=aa;have eo:(n:Int)<(C:Int):=aa;clear ab aF;go_wp2;go_roundw
     case rel=>exact⟨n+1,by go_num,aa,dq,aj⟩
     case measure=>exact eT
    .obtain rfl:n=C:=aa;have ef:¬(n:Int)<(n:Int):=aa
     go_wp2_with fail
     go_meet;exact⟨af,bQ⟩
  case rest=>
   obtain⟨db,aj⟩:=hcut;obtain⟨a9,dD⟩:∃a9:World,a9=wc:=⟨_,rfl⟩;subst dD;have et:=aj.o.size;have dp:=ag (aR b1.o aj.o (fun c e h=>by
    have J:w4.heap.size<=c:=(b1.o.lt c e).1;have:=ds.o c h;omega))
   obtain⟨dZ,d0,rfl,-,-,cU⟩:=L6.aJ dp.o;have U:=L.o.add dS (x,y,d) a6 dn.o aa i (aQ hi) (fun j B az=>by rw[fP];exact bl.o j (aQ B) az) (fun B=>by rw[fP];exact bg.o (aQ B));have bE:i<(kz (ch.map (·.2.1)) i ((x,y,d),(al.length:Int))).length:=by rw[o5 _ _ _ (aQ hi)];split<;>omega
   have cE:(kz (ch.map (·.2.1)) i ((x,y,d),(al.length:Int)))[i]=eU (ch.map (·.2.1)) i++[((x,y,d),(al.length:Int))]:=by rw[o6,aN aa,aO rfl]
   have s:=U.bk i bE;have cD:=U.few i bE;rw[cE]at s cD;have dc:=ag U;have dI:∀k,(X k\/w.heap.size<=k/\k<w6.heap.size)->k<a9.heap.size:=fun k hk=>by
    rcases hk with hk|hk
    .have:=(ak.o k hk).1;omega
    .omega
   have bN:=ag (Li db.o dZ d0 (eU (ch.map (·.2.1)) i++[((x,y,d),(al.length:Int))]) i cU aa (by rw[CF aa];omega) cD s.2.2 (by simp[bn.o.Jw]) aH s.1 s.2.1 dI);have ep:0<(eU (ch.map (·.2.1)) i++[((x,y,d),(al.length:Int))]).length:=ay;generalize co:eU (ch.map (·.2.1)) i++[((x,y,d),(al.length:Int))]=am at*;have bh:=ag co;clear U cE s co cU bE
   go_wp2_with fail
   refine bN.o.mono ?_;rintro e d1 ⟨rfl,tv',tb,bK,Fn,cw,ci,cm,cJ,-,cp⟩;have dr:=ag cw;have dd:=ag ci;have bP:=ag cm;have dk:=ag cJ;have bT:=ag cp;clear cw ci cm cJ cp bN;go_wp2;go_ret2;have a1:=congrArg List.length bh.o;rw[bS,Aq]at a1;have eq:=bT.o.size;obtain⟨ei,ej⟩:=dk.o;have cM:w.heap.size<=bK:=aa;have cr:ax (fun k=>k=Hb\/k=Cb\/k=mb\/cv.ownBlock=some k\/tv.ownBlock=some k\/av.ownBlock=some k\/lv.ownBlock=some k) w d1:=by
    refine ax.strip ((((bV.o.mono fun k h=>?_).trans (bi.o.mono fun k h=>?_)).trans (aj.o.mono fun k h=>?_)).trans (bT.o.mono fun k h=>?_))
    .rcases h with h|h|h
     .exact .inl (.inr (.inr (.inl h)))
     .exact .inl (.inr (.inl h))
     .exact .inl (.inr (.inr (.inr (.inl h))))
    .rcases h with h|h|h
     .exact .inl (.inl h)
     .exact .inl (.inr (.inr (.inr (.inr (.inr (.inl h))))))
     .exact .inl (.inr (.inr (.inr (.inr (.inr (.inr h))))))
    .exact .inl (.inr (.inr (.inr (.inr (.inl h)))))
    .rcases h with h|h|h
     .exact .inl (.inl h)
     .exact .inl (.inr (.inr (.inr (.inr (.inl h)))))
     .rcases dh.o with h9|⟨b,h9,cf⟩
      .exact .inl (.inr (.inr (.inr (.inr (.inr (.inr (h9.symm.trans h)))))))
      .rw[h9]at h;injection h with h;exact .inr aa
   have cV:=(bm.o.kept cr (u.o.Ve bm.o)).step (X':=fun k=>(X k\/w.heap.size<=k/\k<w6.heap.size)\/a9.heap.size<=k/\k<bK) (i:=i) (m0:=w.heap.size) (m:=bK) (CB':=kz (ch.map (·.2.1)) i ((x,y,d),(al.length:Int))) (T':=zW (vX T C) i tb) dd.o (by unfold sM;rw[bR];exact fO _ _) (fun j B P=>by
     rw[o6]at P |-;by_cases J:j<i
     .rw[aO J]at P;exact absurd rfl P
     .rw[aN J]at P |-;by_cases E:j=i
      .left;rw[aO E,E];exact⟨rfl,bh.o⟩
      .right;rw[aN E]at P |-;have bF:j<(ch.map (·.2.1)).length:=by rw[o5 _ _ _ (aQ hi)]at B;split at B<;>omega
       rw[jb,cB bF,gH];refine⟨E,bF,rfl,fun q aE=>Lj E (by rw[PZ (by have:=dl.o;omega)];exact aE),?_⟩;unfold sM;rw[KX L.o true fun q aE=>L.o.inl bF aE]) HZ (fun k hk=>by
     rcases hk with(hk|hk)|hk
     .exact .inl hk
     .exact .inr ⟨hk.1,aa⟩
     .exact .inr ⟨aa,hk.2⟩) bP.o (fun j k hk=>bm.o.lt j k hk) (fun k hk=>bX (ak.o k hk).1 cM) cM
   have cI:=bn.o.add L.o (x,y,d) i (aQ hi);rw[bh.o,<-bj.o]at cI;rw[<-bj.o]at cV;have cS:=b3.o.add L.o.Jy.1 (bA (zN L.o) dL) i (aQ hi) L.o.size (fun j B az=>by rw[fP];exact bl.o j (aQ B) az) (fun B=>by rw[fP];exact bg.o (aQ B)) ((x,y,d),(al.length:Int));have U:=dc.o;rw[<-bj.o]at U cS;have cT:Ll (O.map (·.2.1)) (A.length+1) (wk+(am.length:Int)) (m+1):=by
    rw[<-a1];exact cS
   have dY:Y=wk+(am.length:Int):=(du.o.trans (congrArg (fun z=>wrap64 (wk+z)) (show _=(am.length:Int) by rw[<-a1];rfl))).trans (IntWalk.wrap64_in _ (by have J:=cT.bound aa;have E:=b3.o.1;omega));have cy:=L.o.WC i (aQ hi) (fun j B az=>by rw[fP];exact bl.o j (aQ B) az) (fun B=>by rw[fP];exact bg.o (aQ B));rw[a1]at cy;refine⟨am.length,al.length,cy,rfl,⟨_,_,Cb,mb,R,tv',ao,aK,O,zW (vX T C) i tb,al++[true],il (eQ++[(i:Int)]) am i,?_,U,cI,cV,?_,H5 (by rw[CF dR];exact dH) aa,fun k hk=>?_,?_,aH,?_⟩,cr.mono ?_⟩
   .rw[<-dY];exact dr.o
   .rw[bS,Aq];omega
   .rcases hk with(hk|hk)|hk
    .exact⟨by have:=(ak.o k hk).1;omega,.inl (ak.o k hk).2⟩
    .exact⟨aa,.inr hk.1⟩
    .exact⟨aa,.inr aa⟩
   .rintro j k (⟨-,hk⟩|⟨-,hk⟩)
    .have:=bP.o k hk;exact .inr aa
    .exact .inl (dg.o j k hk)
   .rw[bS,Aq];exact cT
   .have r:∀k,X k->G k:=fun k hk=>(ak.o k hk).2;rintro k (rfl|rfl|rfl|h|h|h|h)
    .exact r _ u.o.jl.1
    .exact r _ u.o.jl.2.1
    .exact r _ u.o.jl.2.2.1
    .exact r _ (u.o.jl.2.2.2.1 k h)
    .exact r _ (u.o.jl.2.2.2.2.1 k h)
    .exact r _ (u.o.jl.2.2.2.2.2.1 k h)
    .exact r _ (u.o.jl.2.2.2.2.2.2 k h)
end
end
section
open Go.RowKit Go.Sort Go.Shelf Go.Lib Go.Maps
attribute [local irreducible] wpQuiet
section
variable {w w':World} {S G:Nat->Prop} {Hb m:Nat} {A:List eX} {N wk:Int}
theorem jd.kept (h:jd w Hb G m A N wk) (K:ax S w w') (hS:∀k,G k->¬S k):jd w' Hb G m A N wk:=by
 have⟨X,F,Cb,mb,cv,tv,av,lv,ch,T,al,eQ,d,e,f,g,j,l,b,c,n⟩:=h;exact⟨X,F,Cb,mb,cv,tv,av,lv,ch,T,al,eQ,d.kept K fun k a=>hS k (b k a).2,e,f,g.kept K fun i k a=>hS k (c i k a),j,l,fun k a=>⟨bX (b k a).1 K.size,(b k a).2⟩,c,n⟩
theorem jd.facts (h:jd w Hb G m A N wk):(A.length:Int)<=N/\N<=2*A.length/\N<=m/\(ids (A.map (·.1))).Nodup/\(∀c∈A,FX c.1)/\0<=wk/\(∀L,m<2^L->wk<=(L*m:Nat))/\Hb<w.heap.size/\G Hb:=by
 have⟨X,F,Cb,mb,cv,tv,av,lv,ch,T,al,eQ,b,a,n,o,e,p,f,q,r,d⟩:=h;have j:=a.stored;have k:=a.Jy.1;have l:=zN a;refine⟨aa,e,aa,a.keys,fun c i=>a.good c (bG.1 (a.live.mem_iff.1 i)).1,d.1,fun L g=>?_,b.lt,(f _ b.jl.1).2⟩;have:=d.2 L g;omega
theorem Vh (h:jd w Hb G m A N wk):aK 60 #[aj Hb] w fun e w'=>e=.returned (ae A.length)/\w'=w:=by
 have⟨X,F,Cb,mb,cv,tv,av,lv,ch,T,al,eQ,a,b⟩:=h;exact Uc a
theorem P5 (h:jd w Hb G m A N wk):aK 87 #[aj Hb] w (fw w (ae N)):=by
 have⟨X,F,Cb,mb,cv,tv,av,lv,ch,T,al,eQ,a,b⟩:=h;exact Nb a
theorem Uf (h:jd w Hb G m A N wk):aK 85 #[aj Hb] w (fw w (ae wk)):=by
 have⟨X,F,Cb,mb,cv,tv,av,lv,ch,T,al,eQ,a,b⟩:=h;exact RP a
structure nA (w:World) (G:Nat->Prop) (F:Nat->Nat->Prop) (B:List (Nat×Nat×List Pt)):Prop where
 bk:∀(i:Nat) (h:i<B.length),Bk w (F i) B[i].1 B[i].2.1 B[i].2.2
 Vi:∀i k,F i k->G k
 ap:∀i j k,F i k->F j k->i=j
def iO (B:List (Nat×Nat×List Pt)):List Pt:=B.flatMap fun b=>b.2.2
theorem nA.kept {F:Nat->Nat->Prop} {B:List (Nat×Nat×List Pt)} (h:nA w G F B) (K:ax S w w') (hS:∀k,G k->¬S k):nA w' G F B:=⟨fun i hi=>(h.bk i hi).kept K fun k a=>hS k (h.Vi i k a),h.Vi,h.ap⟩
theorem Vj (w:World):aK 51 #[zf,D5] w fun e w'=>e=.returned (aj (w.heap.size+2))/\jd w' (w.heap.size+2) (fun k=>w.heap.size<=k) 0 [] 0 0/\Below w.heap.size w w':=by
 have m:=@run_makeMap prog;have n:∀w,(binOp .eql 107 zf .nilFunc).run prog w=.ok (.bool false) w:=fun w=>by
  have h:∀d:Nat,(Op.equalIn (d+1) 107 zf .nilFunc).run prog w=.ok false w:=fun d=>by simp[Op.equalIn,pO underlying107]
  simp only[binOp];simp[Op.equal,Op.maxDepth,h 9999]
 have o:∀w,(binOp .eql 108 D5 .nilFunc).run prog w=.ok (.bool false) w:=fun w=>by
  have h:∀d:Nat,(Op.equalIn (d+1) 108 D5 .nilFunc).run prog w=.ok false w:=fun d=>by simp[Op.equalIn,pO underlying108]
  simp only[binOp];simp[Op.equal,Op.maxDepth,h 9999]
 go_enter func51,ntmps51;go_wp2;go_ret;have j:(w.alloc (.cells #[.bool true,aL,ae 0,ae 0] 278)).heap.size=w.heap.size+1:=ay;have l:((w.alloc (.cells #[.bool true,aL,ae 0,ae 0] 278)).alloc (.map #[] 0)).heap.size=w.heap.size+2:=ay;have f:=bW w (.cells #[.bool true,aL,ae 0,ae 0] 278);have m1:lJ ((w.alloc (.cells #[.bool true,aL,ae 0,ae 0] 278)).alloc (.map #[] 0)) (w.heap.size+1) []:=by
  rw[<-j];exact⟨.map [],xX _ _ _ _,sw.empty⟩
 have c:Below w.heap.size w (((w.alloc (.cells #[.bool true,aL,ae 0,ae 0] 278)).alloc (.map #[] 0)).alloc (.cells (vW w.heap.size (w.heap.size+1) (aL) (aL) (aL)) q8)):=(((aI _ _).alloc (aB _) _).alloc ay _).alloc aH _;have b:=bW ((w.alloc (.cells #[.bool true,aL,ae 0,ae 0] 278)).alloc (.map #[] 0)) (.cells (vW w.heap.size (w.heap.size+1) (aL) (aL) (aL)) q8);rw[l]at b;refine⟨rfl,⟨fun k=>w.heap.size<=k/\k<w.heap.size+3,fun _ _=>False,w.heap.size,w.heap.size+1,aL,aL,aL,aL,[],[],[],[],⟨b,⟨bD _,VE,(bL _ _ _ aH).trans ((bL _ _ _ ay).trans f),dx _ _ _ _⟩,fun h a=>absurd a iC,dx _ _ _ _,dx _ _ _ _,dx _ _ _ _,m1.same (bL _ _ _ ay),⟨aa,aa,aa,(fun k e=>by cases e),(fun k e=>by cases e),(fun k e=>by cases e),(fun k e=>by cases e)⟩,fun h a=>absurd a iC⟩,TB,TC,⟨fun i h=>absurd h (kE _),fun _ _ h=>h.elim,fun _ _ _ h=>h.elim,fun _ _ h=>h.elim⟩,ay,ay,fun k g=>⟨aH,g.1⟩,fun _ _ h=>h.elim,aB _,RU⟩,c⟩
end
end
section
open Go.RowKit Go.Sort Go.Shelf Go.Lib Go.Maps
theorem sU {α b:Type} (p:α->Bool) (f:α->List b):∀(l:List α),(∀x∈l,p x=false->f x=[])->(l.filter p).flatMap f=l.flatMap f
 |[],_=>rfl
 |x::l,h=>by
  have ih:=sU p f l fun y a=>h y (lh _ a);rw[l7,l6];cases hp:p x with
  |true=>rw[aO rfl,l6,ih]
  |false=>rw[aN ay,h x nT hp,fQ,ih]
theorem P6 {CB:List (List eX)} {i:Nat} (h:i∈dX CB 0):∃hi:i<CB.length,CB[i]≠[]:=by
 unfold dX at h;have⟨b,a⟩:=bG.1 h;have hi:i<CB.length:=aQ b;rw[jb,cB hi,gH]at a;exact⟨hi,fun e=>by rw[e]at a;cases a⟩
theorem Nk {CB:List (List eX)} {i:Nat} (hi:i<CB.length) (h:CB[i]≠[]):i∈dX CB 0:=by
 unfold dX;refine bG.2 ⟨aQ hi,?_⟩;rw[jb,cB hi,gH];cases e:CB[i]with
 |nil=>exact absurd e h
 |cons=>rfl
theorem Kc (CB:List (List eX)):(dX CB 0).Nodup:=by
 unfold dX;refine lX _ ?_;rw[kF];exact(uQ _).nodup_iff.2 List.nodup_range
theorem P7 (CB:List (List eX)):((dX CB 0).flatMap fun i=>CB.getD i []).Perm CB.flatten:=by
 unfold dX;rw[sU _ _ _ fun i _ hi=>aQ hi,kF];refine((uQ _).flatMap_right _).trans (List.Perm.of_eq ?_);rw[A7];congr 1;refine rH ay fun i b a=>?_;rw[fP,xW,jb,cB a,gH]
section
variable {w w':World} {S G:Nat->Prop} {Hb m:Nat} {A:List eX} {N wk:Int}
def SA (b:Nat×Nat×List Pt):Value:=aj b.1
def Vk (w:World) (Hb:Nat) (G:Nat->Prop) (m:Nat) (A:List eX) (N wk:Int) (e:Ending) (w':World):Prop:=
 ∃(v:Value) (B:List (Nat×Nat×List Pt)) (F:Nat->Nat->Prop),e=.returned v/\w'.ownsRow w.heap.size 106 1 v B.length (B.map SA)/\Below w.heap.size w w'/\nA w' G F B/\(iO B).Perm (A.map (·.1))/\(B.length≠0->2^(B.length-1)<=N)/\(∀b∈B,(b.2.1:Int)<=N/\b.2.1<=20000)/\B.length<=13/\
  ∀w2 F2 (G2:Nat->Prop),ax (fun k=>∃i,F i k) w' w2->nA w2 G2 F2 B->(∀k,G k->G2 k)->(∀i k,F2 i k->F i k\/w'.heap.size<=k)->jd w2 Hb G2 m A N wk
theorem Lp (h:jd w Hb G m A N wk):aK 61 #[aj Hb] w (Vk w Hb G m A N wk):=by
 have⟨X,F,Cb,mb,cv,tv,av,lv,ch,T,al,eQ,E,r,ac,ht,W,P,B,hF,R,Z⟩:=h;have Q:∀(i:Nat) (hi:i<(ch.map (·.2.1)).length),(ch.map (·.2.1))[i]≠[]->i<T.length:=fun i hi C=>by
  obtain⟨tb,n0,h1,-⟩:=ht.tr i hi C;exact(fH.1 h1).1
 refine(PU E r Q).mono ?_;rintro e w' ⟨v,rfl,Y,u⟩;have V:=r.levels;have ak:=r.stored;have U:=r.live;generalize t:ch.map (·.2.1)=CB at*;have g:∀i:Nat,∃b:Nat×Nat×List Pt,i∈dX CB 0->T[i]? =some (some b.1)/\(b.2.1:Int)<=N/\b.2.1<=20000/\b.2.2=sM al (CB.getD i [])/\Bk w (F i) b.1 b.2.1 b.2.2/\b.2.1<=(CB.getD i []).length:=fun i=>by
  by_cases hi:i∈dX CB 0
  .obtain⟨h1,c⟩:=P6 hi;have⟨tb,n0,d,o,J⟩:=ht.tr i h1 c;have ae:CB[i].length<=CB.flatten.length:=(Eg (bF h1)).length_le;exact⟨(tb,n0,sM al CB[i]),fun _=>⟨d,by show(n0:Int)<=N;omega,by show n0<=20000;omega,by rw[jb,cB h1,gH],J,by rw[jb,cB h1,gH];exact o⟩⟩
  .exact⟨(0,0,[]),fun h=>absurd h hi⟩
 have⟨f,g⟩:=Classical.axiomOfChoice g;have L:(dX CB 0).map (Sz T)=((dX CB 0).map f).map SA:=by
  rw[vz];refine Ay fun i hi=>?_;unfold Sz;rw[jb,(g i hi).1];rfl
 have D:=Kc CB;refine⟨v,(dX CB 0).map f,fun p k=>∃hp:p<(dX CB 0).length,F (dX CB 0)[p] k,rfl,?_,u,⟨fun p hp=>?_,fun p k a=>hF _ k a.2,fun p q k hp x=>?_⟩,?_,fun I=>?_,?_,?_,?_⟩
 .rw[<-L,bR];exact Y
 .rw[bR]at hp;rw[fP];have:(fun k=>∃hp:p<(dX CB 0).length,F (dX CB 0)[p] k)=F (dX CB 0)[p]:=by funext k;simp[hp]
  rw[this];exact((g _ (bF hp)).2.2.2.2.1).below u
 .obtain⟨h1,c⟩:=hp;have⟨d,o⟩:=x;exact(List.getElem_inj D).1 (ht.ap _ _ k c o)
 .have l:iO ((dX CB 0).map f)=(((dX CB 0).flatMap fun i=>CB.getD i []).filter (cO al)).map (·.1):=by
   unfold iO;rw[List.flatMap_map,List.filter_flatMap,List.map_flatMap];rw[A7,A7];congr 1;exact Ay fun i hi=>(g i hi).2.2.2.1
  rw[l];exact(((P7 CB).filter _).trans U.symm).map _
 .rw[bR]at I |-;have h1:=zg CB 0;have c:=V.2.2.2 aa;have d:=Au (n:=2) ai (show(dX CB 0).length-1<=CB.length-1 by omega);have o:((2:Int)^((dX CB 0).length-1))=((2^((dX CB 0).length-1):Nat):Int):=ay;rw[o];omega
 .intro b S;obtain⟨i,hi,rfl⟩:=dA.1 S;exact⟨(g i hi).2.1,(g i hi).2.2.1⟩
 .rw[bR];have h1:=zg CB 0;omega
 .intro w2 y ad K s O M;have ag:=u.size;have ah:=K.size;have ab:nQ w2 (fun i k=>∃p,∃hp:p<(dX CB 0).length,(dX CB 0)[p]=i/\y p k) X CB T al:=by
   refine⟨fun i hi C=>?_,?_,?_,?_⟩
   .obtain⟨p,hp,rfl⟩:=jo (Nk hi C);have h1:=g _ (bF hp);have c:=s.bk p (by rw[bR];exact hp);rw[fP]at c;refine⟨_,(f (dX CB 0)[p]).2.1,h1.1,?_,?_⟩
    .have d:=h1.2.2.2.2.2;rwa [jb,cB hi,gH]at d
    .have e:(fun k=>∃q,∃x:q<(dX CB 0).length,(dX CB 0)[q]=(dX CB 0)[p]/\y q k)=y p:=by
      funext k;refine propext ⟨?_,fun h=>⟨p,hp,rfl,h⟩⟩;rintro⟨q,x,l,z⟩;rw[<-(List.getElem_inj D).1 l];exact z
     have d:=h1.2.2.2.1;rw[jb,cB hi,gH]at d;rw[e,<-d];exact c
   .rintro i k ⟨p,hp,-,a⟩ H;rcases M p k a with⟨af,h1⟩|h1
    .exact ht.off _ k h1 H
    .have:=(B k H).1;omega
   .rintro i j k ⟨p,hp,l,h1⟩ ⟨q,x,z,c⟩;have:=s.ap p q k h1 c;subst this;rw[<-l,<-z]
   .rintro i k ⟨p,hp,-,a⟩;exact(s.bk p (by rw[bR];exact hp)).lt k a
  exact⟨X,_,Cb,mb,cv,tv,av,lv,ch,T,al,eQ,(E.below u).kept K (fun k a h=>by obtain⟨p,hp,h1⟩:=h;exact ht.off _ k h1 a),by rw[t];exact r,by rw[t];exact ac,by rw[t];exact ab,W,P,fun k a=>⟨by have:=(B k a).1;omega,O k (B k a).2⟩,(fun i k h=>by obtain⟨p,hp,-,a⟩:=h;exact s.Vi p k a),R,by rw[t];exact Z⟩
end
end
section
open Go.RowKit Go.Sort Go.Shelf Go.Lib Go.Maps
attribute [local irreducible] wpQuiet
theorem Ug (b off:Nat) (x y:Int) (w:World) (a:w.cell? (af b off)=some (ae x)) (c:w.frozen? (af b off)=false):
  aK 151 #[.pointer (some (af b off)),ae y] w fun e w'=>e=.returned (ae (wrap64 (x+y)))/\w'=w.setCell (af b off) (.int .i64 (wrap64 (x+y))):=by
 have d:=run_call_add (P:=prog) func227 aM aM aM .i64 aM (y:=y) (s:=wrap64 (x+y)) a c (by rw[<-IntWalk.i64_left];simp[go_sem];try rfl);go_enter func151,ntmps151;go_wp2;go_ret;exact⟨rfl,rfl⟩
theorem RX (b off:Nat) (x:Int) (w:World) (a:w.cell? (af b off)=some (ae x)):
  aK 88 #[.pointer (some (af b off))] w fun e w'=>e=.returned (ae x)/\w'=w:=by
 have c:=run_call_load (P:=prog) func162 aM aM aM .i64 aM a;go_enter func88,ntmps88;go_wp2;go_ret;exact⟨rfl,rfl⟩
abbrev xG:TypeId:=74
section
variable {w:World} {Pb Hb:Nat} {dv av:Value} {eB:Int} {GH:Nat->Prop} {m:Nat} {A:List eX} {N wk:Int}
theorem ko (a:w.heap[Pb]? =some (Obj.cells #[aj Hb,dv,av,ae eB] xG (0,0))):aK 55 #[aj Pb] w fun e w'=>e=.returned (.bool false)/\w'=w:=by
 have b:w.cell? (af Pb 0)=some (aj Hb):=aD a;go_enter func55,ntmps55;go_wp2;go_ret;exact⟨rfl,rfl⟩
def SumB (bd:Nat->Nat->Prop):Nat->Nat->Prop
 |0,n=>n=0
 |i+1,n=>∃n' t,SumB bd i n'/\bd i t/\n=n'+t
theorem SumB.le {bd:Nat->Nat->Prop} {b:Nat} (h:∀i t,bd i t->t<=b):∀{i n:Nat},SumB bd i n->n<=i*b
 |0,n,a=>by simp[SumB]at a;omega
 |i+1,n,a=>by
  obtain⟨n',t,c,d,rfl⟩:=a;have e:=SumB.le h c;have f:=h i t d;rw[Nat.succ_mul];omega
def V6 (fn:FuncId) (cs:Array Value) (Sx:Nat->Prop) (Q:List (Nat×Nat×List Pt)->Nat->World->Prop) (w1:World) (B:List (Nat×Nat×List Pt)):Prop:=
 ∃(I:Nat->Nat->World->Prop),I 0 0 w1/\(∀i n u,I i n u->ax Sx w1 u)/\(∀i n u,I i n u->n<=i*1000000)/\(∀i n (hi:i<B.length) u,I i n u->aK fn (#[aj (B[i].1)]++cs) u fun e u'=>∃c:Nat,e=.returned (ae c)/\I (i+1) (n+c) u')/\∀n u,I B.length n u->Q B n u
def Vl (w:World) (Pb:Nat) (eB:Int) (Sx:Nat->Prop) (Q:List (Nat×Nat×List Pt)->Nat->World->Prop) (e:Ending) (w':World):Prop:=
 ∃(B:List (Nat×Nat×List Pt)) (xu:Nat) (u:World),e=.returned (ae xu)/\Q B xu u/\ax Sx w u/\w'=u.setCell (af Pb 3) (.int .i64 (wrap64 (eB+xu)))
theorem FD {fn:FuncId} {cs:Array Value} {Sx:Nat->Prop} {Q:List (Nat×Nat×List Pt)->Nat->World->Prop} (aC:∀args w,(callFunc fn args).run prog w=.ok (.enter fn args) w) (f:w.heap[Pb]? =some (Obj.cells #[aj Hb,dv,av,ae eB] xG (0,0))) (h:jd w Hb GH m A N wk) (L:∀k,Sx k->k≠Pb/\k<w.heap.size)
  (O:∀w1 B F,Below w.heap.size w w1->nA w1 GH F B->(iO B).Perm (A.map (·.1))->(B.length≠0->(2:Int)^(B.length-1)<=N)->(∀b∈B,(b.2.1:Int)<=N/\b.2.1<=20000)->B.length<=13->V6 fn cs Sx Q w1 B):
  aK 69 #[aj Pb,.func (.func fn) #[] cs] w (Vl w Pb eB Sx Q):=by
 have x:=ag (ko f);have y:=ag (Lp h);have ao:w.cell? (af Pb 0)=some (aj Hb):=aD f;have ac:=ag O;have D:=ag L;have ad:=ag f;clear O L f h;go_enter func69,ntmps69
 go_wp2_with (go_at_call 55;refine x.o.mono ?_;rintro e w1 ⟨rfl,E⟩;have ar:=E.symm;clear E;subst ar)
 refine y.o.mono ?_;rintro e w1 ⟨v,B,F,rfl,s,r,M,Y,V,X,au,-⟩;obtain⟨an,H,I,R,P,T⟩:=ac.o w1 B F r M Y V X au;obtain⟨aO,aQ,rfl,-,-,-⟩:=Rd.aJ (enc:=SA) s;have C:=ag s;have a:=ag r;have am:=ag I;have ah:=ag P;have ai:=ag T;have z:=ag R;have ak:=ag H;clear s r I P T H M Y V X R y x ao
 go_wp2_with fail
 go_loopw [16,5] (fun t ay wr=>∃i n:Nat,t=.int .i64 i/\ay=.int .i64 n/\i<=B.length/\Hid (an i n wr)) (fun t _ _=>B.length-(intOf t).toNat)
 case atStart=>exact⟨0,0,rfl,rfl,bD _,ak⟩
 case round=>
  obtain⟨i,n,rfl,rfl,hi,d⟩:=hrel;have K:=ag (am.o i n wr d.o);have J:Hid (ax Sx w wr):=⟨K.o.os.trans a.o.os,K.o.tape.trans a.o.tape,K.o.output.trans a.o.output,bA a.o.size K.o.size,fun k U aw=>(K.o.block k (bX U a.o.size) aw).trans (a.o.block k U)⟩;have aI:=z.o i n wr d.o;by_cases W:i<B.length
  .have ab:=aR C.o K.o (fun G e l=>by have aE:=(C.o.lt G e).1;have aF:=(D.o G l).2;omega);obtain⟨aP,aS,j,-,-,Z⟩:=Rd.aJ (enc:=SA) ab;injection j with j _ aq;subst j aq;obtain⟨aA,aB,ap,-,S⟩:=Z.get aa;have az:=S i W;have g:=ag (ah.o i n W wr d.o);unfold SA at az;subst ap;generalize B[i].1=tb at*;clear S Z ab;have aN:(i:Int)<(B.length:Int):=aa;have aM:(i+1)*1000000<=13*1000000:=nR _ aa
   go_wp2_with (refine g.o.mono ?_;rintro e u ⟨c,rfl,p⟩;have aH:=z.o (i+1) (n+c) u p;have aG:(-9223372036854775808:Int)<=(n:Int)+(c:Int)/\(n:Int)+(c:Int)<=9223372036854775807:=aa;have al:=ag p;clear p)
   go_roundw
   case rel=>exact⟨i+1,n+c,by go_num,by go_num,aa,al⟩
   case measure=>exact eT
  .obtain rfl:i=B.length:=aa;have aL:¬(B.length:Int)<(B.length:Int):=aa;have q:wr.heap[Pb]? =some (Obj.cells #[aj Hb,dv,av,ae eB] xG (0,0)):=bq J.o ad.o (fun l=>(D.o Pb l).1 rfl);have g:=ag (Ug Pb 3 eB n wr (aD q) (aD q));clear q
   go_wp2_with fail
   refine g.o.mono ?_;rintro e aT ⟨rfl,rfl⟩;go_wp2;go_ret;exact⟨B,n,wr,rfl,ai.o n wr d.o,J.o,rfl⟩
end
end
end Go.Proofs.YtkjdbndekceffaaGreat
