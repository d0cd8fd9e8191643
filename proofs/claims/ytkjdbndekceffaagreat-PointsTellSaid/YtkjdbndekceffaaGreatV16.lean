/- Made small by a program. -/
import Derived.Test.YtkjdbndekceffaaGreatV15
set_option linter.unusedSimpArgs false
set_option linter.unusedVariables false
set_option maxRecDepth 100000
set_option maxHeartbeats 16000000
namespace Go.Proofs.YtkjdbndekceffaaGreat
open Tryz
section
open Go.RowKit Go.Sort Go.Shelf Go.Lib Go.Maps
attribute [local irreducible] wpQuiet
attribute [local go_sem] Oper.dZ
theorem K5:eU 213:=bP func213 aL rfl
theorem IZ {T:List (Option Nat)} {i tb:Nat}:(AV T i tb)[i]? =some (some tb):=by
 unfold AV;rw[ve aH]
theorem Mq {T:List (Option Nat)} {i tb j:Nat} (h:j≠i) {x:Nat} (a:T[j]? =some (some x)):(AV T i tb)[j]? =some (some x):=by
 unfold AV;have b:=(fI.1 a).1;rw[oC (fun e=>h e.symm),mr b,a]
theorem I1 {T:List (Option Nat)} {i tb n:Nat} (h:T.length<=n) (hi:i<n):(AV T i tb).length<=n:=by
 unfold AV;simp;omega
section
variable {w w':World} {X X' S Fn:Nat->Prop} {F:Nat->Nat->Prop} {Hb Cb mb:Nat} {cv tv av lv:Value} {ch:List Bd} {T T':List (Option Nat)} {al al':List Bool} {fA:List Int} {A:List fB} {N wk:Int} {CB CB':List (List fB)}
theorem ow.skip (h:ow w F X CB T al):ow w F X (CB++[[]]) T al:=by
 refine⟨fun j b a=>?_,h.off,h.ap,h.lt⟩;by_cases e:j<CB.length
 .rw[rJ e]at a |-;exact h.tr j e a
 .rw[uZ aa]at a;simp at a
theorem ow.step (h:ow w F X CB T al) {i tb n0 m0 m:Nat} {l:List fB} (o:Bk w Fn tb n0 (uk al' l)) (C:n0<=l.length) (B:∀(j:Nat) (b:j<CB'.length),CB'[j]≠[]->(j=i/\CB'[j]=l)\/(j≠i/\∃n:j<CB.length,CB'[j]=CB[j]/\(∀x,T[j]? =some (some x)->T'[j]? =some (some x))/\uk al' CB[j]=uk al CB[j]))
  (z:T'[i]? =some (some tb)) (p:∀k,X' k->X k\/(m0<=k/\k<m)) (g:∀k,Fn k->m<=k) (f:∀j k,F j k->k<m0) (A:∀k,X k->k<m) (G:m0<=m):ow w (fun j k=>(j=i/\Fn k)\/(j≠i/\F j k)) X' CB' T' al':=by
 refine⟨fun j b q=>?_,?_,?_,?_⟩
 .rcases B j b q with⟨rfl,e⟩|⟨c,n,e,h2,y⟩
  .refine⟨tb,n0,z,by rw[e];exact C,?_⟩;have:(fun k=>(j=j/\Fn k)\/(j≠j/\F j k))=Fn:=by funext k;simp
   rw[this,e];exact o
  .obtain⟨E,D,t,u,v⟩:=h.tr j n (by rw[<-e];exact q);refine⟨E,D,h2 _ t,by rw[e];exact u,?_⟩;have:(fun k=>(j=i/\Fn k)\/(j≠i/\F j k))=F j:=by funext k;simp[c]
   rw[this,e,y];exact v
 .rintro j k (⟨rfl,a⟩|⟨b,a⟩) r
  .have c:=g k a;rcases p k r with h2|h2
   .have:=A k h2;omega
   .omega
  .rcases p k r with h2|h2
   .exact h.off j k a h2
   .have:=f j k a;omega
 .rintro j s k (⟨rfl,a⟩|⟨b,a⟩) (⟨rfl,d⟩|⟨n,d⟩)
  .rfl
  .have c:=g k a;have h2:=f s k d;omega
  .have c:=g k d;have h2:=f j k a;omega
  .exact h.ap j s k a d
 .rintro j k (⟨rfl,a⟩|⟨b,a⟩)
  .exact o.lt k a
  .exact h.lt j k a
def Wh (w:World) (X:Nat->Prop) (Hb Cb mb:Nat) (cv tv av lv:Value) (ch:List Bd) (al:List Bool) (A:List fB) (wk:Int) (e:Ending) (w':World):Prop:=
 e=.returned (ae A.length)/\∃(X':Nat->Prop) (F':Nat->Nat->Prop) (DT tv':Value) (rR:List Bd) (T':List (Option Nat)) (lev':List Int),jw w' X' Hb Cb mb DT tv' av lv rR T' al lev' A A.length (wrap64 (wk+(A.length:Int)))/\
  rR.map (·.2.1)=setC (Lib.bitLen A.length) (lg al (ch.map (·.2.1)) 0)/\ow w' F' X' (rR.map (·.2.1)) T' al/\oP (rR.map (·.2.1)) al A A.length/\Vx (rR.map (·.2.1)) al lev'/\T'.length<=14/\(∀k,X' k->k<w'.heap.size/\(X k\/w.heap.size<=k))/\(∀i k,F' i k->w.heap.size<=k)/\
  aB (fun k=>k=Hb\/k=Cb\/cv.ownBlock=some k\/tv.ownBlock=some k\/lv.ownBlock=some k) w w'
theorem Tj (h:jw w X Hb Cb mb cv tv av lv ch T al fA A N wk) (ae:oP (ch.map (·.2.1)) al A N) (bw:fA.length=al.length) (bf:∀k,X k->k<w.heap.size):
  aK 140 #[aj Hb] w (Wh w X Hb Cb mb cv tv av lv ch al A wk):=by
 have H:=af h;have bR:=af bf;obtain⟨a7,bc⟩:=ae.anew (L:=lg al (ch.map (·.2.1)) 0) (by unfold lg;rw[jY]);have bC:=af a7;have aG:=ae.levels;have bH:=af bw;have aO:=af (fun p:aR w=>QQ (h.below p.h) ae);obtain⟨-,-,U,-⟩:=h.cell;have cj:(lg al (ch.map (·.2.1)) 0).length<=5000:=bA (EO _ _ _) aG.2.1;have ck:=aG.2.2.1;have bY:=ah U;clear h ae bw bf a7 U aG;generalize bd:lg al (ch.map (·.2.1)) 0=L at*;have bG:=af bd;have ap:=af bc;clear bd bc;go_enter func140,ntmps140
 go_wp2_with fail
 refine au (fun W=>∃p:aR w,W=p.W) [6,7] [(0,false),(1,false),(2,false),(3,true),(4,false)] ⟨⟨_,(aJ _ _).drew⟩,rfl⟩ 3 ?_;clear bY;refine ay 5 rfl fun K ba=>?_;refine aY K5 rfl _ _ rfl (vals:=#[aj Hb]) rfl (aO.o ⟨_,(aJ _ _).drew⟩) ?_;rintro e w2 ⟨v,rfl,bp,bh⟩;obtain⟨ce,cf,rfl,-,b8,br⟩:=M3.aD bp;have M:Below w.heap.size w w2:=(aJ _ _).drew.trans bh;refine⟨_,rfl,?_⟩;refine ba _ _ (fun _ _=>⟨⟨_,M⟩,rfl⟩) ?_;clear ba K;have aV:=af (H.o.below M);have aW:=af M;have aS:=af (Vd aV.o.gp (aT _) ce L cf br b8 aa);clear bp bh M aO br;refine aF [6,7] ?_
 go_wp2_with fail
 refine aS.o.mono ?_;rintro e w4 ⟨V,f,aL,rfl,aC,aH,ad,bi,ab,bn,bx⟩;have cu:=aW.o.size;have cw:=ab.size;have a6:=aV.o.QO (ab.mono fun k h=>.inl h) aC aH (Nw.nil bn (aA _)) (.inr bi);have ak:Hid (jw w4 (fun k=>X k\/w.heap.size<=k/\k<w4.heap.size) Hb Cb mb V tv av lv f T al fA A L.length aL):=a6.more fun k hk=>by
  rcases hk with hk|⟨E,Z⟩
  .exact .inl hk
  .refine .inr ⟨aa,?_⟩;rcases Z with Z|⟨x,J,bo,a,b2,rfl⟩
   .exact(aC.row.lt k Z).2
   .rcases(aH x J).1 with h9|⟨b,off,cg,fr,Y,b3,-⟩
    .exact absurd h9 bo
    .rw[b2]at Y;injection Y with Y;rw[Y];exact(bg.1 b3).1
 have bI:=af ad;have a5:=af bx;have bF:Hid (aB (fun k=>k=Cb) w w4):=((aB.refl (fun k=>k=Cb) w).below aW.o).trans ab;have cl:f.length<=13:=by
  have E:=congrArg List.length ad;rw[fo,bK]at E;have Z:=fP (a:=L.length) (b:=5000) aa ai;have ci:Lib.bitLen 5000<=13:=ai;omega
 have B:Hid (oP (f.map (·.2.1)) al A L.length):=by rw[ad];exact bC.o
 have bS:Hid (∀(j:Nat) (g:j<f.length),f[j].2.1.length<=5000):=fun j g=>by
  have E:=B.o.few j (by rw[bK];exact g);rwa [gq]at E
 obtain⟨-,-,-,cb,-⟩:=ak.o.cell;have f3:=ak.o.frozen 3;have O:Hid (jw (w4.setCell (ag Hb 3) (aM)) (fun k=>X k\/w.heap.size<=k/\k<w4.heap.size) Hb Cb mb V (aM) av lv f [] al fA A L.length aL):=(ak.o.TU (tv':=aM) (T':=[]) (bT (aJ _ _)|>fun h=>⟨h.os,h.tape,h.output,h.size,fun k hk _=>rfl⟩) (cZ _ _ _ _) (by simp[Value.ownBlock])).more fun k hk=>hk.elim (fun h=>h) fun h=>by cases h
 have a1:Hid (aB (fun k=>k=Hb\/k=Cb) w (w4.setCell (ag Hb 3) (aM))):=(bF.o.mono fun k h=>.inr h).set (a:=(ag Hb 3)) _ (.inl (.inl rfl));have aP:=af (zu O.o.gp aa);obtain⟨-,-,cc,-⟩:=O.o.cell;have bt:(w4.setCell (ag Hb 3) (aM)).heap.size=w4.heap.size:=ax;have bN:=af bt;clear aC aH ad bi ab bn bx a6 aS bt
 go_wp2_with fail
 generalize w4.setCell (ag Hb 3) (aM)=cA at*;refine aP.o.mono ?_;rintro e w6 ⟨rfl,ac⟩;have bB:=af (O.o.below ac);have b5:=ac.size;have a2:Hid (aB (fun k=>k=Hb\/k=Cb) w w6):=a1.o.below ac;have bO:Hid (w4.heap.size<=w6.heap.size):=by have:=bN.o;show _<=_;omega
 clear aP ac O a1 cb f3 cc b5
 go_wp2_with fail
 go_loopw [21] (fun aI wr=>∃(i:Nat) (s:Nat->Prop) (u:Nat->Nat->Prop) (t:Value) (r:List (Option Nat)) (n:List Int),aI=.int .i64 i/\i<=f.length/\Hid (jw wr s Hb Cb mb V t av lv f r al n A L.length aL)/\Hid (ow wr u s ((f.map (·.2.1)).take i) r al)/\Hid (∀(j:Nat) (g:j<f.length),j<i->∀c∈f[j].2.1,n[c.2.toNat]? =some (j:Int))/\Hid (n.length=al.length)/\Hid (r.length<=i)/\
  Hid (∀k,s k->k<wr.heap.size/\(X k\/w.heap.size<=k))/\Hid (∀j k,u j k->w.heap.size<=k)/\Hid (t.ownBlock=none\/∃b,t.ownBlock=some b/\w.heap.size<=b)/\Hid (aB (fun k=>k=Hb\/k=Cb\/lv.ownBlock=some k) w wr)) (fun aI _=>f.length-(intOf aI).toNat)
 case atStart=>exact⟨0,_,fun _ _=>False,_,[],fA,rfl,aT _,bB,⟨fun j g=>absurd g ax,fun _ _ h=>h.elim,fun _ _ _ h=>h.elim,fun _ _ h=>h.elim⟩,fun j _ g=>absurd g (kz _),bH,aT _,fun k hk=>by
   have E:=bO.o;rcases hk with hk|hk
   .have:=bR.o k hk;have:=a2.o.size;exact⟨aa,.inl hk⟩
   .exact⟨aa,.inr hk.1⟩,fun _ _ h=>h.elim,.inl rfl,a2.o.mono fun k h=>h.imp id .inl⟩
 case round=>
  obtain⟨i,s,u,t,r,n,rfl,hi,y,a4,aq,C,R,aw,am,ar,an⟩:=hrel;have cy:=an.o.size;by_cases G:i<f.length
  .have b9:=bS.o i G;have aN:=af (zw y.o.gp y.o.rows aa i G aa);have bm:(f.map (·.2.1))[i]? =some f[i].2.1:=by rw[ib,cK G];rfl
   have a3:Hid ((f.map (·.2.1)).take (i+1)=(f.map (·.2.1)).take i++[f[i].2.1]):=by
    show _=_;rw[List.take_add_one,bm];rfl
   have az:=B.o.bk i (by rw[bK];exact G);rw[gq]at az;have P:=af az;have aX:Hid (∀(j:Nat) (g:j<f.length),j=i->f[j].2.1=f[i].2.1):=fun j g e=>by subst e;rfl
   have bD:Hid (∀(j:Nat) (g:j<f.length),j≠i->∀c∈f[j].2.1,∀d∈f[i].2.1,d.2.toNat≠c.2.toNat):=fun j g aE c l d hd=>B.o.apart (i:=i) (j:=j) (by rw[bK];exact G) (by rw[bK];exact g) (fun e=>aE e.symm) (by rw[gq];exact hd) (by rw[gq];exact l);generalize f[i].2.1=lk at*;obtain⟨-,-,U,-⟩:=y.o.cell;have cn:(i:Int)<(f.length:Int):=aa;clear bm az;obtain⟨bz,bX⟩:∃bz:World,bz=wr:=⟨_,rfl⟩;subst bX
   go_wp2_with fail
   refine aN.o.mono ?_;rintro e w3 ⟨cz,rfl,bq,F⟩;have b4:=F.size;obtain⟨bU,bV,bW,-,-,bs⟩:=M3.aD bq;subst bW;have z:=af (y.o.below F);have Q:=af (a4.o.kept (S:=fun _=>False) ((aB.refl _ _).below F) fun _ _ _ h=>h);have a0:Hid (aB (fun k=>k=Hb\/k=Cb\/lv.ownBlock=some k) w w3):=an.o.below F;have D:Hid (∀k,s k->k<w3.heap.size/\(X k\/w.heap.size<=k)):=fun k hk=>⟨cO (aw.o k hk).1 b4,(aw.o k hk).2⟩;have bM:=af bs;clear bq F bs aN U;by_cases bl:lk=[]
   .subst bl;have ca:¬(0:Int)<((([]:List fB).length:Nat):Int):=ax;go_wp2;go_roundw
    case rel=>exact⟨i+1,s,u,t,r,n,by go_num,aa,z,by rw[a3.o];exact Q.o.skip,fun j g aE c l=>by
      by_cases e:j=i
      .rw[aX.o j g e]at l;cases l
      .exact aq.o j g aa c l,C,Nat.le_succ_of_le R.o,D,am,ar,a0⟩
    case measure=>exact bZ
   .have cr:0<lk.length:=Bv.2 bl;have ca:(0:Int)<((lk.length:Nat):Int):=aa;have aU:=af (Mo z.o bU bV lk i bM.o aa (by have:=R.o;omega) b9 P.o.2.2 C.o aa P.o.1 P.o.2.1 (fun k hk=>(D.o k hk).1))
    go_wp2_with fail
    refine aU.o.mono ?_;rintro e cB ⟨rfl,cd,tb,m,Fn,be,a8,a9,I,bv,bb⟩;have bL:=af be;have bE:=af a8;have aZ:=af a9;have bJ:=af I;have bP:=af bv;have ao:=af bb;clear be a8 a9 I bv bb aU;go_wp2;go_roundw
    case rel=>
     have cx:=R.o;obtain⟨I,cq⟩:=bJ.o;have b1:∀j k,u j k->¬(k=Hb\/t.ownBlock=some k\/lv.ownBlock=some k):=fun j k hk h9=>by
      refine Q.o.off j k hk ?_;rcases h9 with rfl|h9|h9
      .exact z.o.jF.1
      .exact z.o.jF.2.2.2.2.1 k h9
      .exact z.o.jF.2.2.2.2.2.2 k h9
     have b7:=(Q.o.kept ao.o b1).step (X':=fun k=>s k\/w3.heap.size<=k/\k<m) (i:=i) (m0:=w3.heap.size) (m:=m) (CB':=(f.map (·.2.1)).take i++[lk]) (T':=AV r i tb) bE.o (by unfold uk;rw[bK];exact fq _ _) (fun j g bo=>by
       have bj:((f.map (·.2.1)).take i).length=i:=by rw[dO,bK];omega
       by_cases e:j=i
       .subst e;left;refine⟨rfl,?_⟩;rw[uZ aa];simp[bj]
       .right;have co:j<i:=by rw[bQ,bj]at g;simp at g;omega
        exact⟨e,aa,rJ aa,fun x J=>Mq e J,rfl⟩) IZ (fun k hk=>hk) aZ.o (fun j k hk=>Q.o.lt j k hk) (fun k hk=>cO (D.o k hk).1 I) I
     have b6:=ao.o.size;refine⟨i+1,_,_,cd,AV r i tb,iJ n lk i,by go_num,aa,bL,by rw[a3.o];exact b7,fun j g aE c l=>?_,by rw[nO];exact C.o,I1 aa aa,fun k hk=>?_,fun j k hk=>?_,?_,aB.strip ((a0.o.mono fun k h=>.inl h).trans (ao.o.mono fun k h=>?_))⟩
     .by_cases e:j=i
      .rw[aX.o j g e]at l;rw[e];obtain⟨q,cs,ct⟩:=P.o.2.2 c l;exact zI lk n i c l (by have:=C.o;omega)
      .rw[rA lk n i _ (fun x J=>bD.o j g e c l x J)];exact aq.o j g aa c l
     .rcases hk with hk|hk
      .exact⟨cO (D.o k hk).1 b6,(D.o k hk).2⟩
      .exact⟨aa,.inr aa⟩
     .rcases hk with⟨-,hk⟩|⟨-,hk⟩
      .have:=aZ.o k hk;omega
      .exact am.o j k hk
     .rcases bP.o with h9|⟨b,h9,b0⟩
      .rw[h9];exact ar.o
      .exact .inr ⟨b,h9,aa⟩
     .rcases h with h|h|h
      .exact .inl (.inl h)
      .rcases ar.o with h9|⟨b,h9,b0⟩
       .rw[h9]at h;cases h
       .rw[h9]at h;injection h with h;exact .inr aa
      .exact .inl (.inr (.inr h))
    case measure=>exact bZ
  .obtain rfl:i=f.length:=aa;have cm:¬(f.length:Int)<(f.length:Int):=aa;rw[ap.o]at B y a5;have cp:(L.length:Int)=(A.length:Int):=by rw[ap.o]
   go_wp2;go_ret;have bu:=a4.o;rw[jc ax]at bu;refine⟨rfl,s,u,V,t,f,r,n,by rw[<-a5.o];exact y.o,by rw[bI.o,ap.o,bG.o],bu,B.o,⟨C.o,fun j g c l=>?_⟩,by have:=R.o;omega,aw.o,am.o,an.o.mono fun k h=>?_⟩
   .rw[gq]at l;exact aq.o j (aQ g) (aQ g) c l
   .rcases h with h|h|h
    .exact .inl h
    .exact .inr (.inl h)
    .exact .inr (.inr (.inr (.inr h)))
end
end
section
open Go.RowKit Go.Maps
def pot (L:Nat):Nat->List Nat->Nat
 |_,[]=>0
 |i,s::l=>s*(L-1-i)+pot L (i+1) l
theorem Bi (L:Nat):∀(i:Nat) (a b:List Nat),pot L i (a++b)=pot L i a+pot L (i+a.length) b
 |i,[],b=>by simp[pot]
 |i,s::a,b=>by
  simp only[nk,pot,Bi L (i+1) a b,eH];rw[show i+1+a.length=i+(a.length+1) by omega];omega
theorem I4 (L:Nat):∀(i k:Nat),pot L i (List.replicate k 0)=0
 |_,0=>rfl
 |i,k+1=>by simp[List.replicate_succ,pot,I4 L (i+1) k]
theorem QR (L:Nat):∀(i:Nat) (l:List Nat),pot L i l<=l.sum*(L-1)
 |_,[]=>by simp[pot]
 |i,s::l=>by
  have a:=QR L (i+1) l;have b:=Nat.mul_le_mul_left s (show L-1-i<=L-1 by omega);simp only[pot,List.sum_cons,nE];omega
theorem I5 (L:Nat) (S:List Nat):∀(i:Nat),i<=L->i<=S.length->(∀(j:Nat) (h:j<S.length),j<i->S[j]=2^j)->2^i*(L-i)<=L+pot L 0 (S.take i)
 |0,_,_,_=>ax
 |i+1,hi,g,h=>by
  have ih:=I5 L S i aa aa fun j b f=>h j b aa;have a:i<S.length:=aa;rw[gT a,Bi,dO,show min i S.length=i by omega,h i a aa];simp only[pot,kD,df];rw[qH];have d:2^i*(L-i)=2^i*(L-1-i)+2^i:=by
   rw[show L-i=(L-1-i)+1 by omega,jB,ji]
  have e:2^i*2*(L-(i+1))=2^i*(L-1-i)+2^i*(L-1-i):=by
   rw[show L-(i+1)=L-1-i by omega,Nat.mul_assoc,Nat.two_mul,jB]
  generalize 2^i*(L-1-i)=Q at*;generalize 2^i*(L-i)=R at*;generalize 2^i*2*(L-(i+1))=c at*;generalize 2^i=P at*;omega
def Mr (CB:List (List fB)) (a:Nat) (wk:Int) (m:Nat):Prop:=0<=wk/\∀L,m<2^L->wk+(pot L 0 (CB.map List.length):Nat)+(L*(CB.flatten.length-a):Nat)<=(L*m:Nat)
theorem Tk (CB:List (List fB)):CB.flatten.length=(CB.map List.length).sum:=by rw[Fx]
theorem Tm:Mr [] 0 0 0:=⟨wC _,fun L _=>by simp[pot]⟩
theorem Mr.bound {CB:List (List fB)} {a m:Nat} {wk:Int} (h:Mr CB a wk m) (b:m<=5000):wk<=65000:=by
 have:=h.2 13 aa;omega
theorem Mr.add {CB:List (List fB)} {a m:Nat} {wk:Int} (h:Mr CB a wk m) (z:a<=CB.flatten.length) (y:CB.flatten.length<=m) (i:Nat) (hi:i<=CB.length) (s:∀(j:Nat) (b:j<CB.length),CB[j].length=0\/CB[j].length=2^j) (r:∀j (b:j<CB.length),j<i->CB[j]≠[]) (f:∀h:i<CB.length,CB[i]=[]) (x:fB):
  Mr (kT CB i x) (a+1) (wk+((fw CB i).length+1:Nat)) (m+1):=by
 have g:∀j (b:j<CB.length),j<i->CB[j].length=2^j:=fun j b d=>by
  rcases s j b with h1|h1
  .exact absurd (iC h1) (r j b d)
  .exact h1
 have e:=zH CB i hi g;have hP:=(uN CB i x f).length_eq;rw[eH]at hP;refine⟨by have:=h.1;omega,fun L w=>?_⟩;have h1:=h.2 L aa;have v:(fw CB i).length<=CB.flatten.length:=by
  rw[(jW CB i).length_eq];have c:(CB.take i).flatten++(CB.drop i).flatten=CB.flatten:=by rw[<-lN,jd]
  have:=congrArg List.length c;rw[bQ]at this;omega
 have A:i<L:=by
  rcases Nat.lt_or_ge i L with h9|h9
  .exact h9
  .have:=Bt (n:=2) ai h9;omega
 have u:=I5 L (CB.map List.length) i aa (aQ hi) fun j b d=>by rw[gq];exact g j (aQ b) d
 have l:(kT CB i x).map List.length=List.replicate i 0++2^i::(CB.map List.length).drop (i+1):=by
  unfold kT;rw[bJ,FB,mG,y7];simp[e]
 have o:pot L 0 (CB.map List.length)=pot L 0 ((CB.map List.length).take i)+pot L (i+1) ((CB.map List.length).drop (i+1)):=by
  have p:CB.map List.length=(CB.map List.length).take i++(CB.map List.length).drop i:=(jd _ _).symm;have q:((CB.map List.length).take i).length=i:=by rw[dO,bK];omega
  conv=>lhs;rw[p,Bi,q,kD]
  by_cases k:i<CB.length
  .rw[ky (aQ k)];simp[pot,f k]
  .rw[o8 aH,o8 aH];rfl
 have c:pot L 0 ((kT CB i x).map List.length)=2^i*(L-1-i)+pot L (i+1) ((CB.map List.length).drop (i+1)):=by
  rw[l,Bi,I4,iM];simp[pot]
 have t:2^i*(L-i)=2^i*(L-1-i)+2^i:=by
  rw[show L-i=(L-1-i)+1 by omega,jB,ji]
 rw[c,e,hP,show CB.flatten.length+1-(a+1)=CB.flatten.length-a by omega,jB];rw[o]at h1;omega
theorem Mr.drop {CB:List (List fB)} {a m:Nat} {wk:Int} (h:Mr CB (a+1) wk m) (d:a+1<=CB.flatten.length):Mr CB a wk (m+1):=by
 refine⟨h.1,fun L c=>?_⟩;have b:=h.2 L aa;rw[show CB.flatten.length-a=(CB.flatten.length-(a+1))+1 by omega,jB,jB];omega
theorem Mr.anew {CB CB':List (List fB)} {a m:Nat} {wk:Int} (h:Mr CB a wk m) (j:2*a<=CB.flatten.length) (c:CB'.flatten.length=a):Mr CB' a (wk+a) m:=by
 refine⟨by have:=h.1;omega,fun L b=>?_⟩;have g:=h.2 L b;have d:=QR L 0 (CB'.map List.length);rw[<-Tk,c]at d;rw[c,jh,Nat.mul_zero];have i:L*a<=L*(CB.flatten.length-a):=Nat.mul_le_mul_left L aa;rcases nW L with h0|h0
 .subst h0;simp at b;subst b;simp at*;have:=h.1;have f:=h.2 1 ai;simp at f;omega
 .have e:a*(L-1)+a=L*a:=by
   rw[ze L a]
   conv=>rhs;rw[show L=(L-1)+1 by omega,jB,ji]
  omega
end
section
open Go.RowKit Go.Sort Go.Shelf Go.Lib Go.Maps
attribute [local irreducible] wpQuiet
attribute [local go_sem] Oper.dZ
def jM (w:World) (Hb:Nat) (G:Nat->Prop) (m:Nat) (A:List fB) (N wk:Int):Prop:=
 ∃(X:Nat->Prop) (F:Nat->Nat->Prop) (Cb mb:Nat) (cv tv av lv:Value) (ch:List Bd) (T:List (Option Nat)) (al:List Bool) (fA:List Int),jw w X Hb Cb mb cv tv av lv ch T al fA A N wk/\oP (ch.map (·.2.1)) al A N/\Vx (ch.map (·.2.1)) al fA/\ow w F X (ch.map (·.2.1)) T al/\
  N<=2*A.length/\T.length<=14/\(∀k,X k->k<w.heap.size/\G k)/\(∀i k,F i k->G k)/\al.length<=m/\Mr (ch.map (·.2.1)) A.length wk m
theorem Oj:eU 139:=bP func139 aL rfl
theorem Ol:eU 53:=bP func53 aL rfl
section
variable {w w':World} {X S G:Nat->Prop} {F:Nat->Nat->Prop} {Hb Cb mb m:Nat} {cv tv av lv:Value} {ch:List Bd} {T:List (Option Nat)} {al:List Bool} {fA:List Int} {A A':List fB} {N wk:Int}
theorem jw.QS (h:jw w X Hb Cb mb cv tv av lv ch T al fA A N wk) (p:w.grownBy w' (some mb)) (q:l6 w' mb A'):jw w' X Hb Cb mb cv tv av lv ch T al fA A' N wk:=by
 have K:aB (fun k=>k=mb) w w':=(aB.refl (fun k=>k=mb) w).grown p fun k e=>.inl (by injection e with e;exact e.symm);have c:∀{b:Nat} {cs:Array Value} {g:TypeId} {fr:Nat×Nat},w.heap[b]? =some (Obj.cells cs g fr)->w'.heap[b]? =w.heap[b]? :=fun{b cs g fr} a=>K.block b (bg.1 a).1 fun l=>by
  obtain⟨D,⟨s,r,m,-⟩,-⟩:=h.map;rw[l,m]at a;cases a
 have d:∀{e:TypeId} {sz n:Nat} {v:Value} {xs:List Value},w.ownsRow 0 e sz v n xs->w'.ownsRow 0 e sz v n xs:=fun{e sz n v xs} f=>bn f fun t j=>by
  have⟨i,o⟩:=dM f j;exact c o
 exact⟨(c h.blk).trans h.blk,⟨aT _,h.gp.ds,(c h.gp.blk).trans h.gp.blk,d h.gp.row⟩,h.rows.kept fun b i fr a=>c a,d h.jX,d h.dP,d h.nR,q,h.jF,h.Ry⟩
theorem jw.Wi (h:jw w X Hb Cb mb cv tv av lv ch T al fA A N wk) {CB:List (List fB)} (ht:ow w F X CB T al) (j k:Nat) (a:F j k):¬(k=Hb\/k=Cb\/k=mb\/cv.ownBlock=some k\/tv.ownBlock=some k\/av.ownBlock=some k\/lv.ownBlock=some k):=fun h9=>by
 refine ht.off j k a ?_;rcases h9 with rfl|rfl|rfl|h9|h9|h9|h9
 .exact h.jF.1
 .exact h.jF.2.1
 .exact h.jF.2.2.1
 .exact h.jF.2.2.2.1 k h9
 .exact h.jF.2.2.2.2.1 k h9
 .exact h.jF.2.2.2.2.2.1 k h9
 .exact h.jF.2.2.2.2.2.2 k h9
def Xz (a:Nat) (N N':Int) (n:Nat):Prop:=(2*(a:Int)<N/\n=a/\N'=a)\/(N<=2*(a:Int)/\n=0/\N'=N)
def Wj (w:World) (Hb:Nat) (G:Nat->Prop) (m:Nat) (A:List fB) (N wk:Int) (p:Pt) (e:Ending) (w':World):Prop:=
 ∃(n:Nat) (N':Int),e=.returned (.tuple #[ae n,.bool true])/\jM w' Hb (fun k=>G k\/w.heap.size<=k) (m+1) (A.filter fun d=>decide (d.1≠p)) N' (wk+n)/\aB G w w'/\Xz (A.filter fun d=>decide (d.1≠p)).length N N' n
theorem Tn (h:jM w Hb G m A N wk) (da:m<5000) (c:fB) (J:c∈A) (x y d:Int) (v:c.1=(x,y,d)):
  aK 59 #[aj Hb,jb x y d] w (Wj w Hb G m A N wk (x,y,d)):=by
 have⟨X,F,Cb,mb,cv,tv,av,lv,ch,T,al,fA,aZ,E,bs,ht,cs,cc,cj,hF,cZ,cy⟩:=h;have c9:=E.levels;have aT:=(bI.1 (E.live.mem_iff.1 J)).1;have⟨k,aU,c8⟩:=E.num aT;obtain⟨cN,-⟩:∃q,q=(c.1,c.2):=⟨_,rfl⟩;have a1:GU (x,y,d):=by rw[<-v];exact E.good c aT
 have aW:(A.map (·.1)).Nodup:=wN E.keys;have⟨bl,bp,bn⟩:=E.dead cs J;rw[v,aU,iD]at bl bp;rw[v]at bn;have⟨l,cp,ax⟩:=qz.1 aT;obtain⟨i,hi,rfl⟩:=iN cp;have bo:=bs.lvl i hi c ax;rw[aU,iD]at bo;have⟨tb,n0,cf,ct,b6⟩:=ht.tr i hi (List.ne_nil_of_mem ax);have cn:(x,y,d)∈uk al (ch.map (·.2.1))[i]:=dD.2 ⟨c,bI.2 ⟨ax,(bI.1 (E.live.mem_iff.1 J)).2⟩,v⟩;have bS:Hid (∀W,Below w.heap.size w W->(Instr.lookup 188 (.map (some mb)) (jb x y d) true).run prog W=.ok (.tuple #[ae k,.bool true]) W):=fun W f=>by
  rcases(aZ.below f).map.look a1 aW with⟨aM,V,I,R⟩|⟨I,-⟩
  .have S:A.Pairwise fun p q=>p.1≠q.1:=dF.1 aW;have aN:aM=c:=by
    rcases eZ S V J with h1|h1|h1
    .exact h1
    .exact absurd (I.trans v.symm) h1
    .exact absurd (v.trans I.symm) h1
   rw[aN,aU]at R;exact R
  .exact absurd (dD.2 ⟨c,J,v⟩) I
 have bN:Hid ((x,y,d)∈A.map (·.1)):=dD.2 ⟨c,J,v⟩;have a8:=af aW;have r:=af aZ;have M:=af ht;have t:=af E;have aE:=af bs;have n:=af cj;have a6:=af hF;have ao:=af cy;have a5:=af bl;have an:=af bn;have bF:Hid (c∈(ch.map (·.2.1))[i]):=ax;have a4:=af v;have bE:=af J;have a7:=af bp;have bH:=af cn;have bD:=af b6;have aD:=af cf;have bM:=af bo;have a2:Below w.heap.size w (w.alloc (.cells #[ae x,ae y,ak d] 29)):=(aJ _ _).alloc (aA _) _;have Q:=af (bY w (.cells #[ae x,ae y,ak d] 29));have aC:=af a2;have ad:=af (aZ.below a2);have bz:=af (yx ad.o);go_enter func59,ntmps59
 go_wp2_with (go_at_call 134;refine bz.o.mono ?_;rintro e w1 ⟨rfl,bi⟩;have bZ:=bi.symm;clear bi;subst bZ)
 generalize w.alloc (.cells #[ae x,ae y,ak d] 29)=w1 at*;have be:w1.cell? (ag w.heap.size 0)=some (ae x):=ek Q.o;have cC:=ah be;have I:w1.cell? (ag w.heap.size 1)=some (ae y):=ek Q.o;have cD:=ah I;have R:w1.cell? (ag w.heap.size 2)=some (ak d):=ek Q.o;have cB:=ah R;have bj:=ah (w:=w1) ad.o.cell.2.2.2.2.2.2;have lk:∀p:aR w1,(Instr.lookup 188 (.map (some mb)) (jb x y d) true).run prog p.W=.ok (.tuple #[ae k,.bool true]) p.W:=fun p=>bS.o p.W (aC.o.trans (p.h.mono aC.o.size));refine lq [(0,false),(1,false),(2,false),(3,true),(4,true),(5,true),(6,false),(7,false),(8,false),(9,false),(10,false)] 0 ?_;refine jo aL ?_
 go_wp2_with fail
 have cC:=ah (w:=w1.drew) be;have cD:=ah (w:=w1.drew) I;have cB:=ah (w:=w1.drew) R;have bj:=ah (w:=w1.drew) ad.o.cell.2.2.2.2.2.2;refine au (fun W=>∃p:aR w1.drew,W=p.W) [5] [(0,false),(1,false),(2,false),(3,true),(4,true)] ⟨⟨_,(aJ _ _).drew⟩,rfl⟩ 1 ?_;refine aF [5] ?_;have a3:=af ((ad.o.below (aJ _ _).drew).below (aJ _ _).drew);have⟨D,b7,b8⟩:=a3.o.map;refine wpList_delete_own _ rfl _ _ _ _ rfl _ (Keyed.of_law Ia) underlying188 (plainElem prog 3) mb A.length D rfl b7 (jb x y d) (kp (x,y,d)) rfl (zA a1) ?_;intro ab cx br;have b3:(x,y,d)∈A.map (·.1):=bN.o;have ca:=af (l6.fit cx (b8.del a1 a8.o b3));have P:=af (a3.o.QS br.grown ca.o);have bm:=br.grown;have bJ:Hid (aB (fun k=>k=mb) w ab):=(((aB.refl (fun k=>k=mb) w).below aC.o).drew.drew).grown bm fun k e=>.inl (by injection e with e;exact e.symm);have bT:Hid (ab.heap[w.heap.size]? =some (Obj.cells #[ae x,ae y,ak d] 29 (0,0))):=(bm.block _ (bg.1 Q.o).1 (fun e=>by injection e with e;have:=r.o.map.lt;omega)).trans Q.o;obtain⟨u,cX,bX,-,c2,-,-⟩:=aS P.o.dP aa;subst bX;have cI:=P.o.dP.cellAt k aa;rw[cK (by rw[bK];omega)]at cI;have cP:=P.o.dP.frozenAt k;obtain⟨-,-,-,-,cM,-,-⟩:=P.o.cell;have c7:(k:Int)<(al.length:Int):=aa;have az:=af (P.o.Xm k false);have bL:Hid (aB (fun k=>k=mb\/k=u) w (ab.setCell (ag u k) (.bool false))):=(bJ.o.mono fun k h=>.inl h).set _ (.inl (.inr rfl));have bc:Hid ((ab.setCell (ag u k) (.bool false)).heap[w.heap.size]? =some (Obj.cells #[ae x,ae y,ak d] 29 (0,0))):=(aG (a:=(ag u k)) (fun e:u=w.heap.size=>by have:=(r.o.dP.lt u rfl).2;omega)).trans bT.o
 go_wp2_with fail
 generalize ab.setCell (ag u k) (.bool false)=w6 at*;have c1:(A.filter fun q=>decide (q.1≠(x,y,d))).length<=A.length:=fq _ _;have cY:A.length<=5000:=by have:=t.o.Kn.1;have:=t.o.levels.2.1;omega
 obtain⟨-,-,bU,-,-,-,bV⟩:=az.o.cell;have b0:=ah bU;have bj:=ah bV;have bx:=af (O8 (az.o.below (aJ _ _).drew).gp);refine au (fun W=>∃p:aR w6,W=p.W) [9,10,11] [(0,false),(1,false),(2,false),(3,true),(5,false),(6,false),(7,false),(8,true)] ⟨⟨_,(aJ _ _).drew⟩,rfl⟩ 4 ?_;refine ay 4 rfl fun K aO=>?_;refine aY Oj rfl _ _ rfl (vals:=#[aj Cb]) rfl bx.o ?_;rintro e g ⟨rfl,cl⟩;have ac:Below w6.heap.size w6 g:=(aJ _ _).drew.trans cl;refine⟨_,rfl,?_⟩;refine aO _ _ (fun _ _=>⟨⟨_,ac⟩,rfl⟩) ?_;have z:=af (az.o.below ac);have H:Hid (aB (fun k=>k=mb\/k=u) w g):=bL.o.below ac;have aI:Hid (g.heap[w.heap.size]? =some (Obj.cells #[ae x,ae y,ak d] 29 (0,0))):=(aP ac bc.o).trans bc.o;have de:=z.o.map.size;generalize b4:(A.filter fun q=>decide (q.1≠(x,y,d)))=s at*;have am:=af b4;have c0:(-9223372036854775808:Int)<=2*(s.length:Int)/\2*(s.length:Int)<=9223372036854775807:=aa;have dd:IntKind.i64.wrap (2*(s.length:Int))=2*(s.length:Int):=BZ _ aa;refine aF [9,10,11] ?_;by_cases cr:2*(s.length:Int)<N
 .have aw:∀b,X b->b<g.heap.size:=fun b f=>cO (n.o b f).1 H.o.size;have bv:=af (Tj z.o a5.o (by have:=aE.o.Km;simpa using this) aw)
  go_wp2_with fail
  refine bv.o.mono ?_;rintro e O ⟨rfl,X',bA,bW,tv',bd,T',lev',cb,-,ce,ci,cg,cd,ck,b9,ar⟩;have a9:=af cb;have bQ:=af ce;have ba:=af ci;have bR:=af cg;have bb:=af ck;have bG:=af b9;have L:=af ar;have bP:=af cd;go_wp2;go_ret2;have Y:=ao.o;rw[<-an.o]at Y;have db:=t.o.stored;have dc:=ba.o.stored;have aV:s.length+1<=(ch.map (·.2.1)).flatten.length:=by have:=t.o.Kn.1;have:=an.o;omega
  have aX:=(Y.drop aV).anew (CB':=bd.map (·.2.1)) aa aa;have cz:wrap64 (wk+(s.length:Int))=wk+(s.length:Int):=IntWalk.wrap64_in _ (by have h1:=ao.o.bound aa;have B:=ao.o.1;omega);rw[cz]at a9;have bq:=H.o.size;have a0:=L.o.size;refine⟨s.length,s.length,rfl,?_,?_,by rw[am.o];exact .inl ⟨cr,rfl,rfl⟩⟩
  .rw[am.o];exact⟨X',bA,Cb,mb,bW,tv',_,lv,bd,T',_,lev',a9.o,ba.o,bR.o,bQ.o,aa,bP.o,fun b f=>⟨(bb.o b f).1,(bb.o b f).2.imp (fun h=>(n.o b h).2) fun h=>aa⟩,fun j b f=>.inr (by have:=bG.o j b f;omega),aH,aX⟩
  .refine aB.trans (H.o.mono ?_) (L.o.mono ?_)
   .rintro b (rfl|rfl)
    .exact(n.o _ r.o.jF.2.2.1).2
    .exact(n.o _ (r.o.jF.2.2.2.2.2.1 _ rfl)).2
   .rintro b (rfl|rfl|h|h|h)
    .exact(n.o _ r.o.jF.1).2
    .exact(n.o _ r.o.jF.2.1).2
    .exact(n.o _ (r.o.jF.2.2.2.1 _ h)).2
    .exact(n.o _ (r.o.jF.2.2.2.2.1 _ h)).2
    .exact(n.o _ (r.o.jF.2.2.2.2.2.2 _ h)).2
 .go_wp2_with fail
  have cq:=aE.o.Km;have c5:=(fI.1 aD.o).1;obtain⟨gl,lc,bf,-,c3,-,-⟩:=aS z.o.nR aa;obtain⟨b1,tc,bh,-,c4,-,-⟩:=aS z.o.jX aa;have cJ:g.cell? (ag gl k)=some (ae i):=by
   have h1:=z.o.nR;rw[bf]at h1;have B:=h1.cellAt k aa;rw[ib,bM.o]at B;exact B
  have cL:g.cell? (ag b1 i)=some (aj tb):=by
   have h1:=z.o.jX;rw[bh]at h1;have B:=h1.cellAt i aa;rw[ib,aD.o]at B;exact B
  obtain⟨-,d1,-,d3,-,d5,-⟩:=z.o.cell;rw[bh]at d3;rw[bf]at d5;have c6:(i:Int)<(T.length:Int):=aa;have cE:g.cell? (ag w.heap.size 0)=some (ae x):=ek aI.o;have cF:g.cell? (ag w.heap.size 1)=some (ae y):=ek aI.o;have cG:g.cell? (ag w.heap.size 2)=some (ak d):=ek aI.o;have cQ:=ah cE;have cR:=ah cF;have b0:=ah cG;have cS:=ah d1;have cT:=ah d3;have cU:=ah d5;have cV:=ah cJ;have cW:=ah cL;have bk:∀j b,F j b->¬(b=mb\/b=u):=fun j b f b2=>r.o.Wi M.o j b f (b2.elim (fun h=>.inr (.inr (.inl h))) fun h=>.inr (.inr (.inr (.inr (.inr (.inl (by rw[h];rfl)))))));have bB:=af ((bD.o.kept H.o (bk i)).below (aJ _ _).drew);have aq:=af ((M.o.kept H.o bk));have bw:=af (V7 bB.o (x,y,d) bH.o);have bq:=H.o.size;refine au (fun W=>∃p:aR g,W=p.W) [18] [(0,false),(1,false),(2,false),(3,true),(4,false),(5,false),(6,false),(7,true),(8,false),(9,false),(10,false),(11,true),(12,false),(13,false),(14,true),(15,false),(16,true),(17,true)] ⟨⟨_,(aJ _ _).drew⟩,rfl⟩ 1 ?_;refine ay 18 rfl fun K aO=>?_;refine Dx Ol rfl _ _ _ rfl rfl (vals:=#[aj tb,jb x y d]) rfl bw.o ?_;rintro e O ⟨rfl,b5,ar⟩;refine⟨_,rfl,?_⟩;refine aO _ _ (fun _ h=>absurd ai h) ?_;have bC:=af b5;have L:Hid (aB (F i) g O):=((aB.refl _ g).drew).trans ar;have a0:=ar.size;refine jo aL ?_
  go_wp2_with fail
  go_ret2;have Y:=ao.o;rw[<-an.o]at Y;have aV:s.length+1<=(ch.map (·.2.1)).flatten.length:=by have:=t.o.Kn.1;have:=an.o;omega
  have aX:=Y.drop aV;have aw:∀b,X b->b<g.heap.size:=fun b f=>cO (n.o b f).1 bq;have cw:∀(j:Nat) (C:j<(ch.map (·.2.1)).length),j≠i->uk (al.set k false) (ch.map (·.2.1))[j]=uk al (ch.map (·.2.1))[j]:=fun j C co=>by
   rw[a7.o _ fun q Z=>t.o.inl C Z];refine kV.2 fun q Z=>?_;simp only[bO];rintro rfl;have⟨aM,V,e⟩:=dD.1 Z;have cm:=t.o.live.mem_iff.2 (bI.2 ⟨t.o.inl C (bI.1 V).1,(bI.1 V).2⟩);have S:A.Pairwise fun p q=>p.1≠q.1:=dF.1 a8.o;have aN:aM=c:=by
    rcases eZ S cm bE.o with h1|h1|h1
    .exact h1
    .exact absurd (e.trans a4.o.symm) h1
    .exact absurd (a4.o.trans e.symm) h1
   subst aN;exact t.o.apart C hi co (bI.1 V).1 bF.o rfl
  refine⟨0,N,rfl,?_,?_,by rw[am.o];exact .inr ⟨aa,rfl,rfl⟩⟩
  .rw[am.o,show wk+((0:Nat):Int)=wk by omega];refine⟨X,fun j b=>F j b\/(j=i/\g.heap.size<=b/\b<O.heap.size),Cb,mb,cv,tv,_,lv,ch,T,_,fA,z.o.kept L.o (fun b f h=>M.o.off i b h f),a5.o,⟨aQ cq,aE.o.lvl⟩,⟨fun j C cu=>?_,?_,?_,?_⟩,aa,cc,fun b f=>⟨cO (aw b f) a0,.inl (n.o b f).2⟩,?_,aH,aX⟩
   .by_cases e:j=i
    .subst e;refine⟨tb,n0,aD.o,ct,?_⟩;rw[a7.o _ fun q Z=>t.o.inl C Z];have:(fun b=>F j b\/(j=j/\g.heap.size<=b/\b<O.heap.size))=fun b=>F j b\/g.drew.heap.size<=b/\b<O.heap.size:=by funext b;simp
     rw[this];exact bC.o
    .obtain⟨cH,cA,h1,B,S⟩:=aq.o.tr j C cu;refine⟨cH,cA,h1,B,?_⟩;have:(fun b=>F j b\/(j=i/\g.heap.size<=b/\b<O.heap.size))=F j:=by funext b;simp[e]
     rw[this,cw j C e];exact S.kept L.o fun b f U=>e (M.o.ap j i b f U)
   .rintro j b (f|⟨-,f,-⟩) bt
    .exact M.o.off j b f bt
    .have:=aw b bt;omega
   .rintro j bu b (f|⟨rfl,f,-⟩) (U|⟨rfl,U,-⟩)
    .exact M.o.ap j bu b f U
    .have:=aq.o.lt j b f;omega
    .have:=aq.o.lt bu b U;omega
    .rfl
   .rintro j b (f|⟨-,-,f⟩)
    .exact cO (aq.o.lt j b f) a0
    .exact f
   .rintro j b (f|⟨-,f,-⟩)
    .exact .inl (a6.o j b f)
    .exact .inr aa
  .refine aB.trans (H.o.mono ?_) (L.o.mono fun b f=>a6.o i b f);rintro b (rfl|rfl)
   .exact(n.o _ r.o.jF.2.2.1).2
   .exact(n.o _ (r.o.jF.2.2.2.2.2.1 _ rfl)).2
end
theorem Om:eU 135:=bP func135 aL rfl
def wX (T:List (Option Nat)) (n:Nat):List (Option Nat):=List.replicate n none++T.drop n
theorem Dz {T:List (Option Nat)} {n:Nat} (h:n<=T.length):(wX T n).length=T.length:=by simp[wX];omega
theorem Oo {T:List (Option Nat)}:wX T 0=T:=by simp[wX]
theorem QT {T:List (Option Nat)} {n:Nat} (h:n<T.length):(wX T n).set n none=wX T (n+1):=by
 unfold wX;rw[su _ _ ax,iM,jh,ky h,pz,sJ,dW];rfl
theorem QU {T:List (Option Nat)} {n j:Nat} (h:n<=j):(wX T n)[j]? =T[j]? :=by
 unfold wX;rw[nV (aQ h),iM,FC,show n+(j-n)=j by omega]
section
variable {w w':World} {X S G:Nat->Prop} {F:Nat->Nat->Prop} {Hb Cb mb m:Nat} {cv tv av lv:Value} {ch:List Bd} {T:List (Option Nat)} {al al':List Bool} {fA lev':List Int} {A A':List fB} {N wk:Int}
theorem AJ {CB:List (List fB)} (h:oP CB al A N):CB.flatten.length<=al.length:=by
 have d:(CB.flatten.map fun c=>c.2.toNat).Nodup:=by
  refine dF.2 ((dF.1 h.UJ).imp_of_mem ?_);intro a b g j i f;exact i (by rw[h.one g j f])
 have e:=x8 d (n:=al.length) (fun k m=>by
  obtain⟨c,l,rfl⟩:=dD.1 m;have⟨q,o,p⟩:=h.num l;omega)
 rwa [bK]at e
theorem jw.Vg (h:jw w X Hb Cb mb cv tv av lv ch T al fA A N wk) {i j:Value} (K:aB (fun k=>k=Hb\/av.ownBlock=some k\/lv.ownBlock=some k) w w') (u:w'.heap[Hb]? =some (Obj.cells (wW Cb mb tv i j) rX (0,0))) (t:w'.ownsRow 0 4 1 i al'.length (al'.map Value.bool)) (y:w'.ownsRow 0 3 1 j lev'.length (lev'.map (Value.int .i64))):
  jw w' (fun k=>X k\/i.ownBlock=some k\/j.ownBlock=some k) Hb Cb mb cv tv i j ch T al' lev' A N wk:=by
 have p:∀{b:Nat} {cs:Array Value} {g:TypeId} {fr:Nat×Nat},w.heap[b]? =some (Obj.cells cs g fr)->g≠rX->g≠4->g≠3->w'.heap[b]? =w.heap[b]? :=fun{b cs g fr} c l m o=>K.block b (bg.1 c).1 fun h9=>by
  rcases h9 with rfl|h9|h9
  .exact eD c h.blk l rfl
  .obtain⟨f,d⟩:=dM h.dP h9;exact eD c d m rfl
  .obtain⟨f,d⟩:=dM h.nR h9;exact eD c d o rfl
 have r:∀{e:TypeId} {sz n:Nat} {v:Value} {xs:List Value},w.ownsRow 0 e sz v n xs->e≠rX->e≠4->e≠3->w'.ownsRow 0 e sz v n xs:=fun{e sz n v xs} q l m o=>bn q fun F s=>by
  have⟨f,d⟩:=dM q s;exact p d l m o
 refine⟨u,⟨aT _,h.gp.ds,(p h.gp.blk ai ai ai).trans h.gp.blk,r h.gp.row ai ai ai⟩,h.rows.kept fun b f fr c=>p c ai ai ai,r h.jX ai ai ai,t,y,h.map.same ?_,⟨.inl h.jF.1,.inl h.jF.2.1,.inl h.jF.2.2.1,fun k e=>.inl (h.jF.2.2.2.1 k e),fun k e=>.inl (h.jF.2.2.2.2.1 k e),fun k e=>.inr (.inl e),fun k e=>.inr (.inr e)⟩,fun x B z a e=>.inl (h.Ry x B z a e)⟩;refine K.block _ h.map.lt fun h9=>?_;obtain⟨D,⟨E,C,c,-⟩,-⟩:=h.map;rcases h9 with e|e|e
 .rw[e,h.blk]at c;cases c
 .obtain⟨f,d⟩:=dM h.dP e;rw[d]at c;cases c
 .obtain⟨f,d⟩:=dM h.nR e;rw[d]at c;cases c
def Ms (N:Int) (n:Nat):Prop:=∃i q:Nat,n=2^i/\N+1=((2^i+2^(i+1)*q:Nat):Int)
theorem Ms.pos {N:Int} {n:Nat} (h:Ms N n):1<=n:=by
 obtain⟨i,q,rfl,-⟩:=h;exact qK ai
theorem I6 {d:Nat}:∀{L:List Nat},(∀x∈L,d∣x)->d∣L.sum
 |[],_=>⟨0,rfl⟩
 |x::L,h=>by
  rw[List.sum_cons];exact Nat.dvd_add (h x ny) (I6 fun y a=>h y (lM _ a))
theorem oP.XO {CB:List (List fB)} (h:oP CB al A N) (i:Nat) (hi:i<=CB.length) (n:∀j (a:j<CB.length),j<i->CB[j]≠[]) (g:∀h:i<CB.length,CB[i]=[]):Ms N ((fw CB i).length+1):=by
 have f:=zH CB i hi fun j a k=>(h.size j a).elim (fun e=>absurd (iC e) (n j a k)) id;have b:(CB.take i).flatten++(CB.drop i).flatten=CB.flatten:=by rw[<-lN,jd]
 have c:=congrArg List.length b;rw[bQ,<-(jW CB i).length_eq]at c;have hd:2^(i+1)∣(CB.drop i).flatten.length:=by
  rw[Fx];refine I6 fun x p=>?_;obtain⟨l,m,rfl⟩:=dD.1 p;obtain⟨j,a,rfl⟩:=iN m;rw[mg]at a;rw[List.getElem_drop];by_cases r:j=0
  .subst r;have d:=g aa;simp only[df];rw[d];exact⟨0,rfl⟩
  .rcases h.size (i+j) aa with e|e
   .rw[e];exact⟨0,rfl⟩
   .rw[e];exact Nat.pow_dvd_pow 2 aa
 have⟨q,s⟩:=hd;have o:=h.stored;refine⟨i,q,f,?_⟩;rw[o];omega
def Wl (w:World) (Hb:Nat) (G:Nat->Prop) (m:Nat) (A:List fB) (N wk:Int) (p:Pt) (e:Ending) (w':World):Prop:=
 ∃(n:Nat) (q:Int),Ms N n/\e=.returned (.tuple #[.int .i64 n,.bool true])/\jM w' Hb (fun k=>G k\/w.heap.size<=k) (m+1) (A++[(p,q)]) (N+1) (wk+n)/\aB G w w'
theorem Vh (h:jM w Hb G m A N wk) (em:m<5000) (x y d:Int) (a7:GU (x,y,d)) (bG:d∉ids (A.map (·.1))):
  Calls prog 57 #[.pointer (some ⟨Hb,0,none⟩),jb x y d] w (Wl w Hb G m A N wk (x,y,d)):=by
 obtain⟨X,F,Cb,mb,cv,tv,av,lv,ch,T,al,fA,a6,ac,cW,ht,dU,dJ,cw,hF,dM,cR⟩:=h;have aC:=ac.levels;have cM:(A.map (·.1)).Nodup:=wN ac.keys;have bH:(x,y,d)∉A.map (·.1):=fun h=>bG (dD.2 ⟨_,h,rfl⟩);have ca:Hid (∀W,Below w.heap.size w W->(Instr.lookup 188 (.map (some mb)) (jb x y d) true).run prog W=.ok (.tuple #[.int .i64 0,.bool false]) W):=fun W ar=>by
  rcases(a6.below ar).map.look a7 cM with⟨dz,dR,ap,-⟩|⟨-,t⟩
  .exact absurd (dD.2 ⟨dz,dR,ap⟩) bH
  .exact t
 have u:=af a6;have bn:=af ht;have L:=af ac;have bo:=af cW;have ak:=af cw;have dg:=af hF;have b3:=af cR;have dn:=af bG;have dm:=af bH;have bb:Below w.heap.size w (w.alloc (.cells #[.int .i64 x,.int .i64 y,.int .u32 d] 29)):=(aJ _ _).alloc (aA _) _;have an:=af (bY w (.cells #[.int .i64 x,.int .i64 y,.int .u32 d] 29));have bf:=af bb;have bc:=af (a6.below bb);have c9:=af (yx bc.o);have ec:0<=N/\N<=5000:=by have:=ac.stored;have:=aC.2.1;omega
 have ee:ch.length<=13:=by have:=aC.1;simpa using this
 have eb:A.length<=5000:=by have:=ac.Kn.1;have:=aC.2.1;omega
 have ef:(ch.map (·.2.1)).flatten.length<=5000:=aC.2.1;clear a6 ac cW ht cw hF cR bG bH bb cM aC;go_enter func57,ntmps57
 go_wp2_with (go_at_call 134;refine c9.o.mono ?_;rintro e w1 ⟨rfl,cc⟩;have dA:=cc.symm;clear cc;subst dA)
 generalize w.alloc (.cells #[.int .i64 x,.int .i64 y,.int .u32 d] 29)=w1 at*;have bs:w1.cell? ⟨w.heap.size,0,none⟩=some (.int .i64 x):=ek an.o;have ap:w1.cell? ⟨w.heap.size,1,none⟩=some (.int .i64 y):=ek an.o;have t:w1.cell? ⟨w.heap.size,2,none⟩=some (.int .u32 d):=ek an.o;have aP:=ah bs;have aV:=ah ap;have aM:=ah t;have bx:=ah (w:=w1) bc.o.cell.2.2.2.2.2.2;have lk:∀p:aR w1,(Instr.lookup 188 (.map (some mb)) (jb x y d) true).run prog p.W=.ok (.tuple #[.int .i64 0,.bool false]) p.W:=fun p=>ca.o p.W (bf.o.trans (p.h.mono bf.o.size));refine lq [(0,false),(1,false),(2,false),(3,true),(4,true),(5,true),(6,false),(7,false),(8,false),(9,false),(10,false)] 0 ?_;refine jo aL ?_;clear aP aV aM bx lk ca
 go_wp2_with fail
 have aX:=af (bc.o.below (aJ _ _).drew);obtain⟨d6,d7,bt,-,-,-⟩:=Rd.aD aX.o.dP;have aP:=ah (w:=w1.drew) bs;have aV:=ah (w:=w1.drew) ap;have aM:=ah (w:=w1.drew) t;have Q:=aX.o.cell.2.2.2.2.1;rw[bt]at Q;have aq:=ah (w:=w1.drew) Q;have bx:=ah (w:=w1.drew) aX.o.cell.2.2.2.2.2.2;have da:=af bt;clear bt Q;refine au (fun W=>∃p:aR w1.drew,W=p.W) [10] [(0,false),(1,false),(2,false),(3,true),(4,true),(5,false),(6,false),(7,false),(8,true),(9,false)] ⟨⟨_,(aJ _ _).drew⟩,rfl⟩ 1 ?_;refine aF [10] ?_;clear aP aV aM aq bx;have bP:=af (aX.o.below (aJ _ _).drew);obtain⟨D,cj,ck⟩:=bP.o.map;refine yO _ rfl _ _ _ _ rfl _ _ (Keyed.of_law Ia) underlying188 (plainElem prog 3) mb A.length D rfl cj dE (jb x y d) (.int .i64 (al.length:Int)) (kp (x,y,d)) rfl rfl (zA a7) (.lit (.int .i64 (al.length:Int))) [] (vY underlying3 (by simp[Lit.wf,IntKind.min,IntKind.max,IntKind.bits,IntKind.signed];omega)) ?_;intro w4 cQ a5;have ct:l6 w4 mb (A++[((x,y,d),(al.length:Int))]):=⟨_,by rw[bQ];exact cQ,ck.put a7 dm.o _⟩;have ae:=af (bP.o.QS a5 ct);have bU:Hid (aB (fun k=>k=mb) w w4):=(((aB.refl (fun k=>k=mb) w).below bf.o).drew.drew).grown a5 fun k e=>.inl (by injection e with e;exact e.symm);have bq:Hid (w4.heap[w.heap.size]? =some (Obj.cells #[.int .i64 x,.int .i64 y,.int .u32 d] 29 (0,0))):=(a5.block _ (bg.1 an.o).1 (fun e=>by injection e with e;have:=u.o.map.lt;omega)).trans an.o;clear cj ck cQ a5 ct bs ap t
 go_wp2_with fail
 have c2:w4.cell? ⟨w.heap.size,0,none⟩=some (.int .i64 x):=ek bq.o;have c3:w4.cell? ⟨w.heap.size,1,none⟩=some (.int .i64 y):=ek bq.o;have c4:w4.cell? ⟨w.heap.size,2,none⟩=some (.int .u32 d):=ek bq.o;have aP:=ah c2;have aV:=ah c3;have aM:=ah c4;have cb:=ae.o.cell.2.2.1;have Q:=ae.o.cell.2.2.2.2.1;rw[da.o]at Q;have dG:=ah cb;have aq:=ah Q;have bN:=af (Ur (ae.o.below (aJ _ _).drew).gp (aT _) (ae.o.below (aJ _ _).drew).rows x y d (al.length:Int) aa aa aa);have dY:=bU.o.size;refine au (fun W=>∃p:aR w4,W=p.W) [11,12,13,14,15,16] [(0,false),(1,false),(2,false),(3,true),(4,true),(5,false),(6,false),(7,false),(8,true),(9,false),(10,false)] ⟨⟨_,(aJ _ _).drew⟩,rfl⟩ 6 ?_;refine ay 11 rfl fun K g=>?_;refine aY Om rfl _ _ rfl (vals:=#[.pointer (some ⟨Cb,0,none⟩),VI x y d al.length]) rfl bN.o ?_;rintro e f ⟨i,ez,R,O,Y,rfl,hi,P,cA,bz,⟨bI,-⟩,cI,cP,cz,cq,cN,cZ⟩;refine⟨_,rfl,?_⟩;refine g _ _ (fun _ h=>absurd ai h) ?_;clear g K aP aV aM dG aq cb Q c2 c3 c4;have bm:=af P;have bh:=af cA;have bl:=af cI;have b2:=af cP;have du:=af cZ;have a3:aB (fun k=>k=Cb\/cv.ownBlock=some k) w4 f:=((aB.refl _ w4).drew).trans cq;have et:=a3.size;have ce:=ae.o.QO a3 bz bI cN (cz.imp (fun h=>h) fun⟨b,e,ar⟩=>.inr ⟨b,e,ar⟩);have v:Hid (jw f (fun k=>X k\/w.heap.size<=k/\k<f.heap.size) Hb Cb mb R tv av lv O T al fA (A++[((x,y,d),(al.length:Int))]) (N+1) Y):=ce.more fun k hk=>by
  rcases hk with hk|⟨J,E⟩
  .exact .inl hk
  .refine .inr ⟨aa,?_⟩;rcases E with E|⟨q,aE,dX,a,dL,rfl⟩
   .exact(bz.row.lt k E).2
   .rcases(bI q aE).1 with h9|⟨b,off,d8,fr,a0,ar,-⟩
    .exact absurd h9 dX
    .rw[dL]at a0;injection a0 with a0;rw[a0];exact(bg.1 ar).1
 have bV:Hid (aB (fun k=>k=mb\/k=Cb\/cv.ownBlock=some k) w f):=(bU.o.mono fun k h=>.inl h).trans (a3.mono fun k h=>.inr h);clear P cA bz bI cI cP cz cq cN cZ a3 ce bN;refine dQ (fun _=>True) [15,16] aL ?_;refine aW [(12,false),(13,false),(14,false)] trivial rfl ?_;refine aF [15,16] ?_
 go_wp2_with fail
 have ed:w.heap.size<=f.heap.size:=bV.o.size
 go_cut []from 49 to 67 (fun ad=>∃dy bL:Value,Hid (jw ad (fun k=>X k\/w.heap.size<=k/\k<ad.heap.size) Hb Cb mb R tv dy bL O T (al++[true]) (fA++[(i:Int)]) (A++[((x,y,d),(al.length:Int))]) (N+1) Y)/\Hid (bL.ownBlock=lv.ownBlock\/∃b,bL.ownBlock=some b/\w.heap.size<=b)/\Hid (aB (fun k=>k=Hb\/av.ownBlock=some k\/lv.ownBlock=some k) f ad))
 case first=>
  obtain⟨-,-,-,-,c5,c6,-⟩:=v.o.cell;have cn:=v.o.lt;have cy:=v.o.blk;have a9:av.ownBlock≠some Hb:=v.o.AB v.o.dP ai;have c1:lv.ownBlock≠some Hb:=v.o.AB v.o.nR ai;have c0:∀c,av.ownBlock=some c->lv.ownBlock≠some c:=fun c e t=>bB v.o.dP v.o.nR ai c e t;have cX:∀c,av.ownBlock=some c->c<f.heap.size:=fun c e=>(v.o.dP.lt c e).2;have cY:∀c,lv.ownBlock=some c->c<f.heap.size:=fun c e=>(v.o.nR.lt c e).2;have aq:∀p:xC (fun k=>av.ownBlock=some k) f,p.W.cell? ⟨Hb,4,none⟩=some av:=fun p=>((di p.h cn a9).1 4).trans c5;have dH:∀p:xC (fun k=>av.ownBlock=some k) f,p.W.cell? ⟨Hb,5,none⟩=some lv:=fun p=>((di p.h cn a9).1 5).trans c6;have be:=af v.o.dP;have dj:=af v.o.nR;have bW:=af a9;have b0:=af c1;have bX:=af c0;have b4:=af cX;have dt:=af cY;have de:=af cy;have cD:=bo.o.Km;clear a9 c1 c0 cX cY cy c5 c6;refine au (fun W=>∃p:xC (fun k=>av.ownBlock=some k) f,W=p.W) [14,15,16,17,18,19,20] [(0,false),(1,false),(2,false),(3,false),(4,false),(5,true),(8,false),(9,false),(10,false),(11,true),(12,false)] ⟨⟨_,(aB.refl _ _).drew⟩,rfl⟩ 10 ?_;clear aq dH;have d5:aB (fun k=>av.ownBlock=some k) f f.drew:=(aB.refl _ _).drew;refine qW [6,13] aL ax ?_;have b6:aB (fun k=>av.ownBlock=some k) f (f.alloc (.cells #[.bool true] 4)).drew:=((aB.refl _ _).alloc _).drew;have b7:aB (fun k=>av.ownBlock=some k) f ((f.alloc (.cells #[.bool true] 4)).alloc (.cells #[.int .i64 (i:Int)] 3)).drew:=(((aB.refl _ _).alloc _).alloc _).drew;have b8:aB (fun k=>av.ownBlock=some k) f ((f.alloc (.cells #[.int .i64 (i:Int)] 3)).alloc (.cells #[.bool true] 4)).drew:=(((aB.refl _ _).alloc _).alloc _).drew;have dv:(f.alloc (.cells #[.bool true] 4)).drew.ownsRow 0 4 1 av al.length (al.map Value.bool):=aU (S:=fun _=>False) be.o (((aB.refl _ _).alloc _).drew) (fun _ _ h=>h);have dw:((f.alloc (.cells #[.bool true] 4)).alloc (.cells #[.int .i64 (i:Int)] 3)).drew.ownsRow 0 4 1 av al.length (al.map Value.bool):=aU (S:=fun _=>False) be.o ((((aB.refl _ _).alloc _).alloc _).drew) (fun _ _ h=>h);have dx:((f.alloc (.cells #[.int .i64 (i:Int)] 3)).alloc (.cells #[.bool true] 4)).drew.ownsRow 0 4 1 av al.length (al.map Value.bool):=aU (S:=fun _=>False) be.o ((((aB.refl _ _).alloc _).alloc _).drew) (fun _ _ h=>h);refine fU.cons rfl (fun K g=>?_) (fU.cons rfl (fun K g=>?_) fU.nil);go_simp;refine g _ _ (fun _ _=>⟨⟨_,b6⟩,rfl⟩) ?_;clear g K;refine iH 7 13 rfl rfl (fun K g=>?_) (fun K g=>?_);refine bF zk 0 dv [.bool true] rfl (by simp[Value.oneCell']) rfl (.tmp 54) (.tmp 55) rfl rfl _ rfl (lU _ _) dE aa (aT _) ?_;intro l H u2 cg r s cE;have aw:av.ownBlock=some l\/f.heap.size<=l:=s.imp id fun e=>by rw[e];simp
  have aZ:=b6.grown r (fun k e=>.inl e);refine g _ _ (fun _ _=>⟨⟨_,aZ⟩,rfl⟩) ?_;clear g K s;refine ay 13 rfl fun K g=>?_;go_simp;refine g _ _ (fun _ _=>⟨⟨_,aZ.alloc _⟩,rfl⟩) ?_;clear g K;have Z:=bY u2 (.cells #[.int .i64 (i:Int)] 3);have M:=aZ.alloc (.cells #[.int .i64 (i:Int)] 3);have a1:=cg.alloc (.cells #[.int .i64 (i:Int)] 3);have cF:l<(u2.alloc (.cells #[.int .i64 (i:Int)] 3)).heap.size:=aH;clear r aZ cg cE;generalize u2.alloc (.cells #[.int .i64 (i:Int)] 3)=u3 at*;generalize u2.heap.size=lb at*;clear u2
  rotate_left
  go_simp;refine g _ _ (fun _ _=>⟨⟨_,b7⟩,rfl⟩) ?_;clear g K;refine ay 7 rfl fun K g=>?_;refine bF zk 0 dw [.bool true] rfl (by simp[Value.oneCell']) rfl (.tmp 54) (.tmp 55) rfl rfl _ rfl (xn _ _ _) dE aa (aT _) ?_;intro l H u3 a1 r s cF;have aw:av.ownBlock=some l\/f.heap.size<=l:=s.imp id fun e=>by rw[e];simp;omega
  have M:=b7.grown r (fun k e=>.inl e);refine g _ _ (fun _ _=>⟨⟨_,M⟩,rfl⟩) ?_;clear g K s;have Z:=(r.block (f.heap.size+1) ax (fun e=>by have:=b4.o _ e.symm;omega)).trans (xq f (.cells #[.bool true] 4) (.cells #[.int .i64 (i:Int)] 3));clear r;obtain⟨lb,V⟩:∃lb,lb=f.heap.size+1:=⟨_,rfl⟩;rw[<-V]at Z;rw[<-V];clear V
  rotate_left
  go_simp;refine g _ _ (fun _ _=>⟨⟨_,((aB.refl _ _).alloc (.cells #[.int .i64 (i:Int)] 3)).drew⟩,rfl⟩) ?_;clear g K;refine ay 6 rfl fun K g=>?_;go_simp;refine g _ _ (fun _ _=>⟨⟨_,b8⟩,rfl⟩) ?_;clear g K;refine ay 7 rfl fun K g=>?_;refine bF zk 0 dx [.bool true] rfl (by simp[Value.oneCell']) rfl (.tmp 54) (.tmp 55) rfl rfl _ rfl (xq _ _ _) dE aa (aT _) ?_;intro l H u3 a1 r s cF;have aw:av.ownBlock=some l\/f.heap.size<=l:=s.imp id fun e=>by rw[e];simp;omega
  have M:=b8.grown r (fun k e=>.inl e);refine g _ _ (fun _ _=>⟨⟨_,M⟩,rfl⟩) ?_;clear g K s;have Z:=(r.block f.heap.size aH (fun e=>by have:=b4.o _ e.symm;omega)).trans (xn f (.cells #[.int .i64 (i:Int)] 3) (.cells #[.bool true] 4));clear r;obtain⟨lb,V⟩:∃lb,lb=f.heap.size:=⟨_,rfl⟩;rw[<-V]at Z;rw[<-V];clear V
  all_goals
   refine ay 14 rfl fun K g=>?_;refine bF nX 0 (aU dj.o M (fun c e t=>bX.o c t e)) [.int .i64 (i:Int)] rfl (by simp[Value.oneCell']) rfl (.tmp 60) (.tmp 62) rfl rfl _ rfl Z dE aa (aT _) ?_;intro gl cl u4 cs r s ei;have bC:lv.ownBlock=some gl\/f.heap.size<=gl:=s.imp id fun e=>by rw[e];exact M.size
   have bp:aB (fun k=>av.ownBlock=some k\/lv.ownBlock=some k) f u4:=(M.mono fun k h=>.inl h).grown r (fun k e=>.inl (.inr e));refine g _ _ (fun _ h=>absurd ai h) ?_;have dI:=aU a1 ((aB.refl (fun k=>lv.ownBlock=some k) u3).grown r fun k e=>.inl e) (fun c e t=>by
    have I:l=c:=by injection e
    rcases aw with h9|h9
    .exact bX.o l h9 (by rw[I];exact t)
    .have:=dt.o c t;omega)
   have a4:=bu bp de.o (fun e=>e.elim (fun e=>bW.o e) (fun e=>b0.o e));have eA:u4.cell? ⟨Hb,4,none⟩=some av:=ek a4;have eB:u4.cell? ⟨Hb,5,none⟩=some lv:=ek a4;have ea:∀j,u4.frozen? ⟨Hb,j,none⟩=false:=fun j=>aI a4;clear g K s r Z M a1;refine aF [15,16,17,18,19,20] ?_
   go_wp2_with fail
   go_meet;have dV:l≠Hb:=fun e=>aw.elim (fun h=>bW.o (by rw[h,e])) fun h=>aa;have dW:gl≠Hb:=fun e=>bC.elim (fun h=>b0.o (by rw[h,e])) fun h=>aa;have dY:=bp.size;have dN:(u4.setCell ⟨Hb,4,none⟩ (.slice (some ⟨l,0,none⟩) (al.length+1) H)).heap[Hb]? =some (Obj.cells (wW Cb mb tv (.slice (some ⟨l,0,none⟩) (al.length+1) H) lv) rX (0,0)):=by
    rw[dC u4 Hb 4 _ _ _ a4];rfl
   have dO:((u4.setCell ⟨Hb,4,none⟩ (.slice (some ⟨l,0,none⟩) (al.length+1) H)).setCell ⟨Hb,5,none⟩ (.slice (some ⟨gl,0,none⟩) (al.length+1) cl)).heap[Hb]? =some (Obj.cells (wW Cb mb tv (.slice (some ⟨l,0,none⟩) (al.length+1) H) (.slice (some ⟨gl,0,none⟩) (al.length+1) cl)) rX (0,0)):=by
    rw[dC _ Hb 5 _ _ _ dN];rfl
   have b5:aB (fun k=>k=Hb\/av.ownBlock=some k\/lv.ownBlock=some k) f ((u4.setCell ⟨Hb,4,none⟩ (.slice (some ⟨l,0,none⟩) (al.length+1) H)).setCell ⟨Hb,5,none⟩ (.slice (some ⟨gl,0,none⟩) (al.length+1) cl)):=((bp.mono fun k h=>.inr h).set (a:=⟨Hb,4,none⟩) _ (.inl (.inl rfl))).set (a:=⟨Hb,5,none⟩) _ (.inl (.inl rfl));have b9:aB (fun k=>k=Hb) u4 ((u4.setCell ⟨Hb,4,none⟩ (.slice (some ⟨l,0,none⟩) (al.length+1) H)).setCell ⟨Hb,5,none⟩ (.slice (some ⟨gl,0,none⟩) (al.length+1) cl)):=((aB.refl (fun k=>k=Hb) u4).set (a:=⟨Hb,4,none⟩) _ (.inl rfl)).set (a:=⟨Hb,5,none⟩) _ (.inl rfl);rw[cD]at cs;have c7:=aU dI b9 (fun c e t=>dV (by have I:l=c:=(by injection e);rw[I];exact t));have c8:=aU cs b9 (fun c e t=>dW (by have I:gl=c:=(by injection e);rw[I];exact t));refine⟨_,_,(v.o.Vg (al':=al++[true]) (lev':=fA++[(i:Int)]) b5 dO (by rw[bQ,bJ];exact c7) (by rw[bQ,bJ,cD];exact c8)).more (fun k hk=>?_),bC.elim (fun h=>.inl h.symm) (fun h=>.inr ⟨gl,rfl,aa⟩),b5⟩;have ew:((u4.setCell ⟨Hb,4,none⟩ (.slice (some ⟨l,0,none⟩) (al.length+1) H)).setCell ⟨Hb,5,none⟩ (.slice (some ⟨gl,0,none⟩) (al.length+1) cl)).heap.size=u4.heap.size:=ax;rcases hk with(hk|hk)|hk|hk
   .exact .inl hk
   .exact .inr ⟨hk.1,aa⟩
   .have I:l=k:=by injection hk
    have cf:=(c7.lt l rfl).2;rcases aw with h9|h9
    .exact .inl (I▸u.o.jF.2.2.2.2.2.1 l h9)
    .exact .inr ⟨aa,aa⟩
   .have I:gl=k:=by injection hk
    have cf:=(c8.lt gl rfl).2;rcases bC with h9|h9
    .exact .inl (I▸u.o.jF.2.2.2.2.2.2 gl h9)
    .exact .inr ⟨aa,aa⟩
 case rest=>
  obtain⟨ao,aK,bd,dh,bj⟩:=hcut;obtain⟨w6,dB⟩:∃w6:World,w6=wc:=⟨_,rfl⟩;subst dB;have eu:=bj.o.size;have b1:=af (aU b2.o bj.o (fun c e h=>by
   have J:w4.heap.size<=c:=(b2.o.lt c e).1;have E:=u.o.lt;rcases h with h|h|h
   .omega
   .have:=(u.o.dP.lt c h).2;omega
   .have:=(u.o.nR.lt c h).2;omega))
  obtain⟨ex,tc,bw,-,-,-⟩:=Rd.aD (enc:=vTr) bd.o.jX;have d4:=af bw;have br:=bd.o.cell.2.2.2.1;rw[bw]at br;clear bw;obtain⟨C,cJ,dT,en⟩:∃C:Nat,C=min i T.length/\C<=T.length/\min (i:Int) (T.length:Int)=(C:Int):=⟨min i T.length,rfl,aa,aa⟩;have dl:=af cJ;clear cJ;have df:Hid (jw w6 (fun k=>X k\/w.heap.size<=k/\k<w6.heap.size) Hb Cb mb R tv ao aK O (wX T 0) (al++[true]) (fA++[(i:Int)]) (A++[((x,y,d),(al.length:Int))]) (N+1) Y):=by rw[Oo];exact bd.o
  have ds:Hid (∀c,tv.ownBlock=some c->c<w.heap.size):=fun c e=>(u.o.jX.lt c e).2
  go_upto_block 0 with fail
  go_cut [11,75]from 76 to 85 (fun bv a8 ad=>Hid (jw ad (fun k=>X k\/w.heap.size<=k/\k<w6.heap.size) Hb Cb mb R tv ao aK O (wX T C) (al++[true]) (fA++[(i:Int)]) (A++[((x,y,d),(al.length:Int))]) (N+1) Y)/\Hid (aB (fun k=>tv.ownBlock=some k) w6 ad))
  case first=>
   go_wp2_with fail
   go_loopw [75] (fun a8 wr=>∃n:Nat,a8=.int .i64 n/\n<=C/\Hid (jw wr (fun k=>X k\/w.heap.size<=k/\k<w6.heap.size) Hb Cb mb R tv ao aK O (wX T n) (al++[true]) (fA++[(i:Int)]) (A++[((x,y,d),(al.length:Int))]) (N+1) Y)/\Hid (aB (fun k=>tv.ownBlock=some k) w6 wr)) (fun a8 _=>C-(intOf a8).toNat)
   case atStart=>exact⟨0,rfl,aT _,df,aB.refl _ _⟩
   case round=>
    obtain⟨n,rfl,eo,ag,bS⟩:=hrel;by_cases cE:n<C
    .have dS:=Dz (T:=T) (n:=n) aa;obtain⟨cd,ey,ab,-,eh,-,-⟩:=aS ag.o.jX aa;have aG:=ag.o.jX;rw[dS]at ab aG;rw[ab]at aG;have d3:=aG.cellAt n aa;rw[cK (by rw[bK];omega)]at d3;have d9:=aG.frozenAt n;have dq:Hid (jw (wr.setCell ⟨cd,n,none⟩ (vTr none)) (fun k=>X k\/w.heap.size<=k/\k<w6.heap.size) Hb Cb mb R tv ao aK O (wX T (n+1)) (al++[true]) (fA++[(i:Int)]) (A++[((x,y,d),(al.length:Int))]) (N+1) Y):=by
      have J:=ag.o;rw[ab]at J |-;rw[<-QT aa];exact J.V9 n none
     have aj:Hid (aB (fun k=>tv.ownBlock=some k) w6 (wr.setCell ⟨cd,n,none⟩ (vTr none))):=bS.o.set _ (.inl (by rw[ab];rfl));have br:=ag.o.cell.2.2.2.1;rw[ab]at br;have ep:(n:Int)<(T.length:Int):=aa;have eq:(n:Int)<(C:Int):=aa;clear ab aG;go_wp2;go_roundw
     case rel=>exact⟨n+1,by go_num,aa,dq,aj⟩
     case measure=>exact bZ
    .obtain rfl:n=C:=aa;have eg:¬(n:Int)<(n:Int):=aa
     go_wp2_with fail
     go_meet;exact⟨ag,bS⟩
  case rest=>
   obtain⟨db,aj⟩:=hcut;obtain⟨ba,dF⟩:∃ba:World,ba=wc:=⟨_,rfl⟩;subst dF;have ev:=aj.o.size;have dp:=af (aU b1.o aj.o (fun c e h=>by
    have J:w4.heap.size<=c:=(b1.o.lt c e).1;have:=ds.o c h;omega))
   obtain⟨d0,d1,rfl,-,-,cU⟩:=M3.aD dp.o;have U:=L.o.add dU (x,y,d) a7 dn.o aa i (aQ hi) (fun j B az=>by rw[gq];exact bm.o j (aQ B) az) (fun B=>by rw[gq];exact bh.o (aQ B));have bD:i<(kT (ch.map (·.2.1)) i ((x,y,d),(al.length:Int))).length:=by rw[qb _ _ _ (aQ hi)];split<;>omega
   have cC:(kT (ch.map (·.2.1)) i ((x,y,d),(al.length:Int)))[i]=fw (ch.map (·.2.1)) i++[((x,y,d),(al.length:Int))]:=by rw[qc,aN aa,aO rfl]
   have s:=U.bk i bD;have cB:=U.few i bD;rw[cC]at s cB;have dc:=af U;have dK:∀k,(X k\/w.heap.size<=k/\k<w6.heap.size)->k<ba.heap.size:=fun k hk=>by
    rcases hk with hk|hk
    .have:=(ak.o k hk).1;omega
    .omega
   have bO:=af (Mo db.o d0 d1 (fw (ch.map (·.2.1)) i++[((x,y,d),(al.length:Int))]) i cU aa (by rw[Dz aa];omega) cB s.2.2 (by simp[bo.o.Km]) aH s.1 s.2.1 dK);have er:0<(fw (ch.map (·.2.1)) i++[((x,y,d),(al.length:Int))]).length:=ax;generalize co:fw (ch.map (·.2.1)) i++[((x,y,d),(al.length:Int))]=am at*;have bi:=af co;clear U cC s co cU bD
   go_wp2_with fail
   refine bO.o.mono ?_;rintro e d2 ⟨rfl,tv',tb,bM,Fn,cu,ci,cm,cH,-,cp⟩;have dr:=af cu;have dd:=af ci;have bR:=af cm;have dk:=af cH;have bT:=af cp;clear cu ci cm cH cp bO;go_wp2;go_ret2;have a2:=congrArg List.length bi.o;rw[bQ,Bq]at a2;have es:=bT.o.size;obtain⟨ej,el⟩:=dk.o;have cL:w.heap.size<=bM:=aa;have cr:aB (fun k=>k=Hb\/k=Cb\/k=mb\/cv.ownBlock=some k\/tv.ownBlock=some k\/av.ownBlock=some k\/lv.ownBlock=some k) w d2:=by
    refine aB.strip ((((bV.o.mono fun k h=>?_).trans (bj.o.mono fun k h=>?_)).trans (aj.o.mono fun k h=>?_)).trans (bT.o.mono fun k h=>?_))
    .rcases h with h|h|h
     .exact .inl (.inr (.inr (.inl h)))
     .exact .inl (.inr (.inl h))
     .exact .inl (.inr (.inr (.inr (.inl h))))
    .rcases h with h|h|h
     .exact .inl (.inl h)
     .exact .inl (.inr (.inr (.inr (.inr (.inr (.inl h))))))
     .exact .inl (.inr (.inr (.inr (.inr (.inr (.inr h))))))
    .exact .inl (.inr (.inr (.inr (.inr (.inl h)))))
    .rcases h with h|h|h
     .exact .inl (.inl h)
     .exact .inl (.inr (.inr (.inr (.inr (.inl h)))))
     .rcases dh.o with h9|⟨b,h9,cf⟩
      .exact .inl (.inr (.inr (.inr (.inr (.inr (.inr (h9.symm.trans h)))))))
      .rw[h9]at h;injection h with h;exact .inr aa
   have cV:=(bn.o.kept cr (u.o.Wi bn.o)).step (X':=fun k=>(X k\/w.heap.size<=k/\k<w6.heap.size)\/ba.heap.size<=k/\k<bM) (i:=i) (m0:=w.heap.size) (m:=bM) (CB':=kT (ch.map (·.2.1)) i ((x,y,d),(al.length:Int))) (T':=AV (wX T C) i tb) dd.o (by unfold uk;rw[bK];exact fq _ _) (fun j B P=>by
     rw[qc]at P |-;by_cases J:j<i
     .rw[aO J]at P;exact absurd rfl P
     .rw[aN J]at P |-;by_cases E:j=i
      .left;rw[aO E,E];exact⟨rfl,bi.o⟩
      .right;rw[aN E]at P |-;have bE:j<(ch.map (·.2.1)).length:=by rw[qb _ _ _ (aQ hi)]at B;split at B<;>omega
       rw[jA,cK bE,ic];refine⟨E,bE,rfl,fun q aE=>Mq E (by rw[QU (by have:=dl.o;omega)];exact aE),?_⟩;unfold uk;rw[LX L.o true fun q aE=>L.o.inl bE aE]) IZ (fun k hk=>by
     rcases hk with(hk|hk)|hk
     .exact .inl hk
     .exact .inr ⟨hk.1,aa⟩
     .exact .inr ⟨aa,hk.2⟩) bR.o (fun j k hk=>bn.o.lt j k hk) (fun k hk=>cO (ak.o k hk).1 cL) cL
   have cG:=bo.o.add L.o (x,y,d) i (aQ hi);rw[bi.o,<-bl.o]at cG;rw[<-bl.o]at cV;have cS:=b3.o.add L.o.Kn.1 (bA (AJ L.o) dM) i (aQ hi) L.o.size (fun j B az=>by rw[gq];exact bm.o j (aQ B) az) (fun B=>by rw[gq];exact bh.o (aQ B)) ((x,y,d),(al.length:Int));have U:=dc.o;rw[<-bl.o]at U cS;have cT:Mr (O.map (·.2.1)) (A.length+1) (wk+(am.length:Int)) (m+1):=by
    rw[<-a2];exact cS
   have dZ:Y=wk+(am.length:Int):=(du.o.trans (congrArg (fun z=>wrap64 (wk+z)) (show _=(am.length:Int) by rw[<-a2];rfl))).trans (IntWalk.wrap64_in _ (by have J:=cT.bound aa;have E:=b3.o.1;omega));have cx:=L.o.XO i (aQ hi) (fun j B az=>by rw[gq];exact bm.o j (aQ B) az) (fun B=>by rw[gq];exact bh.o (aQ B));rw[a2]at cx;refine⟨am.length,al.length,cx,rfl,⟨_,_,Cb,mb,R,tv',ao,aK,O,AV (wX T C) i tb,al++[true],iJ (fA++[(i:Int)]) am i,?_,U,cG,cV,?_,I1 (by rw[Dz dT];exact dJ) aa,fun k hk=>?_,?_,aH,?_⟩,cr.mono ?_⟩
   .rw[<-dZ];exact dr.o
   .rw[bQ,Bq];omega
   .rcases hk with(hk|hk)|hk
    .exact⟨by have:=(ak.o k hk).1;omega,.inl (ak.o k hk).2⟩
    .exact⟨aa,.inr hk.1⟩
    .exact⟨aa,.inr aa⟩
   .rintro j k (⟨-,hk⟩|⟨-,hk⟩)
    .have:=bR.o k hk;exact .inr aa
    .exact .inl (dg.o j k hk)
   .rw[bQ,Bq];exact cT
   .have r:∀k,X k->G k:=fun k hk=>(ak.o k hk).2;rintro k (rfl|rfl|rfl|h|h|h|h)
    .exact r _ u.o.jF.1
    .exact r _ u.o.jF.2.1
    .exact r _ u.o.jF.2.2.1
    .exact r _ (u.o.jF.2.2.2.1 k h)
    .exact r _ (u.o.jF.2.2.2.2.1 k h)
    .exact r _ (u.o.jF.2.2.2.2.2.1 k h)
    .exact r _ (u.o.jF.2.2.2.2.2.2 k h)
end
end
section
open Go.RowKit Go.Sort Go.Shelf Go.Lib Go.Maps
attribute [local irreducible] wpQuiet
section
variable {w w':World} {S G:Nat->Prop} {Hb m:Nat} {A:List fB} {N wk:Int}
theorem jM.kept (h:jM w Hb G m A N wk) (K:aB S w w') (hS:∀k,G k->¬S k):jM w' Hb G m A N wk:=by
 have⟨X,F,Cb,mb,cv,tv,av,lv,ch,T,al,fA,d,e,f,g,j,l,b,c,n⟩:=h;exact⟨X,F,Cb,mb,cv,tv,av,lv,ch,T,al,fA,d.kept K fun k a=>hS k (b k a).2,e,f,g.kept K fun i k a=>hS k (c i k a),j,l,fun k a=>⟨cO (b k a).1 K.size,(b k a).2⟩,c,n⟩
theorem jM.facts (h:jM w Hb G m A N wk):(A.length:Int)<=N/\N<=2*A.length/\N<=m/\(ids (A.map (·.1))).Nodup/\(∀c∈A,GU c.1)/\0<=wk/\(∀L,m<2^L->wk<=(L*m:Nat))/\Hb<w.heap.size/\G Hb:=by
 have⟨X,F,Cb,mb,cv,tv,av,lv,ch,T,al,fA,b,a,n,o,e,p,f,q,r,d⟩:=h;have j:=a.stored;have k:=a.Kn.1;have l:=AJ a;refine⟨aa,e,aa,a.keys,fun c i=>a.good c (bI.1 (a.live.mem_iff.1 i)).1,d.1,fun L g=>?_,b.lt,(f _ b.jF.1).2⟩;have:=d.2 L g;omega
theorem Wm (h:jM w Hb G m A N wk):aK 60 #[aj Hb] w fun e w'=>e=.returned (ae A.length)/\w'=w:=by
 have⟨X,F,Cb,mb,cv,tv,av,lv,ch,T,al,fA,a,b⟩:=h;exact Vf a
theorem QV (h:jM w Hb G m A N wk):aK 87 #[aj Hb] w (gD w (ae N)):=by
 have⟨X,F,Cb,mb,cv,tv,av,lv,ch,T,al,fA,a,b⟩:=h;exact Og a
structure nS (w:World) (G:Nat->Prop) (F:Nat->Nat->Prop) (B:List (Nat×Nat×List Pt)):Prop where
 bk:∀(i:Nat) (h:i<B.length),Bk w (F i) B[i].1 B[i].2.1 B[i].2.2
 Wn:∀i k,F i k->G k
 ap:∀i j k,F i k->F j k->i=j
def ja (B:List (Nat×Nat×List Pt)):List Pt:=B.flatMap fun b=>b.2.2
theorem nS.kept {F:Nat->Nat->Prop} {B:List (Nat×Nat×List Pt)} (h:nS w G F B) (K:aB S w w') (hS:∀k,G k->¬S k):nS w' G F B:=⟨fun i hi=>(h.bk i hi).kept K fun k a=>hS k (h.Wn i k a),h.Wn,h.ap⟩
theorem Wo (w:World):aK 51 #[zZ,EN] w fun e w'=>e=.returned (aj (w.heap.size+2))/\jM w' (w.heap.size+2) (fun k=>w.heap.size<=k) 0 [] 0 0/\Below w.heap.size w w':=by
 have m:=@run_makeMap prog;have n:∀w,(binOp .eql 107 zZ .nilFunc).run prog w=.ok (.bool false) w:=fun w=>by
  have h:∀d:Nat,(Op.equalIn (d+1) 107 zZ .nilFunc).run prog w=.ok false w:=fun d=>by simp[Op.equalIn,qC underlying107]
  simp only[binOp];simp[Op.equal,Op.maxDepth,h 9999]
 have o:∀w,(binOp .eql 108 EN .nilFunc).run prog w=.ok (.bool false) w:=fun w=>by
  have h:∀d:Nat,(Op.equalIn (d+1) 108 EN .nilFunc).run prog w=.ok false w:=fun d=>by simp[Op.equalIn,qC underlying108]
  simp only[binOp];simp[Op.equal,Op.maxDepth,h 9999]
 go_enter func51,ntmps51;go_wp2;go_ret;have j:(w.alloc (.cells #[.bool true,aM,ae 0,ae 0] 278)).heap.size=w.heap.size+1:=ax;have l:((w.alloc (.cells #[.bool true,aM,ae 0,ae 0] 278)).alloc (.map #[] 0)).heap.size=w.heap.size+2:=ax;have f:=bY w (.cells #[.bool true,aM,ae 0,ae 0] 278);have m1:l6 ((w.alloc (.cells #[.bool true,aM,ae 0,ae 0] 278)).alloc (.map #[] 0)) (w.heap.size+1) []:=by
  rw[<-j];exact⟨.map [],yT _ _ _ _,tV.empty⟩
 have c:Below w.heap.size w (((w.alloc (.cells #[.bool true,aM,ae 0,ae 0] 278)).alloc (.map #[] 0)).alloc (.cells (wW w.heap.size (w.heap.size+1) (aM) (aM) (aM)) rX)):=(((aJ _ _).alloc (aA _) _).alloc ax _).alloc aH _;have b:=bY ((w.alloc (.cells #[.bool true,aM,ae 0,ae 0] 278)).alloc (.map #[] 0)) (.cells (wW w.heap.size (w.heap.size+1) (aM) (aM) (aM)) rX);rw[l]at b;refine⟨rfl,⟨fun k=>w.heap.size<=k/\k<w.heap.size+3,fun _ _=>False,w.heap.size,w.heap.size+1,aM,aM,aM,aM,[],[],[],[],⟨b,⟨aT _,WQ,(bU _ _ _ aH).trans ((bU _ _ _ ax).trans f),cZ _ _ _ _⟩,fun h a=>absurd a iO,cZ _ _ _ _,cZ _ _ _ _,cZ _ _ _ _,m1.same (bU _ _ _ ax),⟨aa,aa,aa,(fun k e=>by cases e),(fun k e=>by cases e),(fun k e=>by cases e),(fun k e=>by cases e)⟩,fun h a=>absurd a iO⟩,UK,UL,⟨fun i h=>absurd h (kz _),fun _ _ h=>h.elim,fun _ _ _ h=>h.elim,fun _ _ h=>h.elim⟩,ax,ax,fun k g=>⟨aH,g.1⟩,fun _ _ h=>h.elim,aA _,Tm⟩,c⟩
end
end
section
open Go.RowKit Go.Sort Go.Shelf Go.Lib Go.Maps
theorem uy {α b:Type} (p:α->Bool) (f:α->List b):∀(l:List α),(∀x∈l,p x=false->f x=[])->(l.filter p).flatMap f=l.flatMap f
 |[],_=>rfl
 |x::l,h=>by
  have ih:=uy p f l fun y a=>h y (lM _ a);rw[lT,mE];cases hp:p x with
  |true=>rw[aO rfl,mE,ih]
  |false=>rw[aN ax,h x ny hp,gu,ih]
theorem QW {CB:List (List fB)} {i:Nat} (h:i∈eB CB 0):∃hi:i<CB.length,CB[i]≠[]:=by
 unfold eB at h;have⟨b,a⟩:=bI.1 h;have hi:i<CB.length:=aQ b;rw[jA,cK hi,ic]at a;exact⟨hi,fun e=>by rw[e]at a;cases a⟩
theorem Oq {CB:List (List fB)} {i:Nat} (hi:i<CB.length) (h:CB[i]≠[]):i∈eB CB 0:=by
 unfold eB;refine bI.2 ⟨aQ hi,?_⟩;rw[jA,cK hi,ic];cases e:CB[i]with
 |nil=>exact absurd e h
 |cons=>rfl
theorem K6 (CB:List (List fB)):(eB CB 0).Nodup:=by
 unfold eB;refine mD _ ?_;rw[jY];exact(vP _).nodup_iff.2 List.nodup_range
theorem QX (CB:List (List fB)):((eB CB 0).flatMap fun i=>CB.getD i []).Perm CB.flatten:=by
 unfold eB;rw[uy _ _ _ fun i _ hi=>aQ hi,jY];refine((vP _).flatMap_right _).trans (List.Perm.of_eq ?_);rw[BP];congr 1;refine sO ax fun i b a=>?_;rw[gq,yS,jA,cK a,ic]
section
variable {w w':World} {S G:Nat->Prop} {Hb m:Nat} {A:List fB} {N wk:Int}
def TW (b:Nat×Nat×List Pt):Value:=aj b.1
def Wp (w:World) (Hb:Nat) (G:Nat->Prop) (m:Nat) (A:List fB) (N wk:Int) (e:Ending) (w':World):Prop:=
 ∃(v:Value) (B:List (Nat×Nat×List Pt)) (F:Nat->Nat->Prop),e=.returned v/\w'.ownsRow w.heap.size 106 1 v B.length (B.map TW)/\Below w.heap.size w w'/\nS w' G F B/\(ja B).Perm (A.map (·.1))/\(B.length≠0->2^(B.length-1)<=N)/\(∀b∈B,(b.2.1:Int)<=N/\b.2.1<=20000)/\B.length<=13/\
  ∀w2 F2 (G2:Nat->Prop),aB (fun k=>∃i,F i k) w' w2->nS w2 G2 F2 B->(∀k,G k->G2 k)->(∀i k,F2 i k->F i k\/w'.heap.size<=k)->jM w2 Hb G2 m A N wk
theorem Mt (h:jM w Hb G m A N wk):aK 61 #[aj Hb] w (Wp w Hb G m A N wk):=by
 have⟨X,F,Cb,mb,cv,tv,av,lv,ch,T,al,fA,E,r,ac,ht,W,P,B,hF,R,Z⟩:=h;have Q:∀(i:Nat) (hi:i<(ch.map (·.2.1)).length),(ch.map (·.2.1))[i]≠[]->i<T.length:=fun i hi C=>by
  obtain⟨tb,n0,h1,-⟩:=ht.tr i hi C;exact(fI.1 h1).1
 refine(QP E r Q).mono ?_;rintro e w' ⟨v,rfl,Y,u⟩;have V:=r.levels;have ak:=r.stored;have U:=r.live;generalize t:ch.map (·.2.1)=CB at*;have g:∀i:Nat,∃b:Nat×Nat×List Pt,i∈eB CB 0->T[i]? =some (some b.1)/\(b.2.1:Int)<=N/\b.2.1<=20000/\b.2.2=uk al (CB.getD i [])/\Bk w (F i) b.1 b.2.1 b.2.2/\b.2.1<=(CB.getD i []).length:=fun i=>by
  by_cases hi:i∈eB CB 0
  .obtain⟨h1,c⟩:=QW hi;have⟨tb,n0,d,o,J⟩:=ht.tr i h1 c;have ae:CB[i].length<=CB.flatten.length:=(Fa (bC h1)).length_le;exact⟨(tb,n0,uk al CB[i]),fun _=>⟨d,by show(n0:Int)<=N;omega,by show n0<=20000;omega,by rw[jA,cK h1,ic],J,by rw[jA,cK h1,ic];exact o⟩⟩
  .exact⟨(0,0,[]),fun h=>absurd h hi⟩
 have⟨f,g⟩:=Classical.axiomOfChoice g;have L:(eB CB 0).map (TV T)=((eB CB 0).map f).map TW:=by
  rw[wu];refine Bw fun i hi=>?_;unfold TV;rw[jA,(g i hi).1];rfl
 have D:=K6 CB;refine⟨v,(eB CB 0).map f,fun p k=>∃hp:p<(eB CB 0).length,F (eB CB 0)[p] k,rfl,?_,u,⟨fun p hp=>?_,fun p k a=>hF _ k a.2,fun p q k hp x=>?_⟩,?_,fun I=>?_,?_,?_,?_⟩
 .rw[<-L,bK];exact Y
 .rw[bK]at hp;rw[gq];have:(fun k=>∃hp:p<(eB CB 0).length,F (eB CB 0)[p] k)=F (eB CB 0)[p]:=by funext k;simp[hp]
  rw[this];exact((g _ (bC hp)).2.2.2.2.1).below u
 .obtain⟨h1,c⟩:=hp;have⟨d,o⟩:=x;exact(List.getElem_inj D).1 (ht.ap _ _ k c o)
 .have l:ja ((eB CB 0).map f)=(((eB CB 0).flatMap fun i=>CB.getD i []).filter (dx al)).map (·.1):=by
   unfold ja;rw[List.flatMap_map,List.filter_flatMap,List.map_flatMap];rw[BP,BP];congr 1;exact Bw fun i hi=>(g i hi).2.2.2.1
  rw[l];exact(((QX CB).filter _).trans U.symm).map _
 .rw[bK]at I |-;have h1:=z8 CB 0;have c:=V.2.2.2 aa;have d:=Bt (n:=2) ai (show(eB CB 0).length-1<=CB.length-1 by omega);have o:((2:Int)^((eB CB 0).length-1))=((2^((eB CB 0).length-1):Nat):Int):=ax;rw[o];omega
 .intro b S;obtain⟨i,hi,rfl⟩:=dD.1 S;exact⟨(g i hi).2.1,(g i hi).2.2.1⟩
 .rw[bK];have h1:=z8 CB 0;omega
 .intro w2 y ad K s O M;have ag:=u.size;have ah:=K.size;have ab:ow w2 (fun i k=>∃p,∃hp:p<(eB CB 0).length,(eB CB 0)[p]=i/\y p k) X CB T al:=by
   refine⟨fun i hi C=>?_,?_,?_,?_⟩
   .obtain⟨p,hp,rfl⟩:=iN (Oq hi C);have h1:=g _ (bC hp);have c:=s.bk p (by rw[bK];exact hp);rw[gq]at c;refine⟨_,(f (eB CB 0)[p]).2.1,h1.1,?_,?_⟩
    .have d:=h1.2.2.2.2.2;rwa [jA,cK hi,ic]at d
    .have e:(fun k=>∃q,∃x:q<(eB CB 0).length,(eB CB 0)[q]=(eB CB 0)[p]/\y q k)=y p:=by
      funext k;refine propext ⟨?_,fun h=>⟨p,hp,rfl,h⟩⟩;rintro⟨q,x,l,z⟩;rw[<-(List.getElem_inj D).1 l];exact z
     have d:=h1.2.2.2.1;rw[jA,cK hi,ic]at d;rw[e,<-d];exact c
   .rintro i k ⟨p,hp,-,a⟩ H;rcases M p k a with⟨af,h1⟩|h1
    .exact ht.off _ k h1 H
    .have:=(B k H).1;omega
   .rintro i j k ⟨p,hp,l,h1⟩ ⟨q,x,z,c⟩;have:=s.ap p q k h1 c;subst this;rw[<-l,<-z]
   .rintro i k ⟨p,hp,-,a⟩;exact(s.bk p (by rw[bK];exact hp)).lt k a
  exact⟨X,_,Cb,mb,cv,tv,av,lv,ch,T,al,fA,(E.below u).kept K (fun k a h=>by obtain⟨p,hp,h1⟩:=h;exact ht.off _ k h1 a),by rw[t];exact r,by rw[t];exact ac,by rw[t];exact ab,W,P,fun k a=>⟨by have:=(B k a).1;omega,O k (B k a).2⟩,(fun i k h=>by obtain⟨p,hp,-,a⟩:=h;exact s.Wn p k a),R,by rw[t];exact Z⟩
end
end
section
open Go.RowKit Go.Sort Go.Shelf Go.Lib Go.Maps
attribute [local irreducible] wpQuiet
theorem Vi (b off:Nat) (x y:Int) (w:World) (a:w.cell? (ag b off)=some (ae x)) (c:w.frozen? (ag b off)=false):
  aK 151 #[.pointer (some (ag b off)),ae y] w fun e w'=>e=.returned (ae (wrap64 (x+y)))/\w'=w.setCell (ag b off) (.int .i64 (wrap64 (x+y))):=by
 have d:=run_call_add (P:=prog) func227 aL aL aL .i64 aL (y:=y) (s:=wrap64 (x+y)) a c (by rw[<-IntWalk.i64_left];simp[go_sem];try rfl);go_enter func151,ntmps151;go_wp2;go_ret;exact⟨rfl,rfl⟩
abbrev yz:TypeId:=74
section
variable {w:World} {Pb Hb:Nat} {dv av:Value} {eT:Int} {GH:Nat->Prop} {m:Nat} {A:List fB} {N wk:Int}
theorem lL (a:w.heap[Pb]? =some (Obj.cells #[aj Hb,dv,av,ae eT] yz (0,0))):aK 55 #[aj Pb] w fun e w'=>e=.returned (.bool false)/\w'=w:=by
 have b:w.cell? (ag Pb 0)=some (aj Hb):=aI a;go_enter func55,ntmps55;go_wp2;go_ret;exact⟨rfl,rfl⟩
def SumB (bd:Nat->Nat->Prop):Nat->Nat->Prop
 |0,n=>n=0
 |i+1,n=>∃n' t,SumB bd i n'/\bd i t/\n=n'+t
theorem SumB.le {bd:Nat->Nat->Prop} {b:Nat} (h:∀i t,bd i t->t<=b):∀{i n:Nat},SumB bd i n->n<=i*b
 |0,n,a=>by simp[SumB]at a;omega
 |i+1,n,a=>by
  obtain⟨n',t,c,d,rfl⟩:=a;have e:=SumB.le h c;have f:=h i t d;rw[Nat.succ_mul];omega
def Xn (fn:FuncId) (cs:Array Value) (Sx:Nat->Prop) (Q:List (Nat×Nat×List Pt)->Nat->World->Prop) (w1:World) (B:List (Nat×Nat×List Pt)):Prop:=
 ∃(I:Nat->Nat->World->Prop),I 0 0 w1/\(∀i n u,I i n u->aB Sx w1 u)/\(∀i n u,I i n u->n<=i*1000000)/\(∀i n (hi:i<B.length) u,I i n u->aK fn (#[aj (B[i].1)]++cs) u fun e u'=>∃c:Nat,e=.returned (ae c)/\I (i+1) (n+c) u')/\∀n u,I B.length n u->Q B n u
def Wq (w:World) (Pb:Nat) (eT:Int) (Sx:Nat->Prop) (Q:List (Nat×Nat×List Pt)->Nat->World->Prop) (e:Ending) (w':World):Prop:=
 ∃(B:List (Nat×Nat×List Pt)) (uY:Nat) (u:World),e=.returned (ae uY)/\Q B uY u/\aB Sx w u/\w'=u.setCell (ag Pb 3) (.int .i64 (wrap64 (eT+uY)))
theorem Gz {fn:FuncId} {cs:Array Value} {Sx:Nat->Prop} {Q:List (Nat×Nat×List Pt)->Nat->World->Prop} (aC:∀args w,(callFunc fn args).run prog w=.ok (.enter fn args) w) (f:w.heap[Pb]? =some (Obj.cells #[aj Hb,dv,av,ae eT] yz (0,0))) (h:jM w Hb GH m A N wk) (L:∀k,Sx k->k≠Pb/\k<w.heap.size)
  (O:∀w1 B F,Below w.heap.size w w1->nS w1 GH F B->(ja B).Perm (A.map (·.1))->(B.length≠0->(2:Int)^(B.length-1)<=N)->(∀b∈B,(b.2.1:Int)<=N/\b.2.1<=20000)->B.length<=13->Xn fn cs Sx Q w1 B):
  aK 69 #[aj Pb,.func (.func fn) #[] cs] w (Wq w Pb eT Sx Q):=by
 have x:=af (lL f);have y:=af (Mt h);have ao:w.cell? (ag Pb 0)=some (aj Hb):=aI f;have ac:=af O;have D:=af L;have ad:=af f;clear O L f h;go_enter func69,ntmps69
 go_wp2_with (go_at_call 55;refine x.o.mono ?_;rintro e w1 ⟨rfl,E⟩;have ar:=E.symm;clear E;subst ar)
 refine y.o.mono ?_;rintro e w1 ⟨v,B,F,rfl,s,r,M,Y,V,X,au,-⟩;obtain⟨an,H,I,R,P,T⟩:=ac.o w1 B F r M Y V X au;obtain⟨aO,aQ,rfl,-,-,-⟩:=Rd.aD (enc:=TW) s;have C:=af s;have a:=af r;have am:=af I;have ah:=af P;have ai:=af T;have z:=af R;have ak:=af H;clear s r I P T H M Y V X R y x ao
 go_wp2_with fail
 go_loopw [16,5] (fun t ax wr=>∃i n:Nat,t=.int .i64 i/\ax=.int .i64 n/\i<=B.length/\Hid (an i n wr)) (fun t _ _=>B.length-(intOf t).toNat)
 case atStart=>exact⟨0,0,rfl,rfl,aT _,ak⟩
 case round=>
  obtain⟨i,n,rfl,rfl,hi,d⟩:=hrel;have K:=af (am.o i n wr d.o);have J:Hid (aB Sx w wr):=⟨K.o.os.trans a.o.os,K.o.tape.trans a.o.tape,K.o.output.trans a.o.output,bA a.o.size K.o.size,fun k U aw=>(K.o.block k (cO U a.o.size) aw).trans (a.o.block k U)⟩;have aJ:=z.o i n wr d.o;by_cases W:i<B.length
  .have ab:=aU C.o K.o (fun G e l=>by have aE:=(C.o.lt G e).1;have aF:=(D.o G l).2;omega);obtain⟨aP,aR,j,-,-,Z⟩:=Rd.aD (enc:=TW) ab;injection j with j _ aq;subst j aq;obtain⟨az,aA,ap,-,S⟩:=Z.get aa;have ay:=S i W;have g:=af (ah.o i n W wr d.o);unfold TW at ay;subst ap;generalize B[i].1=tb at*;clear S Z ab;have aN:(i:Int)<(B.length:Int):=aa;have aM:(i+1)*1000000<=13*1000000:=oz _ aa
   go_wp2_with (refine g.o.mono ?_;rintro e u ⟨c,rfl,p⟩;have aH:=z.o (i+1) (n+c) u p;have aG:(-9223372036854775808:Int)<=(n:Int)+(c:Int)/\(n:Int)+(c:Int)<=9223372036854775807:=aa;have al:=af p;clear p)
   go_roundw
   case rel=>exact⟨i+1,n+c,by go_num,by go_num,aa,al⟩
   case measure=>exact bZ
  .obtain rfl:i=B.length:=aa;have aL:¬(B.length:Int)<(B.length:Int):=aa;have q:wr.heap[Pb]? =some (Obj.cells #[aj Hb,dv,av,ae eT] yz (0,0)):=bu J.o ad.o (fun l=>(D.o Pb l).1 rfl);have g:=af (Vi Pb 3 eT n wr (aI q) (aI q));clear q
   go_wp2_with fail
   refine g.o.mono ?_;rintro e aS ⟨rfl,rfl⟩;go_wp2;go_ret;exact⟨B,n,wr,rfl,ai.o n wr d.o,J.o,rfl⟩
end
end
end Go.Proofs.YtkjdbndekceffaaGreat
