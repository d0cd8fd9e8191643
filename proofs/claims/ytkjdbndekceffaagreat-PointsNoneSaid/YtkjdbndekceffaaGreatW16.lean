/- Made small by a program. -/
import Derived.Test.YtkjdbndekceffaaGreatW15
set_option linter.unusedSimpArgs false
set_option linter.unusedVariables false
set_option maxRecDepth 100000
set_option maxHeartbeats 16000000
namespace Go.Proofs.YtkjdbndekceffaaGreat
open Tryz
section
open Go.RowKit Go.Sort Go.Shelf Go.Lib Go.Maps
attribute [local irreducible] wpQuiet
attribute [local go_sem] Oper.fo
theorem I6:∀args w,(callFunc 213 args).run prog w=.ok (.enter 213 args) w:=cK func213 (by kernel_rfl) rfl
theorem Ga {T:List (Option Nat)} {i tb:Nat}:(yS T i tb)[i]? =some (some tb):=by
 unfold yS;rw[sJ (by simp;omega)]
theorem J6 {T:List (Option Nat)} {i tb j:Nat} (h:j≠i) {x:Nat} (a:T[j]? =some (some x)):(yS T i tb)[j]? =some (some x):=by
 unfold yS;have b:=(fC.1 a).1;rw[mY (fun e=>h e.symm),kY b,a]
theorem Gb {T:List (Option Nat)} {i tb n:Nat} (h:T.length<=n) (hi:i<n):(yS T i tb).length<=n:=by
 unfold yS;simp;omega
section
variable {w w':World} {X X' S Fn:Nat->Prop} {F:Nat->Nat->Prop} {Hb Cb mb:Nat} {cv tv av lv:Value} {ch:List yZ} {T T':List (Option Nat)} {al al':List Bool} {eP:List Int} {A:List eG} {N wk:Int} {CB CB':List (List eG)}
theorem mX.skip (h:mX w F X CB T al):mX w F X (CB++[[]]) T al:=by
 refine⟨fun j b a=>?_,h.off,h.ap,h.lt⟩;by_cases e:j<CB.length
 .rw[p9 e]at a |-;exact h.tr j e a
 .rw[uT (by omega)]at a;simp at a
theorem mX.step (h:mX w F X CB T al) {i tb n0 m0 m:Nat} {l:List eG} (o:Bk w Fn tb n0 (rE al' l)) (C:n0<=l.length) (B:∀(j:Nat) (b:j<CB'.length),CB'[j]≠[]->(j=i/\CB'[j]=l)\/(j≠i/\∃n:j<CB.length,CB'[j]=CB[j]/\(∀x,T[j]? =some (some x)->T'[j]? =some (some x))/\rE al' CB[j]=rE al CB[j]))
  (z:T'[i]? =some (some tb)) (p:∀k,X' k->X k\/(m0<=k/\k<m)) (g:∀k,Fn k->m<=k) (f:∀j k,F j k->k<m0) (A:∀k,X k->k<m) (G:m0<=m):mX w (fun j k=>(j=i/\Fn k)\/(j≠i/\F j k)) X' CB' T' al':=by
 refine⟨fun j b q=>?_,?_,?_,?_⟩
 .rcases B j b q with⟨rfl,e⟩|⟨c,n,e,h2,y⟩
  .refine⟨tb,n0,z,by rw[e];exact C,?_⟩;have:(fun k=>(j=j/\Fn k)\/(j≠j/\F j k))=Fn:=by funext k;simp
   rw[this,e];exact o
  .obtain⟨E,D,t,u,v⟩:=h.tr j n (by rw[<-e];exact q);refine⟨E,D,h2 _ t,by rw[e];exact u,?_⟩;have:(fun k=>(j=i/\Fn k)\/(j≠i/\F j k))=F j:=by funext k;simp[c]
   rw[this,e,y];exact v
 .rintro j k (⟨rfl,a⟩|⟨b,a⟩) r
  .have c:=g k a;rcases p k r with h2|h2
   .have:=A k h2;omega
   .omega
  .rcases p k r with h2|h2
   .exact h.off j k a h2
   .have:=f j k a;omega
 .rintro j s k (⟨rfl,a⟩|⟨b,a⟩) (⟨rfl,d⟩|⟨n,d⟩)
  .rfl
  .have c:=g k a;have h2:=f s k d;omega
  .have c:=g k d;have h2:=f j k a;omega
  .exact h.ap j s k a d
 .rintro j k (⟨rfl,a⟩|⟨b,a⟩)
  .exact o.lt k a
  .exact h.lt j k a
def TB (w:World) (X:Nat->Prop) (Hb Cb mb:Nat) (cv tv av lv:Value) (ch:List yZ) (al:List Bool) (A:List eG) (wk:Int) (e:Ending) (w':World):Prop:=
 e=.returned (aa A.length)/\∃(X':Nat->Prop) (F':Nat->Nat->Prop) (Bw tv':Value) (qj:List yZ) (T':List (Option Nat)) (lev':List Int),iN w' X' Hb Cb mb Bw tv' av lv qj T' al lev' A A.length (wrap64 (wk+(A.length:Int)))/\
  qj.map (·.2.1)=setC (Lib.bitLen A.length) (jX al (ch.map (·.2.1)) 0)/\mX w' F' X' (qj.map (·.2.1)) T' al/\nC (qj.map (·.2.1)) al A A.length/\Sz (qj.map (·.2.1)) al lev'/\T'.length<=14/\(∀k,X' k->k<w'.heap.size/\(X k\/w.heap.size<=k))/\(∀i k,F' i k->w.heap.size<=k)/\
  au (fun k=>k=Hb\/k=Cb\/cv.ownBlock=some k\/tv.ownBlock=some k\/lv.ownBlock=some k) w w'
theorem Ql (h:iN w X Hb Cb mb cv tv av lv ch T al eP A N wk) (ai:nC (ch.map (·.2.1)) al A N) (bE:eP.length=al.length) (bl:∀k,X k->k<w.heap.size):
  aH 140 #[ah Hb] w (TB w X Hb Cb mb cv tv av lv ch al A wk):=by
 have H:=af h;have bY:=af bl;obtain⟨bb,bh⟩:=ai.anew (L:=jX al (ch.map (·.2.1)) 0) (by unfold jX;rw[nk]);have bI:=af bb;have aI:=ai.levels;have bO:=af bE;have aR:=af (fun p:aT w=>Oo (h.below p.h) ai);obtain⟨-,-,V,-⟩:=h.cell;have co:(jX al (ch.map (·.2.1)) 0).length<=5000:=bJ (CG _ _ _) aI.2.1;have cp:=aI.2.2.1;have b4:=ag V;clear h ai bE bl bb V aI;generalize bi:jX al (ch.map (·.2.1)) 0=L at*;have bN:=af bi;have ap:=af bh;clear bi bh;go_enter func140,ntmps140
 go_wp2_with fail
 refine ak (fun W=>∃p:aT w,W=p.W) [6,7] [(0,false),(1,false),(2,false),(3,true),(4,false)] ⟨⟨_,(aB _ _).drew⟩,rfl⟩ 3 ?_;simp only[bn,aX,aY,aW,aN,aM,aO]
 repeat(refine aD (fun K t=>?_);go_simp;first|(refine t _ ?_;clear t K)|(apply Exists.intro;refine⟨fun _=>?_,t _ ?_⟩;rfl;clear t K))
 refine aJ ?_;clear b4;refine aA 5 rfl fun K t=>?_;refine bg I6 rfl _ _ rfl (vals:=#[ah Hb]) rfl (aR.o ⟨_,(aB _ _).drew⟩) ?_;rintro e w2 ⟨v,rfl,bv,bm⟩;obtain⟨ck,cl,rfl,-,cd,bx⟩:=KD.aC bv;have O:Below w.heap.size w w2:=(aB _ _).drew.trans bm;refine⟨_,rfl,?_⟩;refine t _ _ (fun _ _=>⟨⟨_,O⟩,rfl⟩) ?_;clear t K;have a0:=af (H.o.below O);have a1:=af O;have aU:=af (R7 a0.o.fH (bf _) ck L cl bx cd (by omega));clear bv bm O aR bx;refine aF [6,7] _ _ _ (by kernel_rfl) ?_;simp only[pick,aX,aY,aW,aN,aM]
 go_wp2_with fail
 refine aU.o.mono ?_;rintro e w4 ⟨Y,f,aP,rfl,az,aK,ad,bo,ab,bt,bF⟩;have cA:=a1.o.size;have cB:=ab.size;have ba:=a0.o.Ol (ab.mono fun k h=>.inl h) az aK (Nw.nil bt (ay _)) (.inr bo);have aj:Hid (iN w4 (fun k=>X k\/w.heap.size<=k/\k<w4.heap.size) Hb Cb mb Y tv av lv f T al eP A L.length aP):=ba.more fun k hk=>by
  rcases hk with hk|⟨F,aa⟩
  .exact .inl hk
  .refine .inr ⟨by omega,?_⟩;rcases aa with aa|⟨x,M,bu,a,b7,rfl⟩
   .exact(az.row.lt k aa).2
   .rcases(aK x M).1 with h9|⟨b,off,cm,fr,Z,b8,-⟩
    .exact absurd h9 bu
    .rw[b7]at Z;injection Z with Z;rw[Z];exact(aZ.1 b8).1
 have bP:=af ad;have a9:=af bF;have bM:Hid (au (fun k=>k=Cb) w w4):=((au.refl (fun k=>k=Cb) w).below a1.o).trans ab;have cq:f.length<=13:=by
  have F:=congrArg List.length ad;rw[ek,bX]at F;have aa:=fw (a:=L.length) (b:=5000) (by omega) (by decide);have cn:Lib.bitLen 5000<=13:=by decide
  omega
 have C:Hid (nC (f.map (·.2.1)) al A L.length):=by rw[ad];exact bI.o
 have bZ:Hid (∀(j:Nat) (g:j<f.length),f[j].2.1.length<=5000):=fun j g=>by
  have F:=C.o.few j (by rw[bX];exact g);rwa [fJ]at F
 obtain⟨-,-,-,cg,-⟩:=aj.o.cell;have f3:=aj.o.frozen 3;have P:Hid (iN (w4.setCell (ae Hb 3) (aG)) (fun k=>X k\/w.heap.size<=k/\k<w4.heap.size) Hb Cb mb Y (aG) av lv f [] al eP A L.length aP):=(aj.o.QR (tv':=aG) (T':=[]) (bQ (aB _ _)|>fun h=>⟨h.os,h.tape,h.output,h.size,fun k hk _=>rfl⟩) (dz _ _ _ _) (by simp[Value.ownBlock])).more fun k hk=>hk.elim (fun h=>h) fun h=>by cases h
 have a5:Hid (au (fun k=>k=Hb\/k=Cb) w (w4.setCell (ae Hb 3) (aG))):=(bM.o.mono fun k h=>.inr h).set (a:=(ae Hb 3)) _ (.inl (.inl rfl));have aS:=af (xB P.o.fH (by omega));obtain⟨-,-,ci,-⟩:=P.o.cell;have bA:(w4.setCell (ae Hb 3) (aG)).heap.size=w4.heap.size:=by simp
 have bU:=af bA;clear az aK ad bo ab bt bF ba aU bA
 go_wp2_with fail
 generalize w4.setCell (ae Hb 3) (aG)=cF at*;refine aS.o.mono ?_;rintro e w6 ⟨rfl,ac⟩;have bH:=af (P.o.below ac);have ca:=ac.size;have a6:Hid (au (fun k=>k=Hb\/k=Cb) w w6):=a5.o.below ac;have bV:Hid (w4.heap.size<=w6.heap.size):=by have:=bU.o;show _<=_;omega
 clear aS ac P a5 cg f3 ci ca
 go_wp2_with fail
 go_loopw [21] (fun aL wr=>∃(i:Nat) (s:Nat->Prop) (y:Nat->Nat->Prop) (u:Value) (r:List (Option Nat)) (n:List Int),aL=.int .i64 i/\i<=f.length/\Hid (iN wr s Hb Cb mb Y u av lv f r al n A L.length aP)/\Hid (mX wr y s ((f.map (·.2.1)).take i) r al)/\Hid (∀(j:Nat) (g:j<f.length),j<i->∀c∈f[j].2.1,n[c.2.toNat]? =some (j:Int))/\Hid (n.length=al.length)/\Hid (r.length<=i)/\
  Hid (∀k,s k->k<wr.heap.size/\(X k\/w.heap.size<=k))/\Hid (∀j k,y j k->w.heap.size<=k)/\Hid (u.ownBlock=none\/∃b,u.ownBlock=some b/\w.heap.size<=b)/\Hid (au (fun k=>k=Hb\/k=Cb\/lv.ownBlock=some k) w wr)) (fun aL _=>f.length-(intOf aL).toNat)
 case atStart=>exact⟨0,_,fun _ _=>False,_,[],eP,rfl,bf _,bH,⟨fun j g=>absurd g (by simp),fun _ _ h=>h.elim,fun _ _ _ h=>h.elim,fun _ _ h=>h.elim⟩,fun j _ g=>absurd g (jR _),bO,bf _,fun k hk=>by
   have F:=bV.o;rcases hk with hk|hk
   .have:=bY.o k hk;have:=a6.o.size;exact⟨by omega,.inl hk⟩
   .exact⟨by omega,.inr hk.1⟩,fun _ _ h=>h.elim,.inl rfl,a6.o.mono fun k h=>h.imp id .inl⟩
 case round=>
  obtain⟨i,s,y,u,r,n,rfl,hi,z,a8,aq,D,U,aw,am,ar,an⟩:=hrel;have cD:=an.o.size;by_cases I:i<f.length
  .have ce:=bZ.o i I;have aQ:=af (xC z.o.fH z.o.rows (by omega) i I (by omega));have bs:(f.map (·.2.1))[i]? =some f[i].2.1:=by rw[gY,dw I];rfl
   have a7:Hid ((f.map (·.2.1)).take (i+1)=(f.map (·.2.1)).take i++[f[i].2.1]):=by
    show _=_;rw[List.take_add_one,bs];rfl
   have ax:=C.o.bk i (by rw[bX];exact I);rw[fJ]at ax;have Q:=af ax;have a2:Hid (∀(j:Nat) (g:j<f.length),j=i->f[j].2.1=f[i].2.1):=fun j g e=>by subst e;rfl
   have bK:Hid (∀(j:Nat) (g:j<f.length),j≠i->∀c∈f[j].2.1,∀d∈f[i].2.1,d.2.toNat≠c.2.toNat):=fun j g aE c l d hd=>C.o.apart (i:=i) (j:=j) (by rw[bX];exact I) (by rw[bX];exact g) (fun e=>aE e.symm) (by rw[fJ];exact hd) (by rw[fJ];exact l);generalize f[i].2.1=lk at*;obtain⟨-,-,V,-⟩:=z.o.cell;have cs:(i:Int)<(f.length:Int):=by omega
   clear bs ax;obtain⟨bG,b3⟩:∃bG:World,bG=wr:=⟨_,rfl⟩;subst b3
   go_wp2_with fail
   refine aQ.o.mono ?_;rintro e w3 ⟨cE,rfl,bw,G⟩;have b9:=G.size;obtain⟨b0,b1,b2,-,-,bz⟩:=KD.aC bw;subst b2;have B:=af (z.o.below G);have R:=af (a8.o.kept (S:=fun _=>False) ((au.refl _ _).below G) fun _ _ _ h=>h);have a4:Hid (au (fun k=>k=Hb\/k=Cb\/lv.ownBlock=some k) w w3):=an.o.below G;have E:Hid (∀k,s k->k<w3.heap.size/\(X k\/w.heap.size<=k)):=fun k hk=>⟨bB (aw.o k hk).1 b9,(aw.o k hk).2⟩;have bT:=af bz;clear bw G bz aQ V;by_cases br:lk=[]
   .subst br;have cf:¬(0:Int)<((([]:List eG).length:Nat):Int):=by simp
    go_wp2;go_roundw
    case rel=>exact⟨i+1,s,y,u,r,n,by go_num,by omega,B,by rw[a7.o];exact R.o.skip,fun j g aE c l=>by
      by_cases e:j=i
      .rw[a2.o j g e]at l;cases l
      .exact aq.o j g (by omega) c l,D,Nat.le_succ_of_le U.o,E,am,ar,a4⟩
    case measure=>simp[intOf];omega
   .have cx:0<lk.length:=Df.2 br;have cf:(0:Int)<((lk.length:Nat):Int):=by omega
    have aV:=af (J5 B.o b0 b1 lk i bT.o (by omega) (by have:=U.o;omega) ce Q.o.2.2 D.o (by omega) Q.o.1 Q.o.2.1 (fun k hk=>(E.o k hk).1))
    go_wp2_with fail
    refine aV.o.mono ?_;rintro e cG ⟨rfl,cj,tb,m,Fn,bj,bc,bd,J,bD,be⟩;have bS:=af bj;have bL:=af bc;have a3:=af bd;have bR:=af J;have bW:=af bD;have ao:=af be;clear bj bc bd J bD be aV;go_wp2;go_roundw
    case rel=>
     have cC:=U.o;obtain⟨J,cw⟩:=bR.o;have b6:∀j k,y j k->¬(k=Hb\/u.ownBlock=some k\/lv.ownBlock=some k):=fun j k hk h9=>by
      refine R.o.off j k hk ?_;rcases h9 with rfl|h9|h9
      .exact B.o.iT.1
      .exact B.o.iT.2.2.2.2.1 k h9
      .exact B.o.iT.2.2.2.2.2.2 k h9
     have cc:=(R.o.kept ao.o b6).step (X':=fun k=>s k\/w3.heap.size<=k/\k<m) (i:=i) (m0:=w3.heap.size) (m:=m) (CB':=(f.map (·.2.1)).take i++[lk]) (T':=yS r i tb) bL.o (by unfold rE;rw[bX];exact gK _ _) (fun j g bu=>by
       have bp:((f.map (·.2.1)).take i).length=i:=by rw[eB,bX];omega
       by_cases e:j=i
       .subst e;left;refine⟨rfl,?_⟩;rw[uT (by omega)];simp[bp]
       .right;have ct:j<i:=by rw[bq,bp]at g;simp at g;omega
        exact⟨e,by omega,p9 (by omega),fun x M=>J6 e M,rfl⟩) Ga (fun k hk=>hk) a3.o (fun j k hk=>R.o.lt j k hk) (fun k hk=>bB (E.o k hk).1 J) J
     have cb:=ao.o.size;refine⟨i+1,_,_,cj,yS r i tb,gT n lk i,by go_num,by omega,bS,by rw[a7.o];exact cc,fun j g aE c l=>?_,by rw[mi];exact D.o,Gb (by omega) (by omega),fun k hk=>?_,fun j k hk=>?_,?_,au.strip ((a4.o.mono fun k h=>.inl h).trans (ao.o.mono fun k h=>?_))⟩
     .by_cases e:j=i
      .rw[a2.o j g e]at l;rw[e];obtain⟨q,cy,cz⟩:=Q.o.2.2 c l;exact xP lk n i c l (by have:=D.o;omega)
      .rw[pR lk n i _ (fun x M=>bK.o j g e c l x M)];exact aq.o j g (by omega) c l
     .rcases hk with hk|hk
      .exact⟨bB (E.o k hk).1 cb,(E.o k hk).2⟩
      .exact⟨by omega,.inr (by omega)⟩
     .rcases hk with⟨-,hk⟩|⟨-,hk⟩
      .have:=a3.o k hk;omega
      .exact am.o j k hk
     .rcases bW.o with h9|⟨b,h9,b5⟩
      .rw[h9];exact ar.o
      .exact .inr ⟨b,h9,by omega⟩
     .rcases h with h|h|h
      .exact .inl (.inl h)
      .rcases ar.o with h9|⟨b,h9,b5⟩
       .rw[h9]at h;cases h
       .rw[h9]at h;injection h with h;exact .inr (by omega)
      .exact .inl (.inr (.inr h))
    case measure=>simp[intOf];omega
  .obtain rfl:i=f.length:=by omega
   have cr:¬(f.length:Int)<(f.length:Int):=by omega
   rw[ap.o]at C z a9;have cu:(L.length:Int)=(A.length:Int):=by rw[ap.o]
   go_wp2;go_ret;have bC:=a8.o;rw[jQ (by simp)]at bC;refine⟨rfl,s,y,Y,u,f,r,n,by rw[<-a9.o];exact z.o,by rw[bP.o,ap.o,bN.o],bC,C.o,⟨D.o,fun j g c l=>?_⟩,by have:=U.o;omega,aw.o,am.o,an.o.mono fun k h=>?_⟩
   .rw[fJ]at l;exact aq.o j (by simpa using g) (by simpa using g) c l
   .rcases h with h|h|h
    .exact .inl h
    .exact .inr (.inl h)
    .exact .inr (.inr (.inr (.inr h)))
end
end
section
open Go.RowKit Go.Maps
def pot (L:Nat):Nat->List Nat->Nat
 |_,[]=>0
 |i,s::l=>s*(L-1-i)+pot L (i+1) l
theorem zb (L:Nat):∀(i:Nat) (a b:List Nat),pot L i (a++b)=pot L i a+pot L (i+a.length) b
 |i,[],b=>by simp[pot]
 |i,s::a,b=>by
  simp only[lX,pot,zb L (i+1) a b,dY];rw[show i+1+a.length=i+(a.length+1) by omega];omega
theorem Gc (L:Nat):∀(i k:Nat),pot L i (List.replicate k 0)=0
 |_,0=>rfl
 |i,k+1=>by simp[List.replicate_succ,pot,Gc L (i+1) k]
theorem Oq (L:Nat):∀(i:Nat) (l:List Nat),pot L i l<=l.sum*(L-1)
 |_,[]=>by simp[pot]
 |i,s::l=>by
  have a:=Oq L (i+1) l;have b:=Nat.mul_le_mul_left s (show L-1-i<=L-1 by omega);simp only[pot,List.sum_cons,oU];omega
theorem Gd (L:Nat) (S:List Nat):∀(i:Nat),i<=L->i<=S.length->(∀(j:Nat) (h:j<S.length),j<i->S[j]=2^j)->2^i*(L-i)<=L+pot L 0 (S.take i)
 |0,_,_,_=>by simp
 |i+1,hi,g,h=>by
  have ih:=Gd L S i (by omega) (by omega) fun j b f=>h j b (by omega);have a:i<S.length:=by omega
  rw[dZ a,zb,eB,show min i S.length=i by omega,h i a (by omega)];simp only[pot,jU,dM];rw[oO];have d:2^i*(L-i)=2^i*(L-1-i)+2^i:=by
   rw[show L-i=(L-1-i)+1 by omega,j4,iF]
  have e:2^i*2*(L-(i+1))=2^i*(L-1-i)+2^i*(L-1-i):=by
   rw[show L-(i+1)=L-1-i by omega,Nat.mul_assoc,Nat.two_mul,j4]
  generalize 2^i*(L-1-i)=Q at*;generalize 2^i*(L-i)=R at*;generalize 2^i*2*(L-(i+1))=c at*;generalize 2^i=P at*;omega
def J7 (CB:List (List eG)) (a:Nat) (wk:Int) (m:Nat):Prop:=0<=wk/\∀L,m<2^L->wk+(pot L 0 (CB.map List.length):Nat)+(L*(CB.flatten.length-a):Nat)<=(L*m:Nat)
theorem Qm (CB:List (List eG)):CB.flatten.length=(CB.map List.length).sum:=by rw[Dg]
theorem Qn:J7 [] 0 0 0:=⟨uw _,fun L _=>by simp[pot]⟩
theorem J7.bound {CB:List (List eG)} {a m:Nat} {wk:Int} (h:J7 CB a wk m) (b:m<=5000):wk<=65000:=by
 have:=h.2 13 (by omega);omega
theorem J7.add {CB:List (List eG)} {a m:Nat} {wk:Int} (h:J7 CB a wk m) (z:a<=CB.flatten.length) (y:CB.flatten.length<=m) (i:Nat) (hi:i<=CB.length) (s:∀(j:Nat) (b:j<CB.length),CB[j].length=0\/CB[j].length=2^j) (r:∀j (b:j<CB.length),j<i->CB[j]≠[]) (f:∀h:i<CB.length,CB[i]=[]) (x:eG):
  J7 (jO CB i x) (a+1) (wk+((eF CB i).length+1:Nat)) (m+1):=by
 have g:∀j (b:j<CB.length),j<i->CB[j].length=2^j:=fun j b d=>by
  rcases s j b with h1|h1
  .exact absurd (gJ h1) (r j b d)
  .exact h1
 have e:=xO CB i hi g;have hP:=(r9 CB i x f).length_eq;rw[dY]at hP;refine⟨by have:=h.1;omega,fun L w=>?_⟩;have h1:=h.2 L (by omega);have v:(eF CB i).length<=CB.flatten.length:=by
  rw[(jg CB i).length_eq];have c:(CB.take i).flatten++(CB.drop i).flatten=CB.flatten:=by rw[<-kD,ji]
  have:=congrArg List.length c;rw[bq]at this;omega
 have A:i<L:=by
  rcases Nat.lt_or_ge i L with h9|h9
  .exact h9
  .have:=Da (n:=2) (by decide) h9;omega
 have u:=Gd L (CB.map List.length) i (by omega) (by simpa using hi) fun j b d=>by rw[fJ];exact g j (by simpa using b) d
 have l:(jO CB i x).map List.length=List.replicate i 0++2^i::(CB.map List.length).drop (i+1):=by
  unfold jO;rw[bS,Dj,lC,wZ];simp[e]
 have o:pot L 0 (CB.map List.length)=pot L 0 ((CB.map List.length).take i)+pot L (i+1) ((CB.map List.length).drop (i+1)):=by
  have p:CB.map List.length=(CB.map List.length).take i++(CB.map List.length).drop i:=(ji _ _).symm;have q:((CB.map List.length).take i).length=i:=by rw[eB,bX];omega
  conv=>lhs;rw[p,zb,q,jU]
  by_cases k:i<CB.length
  .rw[kZ (by simpa using k)];simp[pot,f k]
  .rw[nL (by simp;omega),nL (by simp;omega)];rfl
 have c:pot L 0 ((jO CB i x).map List.length)=2^i*(L-1-i)+pot L (i+1) ((CB.map List.length).drop (i+1)):=by
  rw[l,zb,Gc,gX];simp[pot]
 have t:2^i*(L-i)=2^i*(L-1-i)+2^i:=by
  rw[show L-i=(L-1-i)+1 by omega,j4,iF]
 rw[c,e,hP,show CB.flatten.length+1-(a+1)=CB.flatten.length-a by omega,j4];rw[o]at h1;omega
theorem J7.drop {CB:List (List eG)} {a m:Nat} {wk:Int} (h:J7 CB (a+1) wk m) (d:a+1<=CB.flatten.length):J7 CB a wk (m+1):=by
 refine⟨h.1,fun L c=>?_⟩;have b:=h.2 L (by omega);rw[show CB.flatten.length-a=(CB.flatten.length-(a+1))+1 by omega,j4,j4];omega
theorem J7.anew {CB CB':List (List eG)} {a m:Nat} {wk:Int} (h:J7 CB a wk m) (j:2*a<=CB.flatten.length) (c:CB'.flatten.length=a):J7 CB' a (wk+a) m:=by
 refine⟨by have:=h.1;omega,fun L b=>?_⟩;have g:=h.2 L b;have d:=Oq L 0 (CB'.map List.length);rw[<-Qm,c]at d;rw[c,kE,Nat.mul_zero];have i:L*a<=L*(CB.flatten.length-a):=Nat.mul_le_mul_left L (by omega);rcases qf L with h0|h0
 .subst h0;simp at b;subst b;simp at*;have:=h.1;have f:=h.2 1 (by decide);simp at f;omega
 .have e:a*(L-1)+a=L*a:=by
   rw[xh L a]
   conv=>rhs;rw[show L=(L-1)+1 by omega,j4,iF]
  omega
end
section
open Go.RowKit Go.Sort Go.Shelf Go.Lib Go.Maps
attribute [local irreducible] wpQuiet
attribute [local go_sem] Oper.fo
def jM (w:World) (Hb:Nat) (G:Nat->Prop) (m:Nat) (A:List eG) (N wk:Int):Prop:=
 ∃(X:Nat->Prop) (F:Nat->Nat->Prop) (Cb mb:Nat) (cv tv av lv:Value) (ch:List yZ) (T:List (Option Nat)) (al:List Bool) (eP:List Int),iN w X Hb Cb mb cv tv av lv ch T al eP A N wk/\nC (ch.map (·.2.1)) al A N/\Sz (ch.map (·.2.1)) al eP/\mX w F X (ch.map (·.2.1)) T al/\
  N<=2*A.length/\T.length<=14/\(∀k,X k->k<w.heap.size/\G k)/\(∀i k,F i k->G k)/\al.length<=m/\J7 (ch.map (·.2.1)) A.length wk m
theorem LM:∀args w,(callFunc 139 args).run prog w=.ok (.enter 139 args) w:=cK func139 (by kernel_rfl) rfl
theorem LP:∀args w,(callFunc 53 args).run prog w=.ok (.enter 53 args) w:=cK func53 (by kernel_rfl) rfl
section
variable {w w':World} {X S G:Nat->Prop} {F:Nat->Nat->Prop} {Hb Cb mb m:Nat} {cv tv av lv:Value} {ch:List yZ} {T:List (Option Nat)} {al:List Bool} {eP:List Int} {A A':List eG} {N wk:Int}
theorem iN.Ot (h:iN w X Hb Cb mb cv tv av lv ch T al eP A N wk) (p:w.grownBy w' (some mb)) (q:kN w' mb A'):iN w' X Hb Cb mb cv tv av lv ch T al eP A' N wk:=by
 have K:au (fun k=>k=mb) w w':=(au.refl (fun k=>k=mb) w).grown p fun k e=>.inl (by injection e with e;exact e.symm);have c:∀{b:Nat} {cs:Array Value} {g:TypeId} {fr:Nat×Nat},w.heap[b]? =some (Obj.cells cs g fr)->w'.heap[b]? =w.heap[b]? :=fun{b cs g fr} a=>K.block b (aZ.1 a).1 fun l=>by
  obtain⟨D,⟨s,r,m,-⟩,-⟩:=h.map;rw[l,m]at a;cases a
 have d:∀{e:TypeId} {sz n:Nat} {v:Value} {xs:List Value},w.ownsRow 0 e sz v n xs->w'.ownsRow 0 e sz v n xs:=fun{e sz n v xs} f=>aV f fun t j=>by
  have⟨i,o⟩:=dH f j;exact c o
 exact⟨(c h.blk).trans h.blk,⟨bf _,h.fH.ds,(c h.fH.blk).trans h.fH.blk,d h.fH.row⟩,h.rows.kept fun b i fr a=>c a,d h.jh,d h.dP,d h.mD,q,h.iT,h.OU⟩
theorem iN.TC (h:iN w X Hb Cb mb cv tv av lv ch T al eP A N wk) {CB:List (List eG)} (ht:mX w F X CB T al) (j k:Nat) (a:F j k):¬(k=Hb\/k=Cb\/k=mb\/cv.ownBlock=some k\/tv.ownBlock=some k\/av.ownBlock=some k\/lv.ownBlock=some k):=fun h9=>by
 refine ht.off j k a ?_;rcases h9 with rfl|rfl|rfl|h9|h9|h9|h9
 .exact h.iT.1
 .exact h.iT.2.1
 .exact h.iT.2.2.1
 .exact h.iT.2.2.2.1 k h9
 .exact h.iT.2.2.2.2.1 k h9
 .exact h.iT.2.2.2.2.2.1 k h9
 .exact h.iT.2.2.2.2.2.2 k h9
def UN (a:Nat) (N N':Int) (n:Nat):Prop:=(2*(a:Int)<N/\n=a/\N'=a)\/(N<=2*(a:Int)/\n=0/\N'=N)
def TD (w:World) (Hb:Nat) (G:Nat->Prop) (m:Nat) (A:List eG) (N wk:Int) (p:Pt) (e:Ending) (w':World):Prop:=
 ∃(n:Nat) (N':Int),e=.returned (.tuple #[aa n,.bool true])/\jM w' Hb (fun k=>G k\/w.heap.size<=k) (m+1) (A.filter fun d=>decide (d.1≠p)) N' (wk+n)/\au G w w'/\UN (A.filter fun d=>decide (d.1≠p)).length N N' n
theorem Qo (h:jM w Hb G m A N wk) (dc:m<5000) (c:eG) (L:c∈A) (x y d:Int) (z:c.1=(x,y,d)):
  aH 59 #[ah Hb,iD x y d] w (TD w Hb G m A N wk (x,y,d)):=by
 have⟨X,F,Cb,mb,cv,tv,av,lv,ch,T,al,eP,a2,H,bw,ht,cx,cg,cn,hF,c1,cC⟩:=h;have db:=H.levels;have aS:=(bK.1 (H.live.mem_iff.1 L)).1;have⟨k,aU,da⟩:=H.num aS;obtain⟨cQ,-⟩:∃q,q=(c.1,c.2):=⟨_,rfl⟩;have a4:Gy (x,y,d):=by rw[<-z];exact H.good c aS
 have a0:(A.map (·.1)).Nodup:=Ed H.keys;have⟨bp,bt,br⟩:=H.dead cx L;rw[z,aU,gN]at bp bt;rw[z]at br;have⟨l,ct,ax⟩:=oH.1 aS;obtain⟨i,hi,rfl⟩:=jk ct;have bs:=bw.lvl i hi c ax;rw[aU,gN]at bs;have⟨tb,n0,ck,cy,ca⟩:=ht.tr i hi (List.ne_nil_of_mem ax);have cr:(x,y,d)∈rE al (ch.map (·.2.1))[i]:=dI.2 ⟨c,bK.2 ⟨ax,(bK.1 (H.live.mem_iff.1 L)).2⟩,z⟩;have bV:Hid (∀W,Below w.heap.size w W->(Instr.lookup 188 (.map (some mb)) (iD x y d) true).run prog W=.ok (.tuple #[aa k,.bool true]) W):=fun W f=>by
  rcases(a2.below f).map.look a4 a0 with⟨aP,Y,J,S⟩|⟨J,-⟩
  .have U:A.Pairwise fun p q=>p.1≠q.1:=dE.1 a0;have aR:aP=c:=by
    rcases fE U Y L with h1|h1|h1
    .exact h1
    .exact absurd (J.trans z.symm) h1
    .exact absurd (z.trans J.symm) h1
   rw[aR,aU]at S;exact S
  .exact absurd (dI.2 ⟨c,L,z⟩) J
 have bR:Hid ((x,y,d)∈A.map (·.1)):=dI.2 ⟨c,L,z⟩;have bb:=af a0;have s:=af a2;have O:=af ht;have u:=af H;have aI:=af bw;have r:=af cn;have a9:=af hF;have ao:=af cC;have a8:=af bp;have an:=af br;have bL:Hid (c∈(ch.map (·.2.1))[i]):=ax;have a7:=af z;have bJ:=af L;have ba:=af bt;have bN:=af cr;have bI:=af ca;have aG:=af ck;have bQ:=af bs;have a5:Below w.heap.size w (w.alloc (.cells #[aa x,aa y,ai d] 29)):=(aB _ _).alloc (ay _) _;have R:=af (di w (.cells #[aa x,aa y,ai d] 29));have aE:=af a5;have aj:=af (a2.below a5);have bE:=af (za aj.o);go_enter func59,ntmps59
 go_wp2_with (go_at_call 134;refine bE.o.mono ?_;rintro e w1 ⟨rfl,bl⟩;have b3:=bl.symm;clear bl;subst b3)
 generalize w.alloc (.cells #[aa x,aa y,ai d] 29)=w1 at*;have bi:w1.cell? (ae w.heap.size 0)=some (aa x):=by simp only[World.cell?,R.o];rfl
 have cG:=ag bi;have J:w1.cell? (ae w.heap.size 1)=some (aa y):=by simp only[World.cell?,R.o];rfl
 have cH:=ag J;have S:w1.cell? (ae w.heap.size 2)=some (ai d):=by simp only[World.cell?,R.o];rfl
 have cF:=ag S;have bm:=ag (w:=w1) aj.o.cell.2.2.2.2.2.2;have lk:∀p:aT w1,(Instr.lookup 188 (.map (some mb)) (iD x y d) true).run prog p.W=.ok (.tuple #[aa k,.bool true]) p.W:=fun p=>bV.o p.W (aE.o.trans (p.h.mono aE.o.size));refine kW [(0,false),(1,false),(2,false),(3,true),(4,true),(5,true),(6,false),(7,false),(8,false),(9,false),(10,false)] 0 ?_;simp only[bn,aX,aY,aW,aN,aM,aO]
 repeat(refine aD (fun K g=>?_);go_simp;first|(refine g _ ?_;clear g K)|(apply Exists.intro;refine⟨fun _=>?_,g _ ?_⟩;rfl;clear g K))
 refine aJ ?_;refine kI (by kernel_rfl) ?_
 go_wp2_with fail
 have cG:=ag (w:=w1.drew) bi;have cH:=ag (w:=w1.drew) J;have cF:=ag (w:=w1.drew) S;have bm:=ag (w:=w1.drew) aj.o.cell.2.2.2.2.2.2;refine ak (fun W=>∃p:aT w1.drew,W=p.W) [5] [(0,false),(1,false),(2,false),(3,true),(4,true)] ⟨⟨_,(aB _ _).drew⟩,rfl⟩ 1 ?_;simp only[bn,aX,aY,aW,aN,aM,aO]
 repeat(refine aD (fun K g=>?_);go_simp;first|(refine g _ ?_;clear g K)|(apply Exists.intro;refine⟨fun _=>?_,g _ ?_⟩;rfl;clear g K))
 refine aJ ?_;refine aF [5] _ _ _ (by kernel_rfl) ?_;simp only[pick,aX,aY,aW,aN,aM];have a6:=af ((aj.o.below (aB _ _).drew).below (aB _ _).drew);have⟨D,cb,cc⟩:=a6.o.map;refine wpList_delete_own _ rfl _ _ _ _ rfl _ (Keyed.of_law Fq) underlying188 (plainElem prog 3) mb A.length D rfl cb (iD x y d) (kp (x,y,d)) rfl (xI a4) ?_;intro ac cB bv;have b7:(x,y,d)∈A.map (·.1):=bR.o;have ce:=af (kN.fit cB (cc.del a4 bb.o b7));have Q:=af (a6.o.Ot bv.grown ce.o);have bq:=bv.grown;have bO:Hid (au (fun k=>k=mb) w ac):=(((au.refl (fun k=>k=mb) w).below aE.o).drew.drew).grown bq fun k e=>.inl (by injection e with e;exact e.symm);have bY:Hid (ac.heap[w.heap.size]? =some (Obj.cells #[aa x,aa y,ai d] 29 (0,0))):=(bq.block _ (aZ.1 R.o).1 (fun e=>by injection e with e;have:=s.o.map.lt;omega)).trans R.o;obtain⟨v,cZ,b2,-,c4,-,-⟩:=aQ Q.o.dP (by omega);subst b2;have cM:=Q.o.dP.cellAt k (by omega);rw[dw (by rw[bX];omega)]at cM;have cR:=Q.o.dP.frozenAt k;obtain⟨-,-,-,-,cP,-,-⟩:=Q.o.cell;have c9:(k:Int)<(al.length:Int):=by omega
 have aC:=af (Q.o.UA k false);have bP:Hid (au (fun k=>k=mb\/k=v) w (ac.setCell (ae v k) (.bool false))):=(bO.o.mono fun k h=>.inl h).set _ (.inl (.inr rfl));have bf:Hid ((ac.setCell (ae v k) (.bool false)).heap[w.heap.size]? =some (Obj.cells #[aa x,aa y,ai d] 29 (0,0))):=(az (a:=(ae v k)) (fun e:v=w.heap.size=>by have:=(s.o.dP.lt v rfl).2;omega)).trans bY.o
 go_wp2_with fail
 generalize ac.setCell (ae v k) (.bool false)=w6 at*;have c3:(A.filter fun q=>decide (q.1≠(x,y,d))).length<=A.length:=gK _ _;have c0:A.length<=5000:=by have:=u.o.Ie.1;have:=u.o.levels.2.1;omega
 obtain⟨-,-,bZ,-,-,-,b0⟩:=aC.o.cell;have b4:=ag bZ;have bm:=ag b0;have bD:=af (MF (aC.o.below (aB _ _).drew).fH);refine ak (fun W=>∃p:aT w6,W=p.W) [9,10,11] [(0,false),(1,false),(2,false),(3,true),(5,false),(6,false),(7,false),(8,true)] ⟨⟨_,(aB _ _).drew⟩,rfl⟩ 4 ?_;simp only[bn,aX,aY,aW,aN,aM,aO]
 repeat(refine aD (fun K g=>?_);go_simp;first|(refine g _ ?_;clear g K)|(apply Exists.intro;refine⟨fun _=>?_,g _ ?_⟩;rfl;clear g K))
 refine aJ ?_;refine aA 4 rfl fun K g=>?_;refine bg LM rfl _ _ rfl (vals:=#[ah Cb]) rfl bD.o ?_;rintro e n ⟨rfl,cp⟩;have ad:Below w6.heap.size w6 n:=(aB _ _).drew.trans cp;refine⟨_,rfl,?_⟩;refine g _ _ (fun _ _=>⟨⟨_,ad⟩,rfl⟩) ?_;have B:=af (aC.o.below ad);have I:Hid (au (fun k=>k=mb\/k=v) w n):=bP.o.below ad;have aK:Hid (n.heap[w.heap.size]? =some (Obj.cells #[aa x,aa y,ai d] 29 (0,0))):=(aL ad bf.o).trans bf.o;have dg:=B.o.map.size;generalize b8:(A.filter fun q=>decide (q.1≠(x,y,d)))=t at*;have am:=af b8;have c2:(-9223372036854775808:Int)<=2*(t.length:Int)/\2*(t.length:Int)<=9223372036854775807:=by omega
 have df:IntKind.i64.wrap (2*(t.length:Int))=2*(t.length:Int):=IntWalk.i64_in _ (by omega);refine aF [9,10,11] _ _ _ (by kernel_rfl) ?_;simp only[pick,aX,aY,aW,aN,aM];by_cases cw:2*(t.length:Int)<N
 .have aw:∀b,X b->b<n.heap.size:=fun b f=>bB (r.o b f).1 I.o.size;have bA:=af (Ql B.o a8.o (by have:=aI.o.Ic;simpa using this) aw)
  go_wp2_with fail
  refine bA.o.mono ?_;rintro e P ⟨rfl,X',bF,b1,tv',bh,T',lev',cf,-,cj,cm,cl,ci,co,cd,ar⟩;have bc:=af cf;have bT:=af cj;have bd:=af cm;have bU:=af cl;have be:=af co;have bM:=af cd;have M:=af ar;have bS:=af ci;go_wp2;go_ret2;have Z:=ao.o;rw[<-an.o]at Z;have dd:=u.o.stored;have de:=bd.o.stored;have aV:t.length+1<=(ch.map (·.2.1)).flatten.length:=by have:=u.o.Ie.1;have:=an.o;omega
  have a1:=(Z.drop aV).anew (CB':=bh.map (·.2.1)) (by omega) (by omega);have cD:wrap64 (wk+(t.length:Int))=wk+(t.length:Int):=IntWalk.wrap64_in _ (by have h1:=ao.o.bound (by omega);have C:=ao.o.1;omega);rw[cD]at bc;have bu:=I.o.size;have a3:=M.o.size;refine⟨t.length,t.length,rfl,?_,?_,by rw[am.o];exact .inl ⟨cw,rfl,rfl⟩⟩
  .rw[am.o];exact⟨X',bF,Cb,mb,b1,tv',_,lv,bh,T',_,lev',bc.o,bd.o,bU.o,bT.o,by omega,bS.o,fun b f=>⟨(be.o b f).1,(be.o b f).2.imp (fun h=>(r.o b h).2) fun h=>by omega⟩,fun j b f=>.inr (by have:=bM.o j b f;omega),by simp;omega,a1⟩
  .refine au.trans (I.o.mono ?_) (M.o.mono ?_)
   .rintro b (rfl|rfl)
    .exact(r.o _ s.o.iT.2.2.1).2
    .exact(r.o _ (s.o.iT.2.2.2.2.2.1 _ rfl)).2
   .rintro b (rfl|rfl|h|h|h)
    .exact(r.o _ s.o.iT.1).2
    .exact(r.o _ s.o.iT.2.1).2
    .exact(r.o _ (s.o.iT.2.2.2.1 _ h)).2
    .exact(r.o _ (s.o.iT.2.2.2.2.1 _ h)).2
    .exact(r.o _ (s.o.iT.2.2.2.2.2.2 _ h)).2
 .go_wp2_with fail
  have cu:=aI.o.Ic;have c7:=(fC.1 aG.o).1;obtain⟨gl,lc,bj,-,c5,-,-⟩:=aQ B.o.mD (by omega);obtain⟨b5,tc,bk,-,c6,-,-⟩:=aQ B.o.jh (by omega);have cN:n.cell? (ae gl k)=some (aa i):=by
   have h1:=B.o.mD;rw[bj]at h1;have C:=h1.cellAt k (by omega);rw[gY,bQ.o]at C;exact C
  have cO:n.cell? (ae b5 i)=some (ah tb):=by
   have h1:=B.o.jh;rw[bk]at h1;have C:=h1.cellAt i (by omega);rw[gY,aG.o]at C;exact C
  obtain⟨-,d1,-,d3,-,d5,-⟩:=B.o.cell;rw[bk]at d3;rw[bj]at d5;have c8:(i:Int)<(T.length:Int):=by omega
  have cI:n.cell? (ae w.heap.size 0)=some (aa x):=by simp only[World.cell?,aK.o];rfl
  have cJ:n.cell? (ae w.heap.size 1)=some (aa y):=by simp only[World.cell?,aK.o];rfl
  have cK:n.cell? (ae w.heap.size 2)=some (ai d):=by simp only[World.cell?,aK.o];rfl
  have cS:=ag cI;have cT:=ag cJ;have b4:=ag cK;have cU:=ag d1;have cV:=ag d3;have cW:=ag d5;have cX:=ag cN;have cY:=ag cO;have bo:∀j b,F j b->¬(b=mb\/b=v):=fun j b f b6=>s.o.TC O.o j b f (b6.elim (fun h=>.inr (.inr (.inl h))) fun h=>.inr (.inr (.inr (.inr (.inr (.inl (by rw[h];rfl)))))));have bG:=af ((bI.o.kept I.o (bo i)).below (aB _ _).drew);have aq:=af ((O.o.kept I.o bo));have bC:=af (Tw bG.o (x,y,d) bN.o);have bu:=I.o.size;refine ak (fun W=>∃p:aT n,W=p.W) [18] [(0,false),(1,false),(2,false),(3,true),(4,false),(5,false),(6,false),(7,true),(8,false),(9,false),(10,false),(11,true),(12,false),(13,false),(14,true),(15,false),(16,true),(17,true)] ⟨⟨_,(aB _ _).drew⟩,rfl⟩ 1 ?_;simp only[bn,aX,aY,aW,aN,aM,aO]
  repeat(refine aD (fun K g=>?_);go_simp;first|(refine g _ ?_;clear g K)|(apply Exists.intro;refine⟨fun _=>?_,g _ ?_⟩;rfl;clear g K))
  refine aJ ?_;refine aA 18 rfl fun K g=>?_;refine Bh LP rfl _ _ _ rfl rfl (vals:=#[ah tb,iD x y d]) rfl bC.o ?_;rintro e P ⟨rfl,b9,ar⟩;refine⟨_,rfl,?_⟩;refine g _ _ (fun _ h=>absurd (by decide) h) ?_;have bH:=af b9;have M:Hid (au (F i) n P):=((au.refl _ n).drew).trans ar;have a3:=ar.size;refine kI (by kernel_rfl) ?_
  go_wp2_with fail
  go_ret2;have Z:=ao.o;rw[<-an.o]at Z;have aV:t.length+1<=(ch.map (·.2.1)).flatten.length:=by have:=u.o.Ie.1;have:=an.o;omega
  have a1:=Z.drop aV;have aw:∀b,X b->b<n.heap.size:=fun b f=>bB (r.o b f).1 bu;have cA:∀(j:Nat) (E:j<(ch.map (·.2.1)).length),j≠i->rE (al.set k false) (ch.map (·.2.1))[j]=rE al (ch.map (·.2.1))[j]:=fun j E cs=>by
   rw[ba.o _ fun q ab=>u.o.inl E ab];refine mH.2 fun q ab=>?_;simp only[bW];rintro rfl;have⟨aP,Y,e⟩:=dI.1 ab;have cq:=u.o.live.mem_iff.2 (bK.2 ⟨u.o.inl E (bK.1 Y).1,(bK.1 Y).2⟩);have U:A.Pairwise fun p q=>p.1≠q.1:=dE.1 bb.o;have aR:aP=c:=by
    rcases fE U cq bJ.o with h1|h1|h1
    .exact h1
    .exact absurd (e.trans a7.o.symm) h1
    .exact absurd (a7.o.trans e.symm) h1
   subst aR;exact u.o.apart E hi cs (bK.1 Y).1 bL.o rfl
  refine⟨0,N,rfl,?_,?_,by rw[am.o];exact .inr ⟨by omega,rfl,rfl⟩⟩
  .rw[am.o,show wk+((0:Nat):Int)=wk by omega];refine⟨X,fun j b=>F j b\/(j=i/\n.heap.size<=b/\b<P.heap.size),Cb,mb,cv,tv,_,lv,ch,T,_,eP,B.o.kept M.o (fun b f h=>O.o.off i b h f),a8.o,⟨by simpa using cu,aI.o.lvl⟩,⟨fun j E cz=>?_,?_,?_,?_⟩,by omega,cg,fun b f=>⟨bB (aw b f) a3,.inl (r.o b f).2⟩,?_,by simp;omega,a1⟩
   .by_cases e:j=i
    .subst e;refine⟨tb,n0,aG.o,cy,?_⟩;rw[ba.o _ fun q ab=>u.o.inl E ab];have:(fun b=>F j b\/(j=j/\n.heap.size<=b/\b<P.heap.size))=fun b=>F j b\/n.drew.heap.size<=b/\b<P.heap.size:=by funext b;simp
     rw[this];exact bH.o
    .obtain⟨cL,cE,h1,C,U⟩:=aq.o.tr j E cz;refine⟨cL,cE,h1,C,?_⟩;have:(fun b=>F j b\/(j=i/\n.heap.size<=b/\b<P.heap.size))=F j:=by funext b;simp[e]
     rw[this,cA j E e];exact U.kept M.o fun b f V=>e (O.o.ap j i b f V)
   .rintro j b (f|⟨-,f,-⟩) bx
    .exact O.o.off j b f bx
    .have:=aw b bx;omega
   .rintro j bz b (f|⟨rfl,f,-⟩) (V|⟨rfl,V,-⟩)
    .exact O.o.ap j bz b f V
    .have:=aq.o.lt j b f;omega
    .have:=aq.o.lt bz b V;omega
    .rfl
   .rintro j b (f|⟨-,-,f⟩)
    .exact bB (aq.o.lt j b f) a3
    .exact f
   .rintro j b (f|⟨-,f,-⟩)
    .exact .inl (a9.o j b f)
    .exact .inr (by omega)
  .refine au.trans (I.o.mono ?_) (M.o.mono fun b f=>a9.o i b f);rintro b (rfl|rfl)
   .exact(r.o _ s.o.iT.2.2.1).2
   .exact(r.o _ (s.o.iT.2.2.2.2.2.1 _ rfl)).2
end
theorem LQ:∀args w,(callFunc 135 args).run prog w=.ok (.enter 135 args) w:=cK func135 (by kernel_rfl) rfl
def uQ (T:List (Option Nat)) (n:Nat):List (Option Nat):=List.replicate n none++T.drop n
theorem Bj {T:List (Option Nat)} {n:Nat} (h:n<=T.length):(uQ T n).length=T.length:=by simp[uQ];omega
theorem LU {T:List (Option Nat)}:uQ T 0=T:=by simp[uQ]
theorem Ou {T:List (Option Nat)} {n:Nat} (h:n<T.length):(uQ T n).set n none=uQ T (n+1):=by
 unfold uQ;rw[sK _ _ (by simp),gX,kE,kZ h,nN,qD,dW];rfl
theorem Ov {T:List (Option Nat)} {n j:Nat} (h:n<=j):(uQ T n)[j]? =T[j]? :=by
 unfold uQ;rw[mG (by simpa using h),gX,Dk,show n+(j-n)=j by omega]
section
variable {w w':World} {X S G:Nat->Prop} {F:Nat->Nat->Prop} {Hb Cb mb m:Nat} {cv tv av lv:Value} {ch:List yZ} {T:List (Option Nat)} {al al':List Bool} {eP lev':List Int} {A A':List eG} {N wk:Int}
theorem yL {CB:List (List eG)} (h:nC CB al A N):CB.flatten.length<=al.length:=by
 have d:(CB.flatten.map fun c=>c.2.toNat).Nodup:=by
  refine dE.2 ((dE.1 h.Rw).imp_of_mem ?_);intro a b g j i f;exact i (by rw[h.one g j f])
 have e:=vU d (n:=al.length) (fun k m=>by
  obtain⟨c,l,rfl⟩:=dI.1 m;have⟨q,o,p⟩:=h.num l;omega)
 rwa [bX]at e
theorem iN.R9 (h:iN w X Hb Cb mb cv tv av lv ch T al eP A N wk) {i j:Value} (K:au (fun k=>k=Hb\/av.ownBlock=some k\/lv.ownBlock=some k) w w') (u:w'.heap[Hb]? =some (Obj.cells (uP Cb mb tv i j) qw (0,0))) (t:w'.ownsRow 0 4 1 i al'.length (al'.map Value.bool)) (y:w'.ownsRow 0 3 1 j lev'.length (lev'.map (Value.int .i64))):
  iN w' (fun k=>X k\/i.ownBlock=some k\/j.ownBlock=some k) Hb Cb mb cv tv i j ch T al' lev' A N wk:=by
 have p:∀{b:Nat} {cs:Array Value} {g:TypeId} {fr:Nat×Nat},w.heap[b]? =some (Obj.cells cs g fr)->g≠qw->g≠4->g≠3->w'.heap[b]? =w.heap[b]? :=fun{b cs g fr} c l m o=>K.block b (aZ.1 c).1 fun h9=>by
  rcases h9 with rfl|h9|h9
  .exact dU c h.blk l rfl
  .obtain⟨f,d⟩:=dH h.dP h9;exact dU c d m rfl
  .obtain⟨f,d⟩:=dH h.mD h9;exact dU c d o rfl
 have r:∀{e:TypeId} {sz n:Nat} {v:Value} {xs:List Value},w.ownsRow 0 e sz v n xs->e≠qw->e≠4->e≠3->w'.ownsRow 0 e sz v n xs:=fun{e sz n v xs} q l m o=>aV q fun F s=>by
  have⟨f,d⟩:=dH q s;exact p d l m o
 refine⟨u,⟨bf _,h.fH.ds,(p h.fH.blk (by decide) (by decide) (by decide)).trans h.fH.blk,r h.fH.row (by decide) (by decide) (by decide)⟩,h.rows.kept fun b f fr c=>p c (by decide) (by decide) (by decide),r h.jh (by decide) (by decide) (by decide),t,y,h.map.same ?_,⟨.inl h.iT.1,.inl h.iT.2.1,.inl h.iT.2.2.1,fun k e=>.inl (h.iT.2.2.2.1 k e),fun k e=>.inl (h.iT.2.2.2.2.1 k e),fun k e=>.inr (.inl e),fun k e=>.inr (.inr e)⟩,fun x B z a e=>.inl (h.OU x B z a e)⟩;refine K.block _ h.map.lt fun h9=>?_;obtain⟨D,⟨E,C,c,-⟩,-⟩:=h.map;rcases h9 with e|e|e
 .rw[e,h.blk]at c;cases c
 .obtain⟨f,d⟩:=dH h.dP e;rw[d]at c;cases c
 .obtain⟨f,d⟩:=dH h.mD e;rw[d]at c;cases c
def Mo (N:Int) (n:Nat):Prop:=∃i q:Nat,n=2^i/\N+1=((2^i+2^(i+1)*q:Nat):Int)
theorem Gf {d:Nat}:∀{L:List Nat},(∀x∈L,d∣x)->d∣L.sum
 |[],_=>⟨0,rfl⟩
 |x::L,h=>by
  rw[List.sum_cons];exact Nat.dvd_add (h x mZ) (Gf fun y a=>h y (kC _ a))
theorem nC.U0 {CB:List (List eG)} (h:nC CB al A N) (i:Nat) (hi:i<=CB.length) (n:∀j (a:j<CB.length),j<i->CB[j]≠[]) (g:∀h:i<CB.length,CB[i]=[]):Mo N ((eF CB i).length+1):=by
 have f:=xO CB i hi fun j a k=>(h.size j a).elim (fun e=>absurd (gJ e) (n j a k)) id;have b:(CB.take i).flatten++(CB.drop i).flatten=CB.flatten:=by rw[<-kD,ji]
 have c:=congrArg List.length b;rw[bq,<-(jg CB i).length_eq]at c;have hd:2^(i+1)∣(CB.drop i).flatten.length:=by
  rw[Dg];refine Gf fun x p=>?_;obtain⟨l,m,rfl⟩:=dI.1 p;obtain⟨j,a,rfl⟩:=jk m;rw[kS]at a;rw[List.getElem_drop];by_cases r:j=0
  .subst r;have d:=g (by omega);simp only[dM];rw[d];exact⟨0,rfl⟩
  .rcases h.size (i+j) (by omega)with e|e
   .rw[e];exact⟨0,rfl⟩
   .rw[e];exact Nat.pow_dvd_pow 2 (by omega)
 have⟨q,s⟩:=hd;have o:=h.stored;refine⟨i,q,f,?_⟩;rw[o];omega
def TE (w:World) (Hb:Nat) (G:Nat->Prop) (m:Nat) (A:List eG) (N wk:Int) (p:Pt) (e:Ending) (w':World):Prop:=
 ∃(n:Nat) (q:Int),Mo N n/\e=.returned (.tuple #[.int .i64 n,.bool true])/\jM w' Hb (fun k=>G k\/w.heap.size<=k) (m+1) (A++[(p,q)]) (N+1) (wk+n)/\au G w w'
theorem Sa (h:jM w Hb G m A N wk) (el:m<5000) (x y d:Int) (a6:Gy (x,y,d)) (bL:d∉ids (A.map (·.1))):
  Calls prog 57 #[.pointer (some ⟨Hb,0,none⟩),iD x y d] w (TE w Hb G m A N wk (x,y,d)):=by
 obtain⟨X,F,Cb,mb,cv,tv,av,lv,ch,T,al,eP,a5,ab,cX,ht,dU,dK,cz,hF,dN,cS⟩:=h;have ax:=ab.levels;have cO:(A.map (·.1)).Nodup:=Ed ab.keys;have bM:(x,y,d)∉A.map (·.1):=fun h=>bL (dI.2 ⟨_,h,rfl⟩);have cc:Hid (∀W,Below w.heap.size w W->(Instr.lookup 188 (.map (some mb)) (iD x y d) true).run prog W=.ok (.tuple #[.int .i64 0,.bool false]) W):=fun W aq=>by
  rcases(a5.below aq).map.look a6 cO with⟨dC,dR,ao,-⟩|⟨-,t⟩
  .exact absurd (dI.2 ⟨dC,dR,ao⟩) bM
  .exact t
 have u:=af a5;have bo:=af ht;have L:=af ab;have bp:=af cX;have ai:=af cz;have dh:=af hF;have b5:=af cS;have dp:=af bL;have dn:=af bM;have ba:Below w.heap.size w (w.alloc (.cells #[.int .i64 x,.int .i64 y,.int .u32 d] 29)):=(aB _ _).alloc (ay _) _;have am:=af (di w (.cells #[.int .i64 x,.int .i64 y,.int .u32 d] 29));have be:=af ba;have bb:=af (a5.below ba);have da:=af (za bb.o);have ec:0<=N/\N<=5000:=by have:=ab.stored;have:=ax.2.1;omega
 have ee:ch.length<=13:=by have:=ax.1;simpa using this
 have eb:A.length<=5000:=by have:=ab.Ie.1;have:=ax.2.1;omega
 have ef:(ch.map (·.2.1)).flatten.length<=5000:=ax.2.1;clear a5 ab cX ht cz hF cS bL bM ba cO ax;go_enter func57,ntmps57
 go_wp2_with (go_at_call 134;refine da.o.mono ?_;rintro e w1 ⟨rfl,ce⟩;have dD:=ce.symm;clear ce;subst dD)
 generalize w.alloc (.cells #[.int .i64 x,.int .i64 y,.int .u32 d] 29)=w1 at*;have bu:w1.cell? ⟨w.heap.size,0,none⟩=some (.int .i64 x):=by simp only[World.cell?,am.o];rfl
 have ao:w1.cell? ⟨w.heap.size,1,none⟩=some (.int .i64 y):=by simp only[World.cell?,am.o];rfl
 have t:w1.cell? ⟨w.heap.size,2,none⟩=some (.int .u32 d):=by simp only[World.cell?,am.o];rfl
 have aL:=ag bu;have aP:=ag ao;have aH:=ag t;have bz:=ag (w:=w1) bb.o.cell.2.2.2.2.2.2;have lk:∀p:aT w1,(Instr.lookup 188 (.map (some mb)) (iD x y d) true).run prog p.W=.ok (.tuple #[.int .i64 0,.bool false]) p.W:=fun p=>cc.o p.W (be.o.trans (p.h.mono be.o.size));refine kW [(0,false),(1,false),(2,false),(3,true),(4,true),(5,true),(6,false),(7,false),(8,false),(9,false),(10,false)] 0 ?_;simp only[bn,aX,aY,aW,aN,aM,aO]
 repeat(refine aD (fun K c=>?_);go_simp;first|(refine c _ ?_;clear c K)|(apply Exists.intro;refine⟨fun _=>?_,c _ ?_⟩;rfl;clear c K))
 refine aJ ?_;refine kI (by kernel_rfl) ?_;clear aL aP aH bz lk cc
 go_wp2_with fail
 have aR:=af (bb.o.below (aB _ _).drew);obtain⟨d6,d7,bw,-,-,-⟩:=Rd.aC aR.o.dP;have aL:=ag (w:=w1.drew) bu;have aP:=ag (w:=w1.drew) ao;have aH:=ag (w:=w1.drew) t;have Q:=aR.o.cell.2.2.2.2.1;rw[bw]at Q;have ap:=ag (w:=w1.drew) Q;have bz:=ag (w:=w1.drew) aR.o.cell.2.2.2.2.2.2;have db:=af bw;clear bw Q;refine ak (fun W=>∃p:aT w1.drew,W=p.W) [10] [(0,false),(1,false),(2,false),(3,true),(4,true),(5,false),(6,false),(7,false),(8,true),(9,false)] ⟨⟨_,(aB _ _).drew⟩,rfl⟩ 1 ?_;simp only[bn,aX,aY,aW,aN,aM,aO]
 repeat(refine aD (fun K c=>?_);go_simp;first|(refine c _ ?_;clear c K)|(apply Exists.intro;refine⟨fun _=>?_,c _ ?_⟩;rfl;clear c K))
 refine aJ ?_;refine aF [10] _ _ _ (by kernel_rfl) ?_;simp only[pick,aX,aY,aW,aN,aM];clear aL aP aH ap bz;have bT:=af (aR.o.below (aB _ _).drew);obtain⟨D,cm,cn⟩:=bT.o.map;refine wN _ rfl _ _ _ _ rfl _ _ (Keyed.of_law Fq) underlying188 (plainElem prog 3) mb A.length D rfl cm (by unfold maxLen;omega) (iD x y d) (.int .i64 (al.length:Int)) (kp (x,y,d)) rfl rfl (xI a6) (.lit (.int .i64 (al.length:Int))) [] (ui underlying3 (by simp[Lit.wf,IntKind.min,IntKind.max,IntKind.bits,IntKind.signed];omega)) ?_;intro w4 cR a4;have cx:kN w4 mb (A++[((x,y,d),(al.length:Int))]):=⟨_,by rw[bq];exact cR,cn.put a6 dn.o _⟩;have ad:=af (bT.o.Ot a4 cx);have bY:Hid (au (fun k=>k=mb) w w4):=(((au.refl (fun k=>k=mb) w).below be.o).drew.drew).grown a4 fun k e=>.inl (by injection e with e;exact e.symm);have bs:Hid (w4.heap[w.heap.size]? =some (Obj.cells #[.int .i64 x,.int .i64 y,.int .u32 d] 29 (0,0))):=(a4.block _ (aZ.1 am.o).1 (fun e=>by injection e with e;have:=u.o.map.lt;omega)).trans am.o;clear cm cn cR a4 cx bu ao t
 go_wp2_with fail
 have c3:w4.cell? ⟨w.heap.size,0,none⟩=some (.int .i64 x):=by simp only[World.cell?,bs.o];rfl
 have c4:w4.cell? ⟨w.heap.size,1,none⟩=some (.int .i64 y):=by simp only[World.cell?,bs.o];rfl
 have c5:w4.cell? ⟨w.heap.size,2,none⟩=some (.int .u32 d):=by simp only[World.cell?,bs.o];rfl
 have aL:=ag c3;have aP:=ag c4;have aH:=ag c5;have cd:=ad.o.cell.2.2.1;have Q:=ad.o.cell.2.2.2.2.1;rw[db.o]at Q;have dG:=ag cd;have ap:=ag Q;have bQ:=af (Rc (ad.o.below (aB _ _).drew).fH (bf _) (ad.o.below (aB _ _).drew).rows x y d (al.length:Int) (by omega) (by omega) (by omega));have dY:=bY.o.size;refine ak (fun W=>∃p:aT w4,W=p.W) [11,12,13,14,15,16] [(0,false),(1,false),(2,false),(3,true),(4,true),(5,false),(6,false),(7,false),(8,true),(9,false),(10,false)] ⟨⟨_,(aB _ _).drew⟩,rfl⟩ 6 ?_;simp only[bn,aX,aY,aW,aN,aM,aO]
 repeat(refine aD (fun K c=>?_);go_simp;first|(refine c _ ?_;clear c K)|(apply Exists.intro;refine⟨fun _=>?_,c _ ?_⟩;rfl;clear c K))
 refine aJ ?_;refine aA 11 rfl fun K c=>?_;refine bg LQ rfl _ _ rfl (vals:=#[.pointer (some ⟨Cb,0,none⟩),SL x y d al.length]) rfl bQ.o ?_;rintro e g ⟨i,ey,R,O,Y,rfl,hi,P,cD,bC,⟨bN,-⟩,cL,cQ,cC,cs,cP,c0⟩;refine⟨_,rfl,?_⟩;refine c _ _ (fun _ h=>absurd (by decide) h) ?_;clear c K aL aP aH dG ap cd Q c3 c4 c5;have bm:=af P;have bh:=af cD;have bl:=af cL;have b4:=af cQ;have dv:=af c0;have a2:au (fun k=>k=Cb\/cv.ownBlock=some k) w4 g:=((au.refl _ w4).drew).trans cs;have es:=a2.size;have cg:=ad.o.Ol a2 bC bN cP (cC.imp (fun h=>h) fun⟨b,e,aq⟩=>.inr ⟨b,e,aq⟩);have v:Hid (iN g (fun k=>X k\/w.heap.size<=k/\k<g.heap.size) Hb Cb mb R tv av lv O T al eP (A++[((x,y,d),(al.length:Int))]) (N+1) Y):=cg.more fun k hk=>by
  rcases hk with hk|⟨J,E⟩
  .exact .inl hk
  .refine .inr ⟨by omega,?_⟩;rcases E with E|⟨q,az,dX,a,dM,rfl⟩
   .exact(bC.row.lt k E).2
   .rcases(bN q az).1 with h9|⟨b,off,d8,fr,aV,aq,-⟩
    .exact absurd h9 dX
    .rw[dM]at aV;injection aV with aV;rw[aV];exact(aZ.1 aq).1
 have bZ:Hid (au (fun k=>k=mb\/k=Cb\/cv.ownBlock=some k) w g):=(bY.o.mono fun k h=>.inl h).trans (a2.mono fun k h=>.inr h);clear P cD bC bN cL cQ cC cs cP c0 a2 cg bQ;refine iI (fun _=>True) [15,16] (by kernel_rfl) ?_;refine bG [(12,false),(13,false),(14,false)] trivial rfl ?_;simp only[bn,aX,aY,aW,aN,aM,aO]
 repeat(refine aD (fun K c=>?_);go_simp;first|(refine c _ ?_;clear c K)|(apply Exists.intro;refine⟨fun _=>?_,c _ ?_⟩;rfl;clear c K))
 refine aJ ?_;refine aF [15,16] _ _ _ (by kernel_rfl) ?_;simp only[pick,aX,aY,aW,aN,aM]
 go_wp2_with fail
 have ed:w.heap.size<=g.heap.size:=bZ.o.size
 go_cut []from 49 to 67 (fun ac=>∃dB bO:Value,Hid (iN ac (fun k=>X k\/w.heap.size<=k/\k<ac.heap.size) Hb Cb mb R tv dB bO O T (al++[true]) (eP++[(i:Int)]) (A++[((x,y,d),(al.length:Int))]) (N+1) Y)/\Hid (bO.ownBlock=lv.ownBlock\/∃b,bO.ownBlock=some b/\w.heap.size<=b)/\Hid (au (fun k=>k=Hb\/av.ownBlock=some k\/lv.ownBlock=some k) g ac))
 case first=>
  obtain⟨-,-,-,-,c6,c7,-⟩:=v.o.cell;have cp:=v.o.lt;have cB:=v.o.blk;have a8:av.ownBlock≠some Hb:=v.o.yK v.o.dP (by decide);have c2:lv.ownBlock≠some Hb:=v.o.yK v.o.mD (by decide);have c1:∀f,av.ownBlock=some f->lv.ownBlock≠some f:=fun f e t=>bD v.o.dP v.o.mD (by decide) f e t;have cY:∀f,av.ownBlock=some f->f<g.heap.size:=fun f e=>(v.o.dP.lt f e).2;have cZ:∀f,lv.ownBlock=some f->f<g.heap.size:=fun f e=>(v.o.mD.lt f e).2;have ap:∀p:vv (fun k=>av.ownBlock=some k) g,p.W.cell? ⟨Hb,4,none⟩=some av:=fun p=>((cu p.h cp a8).1 4).trans c6;have dH:∀p:vv (fun k=>av.ownBlock=some k) g,p.W.cell? ⟨Hb,5,none⟩=some lv:=fun p=>((cu p.h cp a8).1 5).trans c7;have bd:=af v.o.dP;have dk:=af v.o.mD;have b0:=af a8;have b2:=af c2;have b1:=af c1;have b6:=af cY;have du:=af cZ;have df:=af cB;have cG:=bp.o.Ic;clear a8 c2 c1 cY cZ cB c6 c7;refine ak (fun W=>∃p:vv (fun k=>av.ownBlock=some k) g,W=p.W) [14,15,16,17,18,19,20] [(0,false),(1,false),(2,false),(3,false),(4,false),(5,true),(8,false),(9,false),(10,false),(11,true),(12,false)] ⟨⟨_,(au.refl _ _).drew⟩,rfl⟩ 10 ?_;simp only[bn,aX,aY,aW,aN,aM,aO]
  repeat(refine aD (fun K c=>?_);go_simp;first|(refine c _ ?_;clear c K)|(apply Exists.intro;refine⟨fun _=>?_,c _ ?_⟩;rfl;clear c K))
  refine aJ ?_;clear ap dH;have d5:au (fun k=>av.ownBlock=some k) g g.drew:=(au.refl _ _).drew;refine eT [6,13] (by kernel_rfl) (by simp) ?_;have b8:au (fun k=>av.ownBlock=some k) g (g.alloc (.cells #[.bool true] 4)).drew:=((au.refl _ _).alloc _).drew;have b9:au (fun k=>av.ownBlock=some k) g ((g.alloc (.cells #[.bool true] 4)).alloc (.cells #[.int .i64 (i:Int)] 3)).drew:=(((au.refl _ _).alloc _).alloc _).drew;have ca:au (fun k=>av.ownBlock=some k) g ((g.alloc (.cells #[.int .i64 (i:Int)] 3)).alloc (.cells #[.bool true] 4)).drew:=(((au.refl _ _).alloc _).alloc _).drew;have dx:(g.alloc (.cells #[.bool true] 4)).drew.ownsRow 0 4 1 av al.length (al.map Value.bool):=aS (S:=fun _=>False) bd.o (((au.refl _ _).alloc _).drew) (fun _ _ h=>h);have dy:((g.alloc (.cells #[.bool true] 4)).alloc (.cells #[.int .i64 (i:Int)] 3)).drew.ownsRow 0 4 1 av al.length (al.map Value.bool):=aS (S:=fun _=>False) bd.o ((((au.refl _ _).alloc _).alloc _).drew) (fun _ _ h=>h);have dz:((g.alloc (.cells #[.int .i64 (i:Int)] 3)).alloc (.cells #[.bool true] 4)).drew.ownsRow 0 4 1 av al.length (al.map Value.bool):=aS (S:=fun _=>False) bd.o ((((au.refl _ _).alloc _).alloc _).drew) (fun _ _ h=>h);refine bA.cons rfl (fun K c=>?_) (bA.cons rfl (fun K c=>?_) bA.nil);go_simp;refine c _ _ (fun _ _=>⟨⟨_,b8⟩,rfl⟩) ?_;clear c K;refine eT [7,13] (by kernel_rfl) (by simp) ?_;refine bA.cons rfl (fun K c=>?_) (bA.cons rfl (fun K c=>?_) bA.nil);refine bH xw 0 dx [.bool true] rfl (by simp[Value.oneCell']) rfl (.tmp 54) (.tmp 55) rfl rfl _ rfl (kF _ _) (by unfold maxLen;omega) (by omega) (bf _) ?_;intro l H u2 cj r s cH;have ar:av.ownBlock=some l\/g.heap.size<=l:=s.imp id fun e=>by rw[e];simp
  have aU:=b8.grown r (fun k e=>.inl e);refine c _ _ (fun _ _=>⟨⟨_,aU⟩,rfl⟩) ?_;clear c K s;refine aA 13 rfl fun K c=>?_;go_simp;refine c _ _ (fun _ _=>⟨⟨_,aU.alloc _⟩,rfl⟩) ?_;clear c K;have Z:=di u2 (.cells #[.int .i64 (i:Int)] 3);have M:=aU.alloc (.cells #[.int .i64 (i:Int)] 3);have a0:=cj.alloc (.cells #[.int .i64 (i:Int)] 3);have cI:l<(u2.alloc (.cells #[.int .i64 (i:Int)] 3)).heap.size:=by simp;omega
  clear r aU cj cH;generalize u2.alloc (.cells #[.int .i64 (i:Int)] 3)=u3 at*;generalize u2.heap.size=lb at*;clear u2
  rotate_left
  go_simp;refine c _ _ (fun _ _=>⟨⟨_,b9⟩,rfl⟩) ?_;clear c K;refine aA 7 rfl fun K c=>?_;refine bH xw 0 dy [.bool true] rfl (by simp[Value.oneCell']) rfl (.tmp 54) (.tmp 55) rfl rfl _ rfl (BX _ _ _) (by unfold maxLen;omega) (by omega) (bf _) ?_;intro l H u3 a0 r s cI;have ar:av.ownBlock=some l\/g.heap.size<=l:=s.imp id fun e=>by rw[e];simp;omega
  have M:=b9.grown r (fun k e=>.inl e);refine c _ _ (fun _ _=>⟨⟨_,M⟩,rfl⟩) ?_;clear c K s;have Z:=(r.block (g.heap.size+1) (by simp) (fun e=>by have:=b6.o _ e.symm;omega)).trans (BZ g (.cells #[.bool true] 4) (.cells #[.int .i64 (i:Int)] 3));clear r;obtain⟨lb,V⟩:∃lb,lb=g.heap.size+1:=⟨_,rfl⟩;rw[<-V]at Z;rw[<-V];clear V
  rotate_left
  go_simp;refine c _ _ (fun _ _=>⟨⟨_,((au.refl _ _).alloc (.cells #[.int .i64 (i:Int)] 3)).drew⟩,rfl⟩) ?_;clear c K;refine aA 6 rfl fun K c=>?_;go_simp;refine c _ _ (fun _ _=>⟨⟨_,ca⟩,rfl⟩) ?_;clear c K;refine aA 7 rfl fun K c=>?_;refine bH xw 0 dz [.bool true] rfl (by simp[Value.oneCell']) rfl (.tmp 54) (.tmp 55) rfl rfl _ rfl (BZ _ _ _) (by unfold maxLen;omega) (by omega) (bf _) ?_;intro l H u3 a0 r s cI;have ar:av.ownBlock=some l\/g.heap.size<=l:=s.imp id fun e=>by rw[e];simp;omega
  have M:=ca.grown r (fun k e=>.inl e);refine c _ _ (fun _ _=>⟨⟨_,M⟩,rfl⟩) ?_;clear c K s;have Z:=(r.block g.heap.size (by simp;omega) (fun e=>by have:=b6.o _ e.symm;omega)).trans (BX g (.cells #[.int .i64 (i:Int)] 3) (.cells #[.bool true] 4));clear r;obtain⟨lb,V⟩:∃lb,lb=g.heap.size:=⟨_,rfl⟩;rw[<-V]at Z;rw[<-V];clear V
  all_goals
   refine aA 14 rfl fun K c=>?_;refine bH mI 0 (aS dk.o M (fun f e t=>b1.o f t e)) [.int .i64 (i:Int)] rfl (by simp[Value.oneCell']) rfl (.tmp 60) (.tmp 62) rfl rfl _ rfl Z (by unfold maxLen;omega) (by omega) (bf _) ?_;intro gl cl u4 cw r s ei;have bE:lv.ownBlock=some gl\/g.heap.size<=gl:=s.imp id fun e=>by rw[e];exact M.size
   have br:au (fun k=>av.ownBlock=some k\/lv.ownBlock=some k) g u4:=(M.mono fun k h=>.inl h).grown r (fun k e=>.inl (.inr e));refine c _ _ (fun _ h=>absurd (by decide) h) ?_;have dJ:=aS a0 ((au.refl (fun k=>lv.ownBlock=some k) u3).grown r fun k e=>.inl e) (fun f e t=>by
    have I:l=f:=by injection e
    rcases ar with h9|h9
    .exact b1.o l h9 (by rw[I];exact t)
    .have:=du.o f t;omega)
   have a3:=bF br df.o (fun e=>e.elim (fun e=>b0.o e) (fun e=>b2.o e));have ez:u4.cell? ⟨Hb,4,none⟩=some av:=by simp only[World.cell?,a3];rfl
   have eA:u4.cell? ⟨Hb,5,none⟩=some lv:=by simp only[World.cell?,a3];rfl
   have ea:∀j,u4.frozen? ⟨Hb,j,none⟩=false:=fun j=>by simp[World.frozen?,a3]
   clear c K s r Z M a0;refine aF [15,16,17,18,19,20] _ _ _ (by kernel_rfl) ?_;simp only[pick,aX,aY,aW,aN,aM]
   go_wp2_with fail
   go_meet;have dV:l≠Hb:=fun e=>ar.elim (fun h=>b0.o (by rw[h,e])) fun h=>by omega
   have dW:gl≠Hb:=fun e=>bE.elim (fun h=>b2.o (by rw[h,e])) fun h=>by omega
   have dY:=br.size;have dO:(u4.setCell ⟨Hb,4,none⟩ (.slice (some ⟨l,0,none⟩) (al.length+1) H)).heap[Hb]? =some (Obj.cells (uP Cb mb tv (.slice (some ⟨l,0,none⟩) (al.length+1) H) lv) qw (0,0)):=by
    rw[dA u4 Hb 4 _ _ _ a3];rfl
   have dQ:((u4.setCell ⟨Hb,4,none⟩ (.slice (some ⟨l,0,none⟩) (al.length+1) H)).setCell ⟨Hb,5,none⟩ (.slice (some ⟨gl,0,none⟩) (al.length+1) cl)).heap[Hb]? =some (Obj.cells (uP Cb mb tv (.slice (some ⟨l,0,none⟩) (al.length+1) H) (.slice (some ⟨gl,0,none⟩) (al.length+1) cl)) qw (0,0)):=by
    rw[dA _ Hb 5 _ _ _ dO];rfl
   have b7:au (fun k=>k=Hb\/av.ownBlock=some k\/lv.ownBlock=some k) g ((u4.setCell ⟨Hb,4,none⟩ (.slice (some ⟨l,0,none⟩) (al.length+1) H)).setCell ⟨Hb,5,none⟩ (.slice (some ⟨gl,0,none⟩) (al.length+1) cl)):=((br.mono fun k h=>.inr h).set (a:=⟨Hb,4,none⟩) _ (.inl (.inl rfl))).set (a:=⟨Hb,5,none⟩) _ (.inl (.inl rfl));have cb:au (fun k=>k=Hb) u4 ((u4.setCell ⟨Hb,4,none⟩ (.slice (some ⟨l,0,none⟩) (al.length+1) H)).setCell ⟨Hb,5,none⟩ (.slice (some ⟨gl,0,none⟩) (al.length+1) cl)):=((au.refl (fun k=>k=Hb) u4).set (a:=⟨Hb,4,none⟩) _ (.inl rfl)).set (a:=⟨Hb,5,none⟩) _ (.inl rfl);rw[cG]at cw;have c8:=aS dJ cb (fun f e t=>dV (by have I:l=f:=(by injection e);rw[I];exact t));have c9:=aS cw cb (fun f e t=>dW (by have I:gl=f:=(by injection e);rw[I];exact t));refine⟨_,_,(v.o.R9 (al':=al++[true]) (lev':=eP++[(i:Int)]) b7 dQ (by rw[bq,bS];exact c8) (by rw[bq,bS,cG];exact c9)).more (fun k hk=>?_),bE.elim (fun h=>.inl h.symm) (fun h=>.inr ⟨gl,rfl,by omega⟩),b7⟩;have ev:((u4.setCell ⟨Hb,4,none⟩ (.slice (some ⟨l,0,none⟩) (al.length+1) H)).setCell ⟨Hb,5,none⟩ (.slice (some ⟨gl,0,none⟩) (al.length+1) cl)).heap.size=u4.heap.size:=by simp
   rcases hk with(hk|hk)|hk|hk
   .exact .inl hk
   .exact .inr ⟨hk.1,by omega⟩
   .have I:l=k:=by injection hk
    have ci:=(c8.lt l rfl).2;rcases ar with h9|h9
    .exact .inl (I▸u.o.iT.2.2.2.2.2.1 l h9)
    .exact .inr ⟨by omega,by omega⟩
   .have I:gl=k:=by injection hk
    have ci:=(c9.lt gl rfl).2;rcases bE with h9|h9
    .exact .inl (I▸u.o.iT.2.2.2.2.2.2 gl h9)
    .exact .inr ⟨by omega,by omega⟩
 case rest=>
  obtain⟨an,aG,bc,dj,bj⟩:=hcut;obtain⟨w6,dE⟩:∃w6:World,w6=wc:=⟨_,rfl⟩;subst dE;have et:=bj.o.size;have b3:=af (aS b4.o bj.o (fun f e h=>by
   have J:w4.heap.size<=f:=(b4.o.lt f e).1;have E:=u.o.lt;rcases h with h|h|h
   .omega
   .have:=(u.o.dP.lt f h).2;omega
   .have:=(u.o.mD.lt f h).2;omega))
  obtain⟨ew,tc,bx,-,-,-⟩:=Rd.aC (enc:=vTr) bc.o.jh;have d4:=af bx;have bt:=bc.o.cell.2.2.2.1;rw[bx]at bt;clear bx;obtain⟨C,cM,dT,em⟩:∃C:Nat,C=min i T.length/\C<=T.length/\min (i:Int) (T.length:Int)=(C:Int):=⟨min i T.length,rfl,by omega,by omega⟩;have dm:=af cM;clear cM;have dg:Hid (iN w6 (fun k=>X k\/w.heap.size<=k/\k<w6.heap.size) Hb Cb mb R tv an aG O (uQ T 0) (al++[true]) (eP++[(i:Int)]) (A++[((x,y,d),(al.length:Int))]) (N+1) Y):=by rw[LU];exact bc.o
  have dt:Hid (∀f,tv.ownBlock=some f->f<w.heap.size):=fun f e=>(u.o.jh.lt f e).2
  go_upto_block 0 with fail
  go_cut [11,75]from 76 to 85 (fun bv a7 ac=>Hid (iN ac (fun k=>X k\/w.heap.size<=k/\k<w6.heap.size) Hb Cb mb R tv an aG O (uQ T C) (al++[true]) (eP++[(i:Int)]) (A++[((x,y,d),(al.length:Int))]) (N+1) Y)/\Hid (au (fun k=>tv.ownBlock=some k) w6 ac))
  case first=>
   go_wp2_with fail
   go_loopw [75] (fun a7 wr=>∃n:Nat,a7=.int .i64 n/\n<=C/\Hid (iN wr (fun k=>X k\/w.heap.size<=k/\k<w6.heap.size) Hb Cb mb R tv an aG O (uQ T n) (al++[true]) (eP++[(i:Int)]) (A++[((x,y,d),(al.length:Int))]) (N+1) Y)/\Hid (au (fun k=>tv.ownBlock=some k) w6 wr)) (fun a7 _=>C-(intOf a7).toNat)
   case atStart=>exact⟨0,rfl,bf _,dg,au.refl _ _⟩
   case round=>
    obtain⟨n,rfl,en,ae,bV⟩:=hrel;by_cases cH:n<C
    .have dS:=Bj (T:=T) (n:=n) (by omega);obtain⟨cf,ex,aa,-,eh,-,-⟩:=aQ ae.o.jh (by omega);have aE:=ae.o.jh;rw[dS]at aa aE;rw[aa]at aE;have d3:=aE.cellAt n (by omega);rw[dw (by rw[bX];omega)]at d3;have d9:=aE.frozenAt n;have dr:Hid (iN (wr.setCell ⟨cf,n,none⟩ (vTr none)) (fun k=>X k\/w.heap.size<=k/\k<w6.heap.size) Hb Cb mb R tv an aG O (uQ T (n+1)) (al++[true]) (eP++[(i:Int)]) (A++[((x,y,d),(al.length:Int))]) (N+1) Y):=by
      have J:=ae.o;rw[aa]at J |-;rw[<-Ou (by omega)];exact J.Ty n none
     have ah:Hid (au (fun k=>tv.ownBlock=some k) w6 (wr.setCell ⟨cf,n,none⟩ (vTr none))):=bV.o.set _ (.inl (by rw[aa];rfl));have bt:=ae.o.cell.2.2.2.1;rw[aa]at bt;have eo:(n:Int)<(T.length:Int):=by omega
     have ep:(n:Int)<(C:Int):=by omega
     clear aa aE;go_wp2;go_roundw
     case rel=>exact⟨n+1,by go_num,by omega,dr,ah⟩
     case measure=>simp[intOf];omega
    .obtain rfl:n=C:=by omega
     have eg:¬(n:Int)<(n:Int):=by omega
     go_wp2_with fail
     go_meet;exact⟨ae,bV⟩
  case rest=>
   obtain⟨dc,ah⟩:=hcut;obtain⟨a9,dF⟩:∃a9:World,a9=wc:=⟨_,rfl⟩;subst dF;have eu:=ah.o.size;have dq:=af (aS b3.o ah.o (fun f e h=>by
    have J:w4.heap.size<=f:=(b3.o.lt f e).1;have:=dt.o f h;omega))
   obtain⟨d0,d1,rfl,-,-,cV⟩:=KD.aC dq.o;have U:=L.o.add dU (x,y,d) a6 dp.o (by omega) i (by simpa using hi) (fun j B aw=>by rw[fJ];exact bm.o j (by simpa using B) aw) (fun B=>by rw[fJ];exact bh.o (by simpa using B));have bI:i<(jO (ch.map (·.2.1)) i ((x,y,d),(al.length:Int))).length:=by rw[om _ _ _ (by simpa using hi)];split<;>omega
   have cF:(jO (ch.map (·.2.1)) i ((x,y,d),(al.length:Int)))[i]=eF (ch.map (·.2.1)) i++[((x,y,d),(al.length:Int))]:=by rw[oo,aI (by omega),aK rfl]
   have s:=U.bk i bI;have cE:=U.few i bI;rw[cF]at s cE;have dd:=af U;have dL:∀k,(X k\/w.heap.size<=k/\k<w6.heap.size)->k<a9.heap.size:=fun k hk=>by
    rcases hk with hk|hk
    .have:=(ai.o k hk).1;omega
    .omega
   have bR:=af (J5 dc.o d0 d1 (eF (ch.map (·.2.1)) i++[((x,y,d),(al.length:Int))]) i cV (by omega) (by rw[Bj (by omega)];omega) cE s.2.2 (by simp[bp.o.Ic]) (by simp;omega) s.1 s.2.1 dL);have eq:0<(eF (ch.map (·.2.1)) i++[((x,y,d),(al.length:Int))]).length:=by simp
   generalize cq:eF (ch.map (·.2.1)) i++[((x,y,d),(al.length:Int))]=aj at*;have bi:=af cq;clear U cF s cq cV bI
   go_wp2_with fail
   refine bR.o.mono ?_;rintro e d2 ⟨rfl,tv',tb,bP,Fn,cy,ck,co,cK,-,cr⟩;have ds:=af cy;have de:=af ck;have bU:=af co;have dl:=af cK;have bW:=af cr;clear cy ck co cK cr bR;go_wp2;go_ret2;have a1:=congrArg List.length bi.o;rw[bq,zh]at a1;have er:=bW.o.size;obtain⟨ej,ek⟩:=dl.o;have cN:w.heap.size<=bP:=by omega
   have ct:au (fun k=>k=Hb\/k=Cb\/k=mb\/cv.ownBlock=some k\/tv.ownBlock=some k\/av.ownBlock=some k\/lv.ownBlock=some k) w d2:=by
    refine au.strip ((((bZ.o.mono fun k h=>?_).trans (bj.o.mono fun k h=>?_)).trans (ah.o.mono fun k h=>?_)).trans (bW.o.mono fun k h=>?_))
    .rcases h with h|h|h
     .exact .inl (.inr (.inr (.inl h)))
     .exact .inl (.inr (.inl h))
     .exact .inl (.inr (.inr (.inr (.inl h))))
    .rcases h with h|h|h
     .exact .inl (.inl h)
     .exact .inl (.inr (.inr (.inr (.inr (.inr (.inl h))))))
     .exact .inl (.inr (.inr (.inr (.inr (.inr (.inr h))))))
    .exact .inl (.inr (.inr (.inr (.inr (.inl h)))))
    .rcases h with h|h|h
     .exact .inl (.inl h)
     .exact .inl (.inr (.inr (.inr (.inr (.inl h)))))
     .rcases dj.o with h9|⟨b,h9,ci⟩
      .exact .inl (.inr (.inr (.inr (.inr (.inr (.inr (h9.symm.trans h)))))))
      .rw[h9]at h;injection h with h;exact .inr (by omega)
   have cW:=(bo.o.kept ct (u.o.TC bo.o)).step (X':=fun k=>(X k\/w.heap.size<=k/\k<w6.heap.size)\/a9.heap.size<=k/\k<bP) (i:=i) (m0:=w.heap.size) (m:=bP) (CB':=jO (ch.map (·.2.1)) i ((x,y,d),(al.length:Int))) (T':=yS (uQ T C) i tb) de.o (by unfold rE;rw[bX];exact gK _ _) (fun j B P=>by
     rw[oo]at P |-;by_cases J:j<i
     .rw[aK J]at P;exact absurd rfl P
     .rw[aI J]at P |-;by_cases E:j=i
      .left;rw[aK E,E];exact⟨rfl,bi.o⟩
      .right;rw[aI E]at P |-;have bK:j<(ch.map (·.2.1)).length:=by rw[om _ _ _ (by simpa using hi)]at B;split at B<;>omega
       rw[iO,dw bK,gq];refine⟨E,bK,rfl,fun q az=>J6 E (by rw[Ov (by have:=dm.o;omega)];exact az),?_⟩;unfold rE;rw[JG L.o true fun q az=>L.o.inl bK az]) Ga (fun k hk=>by
     rcases hk with(hk|hk)|hk
     .exact .inl hk
     .exact .inr ⟨hk.1,by omega⟩
     .exact .inr ⟨by omega,hk.2⟩) bU.o (fun j k hk=>bo.o.lt j k hk) (fun k hk=>bB (ai.o k hk).1 cN) cN
   have cJ:=bp.o.add L.o (x,y,d) i (by simpa using hi);rw[bi.o,<-bl.o]at cJ;rw[<-bl.o]at cW;have cT:=b5.o.add L.o.Ie.1 (bJ (yL L.o) dN) i (by simpa using hi) L.o.size (fun j B aw=>by rw[fJ];exact bm.o j (by simpa using B) aw) (fun B=>by rw[fJ];exact bh.o (by simpa using B)) ((x,y,d),(al.length:Int));have U:=dd.o;rw[<-bl.o]at U cT;have cU:J7 (O.map (·.2.1)) (A.length+1) (wk+(aj.length:Int)) (m+1):=by
    rw[<-a1];exact cT
   have dZ:Y=wk+(aj.length:Int):=(dv.o.trans (congrArg (fun z=>wrap64 (wk+z)) (show _=(aj.length:Int) by rw[<-a1];rfl))).trans (IntWalk.wrap64_in _ (by have J:=cU.bound (by omega);have E:=b5.o.1;omega));have cA:=L.o.U0 i (by simpa using hi) (fun j B aw=>by rw[fJ];exact bm.o j (by simpa using B) aw) (fun B=>by rw[fJ];exact bh.o (by simpa using B));rw[a1]at cA;refine⟨aj.length,al.length,cA,rfl,⟨_,_,Cb,mb,R,tv',an,aG,O,yS (uQ T C) i tb,al++[true],gT (eP++[(i:Int)]) aj i,?_,U,cJ,cW,?_,Gb (by rw[Bj dT];exact dK) (by omega),fun k hk=>?_,?_,by simp;omega,?_⟩,ct.mono ?_⟩
   .rw[<-dZ];exact ds.o
   .rw[bq,zh];omega
   .rcases hk with(hk|hk)|hk
    .exact⟨by have:=(ai.o k hk).1;omega,.inl (ai.o k hk).2⟩
    .exact⟨by omega,.inr hk.1⟩
    .exact⟨by omega,.inr (by omega)⟩
   .rintro j k (⟨-,hk⟩|⟨-,hk⟩)
    .have:=bU.o k hk;exact .inr (by omega)
    .exact .inl (dh.o j k hk)
   .rw[bq,zh];exact cU
   .have r:∀k,X k->G k:=fun k hk=>(ai.o k hk).2;rintro k (rfl|rfl|rfl|h|h|h|h)
    .exact r _ u.o.iT.1
    .exact r _ u.o.iT.2.1
    .exact r _ u.o.iT.2.2.1
    .exact r _ (u.o.iT.2.2.2.1 k h)
    .exact r _ (u.o.iT.2.2.2.2.1 k h)
    .exact r _ (u.o.iT.2.2.2.2.2.1 k h)
    .exact r _ (u.o.iT.2.2.2.2.2.2 k h)
end
end
section
open Go.RowKit Go.Sort Go.Shelf Go.Lib Go.Maps
attribute [local irreducible] wpQuiet
section
variable {w w':World} {S G:Nat->Prop} {Hb m:Nat} {A:List eG} {N wk:Int}
theorem jM.kept (h:jM w Hb G m A N wk) (K:au S w w') (hS:∀k,G k->¬S k):jM w' Hb G m A N wk:=by
 have⟨X,F,Cb,mb,cv,tv,av,lv,ch,T,al,eP,d,e,f,g,j,l,b,c,n⟩:=h;exact⟨X,F,Cb,mb,cv,tv,av,lv,ch,T,al,eP,d.kept K fun k a=>hS k (b k a).2,e,f,g.kept K fun i k a=>hS k (c i k a),j,l,fun k a=>⟨bB (b k a).1 K.size,(b k a).2⟩,c,n⟩
theorem jM.facts (h:jM w Hb G m A N wk):(A.length:Int)<=N/\N<=2*A.length/\N<=m/\(ids (A.map (·.1))).Nodup/\(∀c∈A,Gy c.1)/\0<=wk/\(∀L,m<2^L->wk<=(L*m:Nat))/\Hb<w.heap.size/\G Hb:=by
 have⟨X,F,Cb,mb,cv,tv,av,lv,ch,T,al,eP,b,a,n,o,e,p,f,q,r,d⟩:=h;have j:=a.stored;have k:=a.Ie.1;have l:=yL a;refine⟨by omega,e,by omega,a.keys,fun c i=>a.good c (bK.1 (a.live.mem_iff.1 i)).1,d.1,fun L g=>?_,b.lt,(f _ b.iT.1).2⟩;have:=d.2 L g;omega
theorem Ow (h:jM w Hb G m A N wk):aH 87 #[ah Hb] w (eY w (aa N)):=by
 have⟨X,F,Cb,mb,cv,tv,av,lv,ch,T,al,eP,a,b⟩:=h;exact LH a
structure nJ (w:World) (G:Nat->Prop) (F:Nat->Nat->Prop) (B:List (Nat×Nat×List Pt)):Prop where
 bk:∀(i:Nat) (h:i<B.length),Bk w (F i) B[i].1 B[i].2.1 B[i].2.2
 TF:∀i k,F i k->G k
 ap:∀i j k,F i k->F j k->i=j
def iX (B:List (Nat×Nat×List Pt)):List Pt:=B.flatMap fun b=>b.2.2
theorem nJ.kept {F:Nat->Nat->Prop} {B:List (Nat×Nat×List Pt)} (h:nJ w G F B) (K:au S w w') (hS:∀k,G k->¬S k):nJ w' G F B:=⟨fun i hi=>(h.bk i hi).kept K fun k a=>hS k (h.TF i k a),h.TF,h.ap⟩
theorem TG (w:World):aH 51 #[yj,CF] w fun e w'=>e=.returned (ah (w.heap.size+2))/\jM w' (w.heap.size+2) (fun k=>w.heap.size<=k) 0 [] 0 0/\Below w.heap.size w w':=by
 have m:=@run_makeMap prog;have n:∀w,(binOp .eql 107 yj .nilFunc).run prog w=.ok (.bool false) w:=fun w=>by
  have h:∀d:Nat,(Op.equalIn (d+1) 107 yj .nilFunc).run prog w=.ok false w:=fun d=>by simp[Op.equalIn,oJ underlying107]
  simp only[binOp];simp[Op.equal,Op.maxDepth,h 9999]
 have o:∀w,(binOp .eql 108 CF .nilFunc).run prog w=.ok (.bool false) w:=fun w=>by
  have h:∀d:Nat,(Op.equalIn (d+1) 108 CF .nilFunc).run prog w=.ok false w:=fun d=>by simp[Op.equalIn,oJ underlying108]
  simp only[binOp];simp[Op.equal,Op.maxDepth,h 9999]
 go_enter func51,ntmps51;go_wp2;go_ret;have j:(w.alloc (.cells #[.bool true,aG,aa 0,aa 0] 278)).heap.size=w.heap.size+1:=by simp
 have l:((w.alloc (.cells #[.bool true,aG,aa 0,aa 0] 278)).alloc (.map #[] 0)).heap.size=w.heap.size+2:=by simp
 have f:=di w (.cells #[.bool true,aG,aa 0,aa 0] 278);have m1:kN ((w.alloc (.cells #[.bool true,aG,aa 0,aa 0] 278)).alloc (.map #[] 0)) (w.heap.size+1) []:=by
  rw[<-j];exact⟨.map [],wR _ _ _ _,rf.empty⟩
 have c:Below w.heap.size w (((w.alloc (.cells #[.bool true,aG,aa 0,aa 0] 278)).alloc (.map #[] 0)).alloc (.cells (uP w.heap.size (w.heap.size+1) (aG) (aG) (aG)) qw)):=(((aB _ _).alloc (ay _) _).alloc (by simp) _).alloc (by simp;omega) _;have b:=di ((w.alloc (.cells #[.bool true,aG,aa 0,aa 0] 278)).alloc (.map #[] 0)) (.cells (uP w.heap.size (w.heap.size+1) (aG) (aG) (aG)) qw);rw[l]at b;refine⟨rfl,⟨fun k=>w.heap.size<=k/\k<w.heap.size+3,fun _ _=>False,w.heap.size,w.heap.size+1,aG,aG,aG,aG,[],[],[],[],⟨b,⟨bf _,Ub,(bY _ _ _ (by simp;omega)).trans ((bY _ _ _ (by simp)).trans f),dz _ _ _ _⟩,fun h a=>absurd a gZ,dz _ _ _ _,dz _ _ _ _,dz _ _ _ _,m1.same (bY _ _ _ (by simp)),⟨by omega,by omega,by omega,(fun k e=>by cases e),(fun k e=>by cases e),(fun k e=>by cases e),(fun k e=>by cases e)⟩,fun h a=>absurd a gZ⟩,Rx,Ry,⟨fun i h=>absurd h (jR _),fun _ _ h=>h.elim,fun _ _ _ h=>h.elim,fun _ _ h=>h.elim⟩,by simp,by simp,fun k g=>⟨by simp;omega,g.1⟩,fun _ _ h=>h.elim,ay _,Qn⟩,c⟩
end
end
section
open Go.RowKit Go.Sort Go.Shelf Go.Lib Go.Maps
theorem rJ {α b:Type} (p:α->Bool) (f:α->List b):∀(l:List α),(∀x∈l,p x=false->f x=[])->(l.filter p).flatMap f=l.flatMap f
 |[],_=>rfl
 |x::l,h=>by
  have ih:=rJ p f l fun y a=>h y (kC _ a);rw[lu,lq];cases hp:p x with
  |true=>rw[aK rfl,lq,ih]
  |false=>rw[aI (by simp),h x mZ hp,fK,ih]
theorem Ox {CB:List (List eG)} {i:Nat} (h:i∈dS CB 0):∃hi:i<CB.length,CB[i]≠[]:=by
 unfold dS at h;have⟨b,a⟩:=bK.1 h;have hi:i<CB.length:=by simpa using b
 rw[iO,dw hi,gq]at a;exact⟨hi,fun e=>by rw[e]at a;cases a⟩
theorem LV {CB:List (List eG)} {i:Nat} (hi:i<CB.length) (h:CB[i]≠[]):i∈dS CB 0:=by
 unfold dS;refine bK.2 ⟨by simpa using hi,?_⟩;rw[iO,dw hi,gq];cases e:CB[i]with
 |nil=>exact absurd e h
 |cons=>rfl
theorem I7 (CB:List (List eG)):(dS CB 0).Nodup:=by
 unfold dS;refine lg _ ?_;rw[nk];exact(tO _).nodup_iff.2 List.nodup_range
theorem Oy (CB:List (List eG)):((dS CB 0).flatMap fun i=>CB.getD i []).Perm CB.flatten:=by
 unfold dS;rw[rJ _ _ _ fun i _ hi=>by simpa using hi,nk];refine((tO _).flatMap_right _).trans (List.Perm.of_eq ?_);rw[zD];congr 1;refine qI (by simp) fun i b a=>?_;rw[fJ,wQ,iO,dw a,gq]
section
variable {w w':World} {S G:Nat->Prop} {Hb m:Nat} {A:List eG} {N wk:Int}
def QT (b:Nat×Nat×List Pt):Value:=ah b.1
def TH (w:World) (Hb:Nat) (G:Nat->Prop) (m:Nat) (A:List eG) (N wk:Int) (e:Ending) (w':World):Prop:=
 ∃(v:Value) (B:List (Nat×Nat×List Pt)) (F:Nat->Nat->Prop),e=.returned v/\w'.ownsRow w.heap.size 106 1 v B.length (B.map QT)/\Below w.heap.size w w'/\nJ w' G F B/\(iX B).Perm (A.map (·.1))/\(B.length≠0->2^(B.length-1)<=N)/\(∀b∈B,(b.2.1:Int)<=N/\b.2.1<=20000)/\B.length<=13/\
  ∀w2 F2 (G2:Nat->Prop),au (fun k=>∃i,F i k) w' w2->nJ w2 G2 F2 B->(∀k,G k->G2 k)->(∀i k,F2 i k->F i k\/w'.heap.size<=k)->jM w2 Hb G2 m A N wk
theorem J8 (h:jM w Hb G m A N wk):aH 61 #[ah Hb] w (TH w Hb G m A N wk):=by
 have⟨X,F,Cb,mb,cv,tv,av,lv,ch,T,al,eP,E,r,ab,ht,W,P,B,hF,R,Z⟩:=h;have Q:∀(i:Nat) (hi:i<(ch.map (·.2.1)).length),(ch.map (·.2.1))[i]≠[]->i<T.length:=fun i hi C=>by
  obtain⟨tb,n0,h1,-⟩:=ht.tr i hi C;exact(fC.1 h1).1
 refine(Om E r Q).mono ?_;rintro e w' ⟨v,rfl,Y,u⟩;have V:=r.levels;have ai:=r.stored;have U:=r.live;generalize t:ch.map (·.2.1)=CB at*;have g:∀i:Nat,∃b:Nat×Nat×List Pt,i∈dS CB 0->T[i]? =some (some b.1)/\(b.2.1:Int)<=N/\b.2.1<=20000/\b.2.2=rE al (CB.getD i [])/\Bk w (F i) b.1 b.2.1 b.2.2/\b.2.1<=(CB.getD i []).length:=fun i=>by
  by_cases hi:i∈dS CB 0
  .obtain⟨h1,c⟩:=Ox hi;have⟨tb,n0,d,o,J⟩:=ht.tr i h1 c;have ad:CB[i].length<=CB.flatten.length:=(CW (bN h1)).length_le;exact⟨(tb,n0,rE al CB[i]),fun _=>⟨d,by show(n0:Int)<=N;omega,by show n0<=20000;omega,by rw[iO,dw h1,gq],J,by rw[iO,dw h1,gq];exact o⟩⟩
  .exact⟨(0,0,[]),fun h=>absurd h hi⟩
 have⟨f,g⟩:=Classical.axiomOfChoice g;have L:(dS CB 0).map (QS T)=((dS CB 0).map f).map QT:=by
  rw[uq];refine Di fun i hi=>?_;unfold QS;rw[iO,(g i hi).1];rfl
 have D:=I7 CB;refine⟨v,(dS CB 0).map f,fun p k=>∃hp:p<(dS CB 0).length,F (dS CB 0)[p] k,rfl,?_,u,⟨fun p hp=>?_,fun p k a=>hF _ k a.2,fun p q k hp x=>?_⟩,?_,fun I=>?_,?_,?_,?_⟩
 .rw[<-L,bX];exact Y
 .rw[bX]at hp;rw[fJ];have:(fun k=>∃hp:p<(dS CB 0).length,F (dS CB 0)[p] k)=F (dS CB 0)[p]:=by funext k;simp[hp]
  rw[this];exact((g _ (bN hp)).2.2.2.2.1).below u
 .obtain⟨h1,c⟩:=hp;have⟨d,o⟩:=x;exact(List.getElem_inj D).1 (ht.ap _ _ k c o)
 .have l:iX ((dS CB 0).map f)=(((dS CB 0).flatMap fun i=>CB.getD i []).filter (cZ al)).map (·.1):=by
   unfold iX;rw[List.flatMap_map,List.filter_flatMap,List.map_flatMap];rw[zD,zD];congr 1;exact Di fun i hi=>(g i hi).2.2.2.1
  rw[l];exact(((Oy CB).filter _).trans U.symm).map _
 .rw[bX]at I |-;have h1:=yl CB 0;have c:=V.2.2.2 (by omega);have d:=Da (n:=2) (by decide) (show(dS CB 0).length-1<=CB.length-1 by omega);have o:((2:Int)^((dS CB 0).length-1))=((2^((dS CB 0).length-1):Nat):Int):=by simp
  rw[o];omega
 .intro b S;obtain⟨i,hi,rfl⟩:=dI.1 S;exact⟨(g i hi).2.1,(g i hi).2.2.1⟩
 .rw[bX];have h1:=yl CB 0;omega
 .intro w2 y ac K s O M;have af:=u.size;have ag:=K.size;have aa:mX w2 (fun i k=>∃p,∃hp:p<(dS CB 0).length,(dS CB 0)[p]=i/\y p k) X CB T al:=by
   refine⟨fun i hi C=>?_,?_,?_,?_⟩
   .obtain⟨p,hp,rfl⟩:=jk (LV hi C);have h1:=g _ (bN hp);have c:=s.bk p (by rw[bX];exact hp);rw[fJ]at c;refine⟨_,(f (dS CB 0)[p]).2.1,h1.1,?_,?_⟩
    .have d:=h1.2.2.2.2.2;rwa [iO,dw hi,gq]at d
    .have e:(fun k=>∃q,∃x:q<(dS CB 0).length,(dS CB 0)[q]=(dS CB 0)[p]/\y q k)=y p:=by
      funext k;refine propext ⟨?_,fun h=>⟨p,hp,rfl,h⟩⟩;rintro⟨q,x,l,z⟩;rw[<-(List.getElem_inj D).1 l];exact z
     have d:=h1.2.2.2.1;rw[iO,dw hi,gq]at d;rw[e,<-d];exact c
   .rintro i k ⟨p,hp,-,a⟩ H;rcases M p k a with⟨ae,h1⟩|h1
    .exact ht.off _ k h1 H
    .have:=(B k H).1;omega
   .rintro i j k ⟨p,hp,l,h1⟩ ⟨q,x,z,c⟩;have:=s.ap p q k h1 c;subst this;rw[<-l,<-z]
   .rintro i k ⟨p,hp,-,a⟩;exact(s.bk p (by rw[bX];exact hp)).lt k a
  exact⟨X,_,Cb,mb,cv,tv,av,lv,ch,T,al,eP,(E.below u).kept K (fun k a h=>by obtain⟨p,hp,h1⟩:=h;exact ht.off _ k h1 a),by rw[t];exact r,by rw[t];exact ab,by rw[t];exact aa,W,P,fun k a=>⟨by have:=(B k a).1;omega,O k (B k a).2⟩,(fun i k h=>by obtain⟨p,hp,-,a⟩:=h;exact s.TF p k a),R,by rw[t];exact Z⟩
end
end
section
open Go.RowKit Go.Sort Go.Shelf Go.Lib Go.Maps
attribute [local irreducible] wpQuiet
theorem Sb (b off:Nat) (x y:Int) (w:World) (a:w.cell? (ae b off)=some (aa x)) (c:w.frozen? (ae b off)=false):
  aH 151 #[.pointer (some (ae b off)),aa y] w fun e w'=>e=.returned (aa (wrap64 (x+y)))/\w'=w.setCell (ae b off) (.int .i64 (wrap64 (x+y))):=by
 have d:=run_call_add (P:=prog) func227 (by kernel_rfl) (by kernel_rfl) (by kernel_rfl) .i64 (by kernel_rfl) (y:=y) (s:=wrap64 (x+y)) a c (by rw[<-IntWalk.i64_left];simp[go_sem];try rfl);go_enter func151,ntmps151;go_wp2;go_ret;exact⟨rfl,rfl⟩
abbrev uR:TypeId:=74
section
variable {w:World} {Pb Hb:Nat} {dv av:Value} {ik:Int} {GH:Nat->Prop} {m:Nat} {A:List eG} {N wk:Int}
theorem p8 (a:w.heap[Pb]? =some (Obj.cells #[ah Hb,dv,av,aa ik] uR (0,0))):aH 55 #[ah Pb] w fun e w'=>e=.returned (.bool false)/\w'=w:=by
 have b:w.cell? (ae Pb 0)=some (ah Hb):=by simp[World.cell?,a]
 go_enter func55,ntmps55;go_wp2;go_ret;exact⟨rfl,rfl⟩
def SumB (bd:Nat->Nat->Prop):Nat->Nat->Prop
 |0,n=>n=0
 |i+1,n=>∃n' t,SumB bd i n'/\bd i t/\n=n'+t
theorem SumB.le {bd:Nat->Nat->Prop} {b:Nat} (h:∀i t,bd i t->t<=b):∀{i n:Nat},SumB bd i n->n<=i*b
 |0,n,a=>by simp[SumB]at a;omega
 |i+1,n,a=>by
  obtain⟨n',t,c,d,rfl⟩:=a;have e:=SumB.le h c;have f:=h i t d;rw[Nat.succ_mul];omega
def UB (fn:FuncId) (cs:Array Value) (Sx:Nat->Prop) (Q:List (Nat×Nat×List Pt)->Nat->World->Prop) (w1:World) (B:List (Nat×Nat×List Pt)):Prop:=
 ∃(I:Nat->Nat->World->Prop),I 0 0 w1/\(∀i n u,I i n u->au Sx w1 u)/\(∀i n u,I i n u->n<=i*1000000)/\(∀i n (hi:i<B.length) u,I i n u->aH fn (#[ah (B[i].1)]++cs) u fun e u'=>∃c:Nat,e=.returned (aa c)/\I (i+1) (n+c) u')/\∀n u,I B.length n u->Q B n u
def TI (w:World) (Pb:Nat) (ik:Int) (Sx:Nat->Prop) (Q:List (Nat×Nat×List Pt)->Nat->World->Prop) (e:Ending) (w':World):Prop:=
 ∃(B:List (Nat×Nat×List Pt)) (BK:Nat) (u:World),e=.returned (aa BK)/\Q B BK u/\au Sx w u/\w'=u.setCell (ae Pb 3) (.int .i64 (wrap64 (ik+BK)))
theorem J9 {fn:FuncId} {cs:Array Value} {Sx:Nat->Prop} {Q:List (Nat×Nat×List Pt)->Nat->World->Prop} (aB:∀args w,(callFunc fn args).run prog w=.ok (.enter fn args) w) (f:w.heap[Pb]? =some (Obj.cells #[ah Hb,dv,av,aa ik] uR (0,0))) (h:jM w Hb GH m A N wk) (L:∀k,Sx k->k≠Pb/\k<w.heap.size)
  (O:∀w1 B F,Below w.heap.size w w1->nJ w1 GH F B->(iX B).Perm (A.map (·.1))->(B.length≠0->(2:Int)^(B.length-1)<=N)->(∀b∈B,(b.2.1:Int)<=N/\b.2.1<=20000)->B.length<=13->UB fn cs Sx Q w1 B):
  aH 69 #[ah Pb,.func (.func fn) #[] cs] w (TI w Pb ik Sx Q):=by
 have x:=af (p8 f);have y:=af (J8 h);have an:w.cell? (ae Pb 0)=some (ah Hb):=by simp[World.cell?,f]
 have ac:=af O;have D:=af L;have ad:=af f;clear O L f h;go_enter func69,ntmps69
 go_wp2_with (go_at_call 55;refine x.o.mono ?_;rintro e w1 ⟨rfl,E⟩;have aq:=E.symm;clear E;subst aq)
 refine y.o.mono ?_;rintro e w1 ⟨v,B,F,rfl,s,r,M,Y,V,X,ar,-⟩;obtain⟨am,H,I,R,P,T⟩:=ac.o w1 B F r M Y V X ar;obtain⟨aM,aO,rfl,-,-,-⟩:=Rd.aC (enc:=QT) s;have C:=af s;have a:=af r;have al:=af I;have ag:=af P;have ai:=af T;have z:=af R;have aj:=af H;clear s r I P T H M Y V X R y x an
 go_wp2_with fail
 go_loopw [16,5] (fun t ax wr=>∃i n:Nat,t=.int .i64 i/\ax=.int .i64 n/\i<=B.length/\Hid (am i n wr)) (fun t _ _=>B.length-(intOf t).toNat)
 case atStart=>exact⟨0,0,rfl,rfl,bf _,aj⟩
 case round=>
  obtain⟨i,n,rfl,rfl,hi,d⟩:=hrel;have K:=af (al.o i n wr d.o);have J:Hid (au Sx w wr):=⟨K.o.os.trans a.o.os,K.o.tape.trans a.o.tape,K.o.output.trans a.o.output,bJ a.o.size K.o.size,fun k U aw=>(K.o.block k (bB U a.o.size) aw).trans (a.o.block k U)⟩;have aI:=z.o i n wr d.o;by_cases W:i<B.length
  .have ab:=aS C.o K.o (fun G e l=>by have aD:=(C.o.lt G e).1;have aE:=(D.o G l).2;omega);obtain⟨aN,aP,j,-,-,Z⟩:=Rd.aC (enc:=QT) ab;injection j with j _ ap;subst j ap;obtain⟨az,aA,ao,-,S⟩:=Z.get (by omega);have ay:=S i W;have g:=af (ag.o i n W wr d.o);unfold QT at ay;subst ao;generalize B[i].1=tb at*;clear S Z ab;have aL:(i:Int)<(B.length:Int):=by omega
   have aK:(i+1)*1000000<=13*1000000:=oC _ (by omega)
   go_wp2_with (refine g.o.mono ?_;rintro e u ⟨c,rfl,p⟩;have aG:=z.o (i+1) (n+c) u p;have aF:(-9223372036854775808:Int)<=(n:Int)+(c:Int)/\(n:Int)+(c:Int)<=9223372036854775807:=(by omega);have ak:=af p;clear p)
   go_roundw
   case rel=>exact⟨i+1,n+c,by go_num,by go_num,by omega,ak⟩
   case measure=>simp[intOf];omega
  .obtain rfl:i=B.length:=by omega
   have aJ:¬(B.length:Int)<(B.length:Int):=by omega
   have q:wr.heap[Pb]? =some (Obj.cells #[ah Hb,dv,av,aa ik] uR (0,0)):=bF J.o ad.o (fun l=>(D.o Pb l).1 rfl);have g:=af (Sb Pb 3 ik n wr (by simp[World.cell?,q]) (by simp[World.frozen?,q]));clear q
   go_wp2_with fail
   refine g.o.mono ?_;rintro e aQ ⟨rfl,rfl⟩;go_wp2;go_ret;exact⟨B,n,wr,rfl,ai.o n wr d.o,J.o,rfl⟩
end
theorem LW:∀args w,(callFunc 150 args).run prog w=.ok (.enter 150 args) w:=cK func150 (by kernel_rfl) rfl
theorem Oz (l:List Int):l.map (Value.int .u32)=l.flatMap fun x=>[ai x]:=by
 induction l with
 |nil=>rfl
 |cons x l ih=>simp[ih]
theorem OA {fn:FuncId} {cs:Array Value} (W:∀args w,(callFunc fn args).run prog w=.ok (.enter fn args) w) {u:World} {r ob tb:Nat} {m:Value} {b R:List Int} {base:Nat} {bd:Nat->Prop} (X:u.cell? (ae r 0)=some (.func (.func fn) #[] cs)) (y:u.heap[ob]? =some (Obj.cells #[m] 35 (0,0))) (ab:ob<base) (Y:base<=u.heap.size) (z:u.ownsRow base 27 1 m b.length (b.map (Value.int .u32))) (Z:b.length+R.length<=1000000)
  (M:aH fn (#[ah tb]++cs) u fun e d=>∃(v:Value) (c:Nat),e=.returned (.tuple #[v,aa (c:Nat)])/\bd c/\d.ownsRow u.heap.size 27 1 v R.length (R.map (Value.int .u32))/\Below u.heap.size u d):
  aH 150 #[ah tb,ah r,ah ob] u fun e d=>∃c:Nat,e=.returned (aa (c:Nat))/\bd c/\∃A,d.heap[ob]? =some (Obj.cells #[A] 35 (0,0))/\d.ownsRow base 27 1 A (b++R).length ((b++R).map (Value.int .u32))/\au (fun k=>k=ob\/m.ownBlock=some k) u d:=by
 have C:=af M;have HO:=af y;have p:=af z;obtain⟨i,j,rfl,-,-,-⟩:=Rd.aC z;have ac:=(aZ.1 y).1;go_enter func150,ntmps150
 go_wp2_with fail
 refine C.o.mono ?_;rintro e u1 ⟨v,c,rfl,K,P,I⟩;have B:=af K;have E:=af P;have f:=af I;obtain⟨U,V,rfl,-,-,S⟩:=Rd.aC E.o;have G:=af (Rd.Ue (show Rd (.int .u32) u1 U R from S));have n:=af ((aL f.o HO.o).trans HO.o);have F:=af (ax p.o f.o);have ad:=f.o.size;have ak:u1.cell? (ae ob 0)=some (.slice i b.length j):=by simp only[World.cell?,n.o];rfl
 have N:b.length+R.length<=maxLen:=by unfold maxLen;omega
 have O:(b.length+R.length)*4<=140737488355328:=by omega
 have L:base<=u1.heap.size:=by omega
 have D:Hid (Value.ownBlock (.slice i b.length j)≠some ob):=fun e=>by have:=(p.o.lt ob e).1;omega
 go_wp2_with (at_builtin;go_loud (refine iH sM (enc:=fun x=>[ai x]) (fun _=>rfl) (fun x u hu=>by simp at hu;subst hu;rfl) base F.o G.o rfl _ _ rfl rfl V rfl N O L ?_;intro T u6 Q t;have l:=(t.block ob (by omega) (fun e=>D.o e.symm)).trans n.o;have ag:u6.cell? (ae ob 0)=some (.slice i b.length j):=(by simp only[World.cell?,l];rfl);have aj:u6.frozen? (ae ob 0)=false:=(by simp[World.frozen?,l]);have g:u6.ownsRow base 27 1 T (b++R).length ((b++R).map (Value.int .u32)):=(by rw[bS,bq,Oz R];exact Q);obtain⟨q,s,rfl,-,-,-⟩:=Rd.aC g))
 go_ret;rw[bq]at g;have J:(u6.setCell (ae ob 0) (.slice q (b.length+R.length) s)).heap[ob]? =some (Obj.cells #[.slice q (b.length+R.length) s] 35 (0,0)):=by
  rw[dA u6 ob 0 _ _ _ l];rfl
 refine⟨c,rfl,B.o,_,J,?_,((((au.refl (fun k=>k=ob\/Value.ownBlock (.slice i b.length j)=some k) u).below f.o).grown t fun k e=>.inl (.inr e))).set (a:=(ae ob 0)) _ (.inl (.inl rfl))⟩;rw[bq];exact aS g ((au.refl (fun k=>k=ob) u6).set (a:=(ae ob 0)) _ (.inl rfl)) (fun H e h=>by have:=(g.lt H e).1;omega)
section
variable {w:World} {Pb Hb:Nat} {dv av:Value} {ik:Int} {GH:Nat->Prop} {m:Nat} {A:List eG} {N wk:Int}
structure Et (w w1:World) (GH:Nat->Prop) (A:List eG) (N:Int) (B:List (Nat×Nat×List Pt)) (F:Nat->Nat->Prop):Prop where
 below:Below w.heap.size w w1
 wd:nJ w1 GH F B
 perm:(iX B).Perm (A.map (·.1))
 log:B.length≠0->(2:Int)^(B.length-1)<=N
 built:∀b∈B,(b.2.1:Int)<=N/\b.2.1<=20000
 few:B.length<=13
def UC (w:World) (GH:Nat->Prop) (fn:FuncId) (cs:Array Value) (B:List (Nat×Nat×List Pt)) (F:Nat->Nat->Prop) (R:Nat->List Int) (bd:Nat->Nat->Prop):Prop:=
 ∀(i:Nat) (hi:i<B.length) (u:World),Below w.heap.size w u->nJ u GH F B->aH fn (#[ah (B[i].1)]++cs) u fun e u'=>∃(v:Value) (c:Nat),e=.returned (.tuple #[v,aa (c:Nat)])/\bd i c/\u'.ownsRow u.heap.size 27 1 v (R i).length ((R i).map (Value.int .u32))/\Below u.heap.size u u'
def TJ (w:World) (Pb Hb:Nat) (dv av:Value) (ik:Int) (Q:List Int->Nat->Prop) (e:Ending) (w':World):Prop:=
 ∃(v:Value) (L:List Int) (BK:Nat),e=.returned (.tuple #[v,aa BK])/\w'.ownsRow w.heap.size 27 1 v L.length (L.map (Value.int .u32))/\Q L BK/\au (fun k=>k=Pb) w w'/\w'.heap[Pb]? =some (Obj.cells #[ah Hb,dv,av,aa (wrap64 (ik+BK))] uR (0,0))
theorem Eu {R:Nat->List Int} {b:Nat} (h:∀i,(R i).length<=b):∀i,((List.range i).flatMap R).length<=i*b
 |0=>by simp
 |i+1=>by
  have e:([i].flatMap R).length=(R i).length:=by simp
  rw[uf,gM,bq,Nat.succ_mul,e];have a:=Eu h i;have c:=h i;omega
theorem Ka {r:Nat->Nat} {b:Nat} (h:∀i,r i<=b):∀i,((List.range i).map r).sum<=i*b
 |0=>by simp
 |i+1=>by
  have e:([i].map r).sum=r i:=by simp
  rw[uf,bS,zI,Nat.succ_mul,e];have a:=Ka h i;have c:=h i;omega
theorem Qp {fn:FuncId} {cs:Array Value} {Q:List Int->Nat->Prop} (ai:∀args w,(callFunc fn args).run prog w=.ok (.enter fn args) w) (G:w.heap[Pb]? =some (Obj.cells #[ah Hb,dv,av,aa ik] uR (0,0))) (h:jM w Hb GH m A N wk) (ak:∀k,GH k->k<w.heap.size)
  (ap:∀w1 B F,Et w w1 GH A N B F->∃R bd,(∀i t,bd i t->t<=1000000)/\(∀i,(R i).length<=20000)/\UC w GH fn cs B F R bd/\∀n,SumB bd B.length n->Q (eD ((List.range B.length).flatMap R)) n):
  aH 65 #[ah Pb,.func (.func fn) #[] cs] w (TJ w Pb Hb dv av ik Q):=by
 have aU:=(aZ.1 G).1;have T:au (fun _=>False) w ((w.alloc (.cells #[.func (.func fn) #[] cs] 121)).alloc (.cells #[aG] 35)):=((au.refl _ w).alloc _).alloc _;have C:=Dz w (.cells #[.func (.func fn) #[] cs] 121) (.cells #[aG] 35);have U:=xx w (.cells #[.func (.func fn) #[] cs] 121) (.cells #[aG] 35);have s:Below w.heap.size w ((w.alloc (.cells #[.func (.func fn) #[] cs] 121)).alloc (.cells #[aG] 35)):=((aB _ _).alloc (ay _) _).alloc (by simp) _;have aQ:((w.alloc (.cells #[.func (.func fn) #[] cs] 121)).alloc (.cells #[aG] 35)).heap.size=w.heap.size+2:=by simp
 have H:=bF T G (fun h=>h);have V:=af (J9 (Sx:=fun k=>k=w.heap.size+1) (cs:=#[ah w.heap.size,ah (w.heap.size+1)]) (Q:=fun B f u=>∃(L:List Int) (d:Value),u.heap[w.heap.size+1]? =some (Obj.cells #[d] 35 (0,0))/\u.ownsRow w.heap.size 27 1 d L.length (L.map (Value.int .u32))/\w.heap.size+2<=u.heap.size/\(∀l,d.ownBlock=some l->w.heap.size+2<=l)/\L.length<=1000000/\Q (eD L) f) LW H (h.kept T (fun _ _ h=>h)) (fun k I=>by rw[aQ];omega) (fun w1 B F p E aJ aE aF D=>by
  have⟨R,bd,aw,x,aj,v⟩:=ap w1 B F ⟨s.trans (p.mono (by omega)),E,aJ,aE,aF,D⟩;have aW:=p.size;have ag:=(aL p C).trans C;have aM:=(aL p U).trans U;refine⟨fun i n u=>SumB bd i n/\∃d,u.heap[w.heap.size+1]? =some (Obj.cells #[d] 35 (0,0))/\u.ownsRow w1.heap.size 27 1 d ((List.range i).flatMap R).length (((List.range i).flatMap R).map (Value.int .u32))/\au (fun k=>k=w.heap.size+1) w1 u,⟨rfl,_,aM,dz _ _ _ _,au.refl _ _⟩,fun i n u g=>g.2.choose_spec.2.2,fun i n u g=>g.1.le aw,fun i n hi u g=>?_,fun n u g=>?_⟩
  .obtain⟨y,d,q,j,b⟩:=g;have S:=b.size;have ao:u.cell? (ae w.heap.size 0)=some (.func (.func fn) #[] cs):=by
    have:=bF b ag (by omega);simp only[World.cell?,this];rfl
   have ar:Below w.heap.size w u:=s.trans ((p.mono (by omega)).trans (b.toBelow (by omega) (by rintro k rfl;omega)));have aA:=Eu x i;have ax:i*20000<=13*20000:=oC _ (by omega);have aV:=x i;refine(OA (bd:=bd i) ai ao q (by omega) S j (by omega) (aj i hi u ar (E.kept b fun k I e=>by have:=ak k I;omega))).mono ?_;rintro e aX ⟨c,rfl,aq,aP,aI,aK,al⟩;refine⟨c,rfl,⟨n,c,y,aq,rfl⟩,aP,aI,?_,?_⟩
   .rw[uf,gM];simpa using aK
   .refine au.strip ((b.mono fun k h=>.inl h).trans (al.mono fun k h=>?_));rcases h with h|h
    .exact .inl h
    .exact .inr (j.lt k h).1
  .obtain⟨y,d,q,j,b⟩:=g;have aA:=Eu x B.length;have ax:B.length*20000<=13*20000:=oC _ D;exact⟨_,d,q,eu j (by omega),by have:=b.size;omega,fun l e=>by have:=(j.lt l e).1;omega,by omega,v n y⟩))
 have X:=af s;have Y:=af H;go_enter func65,ntmps65
 go_wp2_with fail
 refine V.o.mono ?_;rintro e aT ⟨B,f,u,rfl,⟨L,d,q,j,S,M,aD,v⟩,b,rfl⟩;have an:=bF b Y.o (by omega);have am:Hid ((u.setCell (ae Pb 3) (.int .i64 (wrap64 (ik+(f:Int))))).heap[Pb]? =some (Obj.cells #[ah Hb,dv,av,aa (wrap64 (ik+(f:Int)))] uR (0,0))):=by
  show _=_;rw[dA u Pb 3 _ _ _ an];rfl
 have K:(u.setCell (ae Pb 3) (.int .i64 (wrap64 (ik+(f:Int))))).heap[w.heap.size+1]? =some (Obj.cells #[d] 35 (0,0)):=(az (a:=(ae Pb 3)) (fun e:Pb=w.heap.size+1=>by omega)).trans q;have P:=aS j ((au.refl (fun k=>k=Pb) u).set (a:=(ae Pb 3)) (.int .i64 (wrap64 (ik+(f:Int)))) (.inl rfl)) (fun l e h=>by have:=M l e;omega);have Z:Hid (au (fun k=>k=Pb) w (u.setCell (ae Pb 3) (.int .i64 (wrap64 (ik+(f:Int)))))):=au.strip ((((au.refl (fun k=>k=Pb\/w.heap.size<=k) w).below X.o).trans (b.mono fun k h=>.inr (by omega))).set (a:=(ae Pb 3)) _ (.inl (.inl rfl)));have r:=af M;have ad:=af v;have a0:(u.setCell (ae Pb 3) (.int .i64 (wrap64 (ik+(f:Int))))).cell? (ae (w.heap.size+1) 0)=some d:=by simp only[World.cell?,K];rfl
 have W:=af (uW P aD);have ab:=af K;obtain⟨aN,aO,rfl,-,-,-⟩:=Rd.aC P;generalize u.setCell (ae Pb 3) (.int .i64 (wrap64 (ik+(f:Int))))=aT at*
 go_wp2_with (go_at_call 64;refine W.o.mono ?_;rintro e aR ⟨rfl,O,b⟩;have J:=bF b ab.o (fun e=>by have:=r.o _ e;omega);have aY:aR.cell? (ae (w.heap.size+1) 0)=some (.slice aN L.length aO):=(by simp only[World.cell?,J];rfl);have ac:=af O;have z:=af b;clear O b J)
 go_ret2;refine⟨_,eD L,f,rfl,by rw[jC];exact ac.o,ad.o,au.strip ((Z.o.mono fun k h=>.inl h).trans (z.o.mono fun k h=>.inr (by have:=r.o k h;omega))),bF z.o am.o (fun e=>by have:=r.o _ e;omega)⟩
end
end
end Go.Proofs.YtkjdbndekceffaaGreat
