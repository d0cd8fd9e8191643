/- Made small by a program. -/
import Derived.Test.YtkjdbndekceffaaGreatW17
set_option linter.unusedSimpArgs false
set_option linter.unusedVariables false
set_option maxRecDepth 100000
set_option maxHeartbeats 16000000
namespace Go.Proofs.YtkjdbndekceffaaGreat
open Tryz
section
open Go.RowKit Go.Maps
def Ua (S:Nat->Prop) (ch:List lH):Prop:=∀h∈ch,h.2.1≠[]->∀a,h.1=some a->S a.block
theorem Ua.nw {S:Nat->Prop} {n:Nat} {ch b:List lH} (h:Ua S ch) (d:Nw n ch b):Ua (fun k=>S k\/n<=k) b:=fun x f e a c=>(d x f).elim (fun g=>.inl (h x g e a c)) fun g=>.inr (g a c)
def ku (W:World) (base A:Nat) (S:Nat->Prop) (m:Nat) (D:List (Int×Int)):Prop:=
 ∃(Cb:Nat) (bv pv lv cv:Value) (bh ch:List lH) (al:List Bool) (pl:List Int) (n N wk:Int),dN W base A Cb bv pv lv cv bh ch al pl n N wk/\o6 (ch.map (·.2.1)) (bh.map (·.2.1)) al pl n N/\DU (ch.map (·.2.1)) al pl D/\al.length<=m/\(∀k,oz A Cb bv pv lv cv k->S k)/\Ua S bh/\Ua S ch
section
variable {W:World} {base A:Nat} {S:Nat->Prop} {m:Nat} {D:List (Int×Int)}
theorem ku.mono {S':Nat->Prop} {e:Nat} (h:ku W base A S m D) (hS:∀k,S k->S' k) (p:m<=e):ku W base A S' e D:=by
 have⟨Cb,bv,pv,lv,cv,bh,ch,al,pl,n,N,wk,l,o,hd,q,f,g,i⟩:=h;exact⟨Cb,bv,pv,lv,cv,bh,ch,al,pl,n,N,wk,l,o,hd,aa,fun k j=>hS k (f k j),fun h c d a b=>hS _ (g h c d a b),fun h c d a b=>hS _ (i h c d a b)⟩
theorem ku.clip (h:ku W base A S m D):ku W base A (fun k=>S k/\k<W.heap.size) m D:=by
 have⟨Cb,bv,pv,lv,cv,bh,ch,al,pl,n,N,wk,d,w,hd,v,hS,s,u⟩:=h;have j:∀{e:List lH},jX W e->Ua S e->Ua (fun k=>S k/\k<W.heap.size) e:=fun{e} q hi x l i a f=>by
  refine⟨hi x l i a f,?_⟩;rcases(q x l).1 with p|⟨b,off,y,fr,c,r,-⟩
  .exact absurd p i
  .rw[f]at c;injection c with c;rw[c];exact(aZ.1 r).1
 refine⟨Cb,bv,pv,lv,cv,bh,ch,al,pl,n,N,wk,d,w,hd,v,fun k g=>⟨hS k g,?_⟩,j d.bE s,j d.cE u⟩;obtain⟨cs,t,fr,o,-⟩:=zi d k g;exact(aZ.1 o).1
theorem ku.kept {W':World} (h:ku W base A S m D) {T:Nat->Prop} (K:ay T W W') (hd:∀k,S k->¬T k):ku W' base A S m D:=by
 have⟨Cb,bv,pv,lv,cv,bh,ch,al,pl,n,N,wk,a,i,f,g,hS,c,d⟩:=h;exact⟨Cb,bv,pv,lv,cv,bh,ch,al,pl,n,N,wk,⟨a.hb,bq K a.blk (hd _ (hS _ (.inl rfl))),⟨a.fM.hb,a.fM.ds,bq K a.fM.blk (hd _ (hS _ (.inr (.inl rfl)))),aR a.fM.row K fun b e=>hd _ (hS _ (.inr (.inr (.inr (.inr (.inr e))))))⟩,aR a.gL K fun b e=>hd _ (hS _ (.inr (.inr (.inl e)))),aR a.iD K fun b e=>hd _ (hS _ (.inr (.inr (.inr (.inl e))))),aR a.dK K fun b e=>hd _ (hS _ (.inr (.inr (.inr (.inr (.inl e)))))),a.bE.NP c K hd,a.cE.NP d K hd,a.sep⟩,i,f,g,hS,c,d⟩
theorem VV (W:World):aK 54 #[] W fun e w'=>e=.returned (aj (W.heap.size+1))/\ku w' W.heap.size (W.heap.size+1) (fun k=>W.heap.size<=k) 0 []/\Below W.heap.size W w':=by
 refine(Ti W).mono ?_;rintro e w' ⟨c,d,b⟩;refine⟨c,⟨W.heap.size,aL,aL,aL,aL,[],[],[],[],0,0,0,d,Ox,DU.new,aB _,?_,(fun h a=>absurd a iC),fun h a=>absurd a iC⟩,b⟩;rintro k (h|h|h|h|h|h)
 .show _<=k;omega
 .show _<=k;omega
 all_goals cases h
def Ub (W:World) (D:List (Int×Int)) (id:Int) (e:Ending) (w':World):Prop:=
 ∃t:Nat,t<=(Lib.bitLen (2*D.length+1)+1)*(Lib.bitLen (2*D.length+1)+1)/\((∃p,(id,p)∈D/\e=.returned (.tuple #[ae p,.bool true,ae t]))\/((∀p,(id,p)∉D)/\e=.returned (.tuple #[ae 0,.bool false,ae t])))/\Below W.heap.size W w'
theorem Vg (h:ku W base A S m D) (id:Int):aK 72 #[aj A,au id] W (Ub W D id):=by
 obtain⟨Cb,bv,pv,lv,cv,bh,ch,al,pl,n,N,wk,j,c,hd,q,hS,k,o⟩:=h;have d:=c.Sg;refine(QX j c (by have:=d.1;simp at this;omega) (fun l i=>by have:=d.2.2.1 l i;omega) id).mono ?_;rintro e w' ⟨t,ht,g,f⟩;refine⟨t,?_,?_,f⟩
 .rw[hd.len];exact bB ht (Me c)
 .rcases g with⟨p,a,b⟩|⟨a,b⟩
  .exact .inl ⟨p,(hd.iff _ _).2 a,b⟩
  .exact .inr ⟨fun p hp=>a p ((hd.iff _ _).1 hp),b⟩
theorem J8 (h:ku W base A S m D) (id p c:Int) (hid:(id,c)∈D):aK 56 #[aj A,au id,ae p] W (gm W (ae 2)):=by
 have⟨Cb,bv,pv,lv,cv,bh,ch,al,pl,n,N,wk,e,a,hd,i,hS,f,g⟩:=h;have b:=a.Sg;exact Fa e a (by have:=b.1;simp at this;omega) (fun l d=>by have:=b.2.2.1 l d;omega) id p c ((hd.iff _ _).1 hid)
def K9 (S:Nat->Prop) (W w':World):Prop:=∃T:Nat->Prop,ay T W w'/\∀k,T k->S k/\∃cs t fr,W.heap[k]? =some (Obj.cells cs t fr)/\P6 t=true
theorem K9.Uc {w':World} (h:K9 S W w'):ay S W w':=by
 have⟨T,K,a⟩:=h;exact K.mono fun k b=>(a k b).1
def Vh (W:World) (base A:Nat) (S:Nat->Prop) (m:Nat) (D:List (Int×Int)) (id p:Int) (e:Ending) (w':World):Prop:=
 e=.returned (ae 0)/\ku w' base A (fun k=>S k\/W.heap.size<=k) (m+1) (D++[(id,p)])/\K9 S W w'
theorem P7 (h:ku W base A S m D) (M:base<=W.heap.size) (af:m<5000) (id p:Int) (hid:∀q,(id,q)∉D):aK 56 #[aj A,au id,ae p] W (Vh W base A S m D id p):=by
 have⟨Cb,bv,pv,lv,cv,bh,ch,al,pl,n,N,wk,u,c,hd,ad,hS,z,B⟩:=h;have F:∀k,oz A Cb bv pv lv cv k->∃cs t fr,W.heap[k]? =some (Obj.cells cs t fr)/\P6 t=true:=zi u;have G:=c.Sg;by_cases d:∃x∈(ch.map (·.2.1)).flatten,x.1=id
 .obtain⟨x,d,X⟩:=d;have⟨k,b,C⟩:=c.ui x d;have f:(id,(k:Int))∈(ch.map (·.2.1)).flatten:=by rw[<-X,<-b];exact d
  have j:al[k]? =some false:=by
   rw[bZ C];cases L:al[k]with
   |false=>rfl
   |true=>
    obtain⟨q,U,-⟩:=hd.val c.towZ f (by rw[bZ C,L]);exact absurd U (hid q)
  have Q:0<=n/\n<=100000:=by
   have w:=c.cnt;have y:al.count true<=al.length:=Em;have ac:=c.bound;omega
  refine(Fb u c (by have:=G.1;simp at this;omega) (fun l O=>by have:=G.2.2.1 l O;omega) id p k f j Q).mono ?_;rintro e w' ⟨o,v,g⟩;have K:ay (oz A Cb bv pv lv cv) W w':=g.mono fun k b=>by
   rcases b with h|h|h
   .exact .inl h
   .exact .inr (.inr (.inr (.inl h)))
   .exact .inr (.inr (.inr (.inr (.inl h))))
  exact⟨o,⟨Cb,bv,pv,lv,cv,bh,ch,_,_,_,N,wk,v,QZ c k p id f j,hd.again c.towZ f j,aG,fun k b=>.inl (hS k b),(fun h r s a i=>.inl (z h r s a i)),fun h r s a i=>.inl (B h r s a i)⟩,⟨_,K,fun k b=>⟨hS k b,F k b⟩⟩⟩
 .have E:∀x∈(ch.map (·.2.1)).flatten,x.1≠id:=fun x w y=>d ⟨x,w,y⟩;refine(J4 u M c aa id p E).mono ?_;rintro e w' ⟨H,Z,Y,J,bh',I,ab,o,v,V,hP,P,g,R,T⟩;exact⟨o,⟨Cb,H,Z,Y,J,bh',I,_,_,_,_,ab,v,V,hd.put c.towZ E hP,aG,fun k b=>(P k b).imp (hS k) (fun h=>h),z.nw R,B.nw T⟩,⟨_,g,fun k b=>⟨hS k b,F k b⟩⟩⟩
theorem P8 (h:ku W base A S m D) (id:Int) (hid:∀q,(id,q)∉D):aK 58 #[aj A,au id] W (gm W (.tuple #[ae 0,.bool false])):=by
 have⟨Cb,bv,pv,lv,cv,bh,ch,al,pl,n,N,wk,b,c,hd,f,hS,d,e⟩:=h;exact J7 b c id (fun q a=>hid q ((hd.iff _ _).2 a))
def Ud (W:World) (base A:Nat) (S:Nat->Prop) (m:Nat) (D:List (Int×Int)) (id p:Int) (e:Ending) (w':World):Prop:=
 e=.returned (.tuple #[ae p,.bool true])/\ku w' base A (fun k=>S k\/W.heap.size<=k) m (D.filter fun x=>decide (x.1≠id))/\K9 S W w'
theorem Nh (h:ku W base A S m D) (s:base<=W.heap.size) (id p:Int) (hid:(id,p)∈D):aK 58 #[aj A,au id] W (Ud W base A S m D id p):=by
 have⟨Cb,bv,pv,lv,cv,bh,ch,al,pl,n,N,wk,d,f,hd,x,hS,u,v⟩:=h;have E:=zi d;have⟨k,b,c,o⟩:=(hd.iff _ _).1 hid;have q:=hd.drop f.towZ b c;refine(H7 d s f id p k b c o).mono ?_;rintro e w' ⟨i,l,bh',j,g,G,t,C,F,w,y,r,z,B⟩;exact⟨t,⟨Cb,i,pv,lv,l,bh',j,_,_,_,g,G,C,F,q.turn w,aQ x,fun k a=>(y k a).imp (hS k) (fun h=>h),u.nw z,v.nw B⟩,⟨_,r,fun k a=>⟨hS k a,E k a⟩⟩⟩
end
def Own (W:World) (base A m:Nat) (D:List (Int×Int)):Prop:=ku W base A (fun k=>base<=k) m D
end
section
open Go.RowKit Go.Sort Go.Shelf Go.Lib Go.Maps
attribute [local irreducible] wpQuiet
attribute [local go_sem] Oper.fw
structure H8 (w:World) (Pb Hb Ab base:Nat) (av:Value) (GH SD:Nat->Prop) (m:Nat) (A:List eU) (D:List (Int×Int)) (ALL:List Pt) (N wk fD:Int):Prop where
 blk:w.heap[Pb]? =some (Obj.cells #[aj Hb,aj Ab,av,ae fD] xB (0,0))
 row:w.ownsRow 0 29 3 av ALL.length (ALL.flatMap dw)
 half:jI w Hb GH m A N wk
 dir:ku w base Ab SD m D
 hb:base<=w.heap.size
 few:ALL.length<=m
 fwd:∀id q,(id,q)∈D->∃(k:Nat) (c:eU),q=k/\c∈A/\ALL[k]? =some c.1/\c.1.2.2=id
 bwd:∀c∈A,∃q,(c.1.2.2,q)∈D
 rq:(∀k,GH k->¬SD k/\k≠Pb/\av.ownBlock≠some k/\k<w.heap.size)/\(∀k,SD k->k≠Pb/\av.ownBlock≠some k/\k<w.heap.size)/\av.ownBlock≠some Pb
def ek (w:World) (Pb:Nat) (G:Nat->Prop) (m:Nat) (now:List Pt) (N wk fD:Int):Prop:=
 ∃(Hb Ab base:Nat) (av:Value) (GH SD:Nat->Prop) (A:List eU) (D:List (Int×Int)) (ALL:List Pt),H8 w Pb Hb Ab base av GH SD m A D ALL N wk fD/\A.map (·.1)=now/\∀k,GH k\/SD k\/k=Pb\/av.ownBlock=some k->G k
theorem jI.clip {w:World} {Hb m:Nat} {G:Nat->Prop} {A:List eU} {N wk:Int} (h:jI w Hb G m A N wk):jI w Hb (fun k=>G k/\k<w.heap.size) m A N wk:=by
 have⟨X,F,Cb,mb,cv,tv,av,lv,ch,T,al,eY,d,e,f,c,g,j,b,l,n⟩:=h;exact⟨X,F,Cb,mb,cv,tv,av,lv,ch,T,al,eY,d,e,f,c,g,j,fun k a=>⟨(b k a).1,(b k a).2,(b k a).1⟩,fun i k a=>⟨l i k a,c.lt i k a⟩,n⟩
section
variable {w w':World} {Pb Hb Ab base m:Nat} {av:Value} {G GH SD S:Nat->Prop} {A:List eU} {D:List (Int×Int)} {ALL now:List Pt} {N wk fD RQ:Int}
theorem H8.kept (h:H8 w Pb Hb Ab base av GH SD m A D ALL N wk fD) (K:ay S w w') (hS:∀k,GH k\/SD k\/k=Pb\/av.ownBlock=some k->¬S k):H8 w' Pb Hb Ab base av GH SD m A D ALL N wk fD:=
 ⟨bq K h.blk (hS _ (.inr (.inr (.inl rfl)))),aR h.row K fun b e=>hS _ (.inr (.inr (.inr e))),h.half.kept K fun k a=>hS k (.inl a),h.dir.kept K fun k a=>hS k (.inr (.inl a)),bB h.hb K.size,h.few,h.fwd,h.bwd,⟨fun k a=>⟨(h.rq.1 k a).1,(h.rq.1 k a).2.1,(h.rq.1 k a).2.2.1,bX (h.rq.1 k a).2.2.2 K.size⟩,fun k a=>⟨(h.rq.2.1 k a).1,(h.rq.2.1 k a).2.1,bX (h.rq.2.1 k a).2.2 K.size⟩,h.rq.2.2⟩⟩
theorem H8.P9 (h:H8 w Pb Hb Ab base av GH SD m A D ALL N wk fD) (K:ay (fun k=>k=Pb) w w') (hb:w'.heap[Pb]? =some (Obj.cells #[aj Hb,aj Ab,av,ae RQ] xB (0,0))):H8 w' Pb Hb Ab base av GH SD m A D ALL N wk RQ:=
 ⟨hb,aR h.row K fun c e b=>h.rq.2.2 (by rw[e,b]),h.half.kept K fun k a=>(h.rq.1 k a).2.1,h.dir.kept K fun k a=>(h.rq.2.1 k a).1,bB h.hb K.size,h.few,h.fwd,h.bwd,⟨fun k a=>⟨(h.rq.1 k a).1,(h.rq.1 k a).2.1,(h.rq.1 k a).2.2.1,bX (h.rq.1 k a).2.2.2 K.size⟩,fun k a=>⟨(h.rq.2.1 k a).1,(h.rq.2.1 k a).2.1,bX (h.rq.2.1 k a).2.2 K.size⟩,h.rq.2.2⟩⟩
theorem ek.kept (h:ek w Pb G m now N wk fD) (K:ay S w w') (hS:∀k,G k->¬S k):ek w' Pb G m now N wk fD:=by
 have⟨Hb,Ab,base,av,GH,SD,A,D,ALL,b,c,a⟩:=h;exact⟨Hb,Ab,base,av,GH,SD,A,D,ALL,b.kept K fun k d=>hS k (a k d),c,a⟩
theorem ek.below (h:ek w Pb G m now N wk fD) (a:Below w.heap.size w w'):ek w' Pb G m now N wk fD:=h.kept (S:=fun _=>False) ((ay.refl _ _).below a) fun _ _ h=>h
theorem ek.more {a:Nat->Prop} (h:ek w Pb G m now N wk fD) (e:∀k,G k->a k):ek w Pb a m now N wk fD:=by
 have⟨Hb,Ab,base,av,GH,SD,A,D,ALL,b,c,d⟩:=h;exact⟨Hb,Ab,base,av,GH,SD,A,D,ALL,b,c,fun k f=>e k (d k f)⟩
theorem ek.facts (h:ek w Pb G m now N wk fD):(now.length:Int)<=N/\N<=2*now.length/\N<=m/\(ids now).Nodup/\(∀p∈now,BB p)/\0<=wk/\(∀L,m<2^L->wk<=(L*m:Nat))/\G Pb:=by
 obtain⟨Hb,Ab,base,av,GH,SD,A,D,ALL,a,rfl,b⟩:=h;obtain⟨f1,f2,f3,f4,f5,f6,f7,-⟩:=a.half.facts;rw[bU];exact⟨f1,f2,f3,f4,fun p hp=>by obtain⟨c,d,rfl⟩:=dm.1 hp;exact f5 c d,f6,f7,b _ (.inr (.inr (.inl rfl)))⟩
theorem Sr (w:World):aK 11 #[] w fun e w'=>∃Pb,e=.returned (aj Pb)/\ek w' Pb (fun k=>w.heap.size<=k/\k<w'.heap.size) 0 [] 0 0 0/\Below w.heap.size w w':=by
 have g:=af (U8 w);go_enter func11,ntmps11
 go_wp2_with fail
 refine g.o.mono ?_;rintro e w1 ⟨rfl,m,n⟩;have c:=af m.clip;have b:=af n;have f:=af (VV w1)
 go_wp2_with fail
 refine f.o.mono ?_;rintro e w2 ⟨rfl,l,p⟩;have i:=af l.clip;have a:=af p;go_wp2;go_ret;have q:=b.o.size;have t:=a.o.size;have d:ay (fun _=>False) w2 (w2.alloc (.cells #[aj (w.heap.size+2),aj (w1.heap.size+1),aL,ae 0] xB)):=(ay.refl _ w2).alloc _;have r:ay (fun _=>False) w1 w2:=(ay.refl _ w1).below a.o;have s:=c.o.facts;refine⟨w2.heap.size,rfl,⟨w.heap.size+2,w1.heap.size+1,w1.heap.size,aL,_,_,[],[],[],⟨bV w2 _,dA _ _ _ _,(c.o.kept r (fun _ _ h=>h)).kept d (fun _ _ h=>h),i.o.kept d (fun _ _ h=>h),aG,aY _,fun _ _ h=>absurd h iC,fun _ h=>absurd h iC,⟨fun k hk=>⟨fun j=>by have:=j.1;have:=hk.2;omega,by have:=hk.2;omega,by simp[Value.ownBlock],by have:=hk.2;simp;omega⟩,fun k hk=>⟨by have:=hk.2;omega,by simp[Value.ownBlock],by have:=hk.2;simp;omega⟩,by simp[Value.ownBlock]⟩⟩,rfl,fun k hk=>?_⟩,?_⟩
 .rcases hk with hk|hk|hk|hk
  .exact⟨hk.1,by have:=hk.2;simp;omega⟩
  .exact⟨by have:=hk.1;omega,by have:=hk.2;simp;omega⟩
  .exact⟨aa,aG⟩
  .cases hk
 .exact b.o.trans ((a.o.mono q).alloc aa _)
end
end
section
open Go.RowKit Go.Sort Go.Shelf Go.Lib Go.Maps
attribute [local irreducible] wpQuiet
def dL (B:List (Nat×Nat×List Pt)) (i:Nat):List Pt:=(B[i]?.getD (0,0,[])).2.2
def iE (B:List (Nat×Nat×List Pt)) (i:Nat):Nat:=(B[i]?.getD (0,0,[])).2.1
theorem J9 {α b:Type} (B:List α) (d:α) (g:α->List b):(List.range B.length).flatMap (fun i=>g (B[i]?.getD d))=B.flatMap g:=by
 rw[AY,AY];congr 1;refine rG aA fun i c a=>?_;rw[bU]at a;rw[fO,fO,xS,bZ a,gI]
theorem zk (B:List (Nat×Nat×List Pt)) {a:Type} (g:List Pt->List a):(List.range B.length).flatMap (fun i=>g (dL B i))=B.flatMap fun b=>g b.2.2:=J9 B (0,0,[]) fun b=>g b.2.2
theorem D7 {α b:Type} {g h:α->List b}:∀(l:List α),(∀a,(g a).Perm (h a))->(l.flatMap g).Perm (l.flatMap h)
 |[],_=>.refl _
 |a::l,H=>by
  rw[lZ,lZ];exact(H a).append (D7 l H)
theorem Ka {B:List (Nat×Nat×List Pt)} {now:List Pt} (hp:(iN B).Perm now) (f:Pt->Bool):eu ((List.range B.length).flatMap fun i=>eu (ids ((dL B i).filter f)))=eu (ids (now.filter f)):=by
 rw[zk B fun l=>eu (ids (l.filter f))];refine E8 (sH _) ((ru _ _).trans ?_);have a:(ids ((iN B).filter f)).Perm (ids (now.filter f)):=(hp.filter f).map _;refine a.symm.trans ?_;unfold iN ids;rw[List.filter_flatMap,List.map_flatMap];exact D7 B fun b=>(ru _ _).symm
theorem Kb {B:List (Nat×Nat×List Pt)} {now:List Pt} (hp:(iN B).Perm now) (f:Pt->Bool):((List.range B.length).map fun i=>((dL B i).filter f).length).sum=(now.filter f).length:=by
 rw[<-(hp.filter f).length_eq];unfold iN;rw[List.filter_flatMap,<-zk B fun l=>l.filter f,List.length_flatMap]
theorem SumB.two {bd:Nat->Nat->Prop} {r:Nat->Nat} {b:Nat} (c:∀i t,bd i t->r i<=t/\t<=2*r i+b):∀{i n:Nat},SumB bd i n->((List.range i).map r).sum<=n/\n<=2*((List.range i).map r).sum+i*b
 |0,n,a=>by simp[SumB]at a;subst a;simp
 |i+1,n,a=>by
  obtain⟨n',t,d,f,rfl⟩:=a;have g:=SumB.two c d;have h:=c i t f;have e:([i].map r).sum=r i:=aA;rw[pO,bL,rM,e,mU i 1 b];omega
def zL (N:Int) (L xm:Nat):Prop:=L<=xm/\∀K:Nat,N<((2^K:Nat):Int)->xm<=2*L+K*(8*K+1)
theorem bitLen_le {n K:Nat} (h:n<2^K) (f:n<=20000):Lib.bitLen n<=K:=by
 by_cases a:n=0
 .subst a;exact aY _
 .obtain⟨c,b,d⟩:=bC n aa a;have e:Lib.bitLen n-1<K:=(Iw (by decide:1<2)).1 (pG b h);omega
section
variable {w w1:World} {Pb m:Nat} {G GH:Nat->Prop} {now:List Pt} {A:List eU} {N wk fD:Int} {B:List (Nat×Nat×List Pt)} {F:Nat->Nat->Prop}
theorem CF.cost (T:CF w w1 GH A N B F) {r:Nat->Nat} {bd:Nat->Nat->Prop} (g:∀i t,bd i t->r i<=t/\t<=2*r i+(8*Lib.bitLen (iE B i)+1)) {n:Nat} (j:SumB bd B.length n):zL N ((List.range B.length).map r).sum n:=by
 have c:∀i,iE B i<=20000/\∀K:Nat,N<((2^K:Nat):Int)->iE B i<2^K:=fun i=>by
  unfold iE;by_cases hi:i<B.length
  .rw[bZ hi];have a:=T.built _ (bF hi);refine⟨a.2,fun K f=>?_⟩;simp only[gI];omega
  .rw[oD aa];exact⟨aY _,fun K _=>qa ai⟩
 refine⟨(SumB.two (r:=r) (b:=2000) (fun i t h=>?_) j).1,fun K f=>?_⟩
 .have a:=g i t h;have d:Lib.bitLen (iE B i)<=15:=bitLen_le (pG (c i).1 ai) (c i).1;omega
 .have a:=(SumB.two (r:=r) (b:=8*K+1) (fun i t h=>by
   have a:=g i t h;have d:=bitLen_le ((c i).2 K f) (c i).1;omega) j).2
  have d:B.length<=K:=by
   by_cases k:B.length=0
   .omega
   .have e:=T.log k;have l:((2:Int)^(B.length-1))=((2^(B.length-1):Nat):Int):=aA;rw[l]at e;have m:(2:Nat)^(B.length-1)<2^K:=aa;have o:=(Iw (by decide:1<2)).1 m;omega
  have e:=nS (8*K+1) d;omega
def uE (w:World) (Pb:Nat) (G:Nat->Prop) (m:Nat) (now:List Pt) (N wk fD:Int) (L:List Int) (e:Ending) (w':World):Prop:=
 ∃(v:Value) (xm:Nat),e=.returned (.tuple #[v,ae xm])/\w'.ownsRow w.heap.size 27 1 v L.length (L.map (Value.int .u32))/\zL N L.length xm/\ay (fun k=>k=Pb) w w'/\ek w' Pb G m now N wk (wrap64 (fD+xm))
def D8 (w:World) (Pb:Nat) (G:Nat->Prop) (m:Nat) (now:List Pt) (N wk fD:Int) (r:Value) (e:Ending) (w':World):Prop:=
 ∃xm:Nat,e=.returned (.tuple #[r,ae xm])/\zL N 0 xm/\ay (fun k=>k=Pb) w w'/\ek w' Pb G m now N wk (wrap64 (fD+xm))
theorem nA.at (W:nA w G F B) {i:Nat} (hi:i<B.length):Bk w (F i) B[i].1 (iE B i) (dL B i):=by
 have h:=W.bk i hi;unfold iE dL;rwa [bZ hi]
theorem nA.few (W:nA w G F B) (f:Pt->Bool) (i:Nat):((dL B i).filter f).length<=20000:=by
 refine bB (gD _ _) ?_;by_cases hi:i<B.length
 .obtain⟨lo,m0,m1,m2,m3,m4,a,bx,cn,hp,lw,ob,tl,sv,dn,h⟩:=W.at hi;have:=h.box.Fx;omega
 .unfold dL;rw[oD aa];simp
theorem nA.Wh (hp:(iN B).Perm (A.map (·.1))) (d:∀c∈A,BB c.1) (i:Nat):Tz (dL B i):=fun p a=>by
 have b:p∈iN B:=by
  unfold dL at a;by_cases hi:i<B.length
  .rw[bZ hi]at a;exact xY.2 ⟨_,bF hi,a⟩
  .rw[oD aa]at a;simp at a
 obtain⟨c,e,rfl⟩:=dm.1 (hp.mem_iff.1 b);exact d c e
theorem Kc {fn:FuncId} {cs:Array Value} (f:Pt->Bool) (q:∀args w,(callFunc fn args).run prog w=.ok (.enter fn args) w) (h:ek w Pb G m now N wk fD)
  (ask:∀(u:World) (F:Nat->Prop) (tb n0:Nat) (l:List Pt),Below w.heap.size w u->Bk u F tb n0 l->Tz l->aK fn (#[aj tb]++cs) u fun e d=>∃(v:Value) (t:Nat),e=.returned (.tuple #[v,ae t])/\((eu (ids (l.filter f))).length<=t/\t<=2*(eu (ids (l.filter f))).length+(8*Lib.bitLen n0+1))/\d.ownsRow u.heap.size 27 1 v (eu (ids (l.filter f))).length ((eu (ids (l.filter f))).map (Value.int .u32))/\Below u.heap.size u d):
  aK 65 #[aj Pb,.func (.func fn) #[] cs] w (uE w Pb G m now N wk fD (eu (ids (now.filter f)))):=by
 obtain⟨Hb,Ab,base,av,GH,SD,A,D,ALL,a,rfl,s⟩:=h;have x:=a.half.facts.2.2.2.2.1;refine(RJ (Q:=fun L n=>L=eu (ids ((A.map (·.1)).filter f))/\zL N L.length n) q a.blk a.half (fun k E=>(a.rq.1 k E).2.2.2) ?_).mono ?_
 .intro w1 B F T;have p:∀i,(eu (ids ((dL B i).filter f))).length=((dL B i).filter f).length:=fun i=>by rw[jm];exact bU _
  have o:=fun i=>T.wd.few f i;refine⟨fun i=>eu (ids ((dL B i).filter f)),fun i t=>(eu (ids ((dL B i).filter f))).length<=t/\t<=2*(eu (ids ((dL B i).filter f))).length+(8*Lib.bitLen (iE B i)+1)/\iE B i<=20000,fun i t ht=>?_,fun i=>by rw[p];exact o i,fun i hi u b y=>?_,fun n H=>⟨Ka T.perm f,?_⟩⟩
  .have g:=o i
   replace ht:(eu (ids ((dL B i).filter f))).length<=t/\t<=2*(eu (ids ((dL B i).filter f))).length+(8*Lib.bitLen (iE B i)+1)/\iE B i<=20000:=ht
   have j:Lib.bitLen (iE B i)<=15:=bitLen_le (pG ht.2.2 ai) ht.2.2;rw[p]at ht;omega
  .refine(ask u (F i) B[i].1 (iE B i) (dL B i) b (y.at hi) (nA.Wh T.perm x i)).mono ?_;rintro e d ⟨v,t,rfl,ht,c,z⟩;refine⟨v,t,rfl,⟨ht.1,ht.2,?_⟩,c,z⟩;unfold iE;rw[bZ hi];exact(T.built _ (bF hi)).2
  .have g:=T.cost (r:=fun i=>(eu (ids ((dL B i).filter f))).length) (fun i t ht=>⟨ht.1,ht.2.1⟩) H;have j:(eu ((List.range B.length).flatMap fun i=>eu (ids ((dL B i).filter f)))).length=((List.range B.length).map fun i=>(eu (ids ((dL B i).filter f))).length).sum:=by rw[jm,List.length_flatMap]
   rw[j];exact g
 .rintro e w' ⟨v,L,I,rfl,c,⟨rfl,C⟩,K,b⟩;exact⟨v,I,rfl,c,C,K,Hb,Ab,base,av,GH,SD,A,D,ALL,a.P9 K b,rfl,s⟩
theorem Ni {fn:FuncId} {cs:Array Value} (r:List Pt->Nat) (j:∀args w,(callFunc fn args).run prog w=.ok (.enter fn args) w) (h:ek w Pb G m now N wk fD) (E:∀l,r l<=l.length)
  (ask:∀(u:World) (F:Nat->Prop) (tb n0:Nat) (l:List Pt),Below w.heap.size w u->Bk u F tb n0 l->Tz l->aK fn (#[aj tb]++cs) u fun e g=>∃t:Nat,e=.returned (.tuple #[ae (r l:Nat),ae t])/\t<=8*Lib.bitLen n0+1/\Below u.heap.size u g):
  aK 73 #[aj Pb,.func (.func fn) #[] cs] w fun e w'=>∃B:List (Nat×Nat×List Pt),(iN B).Perm now/\D8 w Pb G m now N wk fD (.int .i64 (((List.range B.length).map fun i=>r (dL B i)).sum:Nat)) e w':=by
 obtain⟨Hb,Ab,base,av,GH,SD,A,D,ALL,a,rfl,o⟩:=h;have q:=a.half.facts.2.2.2.2.1;refine(JZ (Q:=fun n d=>∃B:List (Nat×Nat×List Pt),(iN B).Perm (A.map (·.1))/\n=((List.range B.length).map fun i=>r (dL B i)).sum/\zL N 0 d) j a.blk a.half (fun k C=>(a.rq.1 k C).2.2.2) ?_).mono ?_
 .intro w1 B F T;have z:∀i,r (dL B i)<=20000:=fun i=>bB (E (dL B i)) (by have:=T.wd.few (fun _=>true) i;rwa [lW.2 (fun _ _=>rfl)]at this);refine⟨fun i=>r (dL B i),fun i t=>t<=8*Lib.bitLen (iE B i)+1/\iE B i<=20000,fun i t ht=>?_,z,fun i hi u c v=>?_,fun n H=>⟨B,T.perm,rfl,?_⟩⟩
  .have f:Lib.bitLen (iE B i)<=15:=bitLen_le (pG ht.2 ai) ht.2;omega
  .refine(ask u (F i) B[i].1 (iE B i) (dL B i) c (v.at hi) (nA.Wh T.perm q i)).mono ?_;rintro e g ⟨t,rfl,ht,x⟩;refine⟨t,rfl,⟨ht,?_⟩,x⟩;unfold iE;rw[bZ hi];exact(T.built _ (bF hi)).2
  .have p:=T.cost (r:=fun _=>0) (fun i t ht=>⟨aY _,aa⟩) H;have f:((List.range B.length).map fun _=>0).sum=0:=by have:=Aj (r:=fun _=>0) (b:=0) (fun _=>aB _) B.length;omega
   rwa [f]at p
 .rintro e w' ⟨n,d,rfl,⟨B,s,rfl,y⟩,K,c⟩;exact⟨B,s,d,rfl,y,K,Hb,Ab,base,av,GH,SD,A,D,ALL,a.P9 K c,rfl,o⟩
def zU (x y way:Int) (p:Pt):Bool:=decide (way<=3)&&yS x y (decide (way%2=1)) (decide (2<=way)) p
theorem RS (l:List Pt) (x y a:Int):FJ l x y a=eu (ids (l.filter (zU x y a))):=by
 unfold FJ zU;by_cases b:a<=3
 .simp only[b,gG,decide_true,Bool.true_and];rfl
 .simp only[b,jw,decide_false,Bool.false_and];rw[uG.2 aA];exact OO.symm
theorem H9 (r s:Nat->Nat) (h:∀i,r i>0↔s i>0):∀{n:Nat},((List.range n).map r).sum>0↔0<((List.range n).map s).sum
 |0=>aA
 |n+1=>by
  have c:=H9 r s h (n:=n);have d:=h n;have a:([n].map r).sum=r n:=aA;have b:([n].map s).sum=s n:=aA;rw[pO,bL,rM,bL,rM,a,b];omega
theorem xD (h:ek w Pb G m now N wk fD) (x1 x2 y1 y2 a:Int):aK 17 #[aj Pb,.agg #[ae x1,ae x2,ae y1,ae y2,au a]] w (uE w Pb G m now N wk fD (eu (ids (now.filter (DN x1 x2 y1 y2))))):=by
 have s:Below w.heap.size w (w.alloc (.cells #[ae x1,ae x2,ae y1,ae y2,au a] 38)):=(aJ _ _).alloc (aB _) _;have sz:(w.alloc (.cells #[ae x1,ae x2,ae y1,ae y2,au a] 38)).heap.size=w.heap.size+1:=aA;have i:(w.alloc (.cells #[ae x1,ae x2,ae y1,ae y2,au a] 38)).heap[w.heap.size]? =some (Obj.cells #[ae x1,ae x2,ae y1,ae y2,au a] 38 (0,0)):=by
  have q:=bV w (.cells #[ae x1,ae x2,ae y1,ae y2,au a] 38);have e:w.heap.size=w.heap.size:=aA;rw[e]at q;exact q
 have j:=af (Kc (fn:=66) (cs:=#[aj w.heap.size]) (DN x1 x2 y1 y2) HZ (h.below s) fun u F tb n0 l y x C=>by
  have b:=(aP y i).trans i;refine(Nb x x1 x2 y1 y2 a (eP b) (eP b) (eP b) (eP b) (eP b)).mono ?_;rintro e D ⟨v,t,rfl,⟨c,rfl,g⟩,f,z⟩;exact⟨v,_,rfl,⟨Nat.le_add_left _ _,by unfold hasB at*;omega⟩,f,z⟩)
 have d:ay (fun k=>k=Pb) w (w.alloc (.cells #[ae x1,ae x2,ae y1,ae y2,au a] 38)):=(ay.refl _ w).alloc _;have d:=af d;have A:=af sz;go_enter func17,ntmps17
 go_wp2_with fail
 refine j.o.mono ?_;rintro e E ⟨v,B,rfl,f,g,K,hP⟩;have HO:=af f;have r:=af hP;have p:=af K;have n:=af g;go_wp2;go_ret2;exact⟨v,B,rfl,bO HO.o (by rw[A.o];omega),n.o,d.o.trans p.o,r.o⟩
theorem La (h:ek w Pb G m now N wk fD) (x1 x2 y:Int):aK 19 #[aj Pb,ae x1,ae x2,ae y] w (uE w Pb G m now N wk fD (eu (ids (now.filter (qK x1 x2 y))))):=by
 have r:Below w.heap.size w (((w.alloc (.cells #[ae x1] 2)).alloc (.cells #[ae x2] 2)).alloc (.cells #[ae y] 2)):=(((aJ _ _).alloc (aB _) _).alloc aA _).alloc aG _;have sz:(((w.alloc (.cells #[ae x1] 2)).alloc (.cells #[ae x2] 2)).alloc (.cells #[ae y] 2)).heap.size=w.heap.size+3:=aA;have d:(((w.alloc (.cells #[ae x1] 2)).alloc (.cells #[ae x2] 2)).alloc (.cells #[ae y] 2)).heap[w.heap.size]? =some (Obj.cells #[ae x1] 2 (0,0)):=by
  have q:=bV w (.cells #[ae x1] 2);have e:w.heap.size=w.heap.size:=aA;rw[e]at q;exact(bR _ _ _ (by simp;try omega)).trans ((bR _ _ _ (by simp;try omega)).trans (q))
 have f:(((w.alloc (.cells #[ae x1] 2)).alloc (.cells #[ae x2] 2)).alloc (.cells #[ae y] 2)).heap[w.heap.size+1]? =some (Obj.cells #[ae x2] 2 (0,0)):=by
  have q:=bV (w.alloc (.cells #[ae x1] 2)) (.cells #[ae x2] 2);have e:(w.alloc (.cells #[ae x1] 2)).heap.size=w.heap.size+1:=aA;rw[e]at q;exact(bR _ _ _ (by simp;try omega)).trans (q)
 have g:(((w.alloc (.cells #[ae x1] 2)).alloc (.cells #[ae x2] 2)).alloc (.cells #[ae y] 2)).heap[w.heap.size+2]? =some (Obj.cells #[ae y] 2 (0,0)):=by
  have q:=bV ((w.alloc (.cells #[ae x1] 2)).alloc (.cells #[ae x2] 2)) (.cells #[ae y] 2);have e:((w.alloc (.cells #[ae x1] 2)).alloc (.cells #[ae x2] 2)).heap.size=w.heap.size+2:=aA;rw[e]at q;exact q
 have i:=af (Kc (fn:=68) (cs:=#[aj w.heap.size,aj (w.heap.size+1),aj (w.heap.size+2)]) (qK x1 x2 y) J3 (h.below r) fun u F tb n0 l b s J=>by
  have D:=(aP b d).trans d;have E:=(aP b f).trans f;have H:=(aP b g).trans g;refine(PX s x1 x2 y (eP D) (eP E) (eP H)).mono ?_;rintro e L ⟨v,t,rfl,⟨A,B⟩,c,x⟩;exact⟨v,t,rfl,⟨A,bB B (by unfold zG xn;omega)⟩,c,x⟩)
 have a:ay (fun k=>k=Pb) w (((w.alloc (.cells #[ae x1] 2)).alloc (.cells #[ae x2] 2)).alloc (.cells #[ae y] 2)):=(((ay.refl _ w).alloc _).alloc _).alloc _;have a:=af a;have C:=af sz;go_enter func19,ntmps19
 go_wp2_with fail
 refine i.o.mono ?_;rintro e M ⟨v,I,rfl,c,z,K,hP⟩;have HO:=af c;have p:=af hP;have n:=af K;have j:=af z;go_wp2;go_ret2;exact⟨v,I,rfl,bO HO.o (by rw[C.o];omega),j.o,a.o.trans n.o,p.o⟩
theorem CG (h:ek w Pb G m now N wk fD) (x y a:Int) (B:0<=a):aK 18 #[aj Pb,ae x,ae y,.int .u8 a] w (uE w Pb G m now N wk fD (eu (ids (now.filter (zU x y a))))):=by
 have A:Below w.heap.size w (((w.alloc (.cells #[ae x] 2)).alloc (.cells #[ae y] 2)).alloc (.cells #[.int .u8 a] 5)):=(((aJ _ _).alloc (aB _) _).alloc aA _).alloc aG _;have sz:(((w.alloc (.cells #[ae x] 2)).alloc (.cells #[ae y] 2)).alloc (.cells #[.int .u8 a] 5)).heap.size=w.heap.size+3:=aA;have i:(((w.alloc (.cells #[ae x] 2)).alloc (.cells #[ae y] 2)).alloc (.cells #[.int .u8 a] 5)).heap[w.heap.size]? =some (Obj.cells #[ae x] 2 (0,0)):=by
  have q:=bV w (.cells #[ae x] 2);have e:w.heap.size=w.heap.size:=aA;rw[e]at q;exact(bR _ _ _ (by simp;try omega)).trans ((bR _ _ _ (by simp;try omega)).trans (q))
 have j:(((w.alloc (.cells #[ae x] 2)).alloc (.cells #[ae y] 2)).alloc (.cells #[.int .u8 a] 5)).heap[w.heap.size+1]? =some (Obj.cells #[ae y] 2 (0,0)):=by
  have q:=bV (w.alloc (.cells #[ae x] 2)) (.cells #[ae y] 2);have e:(w.alloc (.cells #[ae x] 2)).heap.size=w.heap.size+1:=aA;rw[e]at q;exact(bR _ _ _ (by simp;try omega)).trans (q)
 have n:(((w.alloc (.cells #[ae x] 2)).alloc (.cells #[ae y] 2)).alloc (.cells #[.int .u8 a] 5)).heap[w.heap.size+2]? =some (Obj.cells #[.int .u8 a] 5 (0,0)):=by
  have q:=bV ((w.alloc (.cells #[ae x] 2)).alloc (.cells #[ae y] 2)) (.cells #[.int .u8 a] 5);have e:((w.alloc (.cells #[ae x] 2)).alloc (.cells #[ae y] 2)).heap.size=w.heap.size+2:=aA;rw[e]at q;exact q
 have p:=af (Kc (fn:=67) (cs:=#[aj w.heap.size,aj (w.heap.size+1),aj (w.heap.size+2)]) (zU x y a) H6 (h.below A) fun u F tb n0 l d C E=>by
  have I:=(aP d i).trans i;have J:=(aP d j).trans j;have L:=(aP d n).trans n;refine(Nc C x y a E B (eP I) (eP J) (eP L)).mono ?_;rw[RS];rintro e O ⟨v,t,rfl,⟨c,rfl,g⟩,f,D⟩;exact⟨v,_,rfl,⟨Nat.le_add_left _ _,aa⟩,f,D⟩)
 have b:ay (fun k=>k=Pb) w (((w.alloc (.cells #[ae x] 2)).alloc (.cells #[ae y] 2)).alloc (.cells #[.int .u8 a] 5)):=(((ay.refl _ w).alloc _).alloc _).alloc _;have b:=af b;have H:=af sz;go_enter func18,ntmps18
 go_wp2_with fail
 refine p.o.mono ?_;rintro e P ⟨v,M,rfl,f,g,K,hP⟩;have HO:=af f;have z:=af hP;have s:=af K;have r:=af g;go_wp2;go_ret2;exact⟨v,M,rfl,bO HO.o (by rw[H.o];omega),r.o,b.o.trans s.o,z.o⟩
theorem Lb (h:ek w Pb G m now N wk fD) (x1 x2 y:Int):aK 24 #[aj Pb,ae x1,ae x2,ae y] w (D8 w Pb G m now N wk fD (.bool (decide (0<(now.filter (qK x1 x2 y)).length)))):=by
 have n:Below w.heap.size w (((w.alloc (.cells #[ae x1] 2)).alloc (.cells #[ae x2] 2)).alloc (.cells #[ae y] 2)):=(((aJ _ _).alloc (aB _) _).alloc aA _).alloc aG _;have sz:(((w.alloc (.cells #[ae x1] 2)).alloc (.cells #[ae x2] 2)).alloc (.cells #[ae y] 2)).heap.size=w.heap.size+3:=aA;have d:(((w.alloc (.cells #[ae x1] 2)).alloc (.cells #[ae x2] 2)).alloc (.cells #[ae y] 2)).heap[w.heap.size]? =some (Obj.cells #[ae x1] 2 (0,0)):=by
  have q:=bV w (.cells #[ae x1] 2);have e:w.heap.size=w.heap.size:=aA;rw[e]at q;exact(bR _ _ _ (by simp;try omega)).trans ((bR _ _ _ (by simp;try omega)).trans (q))
 have f:(((w.alloc (.cells #[ae x1] 2)).alloc (.cells #[ae x2] 2)).alloc (.cells #[ae y] 2)).heap[w.heap.size+1]? =some (Obj.cells #[ae x2] 2 (0,0)):=by
  have q:=bV (w.alloc (.cells #[ae x1] 2)) (.cells #[ae x2] 2);have e:(w.alloc (.cells #[ae x1] 2)).heap.size=w.heap.size+1:=aA;rw[e]at q;exact(bR _ _ _ (by simp;try omega)).trans (q)
 have g:(((w.alloc (.cells #[ae x1] 2)).alloc (.cells #[ae x2] 2)).alloc (.cells #[ae y] 2)).heap[w.heap.size+2]? =some (Obj.cells #[ae y] 2 (0,0)):=by
  have q:=bV ((w.alloc (.cells #[ae x1] 2)).alloc (.cells #[ae x2] 2)) (.cells #[ae y] 2);have e:((w.alloc (.cells #[ae x1] 2)).alloc (.cells #[ae x2] 2)).heap.size=w.heap.size+2:=aA;rw[e]at q;exact q
 have j:=af (Ni (fn:=74) (cs:=#[aj w.heap.size,aj (w.heap.size+1),aj (w.heap.size+2)]) (fun l=>if 0<(l.filter (qK x1 x2 y)).length then 1 else 0) PZ (h.below n) (fun l=>by show(if 0<(l.filter (qK x1 x2 y)).length then 1 else 0)<=l.length;have:=gD (qK x1 x2 y) l;split<;>omega) fun u F tb n0 l c a L=>by
  have C:=(aP c d).trans d;have D:=(aP c f).trans f;have E:=(aP c g).trans g;refine(TZ a x1 x2 y (eP C) (eP D) (eP E)).mono ?_;rintro e O ⟨t,rfl,ht,x⟩;exact⟨t,rfl,bB ht (by unfold zG;omega),x⟩)
 have b:ay (fun k=>k=Pb) w (((w.alloc (.cells #[ae x1] 2)).alloc (.cells #[ae x2] 2)).alloc (.cells #[ae y] 2)):=(((ay.refl _ w).alloc _).alloc _).alloc _;have b:=af b;have M:=af sz;clear d f g n sz h;go_enter func24,ntmps24
 go_wp2_with fail
 refine j.o.mono ?_;rintro e P ⟨B,a,H,rfl,p,K,hP⟩;have v:=af hP;have s:=af K;have r:=af p;have I:=af a;have A:(((List.range B.length).map fun i=>if 0<((dL B i).filter (qK x1 x2 y)).length then 1 else 0).sum:Nat)>0↔0<(now.filter (qK x1 x2 y)).length:=by
  rw[<-Kb a];exact H9 _ _ fun i=>by split<;>omega
 generalize((List.range B.length).map fun i=>if 0<((dL B i).filter (qK x1 x2 y)).length then 1 else 0).sum=many at*;have hd:decide ((many:Int)>0)=decide (0<(now.filter (qK x1 x2 y)).length):=mP.2 aa;have J:decide ((0:Int)<(many:Int))=decide (0<(now.filter (qK x1 x2 y)).length):=mP.2 aa;have z:decide (0<many)=decide (0<(now.filter (qK x1 x2 y)).length):=mP.2 aa;clear hP K p j a A;go_wp2;go_ret2;exact⟨H,by rw[<-z];rfl,r.o,b.o.trans s.o,v.o⟩
end
end
section
open Go.RowKit Go.Sort Go.Shelf Go.Lib Go.Maps
attribute [local irreducible] wpQuiet
attribute [local go_sem] Oper.fw
def lowMin (s:Option Pt):Option Pt->Option Pt
 |none=>s
 |some p=>match s with
  |none=>some p
  |some q=>if og p q<0 then some p else some q
def qN (l:List Pt) (x1 x2:Int):Option Pt:=(NA l x1 x2).head?
theorem ay.FM {S:Nat->Prop} {w w':World} (K:ay S w w') {g:Nat} (b:S g) (cs:Array Value):ay S w (w'.setRow g cs):=
 ⟨K.os,K.tape,K.output,by rw[setRow_size];exact K.size,fun k c a=>(setRow_other w' g k cs (fun e=>a (e▸b))).trans (K.block k c a)⟩
def FN (s:Option Pt):Obj:=.cells #[.bool s.isSome] 4 (0,0)
theorem Ia:fV 42:=bY func42 aM rfl
theorem Qa:fV 70:=bY func70 aM rfl
theorem Ue {u:World} {F:Nat->Prop} {tb n0:Nat} {l:List Pt} (h:Bk u F tb n0 l) (x1 x2:Int) (s:Option Pt) {aq ar fb b:Nat} (aw:u.cell? (ag aq 0)=some (ae x1)) (az:u.cell? (ag ar 0)=some (ae x2)) (aa:u.heap[fb]? =some (FN s)) (hp:u.heap[b]? =some (yR (s.getD (0,0,0)))) (S:fb≠b):
  aK 70 #[aj tb,aj aq,aj ar,aj fb,aj b] u fun e ac=>∃t:Nat,e=.returned (ae t)/\t<=uD n0/\ac.heap[fb]? =some (FN (lowMin s (qN l x1 x2)))/\ac.heap[b]? =some (yR ((lowMin s (qN l x1 x2)).getD (0,0,0)))/\ay (fun k=>k=fb\/k=b) u ac:=by
 obtain⟨lo,m0,m1,m2,m3,m4,hi,bx,cn,a6,lw,ob,tl,sv,dn,h⟩:=h;have H:=af h;have av:u.cell? (ag tb 4)=some (aj lw):=aF h.blk;have G:Hid (∀W,Below u.heap.size u W->aK 42 #[aj lw,ae x1,ae x2] W fun e w'=>(∃c:Nat,e=.returned (.tuple #[iZ ((qN l x1 x2).getD (0,0,0)).1 ((qN l x1 x2).getD (0,0,0)).2.1 ((qN l x1 x2).getD (0,0,0)).2.2,.bool (qN l x1 x2).isSome,ae c])/\c<=uD n0)/\Below W.heap.size W w'):=fun W aU=>by
  refine(Ru (H.o.low.kept ((ay.refl (fun _=>False) u).below aU) (fun _ _ _ h=>h)) x1 x2).mono ?_;rintro e w' ⟨⟨p,hp,c,aW,A⟩,aV⟩;subst hp;exact⟨⟨c,aW,A⟩,aV⟩
 have Z:=ah av;have X:=ah aw;have Y:=ah az;have aX:=(aZ.1 aa).1;have aY:=(aZ.1 hp).1;have aQ:=af aa;have aR:=af hp;clear h av aa hp aw az;generalize qN l x1 x2=r at*;go_enter func70,ntmps70
 go_upto_region 1 with fail
 go_cut [7,8,9]from 10 (fun a0 a1 a2 aL=>∃g c:Nat,a0=aj g/\a1=.bool r.isSome/\a2=.int .i64 c/\Hid (c<=uD n0)/\Hid (Below u.heap.size u aL)/\Hid (u.heap.size<=g)/\Hid (aL.heap[g]? =some (yR (r.getD (0,0,0)))))
 case first=>
  refine ax (fun W=>∃p:aS u,W=p.W) [6,7,8,9,10,12,13,14] [(0,false),(1,false),(2,false),(3,true),(4,true),(5,true)] ⟨⟨_,(aJ _ _).drew⟩,rfl⟩ 9 ?_;have w:Below u.heap.size u u.drew:=(aJ _ _).drew;generalize u.drew=w0 at*;refine iU 6 11 rfl rfl (fun K n=>?_) (fun K n=>?_)
  .refine bf Ia rfl _ _ rfl (vals:=#[aj lw,ae x1,ae x2]) rfl (G.o _ w) ?_;rintro e w1 ⟨⟨c,rfl,A⟩,aA⟩;have m:=w.trans (aA.mono w.size);refine⟨_,rfl,?_⟩;refine n _ _ (fun _ h=>absurd ai h) ?_;clear n K Z X Y G;have x:=af A;refine bz [(7,false),(8,false),(9,false),(10,false)] ⟨⟨_,m⟩,rfl⟩ rfl ?_;refine aH 11 rfl fun K n=>?_;go_simp;obtain⟨w2,Q⟩:∃W,W=w1.alloc (.cells #[ae 0,ae 0,au 0] 29):=⟨_,rfl⟩;have E:w2.heap[w1.heap.size]? =some (yR (0,0,0)):=by rw[Q];exact bV w1 _
   have B:Below u.heap.size u w2:=by rw[Q];exact m.alloc m.size _
   rw[<-Q];clear Q;refine n _ _ (fun _ _=>⟨⟨_,B⟩,rfl⟩) ?_;clear n K;refine aI [12,13,14] ?_;have z:=af B;have an:=af E;have aE:=af m.size;clear w m B E aA A;refine rD rfl 29 (.tmp 7) (.tmp 18) rfl rfl w1.heap.size #[ae (r.getD (0,0,0)).1,ae (r.getD (0,0,0)).2.1,au (r.getD (0,0,0)).2.2] rfl rfl _ _ an.o aM rfl (by simp[Value.oneCell']) ?_
   go_wp2_with fail
   go_meet;exact⟨_,c,rfl,rfl,rfl,x,af (yo z.o aE.o _),aE,af (qb _ _ _ _ _ _ an.o)⟩
  .go_simp;obtain⟨w1,P⟩:∃W,W=w0.alloc (.cells #[ae 0,ae 0,au 0] 29):=⟨_,rfl⟩;have E:w1.heap[w0.heap.size]? =some (yR (0,0,0)):=by rw[P];exact bV w0 _
   have m:Below u.heap.size u w1:=by rw[P];exact w.alloc w.size _
   rw[<-P];clear P;refine n _ _ (fun _ _=>⟨⟨_,m⟩,rfl⟩) ?_;clear n K;refine aH 6 rfl fun K n=>?_;refine bf Ia rfl _ _ rfl (vals:=#[aj lw,ae x1,ae x2]) rfl (G.o _ m) ?_;rintro e w2 ⟨⟨c,rfl,A⟩,d⟩;have B:=m.trans (d.mono m.size);have ap:=(d.block _ (aZ.1 E).1).trans E;refine⟨_,rfl,?_⟩;refine n _ _ (fun _ h=>absurd ai h) ?_;clear n K Z X Y G;have x:=af A;refine ig (fun _=>True) [12,13,14] aM ?_;refine bz [(7,false),(8,false),(9,false),(10,false)] trivial rfl ?_;refine aI [12,13,14] ?_;have z:=af B;have ao:=af ap;have aD:=af w.size;clear w m B E ap d A;refine rD rfl 29 (.tmp 7) (.tmp 18) rfl rfl w0.heap.size #[ae (r.getD (0,0,0)).1,ae (r.getD (0,0,0)).2.1,au (r.getD (0,0,0)).2.2] rfl rfl _ _ ao.o aM rfl (by simp[Value.oneCell']) ?_
   go_wp2_with fail
   go_meet;exact⟨_,c,rfl,rfl,rfl,x,af (yo z.o aD.o _),aD,af (qb _ _ _ _ _ _ ao.o)⟩
 case rest=>
  obtain⟨g,c,rfl,rfl,rfl,x,v,a4,V⟩:=hcut;have C:=(v.o.block fb aX).trans aQ.o;have O:=(v.o.block b aY).trans aR.o;have D:=af C;have y:=af O;have aG:=v.o.size;have a5:=af aG;clear Z X Y G aG;cases r with
  |none=>
   simp only[Option.isSome_none,lowMin,mR]at*;clear C O;go_wp2;go_ret;exact⟨c,rfl,x.o,D.o,y.o,((ay.refl (fun k=>k=fb\/k=b) u).below v.o)⟩
  |some p=>
   obtain⟨f,i,j⟩:=p;simp only[Option.isSome_some,gI]at*;obtain⟨ad,ak,al⟩:=gW V.o;simp only at ad ak al;cases s with
   |none=>
    have f0:wc.cell? (ag fb 0)=some (.bool false):=by simp[World.cell?,C,FN]
    have aT:=af (qb wc b _ #[ae f,ae i,au j] _ _ y.o);have HO:=af ((setRow_other wc b fb #[ae f,ae i,au j] S).trans D.o);have f1:(wc.setRow b #[ae f,ae i,au j]).cell? (ag fb 0)=some (.bool false):=by simp[World.cell?,HO.o,FN]
    have f2:(wc.setRow b #[ae f,ae i,au j]).frozen? (ag fb 0)=false:=by simp[World.frozen?,HO.o,FN]
    clear C O
    go_wp2_with (refine rD rfl 29 (.tmp 4) (.tmp 32) rfl rfl b #[ae f,ae i,au j] rfl rfl _ _ y.o aM rfl (by simp[Value.oneCell']) ?_)
    go_ret;refine⟨c,rfl,x.o,?_,(aC (a:=(ag fb 0)) S).trans aT.o,(((ay.refl (fun k=>k=fb\/k=b) u).below v.o).FM (.inr rfl) _).set (a:=(ag fb 0)) _ (.inl (show fb=fb\/fb=b from .inl rfl))⟩;rw[di _ fb 0 _ _ _ HO.o];rfl
   |some q=>
    have f0:wc.cell? (ag fb 0)=some (.bool true):=by simp[World.cell?,C,FN]
    obtain⟨J,L,M⟩:=q;obtain⟨a3,y1,y2⟩:=gW y.o;simp only[gI]at a3 y1 y2;have CB:=af (O6 (f,i,j) (J,L,M) wc);generalize aB:og (f,i,j) (J,L,M)=ab at*;have am:=af aB;clear aB C O;by_cases R:ab<0
    .have hd:decide (ab<0)=true:=pV R;have I:lowMin (some (J,L,M)) (some (f,i,j))=some (f,i,j):=by simp only[lowMin];rw[am.o,aO R]
     have T:=af I;clear I
     go_wp2_with (first|(go_at_call 71;refine CB.o.mono ?_;rintro e w2 ⟨rfl,d⟩;obtain⟨ad,ak,al⟩:=gW ((d.block g (aZ.1 V.o).1).trans V.o);simp only at ad ak al;have z:=af (v.o.trans (d.mono v.o.size));have N:=af ((aP d y.o).trans y.o);have U:=af ((aP d D.o).trans D.o);have HO:=af ((setRow_other w2 b fb #[ae f,ae i,au j] S).trans U.o);have f1:(w2.setRow b #[ae f,ae i,au j]).cell? (ag fb 0)=some (.bool true):=(by simp[World.cell?,HO.o,FN]);have f2:(w2.setRow b #[ae f,ae i,au j]).frozen? (ag fb 0)=false:=(by simp[World.frozen?,HO.o,FN]);clear d)|(refine rD rfl 29 (.tmp 4) (.tmp 32) rfl rfl b #[ae f,ae i,au j] rfl rfl _ _ N.o aM rfl (by simp[Value.oneCell']) ?_))
     go_ret;rw[T.o];refine⟨c,rfl,x.o,?_,(aC (a:=(ag fb 0)) S).trans (qb _ _ _ _ _ _ N.o),(((ay.refl (fun k=>k=fb\/k=b) u).below z.o).FM (.inr rfl) _).set (a:=(ag fb 0)) _ (.inl (show fb=fb\/fb=b from .inl rfl))⟩;rw[di _ fb 0 _ _ _ HO.o];rfl
    .have hd:decide (ab<0)=false:=AZ R;have I:lowMin (some (J,L,M)) (some (f,i,j))=some (J,L,M):=by simp only[lowMin];rw[am.o,aN R]
     have T:=af I;clear I
     go_wp2_with (go_at_call 71;refine CB.o.mono ?_;rintro e w2 ⟨rfl,d⟩;have z:=af (v.o.trans (d.mono v.o.size));have N:=af ((aP d y.o).trans y.o);have U:=af ((aP d D.o).trans D.o);clear d)
     go_ret;rw[T.o];exact⟨c,rfl,x.o,U.o,N.o,((ay.refl (fun k=>k=fb\/k=b) u).below z.o)⟩
def CK (x1 x2:Int) (l:List Pt):Option Pt->Prop
 |none=>∀p∈l,vT x1 x2 p=false
 |some p=>p∈l/\vT x1 x2 p=true/\∀q∈l,vT x1 x2 q=true->¬sW q p
theorem xE (l:List Pt) (x1 x2:Int):CK x1 x2 l (qN l x1 x2):=by
 have hp:=ja (l.filter (vT x1 x2));have f:(kz (l.filter (vT x1 x2))).Pairwise fun p q=>Nz p q=true:=ry (le:=Nz) (fun p q r g i=>by simp only[Nz,oG,gY]at*;unfold sW at*;omega) (fun p q=>by simp only[Nz,uW,oG,gY];unfold sW;omega) _;unfold qN NA;generalize kz (l.filter (vT x1 x2))=S at*;cases S with
 |nil=>
  intro p c;cases h:vT x1 x2 p with
  |false=>rfl
  |true=>exact absurd (hp.mem_iff.2 (bG.2 ⟨c,h⟩)) iC
 |cons p T=>
  have a:=bG.1 (hp.mem_iff.1 nV);refine⟨a.1,a.2,fun q d e h=>?_⟩;rcases ic.1 (hp.mem_iff.2 (bG.2 ⟨d,e⟩))with rfl|h2
  .exact wE _ h
  .have b:=(lX.1 f).1 q h2;unfold Nz at b;simp[h]at b
theorem Nj {x1 x2:Int} {l k:List Pt} {s r:Option Pt} (b:CK x1 x2 l s) (c:CK x1 x2 k r):CK x1 x2 (l++k) (lowMin s r):=by
 cases r with
 |none=>
  cases s with
  |none=>exact fun p hp=>(bP.1 hp).elim (b p) (c p)
  |some q=>exact⟨bP.2 (.inl b.1),b.2.1,fun p hp a=>(bP.1 hp).elim (fun h=>b.2.2 p h a) (fun h=>absurd a (by rw[c p h];simp))⟩
 |some p=>
  cases s with
  |none=>exact⟨bP.2 (.inr c.1),c.2.1,fun q f a=>(bP.1 f).elim (fun h=>absurd a (by rw[b q h];simp)) (fun h=>c.2.2 q h a)⟩
  |some q=>
   simp only[lowMin];by_cases d:og p q<0
   .rw[aO d];rw[qC]at d;refine⟨bP.2 (.inr c.1),c.2.1,fun t ht a=>(bP.1 ht).elim (fun h e=>b.2.2 t h a (tq e d)) (fun h=>c.2.2 t h a)⟩
   .rw[aN d];rw[qC]at d;refine⟨bP.2 (.inl b.1),b.2.1,fun t ht a=>(bP.1 ht).elim (fun h=>b.2.2 t h a) (fun h e=>?_)⟩;have:=c.2.2 t h a;unfold sW at*;omega
theorem D9 {x1 x2:Int} {l k:List Pt} (hp:k.Perm l) (hu:(ids l).Nodup) {s r:Option Pt} (a:CK x1 x2 l s) (b:CK x1 x2 k r):s=r:=by
 cases s with
 |none=>
  cases r with
  |none=>rfl
  |some p=>exact absurd b.2.1 (by rw[a p (hp.mem_iff.1 b.1)];simp)
 |some q=>
  cases r with
  |none=>exact absurd a.2.1 (by rw[b q (hp.mem_iff.2 a.1)];simp)
  |some p=>
   have c:=a.2.2 p (hp.mem_iff.1 b.1) b.2.1;have d:=b.2.2 q (hp.mem_iff.2 a.1) a.2.1;rw[QA hu a.1 (hp.mem_iff.1 b.1) (by unfold sW at*;omega)]
def Nk (B:List (Nat×Nat×List Pt)) (x1 x2:Int):Nat->Option Pt
 |0=>none
 |i+1=>lowMin (Nk B x1 x2 i) (qN (dL B i) x1 x2)
theorem Lc (B:List (Nat×Nat×List Pt)) (x1 x2:Int):∀i,CK x1 x2 ((List.range i).flatMap (dL B)) (Nk B x1 x2 i)
 |0=>fun p hp=>by simp at hp
 |i+1=>by
  rw[pO,gZ];have e:[i].flatMap (dL B)=dL B i:=aA;rw[e];exact Nj (Lc B x1 x2 i) (xE _ _ _)
theorem Ib {B:List (Nat×Nat×List Pt)} {now:List Pt} (hp:(iN B).Perm now) (hu:(ids now).Nodup) (x1 x2:Int):Nk B x1 x2 B.length=qN now x1 x2:=by
 have a:=Lc B x1 x2 B.length;rw[show(List.range B.length).flatMap (dL B)=iN B from zk B fun l=>l]at a;exact(D9 hp hu (xE now x1 x2) a).symm
section
variable {w w1:World} {Pb m:Nat} {G GH:Nat->Prop} {now:List Pt} {A:List eU} {N wk fD:Int}
def Qb (w:World) (Pb:Nat) (G:Nat->Prop) (m:Nat) (now:List Pt) (N wk fD:Int) (o:Option Pt) (e:Ending) (w':World):Prop:=
 ∃xm:Nat,e=.returned (.tuple #[iZ (o.getD (0,0,0)).1 (o.getD (0,0,0)).2.1 (o.getD (0,0,0)).2.2,.bool o.isSome,ae xm])/\zL N 0 xm/\ay (fun k=>k=Pb) w w'/\ek w' Pb G m now N wk (wrap64 (fD+xm))
def zl (w:World) (x1 x2:Int):World:=((((w.alloc (.cells #[ae x1] 2)).alloc (.cells #[ae x2] 2)).alloc (.cells #[ae 0,ae 0,au 0] 29)).alloc (.cells #[ae 0,ae 0,au 0] 29)).alloc (.cells #[.bool false] 4)
theorem Ke (w:World) (x1 x2:Int):Below w.heap.size w (zl w x1 x2)/\(zl w x1 x2).heap.size=w.heap.size+5/\(zl w x1 x2).heap[w.heap.size]? =some (.cells #[ae x1] 2 (0,0))/\(zl w x1 x2).heap[w.heap.size+1]? =some (.cells #[ae x2] 2 (0,0))/\
  (zl w x1 x2).heap[w.heap.size+1+1]? =some (yR (0,0,0))/\(zl w x1 x2).heap[w.heap.size+1+1+1]? =some (yR (0,0,0))/\(zl w x1 x2).heap[w.heap.size+1+1+1+1]? =some (FN none):=by
 obtain⟨b,a⟩:∃W,W=zl w x1 x2:=⟨_,rfl⟩;rw[<-a];unfold zl at a;have c:Below w.heap.size w b:=by
  rw[a];exact(((((aJ _ _).alloc (aB _) _).alloc aA _).alloc (by simp<;>omega) _).alloc (by simp<;>omega) _).alloc (by simp<;>omega) _
 have sz:b.heap.size=w.heap.size+5:=by rw[a];simp
 have d:b.heap[w.heap.size]? =some (.cells #[ae x1] 2 (0,0)):=by
  rw[a];exact(bR _ _ _ (by simp<;>omega)).trans ((bR _ _ _ (by simp<;>omega)).trans ((bR _ _ _ (by simp<;>omega)).trans ((bR _ _ _ aA).trans (bV w _))))
 have e:b.heap[w.heap.size+1]? =some (.cells #[ae x2] 2 (0,0)):=by
  rw[a];exact(bR _ _ _ (by simp<;>omega)).trans ((bR _ _ _ (by simp<;>omega)).trans ((bR _ _ _ aA).trans (CV w (.cells #[ae x1] 2) (.cells #[ae x2] 2))))
 have f:b.heap[w.heap.size+1+1]? =some (yR (0,0,0)):=by
  rw[a];exact(bR _ _ _ (by simp<;>omega)).trans ((bR _ _ _ aA).trans (by have:=bV ((w.alloc (.cells #[ae x1] 2)).alloc (.cells #[ae x2] 2)) (.cells #[ae 0,ae 0,au 0] 29);rwa [show((w.alloc (.cells #[ae x1] 2)).alloc (.cells #[ae x2] 2)).heap.size=w.heap.size+1+1 by simp]at this))
 have g:b.heap[w.heap.size+1+1+1]? =some (yR (0,0,0)):=by
  rw[a];exact(bR _ _ _ aA).trans (by have:=bV (((w.alloc (.cells #[ae x1] 2)).alloc (.cells #[ae x2] 2)).alloc (.cells #[ae 0,ae 0,au 0] 29)) (.cells #[ae 0,ae 0,au 0] 29);rwa [show(((w.alloc (.cells #[ae x1] 2)).alloc (.cells #[ae x2] 2)).alloc (.cells #[ae 0,ae 0,au 0] 29)).heap.size=w.heap.size+1+1+1 by simp]at this)
 have h:b.heap[w.heap.size+1+1+1+1]? =some (FN none):=by
  rw[a];have:=bV ((((w.alloc (.cells #[ae x1] 2)).alloc (.cells #[ae x2] 2)).alloc (.cells #[ae 0,ae 0,au 0] 29)).alloc (.cells #[ae 0,ae 0,au 0] 29)) (.cells #[.bool false] 4);rwa [show((((w.alloc (.cells #[ae x1] 2)).alloc (.cells #[ae x2] 2)).alloc (.cells #[ae 0,ae 0,au 0] 29)).alloc (.cells #[ae 0,ae 0,au 0] 29)).heap.size=w.heap.size+1+1+1+1 by simp]at this
 exact⟨c,sz,d,e,f,g,h⟩
theorem Qc {w:World} {v:Value} (x1 x2:Int) (Q:Option Pt->Nat->World->Prop)
  (x:aK 69 #[v,.func (.func 70) #[] #[aj w.heap.size,aj (w.heap.size+1),aj (w.heap.size+1+1+1+1),aj (w.heap.size+1+1+1)]] (zl w x1 x2) fun e a=>∃(r:Option Pt) (d:Nat),e=.returned (ae d)/\a.heap[w.heap.size+1+1+1+1]? =some (FN r)/\a.heap[w.heap.size+1+1+1]? =some (yR (r.getD (0,0,0)))/\a.heap[w.heap.size+1+1]? =some (yR (0,0,0))/\Q r d a):
  aK 20 #[v,ae x1,ae x2] w fun e w'=>∃(r:Option Pt) (d:Nat) (u:World),e=.returned (.tuple #[iZ (r.getD (0,0,0)).1 (r.getD (0,0,0)).2.1 (r.getD (0,0,0)).2.2,.bool r.isSome,ae d])/\Q r d u/\w'=u.drew.setRow (w.heap.size+1+1) #[ae (r.getD (0,0,0)).1,ae (r.getD (0,0,0)).2.1,au (r.getD (0,0,0)).2.2]:=by
 have j:=af x;have k:Hid (((((w.alloc (.cells #[ae x1] 2)).alloc (.cells #[ae x2] 2)).alloc (.cells #[ae 0,ae 0,au 0] 29)).alloc (.cells #[ae 0,ae 0,au 0] 29)).alloc (.cells #[.bool false] 4)=zl w x1 x2):=rfl;go_enter func20,ntmps20
 go_upto_region 3 with fail
 rw[k.o]
 go_wp2_with fail
 refine j.o.mono ?_;rintro e a ⟨r,d,rfl,y,hp,z,t⟩;have f:=af y;have g:=af hp;have HO:=af z;have n:=af t
 go_upto_region 4 with fail
 generalize F:w.heap.size+1+1+1+1=fb at*;generalize G:w.heap.size+1+1+1=b at*;generalize A:w.heap.size+1+1=c at*;have q:=af (show c<b/\b<fb from aa);have m:=af A;have C:∀p:jS (fun W:World=>W.heap[fb]? =some (FN r)/\W.heap[b]? =some (yR (r.getD (0,0,0)))),p.W.cell? (ag b 0)=some (ae (r.getD (0,0,0)).1):=fun p=>(gW p.h.2).1;have D:∀p:jS (fun W:World=>W.heap[fb]? =some (FN r)/\W.heap[b]? =some (yR (r.getD (0,0,0)))),p.W.cell? (ag b 1)=some (ae (r.getD (0,0,0)).2.1):=fun p=>(gW p.h.2).2.1;have E:∀p:jS (fun W:World=>W.heap[fb]? =some (FN r)/\W.heap[b]? =some (yR (r.getD (0,0,0)))),p.W.cell? (ag b 2)=some (au (r.getD (0,0,0)).2.2):=fun p=>(gW p.h.2).2.2;have B:∀p:jS (fun W:World=>W.heap[fb]? =some (FN r)/\W.heap[b]? =some (yR (r.getD (0,0,0)))),p.W.cell? (ag fb 0)=some (.bool r.isSome):=fun p=>by simp[World.cell?,p.h.1,FN]
 refine ax (fun W=>∃p:jS (fun W:World=>W.heap[fb]? =some (FN r)/\W.heap[b]? =some (yR (r.getD (0,0,0)))),W=p.W) [4,5] [(0,true),(1,true),(2,false)] ⟨⟨a.drew,⟨f.o,g.o⟩⟩,rfl⟩ 3 ?_;have i:a.drew.heap[c]? =some (yR (0,0,0)):=HO.o;refine aH 3 rfl fun K s=>?_;rw[aO (by simp[Region.wanted])];refine wp_store_row 29 (.tmp 6) (.tmp 15) rfl c #[ae (r.getD (0,0,0)).1,ae (r.getD (0,0,0)).2.1,au (r.getD (0,0,0)).2.2] rfl rfl _ _ i aM rfl (by simp[Value.oneCell']) ?_;have H:=q.o;refine s _ _ (fun _ _=>⟨⟨a.drew.setRow c #[ae (r.getD (0,0,0)).1,ae (r.getD (0,0,0)).2.1,au (r.getD (0,0,0)).2.2],(setRow_other a.drew c fb _ aa).trans f.o,(setRow_other a.drew c b _ aa).trans g.o⟩,rfl⟩) ?_;have l:=af (qb a.drew c _ #[ae (r.getD (0,0,0)).1,ae (r.getD (0,0,0)).2.1,au (r.getD (0,0,0)).2.2] _ _ i);refine aI [4,5] ?_
 go_wp2_with fail
 refine jM (ow rfl _ _ c _ _ _ _ (.bool r.isSome) (.int .i64 (d:Nat)) rfl rfl rfl l.o underlying29 rfl aM) rfl ?_;exact⟨r,d,a,rfl,n.o,by rw[m.o]⟩
theorem CL (h:ek w Pb G m now N wk fD) (x1 x2:Int):aK 20 #[aj Pb,ae x1,ae x2] w (Qb w Pb G m now N wk fD (qN now x1 x2)):=by
 have⟨y,sz,H,I,ap,J,K⟩:=Ke w x1 x2;obtain⟨Hb,Ab,base,av,GH,SD,A,D,ALL,j,rfl,Y⟩:=h;have l:=j.kept (S:=fun _=>False) ((ay.refl _ _).below y) fun _ _ h=>h;have E:=l.half.facts;have aq:Pb<w.heap.size:=(aZ.1 j.blk).1;have L:=(FE (fn:=70) (Sx:=fun k=>k=w.heap.size+1+1+1+1\/k=w.heap.size+1+1+1) (cs:=#[aj w.heap.size,aj (w.heap.size+1),aj (w.heap.size+1+1+1+1),aj (w.heap.size+1+1+1)]) (Q:=fun B c u=>u.heap[w.heap.size+1+1+1+1]? =some (FN (qN (A.map (·.1)) x1 x2))/\u.heap[w.heap.size+1+1+1]? =some (yR ((qN (A.map (·.1)) x1 x2).getD (0,0,0)))/\zL N 0 c) Qa l.blk l.half (fun k hk=>aa) (fun w1 B F o C v al am X=>by
  have T:CF (zl w x1 x2) w1 GH A N B F:=⟨o,C,v,al,am,X⟩;have U:=(aP o K).trans K;have R:=(aP o J).trans J;have P:=(aP o I).trans I;have O:=(aP o H).trans H;have ah:∀i t,(t<=uD (iE B i)/\iE B i<=20000)->t<=1000000:=fun i t ht=>by
   have z:Lib.bitLen (iE B i)<=15:=bitLen_le (pG ht.2 ai) ht.2;have ab:=ht.1;unfold uD at ab;omega
  refine⟨fun i n u=>SumB (fun i t=>t<=uD (iE B i)/\iE B i<=20000) i n/\u.heap[w.heap.size+1+1+1+1]? =some (FN (Nk B x1 x2 i))/\u.heap[w.heap.size+1+1+1]? =some (yR ((Nk B x1 x2 i).getD (0,0,0)))/\ay (fun k=>k=w.heap.size+1+1+1+1\/k=w.heap.size+1+1+1) w1 u,⟨rfl,U,R,ay.refl _ _⟩,fun i n u f=>f.2.2.2,fun i n u f=>f.1.le ah,fun i n hi u f=>?_,fun n u f=>?_⟩
  .obtain⟨ao,q,s,d⟩:=f;have V:=bq d O aa;have W:=bq d P aa;refine(Ue ((C.kept d fun k hk e=>by have:=(j.rq.1 k hk).2.2.2;omega).at hi) x1 x2 (Nk B x1 x2 i) (eP V) (eP W) q s aa).mono ?_;rintro e ar ⟨t,rfl,ht,ak,an,ac⟩;refine⟨t,rfl,⟨n,t,ao,⟨ht,?_⟩,rfl⟩,ak,an,d.trans ac⟩;unfold iE;rw[bZ hi];exact(T.built _ (bF hi)).2
  .refine⟨by rw[<-Ib v E.2.2.2.1];exact f.2.1,by rw[<-Ib v E.2.2.2.1];exact f.2.2.1,?_⟩;have Z:=T.cost (r:=fun _=>0) (fun i t ht=>⟨aY _,by have:=ht.1;unfold uD at this;omega⟩) f.1;have z:((List.range B.length).map fun _=>0).sum=0:=by have:=Aj (r:=fun _=>0) (b:=0) (fun _=>aB _) B.length;omega
   rwa [z]at Z))
 have x:∀k,GH k\/SD k\/k=Pb\/av.ownBlock=some k->k<w.heap.size:=fun k hk=>by
  rcases hk with hk|hk|hk|hk
  .exact(j.rq.1 k hk).2.2.2
  .exact(j.rq.2.1 k hk).2.2
  .omega
  .exact(j.row.lt k hk).2
 have M:ay (fun k=>k=Pb) w (zl w x1 x2):=(ay.refl _ _).below y;refine(Qc x1 x2 (fun r c u=>r=qN (A.map (·.1)) x1 x2/\zL N 0 c/\ay (fun k=>k=Pb) w u/\H8 u Pb Hb Ab base av GH SD m A D ALL N wk (wrap64 (fD+(c:Int)))) (L.mono ?_)).mono ?_
 .rintro e au ⟨B,c,u,rfl,⟨q,s,p⟩,d,rfl⟩;have af:=bq d l.blk aa;have ad:(u.setCell (ag Pb 3) (.int .i64 (wrap64 (fD+(c:Int))))).heap[Pb]? =some (Obj.cells #[aj Hb,aj Ab,av,ae (wrap64 (fD+(c:Int)))] xB (0,0)):=by
   rw[di u Pb 3 _ _ _ af];rfl
  exact⟨_,c,rfl,(aC (a:=(ag Pb 3)) (fun e:Pb=w.heap.size+1+1+1+1=>aa)).trans q,(aC (a:=(ag Pb 3)) (fun e:Pb=w.heap.size+1+1+1=>aa)).trans s,(aC (a:=(ag Pb 3)) (fun e:Pb=w.heap.size+1+1=>aa)).trans (bq d ap aa),rfl,p,
   ay.strip (((M.mono fun k h=>.inl h).trans (d.mono fun k h=>.inr aa)).set (a:=(ag Pb 3)) (.int .i64 (wrap64 (fD+(c:Int)))) (.inl (.inl rfl))),
   (l.kept d fun k hk=>by have j:=x k hk;omega).P9 ((ay.refl (fun k=>k=Pb) u).set (a:=(ag Pb 3)) (.int .i64 (wrap64 (fD+(c:Int)))) (.inl rfl)) ad⟩
 .rintro e w' ⟨r,c,u,rfl,⟨rfl,p,d,hP⟩,rfl⟩;exact⟨c,rfl,p,ay.strip (((d.drew).mono fun k h=>.inl h).FM (g:=w.heap.size+1+1) (.inr aa) _),Hb,Ab,base,av,GH,SD,A,D,ALL,hP.kept (((ay.refl (fun k=>k=w.heap.size+1+1) u).drew).FM (g:=w.heap.size+1+1) rfl _) (fun k hk=>by have:=x k hk;omega),rfl,Y⟩
end
theorem uF {P:Program} {fn:Func} {p q:Tmp} {ty:TypeId} (h:fn.results=#[.cell p ty,.tmp q]) (a:Array Value) (w:World) (g:Nat) (t:TypeId) (cs:Array Value) (fr:Nat×Nat) (d:TypeDesc) (b:Value)
  (hp:a.getD p undef=aj g) (c:a.getD q undef=b) (f:w.heap[g]? =some (.cells cs t fr))
  (hu:P.underlying ty=some d) (hd:(match d with|.struct _|.array _ _=>true|_=>false)=true) (hi:(P.info? ty).map (·.size)=some cs.size):
  (results fn a).run P w=.ok (.tuple #[.agg cs,b]) w:=by
 have i:a[p]?.getD undef=aj g:=aQ hp;have e:a[q]?.getD undef=b:=aQ c;simp[results,h,i,e,asAddr,run_loadVar_row w g t ty cs fr d f hu hd hi]
section
variable {w:World} {Pb m:Nat} {G:Nat->Prop} {now:List Pt} {N wk fD:Int}
theorem Qd (h:ek w Pb G m now N wk fD):aK 33 #[aj Pb] w (gm w (ae N)):=by
 obtain⟨Hb,Ab,base,av,GH,SD,A,D,ALL,b,rfl,i⟩:=h;have d:=af (mo b.blk);have c:=af (PR b.half);have g:w.cell? (ag Pb 0)=some (aj Hb):=aF b.blk;go_enter func33,ntmps33
 go_wp2_with (first|(go_at_call 55;refine d.o.mono ?_;rintro e w1 ⟨rfl,a⟩;have f:=a.symm;clear a;subst f)|(refine c.o.mono ?_;rintro e w1 ⟨rfl,a⟩))
 go_ret;exact⟨rfl,a⟩
def FO (l:List Pt) (d:Int):Option Pt:=l.find? fun p=>decide (p.2.2=d)
theorem Nl {l:List Pt} {d:Int} (h:d∉ids l):FO l d=none:=by
 unfold FO;rw[AJ];intro p hp;simp only[dH];rintro rfl;exact h (nU hp)
theorem Nn {l:List Pt} {d:Int} {p:Pt} (h:FO l d=some p):p∈l/\p.2.2=d:=⟨List.mem_of_find?_eq_some h,by simpa using List.find?_some h⟩
theorem Ld {l:List Pt} (hu:(ids l).Nodup) {p:Pt} (hp:p∈l):FO l p.2.2=some p:=by
 cases h:FO l p.2.2 with
 |none=>
  unfold FO at h;exact absurd aA (AJ.1 h p hp)
 |some q=>
  obtain⟨b,a⟩:=Nn h;rcases eD (dx.1 hu) b hp with h3|h3|h3
  .rw[h3]
  .exact absurd a h3
  .exact absurd a.symm h3
def Su (w:World) (r:Option Pt) (e:Ending) (w':World):Prop:=e=.returned (.tuple #[iZ (r.getD (0,0,0)).1 (r.getD (0,0,0)).2.1 (r.getD (0,0,0)).2.2,.bool r.isSome])/\Below w.heap.size w w'
theorem Vi (h:ek w Pb G m now N wk fD) (d:Int):aK 23 #[aj Pb,au d] w (Su w (FO now d)):=by
 have X:=h.facts;obtain⟨Hb,Ab,base,av,GH,SD,A,D,ALL,V,rfl,ao⟩:=h;obtain⟨w1,j⟩:∃w1,w1=w.alloc (.cells #[ae 0,ae 0,au 0] 29):=⟨_,rfl⟩;have B:Below w.heap.size w w1:=by rw[j];exact(aJ _ _).alloc (aB _) _
 have H:w1.heap[w.heap.size]? =some (yR (0,0,0)):=by rw[j];exact bV w _
 have b:=V.kept (S:=fun _=>False) ((ay.refl _ _).below B) fun _ _ h=>h;have v:=af (mo b.blk);have u:=af (Vg b.dir d);have d1:w1.cell? (ag Pb 1)=some (aj Ab):=aF b.blk;have O:=af B;have am:=af H;have a:=af b;have M:=af j;have z:=af X.2.2.2.1;have aq:w.heap.size<w1.heap.size:=(aZ.1 H).1;clear j B H V b X ao;go_enter func23,ntmps23
 go_upto_region 1 with fail
 rw[<-M.o];clear M
 go_wp2_with (go_at_call 55;refine v.o.mono ?_;rintro e w2 ⟨rfl,U⟩;have an:=U.symm;clear U;subst an)
 refine u.o.mono ?_;rintro e w3 ⟨t,-,g,f⟩;have C:=O.o.trans (f.mono O.o.size);have I:=(f.block w.heap.size aq).trans am.o;have i:=af I;have P:=af C;rcases g with⟨q,r,rfl⟩|⟨ad,rfl⟩
 .obtain⟨k,c,rfl,l,g,rfl⟩:=a.o.fwd d q r;have Y:FO (A.map (·.1)) c.1.2.2=some c.1:=Ld z.o (nU l);have Q:=af Y;have E:=(fq.1 g).1;have F:=a.o.kept (S:=fun _=>False) ((ay.refl _ _).below f) fun _ _ h=>h;obtain⟨ar,ac,T,-,-,ah⟩:=bW.aD bg ai F.row;obtain⟨aw,ax,R,ap,n⟩:=ah.get aa;have L:=n k E 0 aa;have x1:=n k E 1 aa;have x2:=n k E 2 aa;obtain⟨aA,Z⟩:=fq.1 g;rw[Z]at L x1 x2;simp only[dw,fI,dz,dI]at L x1 x2;have d2:w3.cell? (ag Pb 2)=some av:=aF F.blk;rw[T,R]at d2;have az:(k:Int)<(ALL.length:Int):=aa;clear n ah ap Z F R T f C I a u v d1 l g r Y z;generalize W:c.1=p at*;obtain⟨J,K,s⟩:=p;have ak:=af W;clear W;simp only at L x1 x2 Q |-;have x:=af (qb w3 w.heap.size _ #[ae J,ae K,au s] _ _ i.o);have y:=af (yo P.o (aB w.heap.size) #[ae J,ae K,au s])
  go_wp2_with (refine rD rfl 29 (.tmp 4) (.tmp 31) rfl rfl w.heap.size #[ae J,ae K,au s] rfl rfl _ _ i.o aM rfl (by simp[Value.oneCell']) ?_)
  refine jM (uF rfl _ _ w.heap.size _ _ _ _ (.bool true) rfl rfl x.o underlying29 rfl aM) rfl ?_;refine⟨?_,y.o⟩;rw[show c.1.2.2=s by rw[ak.o],Q.o];rfl
 .have ab:FO (A.map (·.1)) d=none:=Nl fun h=>by
   obtain⟨p,hp,rfl⟩:=dm.1 h;obtain⟨c,l,rfl⟩:=dm.1 hp;obtain⟨q,r⟩:=a.o.bwd c l;exact ad q r
  have al:=af ab;have x:=af (qb w3 w.heap.size _ #[ae 0,ae 0,au 0] _ _ i.o);have y:=af (yo P.o (aB w.heap.size) #[ae 0,ae 0,au 0]);clear ab ad f C I a u v d1 z
  go_wp2_with (refine rD rfl 29 (.tmp 4) (.tmp 24) rfl rfl w.heap.size #[ae 0,ae 0,au 0] rfl rfl _ _ i.o aM rfl (by simp[Value.oneCell']) ?_)
  refine jM (uF rfl _ _ w.heap.size _ _ _ _ (.bool false) rfl rfl x.o underlying29 rfl aM) rfl ?_;refine⟨?_,y.o⟩;rw[al.o];rfl
end
end
section
open Go.RowKit Go.Lib
theorem Ic {p:Pt} (h:BB p):-9223372036854775808<=p.1/\p.1<=9223372036854775807/\-9223372036854775808<=p.2.1/\p.2.1<=9223372036854775807:=by
 obtain⟨a,b,-⟩:=h;simp[Lit.wf,IntKind.min,IntKind.max,IntKind.signed,IntKind.bits]at a b;omega
theorem Qe {L:List Pt} (a:∀p∈L,BB p) (x1 x2 y:Int):L.filter (DN x1 x2 (-9223372036854775808) y)=L.filter (qK x1 x2 y):=by
 refine mJ fun p hp=>?_;have:=Ic (a p hp);unfold DN qK;rw[nH,dH,dH];omega
theorem Vj {L:List Pt} (a:∀p∈L,BB p) (x y:Int):L.filter (DN x 9223372036854775807 y 9223372036854775807)=L.filter (zU x y 3):=by
 refine mJ fun p hp=>?_;have:=Ic (a p hp);rw[nH];simp only[DN,zU,yS,UQ,dH,oH,uW,yu];simp;omega
theorem RU {L:List Pt} (a:∀p∈L,BB p) (x y:Int):L.filter (DN (-9223372036854775808) x (-9223372036854775808) y)=L.filter (zU x y 0):=by
 refine mJ fun p hp=>?_;have:=Ic (a p hp);rw[nH];simp only[DN,zU,yS,UQ,dH,oH,uW,yu];simp;omega
theorem Le {L:List Pt} {f:Pt->Bool} {p:Pt} (hp:p∈L) (h:f p=true):decide (0<(L.filter f).length)=true:=
 pV (IA (bG.2 ⟨hp,h⟩))
theorem Lf {L:List Pt} {f:Pt->Bool} (h:∀p∈L,f p=false):decide (0<(L.filter f).length)=false:=by
 rw[uG.2 fun p hp=>by rw[h p hp];simp];rfl
theorem Qg {L:List Pt} {x1 x2:Int} (h:qN L x1 x2=none) (y:Int):decide (0<(L.filter (qK x1 x2 y)).length)=false:=by
 have a:=xE L x1 x2;rw[h]at a;refine Lf fun p hp=>?_;have:=a p hp;unfold vT at this;unfold qK;rw[gY]at*;omega
theorem Qh {L:List Pt} (e:∀p∈L,BB p) {x1 x2:Int} {p:Pt} (h:qN L x1 x2=some p):p∈L/\decide (0<(L.filter (qK x1 x2 9223372036854775807)).length)=true/\decide (0<(L.filter (qK x1 x2 p.2.1)).length)=true/\decide (0<(L.filter (qK x1 x2 (p.2.1-1))).length)=false:=by
 have a:=xE L x1 x2;rw[h]at a;obtain⟨hp,b,c⟩:=a;have:=Ic (e p hp);unfold vT at b;rw[dH]at b;refine⟨hp,Le hp ?_,Le hp ?_,Lf fun q d=>?_⟩
 .unfold qK;rw[dH];omega
 .unfold qK;rw[dH];omega
 .unfold qK;rw[gY];intro f;refine c q d (by unfold vT;rw[dH];omega) ?_;unfold sW;omega
theorem vY {L:List Pt} {k:Nat} (h:L.length<=k) (f:Pt->Bool):(eu (ids (L.filter f))).length<=k:=by
 rw[jm];unfold ids;rw[bU];exact bB (gD _ _) h
end
section
open Go.RowKit Go.Sort Go.Shelf Go.Lib Go.Maps
attribute [local irreducible] wpQuiet
attribute [local go_sem] Oper.fw
theorem Ie (l l':List Int) (k:Nat) (h:l.take k=l'.take k) (a:k<l.length) (b:k<l'.length) (c:l[k]=l'[k]):l.take (k+1)=l'.take (k+1):=by
 rw[ik a,ik b,h,c]
theorem sS (a a':Option Addr) (l l':List Int) (n n' c J:Nat) (w:World) (M:l.length=n) (N:l'.length=n') (h:Rd (.int .u32) w a l) (h':Rd (.int .u32) w a' l') (V:n<=1000000) (W:n'<=1000000):
  aK 15 #[.slice a n c,.slice a' n' J] w (gm w (.bool (decide (l=l')))):=by
 subst M N;have G:=af h;have H:=af h';clear h h';generalize m:decide (l=l')=r;have d:=af m;clear m;by_cases j:l.length=l'.length
 .have K:((l.length:Int)!=(l'.length:Int))=false:=by simp[j]
  have z:=af j;clear j;go_enter func15,ntmps15;go_wp2
  go_loopw [13] (fun t wr=>∃k:Nat,t=.int .i64 k/\k<=l.length/\Below w.heap.size w wr/\Hid (l.take k=l'.take k)) (fun t _=>l.length-(intOf t).toNat)
  case atStart=>exact⟨0,rfl,aY _,aJ _ _,rfl⟩
  case round=>
   obtain⟨k,rfl,S,i,g⟩:=hrel;by_cases E:k<l.length
   .have F:k<l'.length:=by have:=z.o;omega
    obtain⟨b,off,A,Q,C⟩:=(G.o.below i).get aa;obtain⟨P,X,B,R,D⟩:=(H.o.below i).get aa;have Y:=C k E;have Z:=D k F;have T:(k:Int)<(l.length:Int):=aa;have U:(k:Int)<(l'.length:Int):=aa;have p:l[k]≠l'[k]->r=false:=fun O=>by
     rw[<-d.o];simp only[gY];intro e;subst e;exact O rfl
    have q:l[k]=l'[k]->Hid (l.take (k+1)=l'.take (k+1)):=fun L=>Ie l l' k g.o E F L;have x:=af A;have y:=af B;clear C D A B;generalize l[k]=u at*;generalize l'[k]=v at*;obtain rfl:=x.o;obtain rfl:=y.o;clear x y;by_cases f:u=v
    .have d0:(u !=v)=false:=by simp[f]
     have I:=q f;clear f p q g;go_wp2;go_region
     all_goals
      go_wp2;go_roundw
      case rel=>exact⟨k+1,by go_num,aa,i.drew,I⟩
      case measure=>exact eO
    .have d0:(u !=v)=true:=by simp[f]
     have m:=p f;subst m;clear f p q d g;go_wp2;go_region
     all_goals
      go_wp2;go_ret;exact⟨rfl,i.drew⟩
   .obtain rfl:k=l.length:=aa;have s:r=true:=by
     rw[<-d.o,dH];have:=g.o;rw[jL,z.o,jL]at this;exact this
    subst s;clear g d;go_wp2;go_ret;exact⟨rfl,i⟩
 .have K:((l.length:Int)!=(l'.length:Int))=true:=aG;have s:r=false:=by
   rw[<-d.o,gY];rintro rfl;exact j rfl
  subst s;clear d j;go_enter func15,ntmps15;go_wp2;go_ret;exact⟨rfl,aJ _ _⟩
theorem Ea:fV 55:=bY func55 aM rfl
theorem Ig:fV 56:=bY func56 aM rfl
theorem Qi:fV 57:=bY func57 aM rfl
theorem Np:fV 59:=bY func59 aM rfl
section
variable {w w':World} {Pb Hb Ab base m:Nat} {av:Value} {G GH SD S:Nat->Prop} {A:List eU} {D:List (Int×Int)} {ALL now:List Pt} {N wk fD RQ:Int}
theorem zM (h:ek w Pb G m now N wk fD) (x y d:Int) (C:d∈ids now):
  aK 12 #[aj Pb,iZ x y d] w (gm w (.tuple #[ae 0,.bool false])):=by
 obtain⟨Hb,Ab,base,av,GH,SD,A,D,ALL,f,rfl,L⟩:=h;have r:Hid (∃q,(d,q)∈D):=by
  have⟨p,hp,e⟩:=dm.1 C;obtain⟨c,B,rfl⟩:=dm.1 hp;rw[<-e];exact f.bwd c B
 have s:=af (bV w (.cells #[ae x,ae y,au d] 29));have g:Below w.heap.size w (w.alloc (.cells #[ae x,ae y,au d] 29)):=(aJ _ _).alloc (aB _) _;have b:=af (f.kept (S:=fun _=>False) ((ay.refl _ _).below g) fun _ _ h=>h);have j:=af g;obtain⟨t,ac,rfl,-,-,-⟩:=bW.aD bg ai f.row;go_enter func12,ntmps12
 go_wp2_with fail
 generalize w.alloc (.cells #[ae x,ae y,au d] 29)=w1 at*;have u:w1.cell? (ag w.heap.size 2)=some (au d):=eP s.o;have d1:w1.cell? (ag Pb 1)=some (aj Ab):=aF b.o.blk;have d2:w1.cell? (ag Pb 2)=some (.slice t ALL.length ac):=aF b.o.blk;have H:=ah u;have I:=ah d1;have J:=ah d2;have i:=af (b.o.kept (w':=w1.drew) (S:=fun _=>False) ((ay.refl _ _).drew) fun _ _ h=>h);have k:=af (mo i.o.blk);refine lQ (fun W=>∃p:aS w1,W=p.W) [14,15,16] [(0,false)] ⟨⟨_,(aJ _ _).drew⟩,rfl⟩ 16 ?_;simp only[jQ,uM,uO,uI,fI,fQ]
 repeat(refine iY (fun K a=>?_);go_simp;first|(refine a _ ?_;clear a K)|(apply Exists.intro;refine⟨fun _=>?_,a _ ?_⟩;rfl;clear a K))
 refine oO ?_;refine aH 1 rfl fun K a=>?_;refine bf Ea rfl _ _ rfl (vals:=#[aj Pb]) rfl k.o ?_;rintro e w2 ⟨rfl,v⟩;subst v;refine⟨_,rfl,?_⟩;refine a _ _ (fun h _=>h) ?_;refine bz [(2,false),(3,false),(4,false),(5,false),(6,true),(7,false),(8,true),(9,false),(10,false),(11,false),(12,true),(13,false)] ⟨⟨_,(aJ _ _).drew⟩,rfl⟩ rfl ?_;have⟨q,E⟩:=r.o;have l:=af (J8 i.o.dir d (ALL.length:Int) q E);refine aH 14 rfl fun K a=>?_;refine Bo Ig rfl _ _ rfl (vals:=#[aj Ab,au d,ae ALL.length]) rfl l.o ?_;rintro e w3 ⟨rfl,z⟩;refine⟨_,rfl,?_⟩;refine a _ _ (fun _ h=>absurd ai h) ?_;have n:=af z;have F:=j.o.size;refine aI [15,16] ?_;go_wp2;go_ret2;exact⟨rfl,j.o.trans (((aJ _ _).drew.trans n.o).mono F)⟩
def Vk (w:World) (Pb:Nat) (G:Nat->Prop) (m:Nat) (now:List Pt) (N wk fD:Int) (p:Pt) (e:Ending) (w':World):Prop:=
 ∃n:Nat,K6 N n/\e=.returned (.tuple #[ae n,.bool true])/\ek w' Pb (fun k=>G k\/w.heap.size<=k/\k<w'.heap.size) (m+1) (now++[p]) (N+1) (wk+n) fD/\ay G w w'
theorem ug (h:ek w Pb G m now N wk fD) (ao:m<5000) (x y d:Int) (bt:BB (x,y,d)) (ap:d∉ids now):
  aK 12 #[aj Pb,iZ x y d] w (Vk w Pb G m now N wk fD (x,y,d)):=by
 obtain⟨Hb,Ab,base,av,GH,SD,A,D,ALL,H,rfl,bd⟩:=h;have bp:∀q,(d,q)∉D:=fun q hq=>by
  obtain⟨k,c,-,hc,-,e⟩:=H.fwd d q hq;exact ap (dm.2 ⟨c.1,dm.2 ⟨c,hc,rfl⟩,e⟩)
 have aW:=af ap;have s:=af bd;have bE:=H.few;have z:=af (bV w (.cells #[ae x,ae y,au d] 29));have Y:Below w.heap.size w (w.alloc (.cells #[ae x,ae y,au d] 29)):=(aJ _ _).alloc (aB _) _;have b:=af (H.kept (S:=fun _=>False) ((ay.refl _ _).below Y) fun _ _ h=>h);have aE:=af Y;have bv:=af (mo b.o.blk);obtain⟨l,ac,rfl,-,-,-⟩:=bW.aD bg ai H.row;have t:=af H;go_enter func12,ntmps12
 go_wp2_with fail
 generalize w.alloc (.cells #[ae x,ae y,au d] 29)=w1 at*;have M:w1.cell? (ag w.heap.size 0)=some (ae x):=eP z.o;have O:w1.cell? (ag w.heap.size 1)=some (ae y):=eP z.o;have B:w1.cell? (ag w.heap.size 2)=some (au d):=eP z.o;have d1:w1.cell? (ag Pb 1)=some (aj Ab):=aF b.o.blk;have d2:w1.cell? (ag Pb 2)=some (.slice l ALL.length ac):=aF b.o.blk;have ad:=ah B;have bw:=ah d1;have ak:=ah d2;have R:=af (b.o.kept (w':=w1.drew) (S:=fun _=>False) ((ay.refl _ _).drew) fun _ _ h=>h);have ar:=af (mo R.o.blk);refine lQ (fun W=>∃p:aS w1,W=p.W) [14,15,16] [(0,false)] ⟨⟨_,(aJ _ _).drew⟩,rfl⟩ 16 ?_;simp only[jQ,uM,uO,uI,fI,fQ]
 repeat(refine iY (fun K g=>?_);go_simp;first|(refine g _ ?_;clear g K)|(apply Exists.intro;refine⟨fun _=>?_,g _ ?_⟩;rfl;clear g K))
 refine oO ?_;refine aH 1 rfl fun K g=>?_;refine bf Ea rfl _ _ rfl (vals:=#[aj Pb]) rfl ar.o ?_;rintro e w2 ⟨rfl,a8⟩;subst a8;refine⟨_,rfl,?_⟩;refine g _ _ (fun h _=>h) ?_;refine bz [(2,false),(3,false),(4,false),(5,false),(6,true),(7,false),(8,true),(9,false),(10,false),(11,false),(12,true),(13,false)] ⟨⟨_,(aJ _ _).drew⟩,rfl⟩ rfl ?_;have aw:=af (P7 R.o.dir R.o.hb ao d (ALL.length:Int) bp);refine aH 14 rfl fun K g=>?_;refine Bo Ig rfl _ _ rfl (vals:=#[aj Ab,au d,ae ALL.length]) rfl aw.o ?_;rintro e w3 ⟨rfl,bc,bs⟩;refine⟨_,rfl,?_⟩;refine g _ _ (fun _ h=>absurd ai h) ?_;have u:ay SD w1 w3:=((ay.refl _ w1).drew).trans bs.Uc;have bK:=u.size;have aL:=af bc.clip;have aO:=af (b.o.half.kept u fun k hk=>(b.o.rq.1 k hk).1);have bj:=bq u b.o.blk (fun h9=>(b.o.rq.2.1 Pb h9).1 rfl);have br:=aR b.o.row u (fun E e h9=>(b.o.rq.2.1 E h9).2.1 e);have bJ:=(aZ.1 z.o).1;have L:=af (bq u z.o (fun h9=>by have:=(t.o.rq.2.1 _ h9).2.2;omega));have T:=af bj;have aX:=af br;have aU:=af u;refine aI [15,16] ?_
 go_wp2_with fail
 have M:w3.cell? (ag w.heap.size 0)=some (ae x):=eP L.o;have O:w3.cell? (ag w.heap.size 1)=some (ae y):=eP L.o;have B:w3.cell? (ag w.heap.size 2)=some (au d):=eP L.o;have d2:w3.cell? (ag Pb 2)=some (.slice l ALL.length ac):=aF T.o;have a9:=ah M;have ba:=ah O;have ad:=ah B;have ak:=ah d2;refine ax (fun W=>∃p:aS w3,W=p.W) [7,8,9,10] [(0,false),(1,false),(2,false),(3,false),(4,true),(5,true)] ⟨⟨_,(aJ _ _).drew⟩,rfl⟩ 5 ?_;refine aH 6 rfl fun K g=>?_;go_simp;refine g _ _ (fun _ _=>⟨⟨_,((aJ _ w3).alloc (aB _) _).drew⟩,rfl⟩) ?_;refine aH 7 rfl fun K g=>?_;refine bD OM 0 (aR (S:=fun _=>False) aX.o (((ay.refl _ _).alloc _).drew) (fun _ _ h=>h)) [.int .i64 x,.int .i64 y,.int .u32 d] rfl (by simp[Value.oneCell']) rfl (.tmp 27) (.tmp 29) rfl rfl _ rfl (kY _ _) dJ aa (aY _) ?_;intro f r w4 bb bl bk bm;refine g _ _ (fun _ h=>absurd ai h) ?_;have am:Value.ownBlock (.slice l ALL.length ac)=some f\/w3.heap.size<=f:=bk.imp id fun e=>by rw[e];simp
 have J:ay (fun k=>Value.ownBlock (.slice l ALL.length ac)=some k) w3 w4:=((((ay.refl _ w3).alloc _).drew)).grown bl fun k e=>.inl e;have bL:=J.size;have bC:=(aZ.1 T.o).1;have X:=bq J T.o b.o.rq.2.2;have a4:=af (bq J L.o (fun e=>by have:=(t.o.row.lt _ e).2;omega));have bN:w4.cell? (ag Pb 2)=some (.slice l ALL.length ac):=aF X;have f4:w4.frozen? (ag Pb 2)=false:=aF X;have bo:f≠Pb:=fun e=>am.elim (fun h=>b.o.rq.2.2 (by rw[h,e])) fun h=>aa;have bi:(w4.setCell (ag Pb 2) (az f (ALL.length+1) r)).heap[Pb]? =some (Obj.cells #[aj Hb,aj Ab,az f (ALL.length+1) r,ae fD] xB (0,0)):=by
  rw[di w4 Pb 2 _ _ _ X];rfl
 have a3:ay (fun k=>Value.ownBlock (.slice l ALL.length ac)=some k\/k=Pb) w3 (w4.setCell (ag Pb 2) (az f (ALL.length+1) r)):=(J.mono fun k h=>.inl h).set _ (.inl (.inr rfl));have a6:=aR bb ((ay.refl (fun k=>k=Pb) w4).set (a:=(ag Pb 2)) (az f (ALL.length+1) r) (.inl rfl)) (fun E e h=>bo (by have C:f=E:=(by injection e);rw[C];exact h));have a5:(w4.setCell (ag Pb 2) (az f (ALL.length+1) r)).heap[w.heap.size]? =_:=(aC (a:=(ag Pb 2)) (fun e:Pb=w.heap.size=>by have:=(aZ.1 t.o.blk).1;omega)).trans a4.o;have bu:(w4.setCell (ag Pb 2) (az f (ALL.length+1) r)).heap.size=w4.heap.size:=aA;have Z:=af bi;have U:=af a3;have a0:=af a6;have V:=af a5;have a1:=af bu;have aN:=af am;have aV:=af bm;refine aI [8,9,10] ?_
 go_wp2_with fail
 generalize w4.setCell (ag Pb 2) (az f (ALL.length+1) r)=j at*;have aP:=af (aO.o.kept U.o fun k hk h9=>by
  have P:=b.o.rq.1 k hk;rcases h9 with h9|h9
  .exact P.2.2.1 h9
  .exact P.2.1 h9)
 have M:j.cell? (ag w.heap.size 0)=some (ae x):=eP V.o;have O:j.cell? (ag w.heap.size 1)=some (ae y):=eP V.o;have B:j.cell? (ag w.heap.size 2)=some (au d):=eP V.o;have d0:j.cell? (ag Pb 0)=some (aj Hb):=aF Z.o;have a9:=ah M;have ba:=ah O;have ad:=ah B;have ak:=ah d0;have aq:=af (TW (w:=j.drew) (aP.o.kept (S:=fun _=>False) ((ay.refl _ j).drew) fun _ _ h=>h) ao x y d bt aW.o);refine ax (fun W=>∃p:aS j,W=p.W) [5,6,7,8,9] [(0,false),(1,false),(2,false),(3,true),(4,true)] ⟨⟨_,(aJ _ _).drew⟩,rfl⟩ 5 ?_;refine aH 5 rfl fun K g=>?_;refine bf Qi rfl _ _ rfl (vals:=#[aj Hb,iZ x y d]) rfl aq.o ?_;rintro e w6 ⟨n,q,bn,rfl,be,bh⟩;refine⟨_,rfl,?_⟩;refine g _ _ (fun _ h=>absurd ai h) ?_;have aT:=af be.clip;have v:Hid (ay GH j w6):=((ay.refl _ j).drew).trans bh;refine ig (fun _=>True) [8,9] aM ?_;refine bz [(6,false),(7,false)] trivial rfl ?_;refine aI [8,9] ?_;go_wp2;go_ret2;have bM:=v.o.size;have bI:=a1.o;have i:=b.o.rq;have bA:=(aZ.1 b.o.blk).1;have al:∀k,Value.ownBlock (.slice l ALL.length ac)=some k->k<w1.heap.size:=fun k e=>(b.o.row.lt k e).2;have I:∀k,Value.ownBlock (az f (ALL.length+1) r)=some k->(Value.ownBlock (.slice l ALL.length ac)=some k\/w3.heap.size<=k)/\k<w4.heap.size:=fun k e=>by
  have C:f=k:=by injection e
  subst C;exact⟨aN.o,aV.o⟩
 have bF:w1.drew.heap.size=w1.heap.size:=rfl;have bG:j.drew.heap.size=j.heap.size:=rfl;have a2:ay (fun k=>(Value.ownBlock (.slice l ALL.length ac)=some k\/k=Pb)\/GH k) w3 w6:=(U.o.mono fun k h=>.inl h).trans (v.o.mono fun k h=>.inr h);have an:∀k,Value.ownBlock (az f (ALL.length+1) r)=some k->¬GH k:=fun k e h=>by
  rcases(I k e).1 with h9|h9
  .exact(i.1 k h).2.2.1 h9
  .have:=(i.1 k h).2.2.2;omega
 refine⟨n,bn,rfl,⟨Hb,Ab,base,_,_,_,_,D++[(d,(ALL.length:Int))],ALL++[(x,y,d)],⟨bq v.o Z.o (fun h=>(i.1 Pb h).2.1 rfl),?_,aT.o,aL.o.kept a2 ?_,bB t.o.hb aa,aG,?_,?_,⟨fun k hk=>?_,fun k hk=>?_,?_⟩⟩,aA,fun k hk=>?_⟩,?_⟩
 .have P:=aR a0.o v.o (fun E e=>an E e);rw[bQ,gZ];exact P
 .rintro k ⟨hk,bH⟩ h9;rcases hk with hk|hk
  .rcases h9 with(h9|h9)|h9
   .exact(i.2.1 k hk).2.1 h9
   .exact(i.2.1 k hk).1 h9
   .exact(i.1 k h9).1 hk
  .rcases h9 with(h9|h9)|h9
   .have:=al k h9;omega
   .omega
   .have:=(i.1 k h9).2.2.2;omega
 .intro id Q hq;rcases bP.1 hq with hq|hq
  .obtain⟨k,c,a7,hc,ab,C⟩:=t.o.fwd id Q hq;exact⟨k,c,a7,II _ hc,by rw[lT (fq.1 ab).1];exact ab,C⟩
  .obtain⟨rfl,rfl⟩:id=d/\Q=(ALL.length:Int):=aQ hq;exact⟨ALL.length,((x,y,id),q),rfl,aA,aA,rfl⟩
 .intro c hc;rcases bP.1 hc with hc|hc
  .obtain⟨Q,hq⟩:=t.o.bwd c hc;exact⟨Q,II _ hq⟩
  .obtain rfl:c=((x,y,d),q):=aQ hc;exact⟨_,List.mem_append_right _ nV⟩
 .refine⟨?_,?_,fun e=>?_,hk.2⟩
  .rintro⟨h9,bx⟩;rcases hk.1 with vG|vG
   .rcases h9 with h9|h9
    .exact(i.1 k vG).1 h9
    .have:=(i.1 k vG).2.2.2;omega
   .omega
  .rintro rfl;rcases hk.1 with vG|vG
   .exact(i.1 k vG).2.1 rfl
   .omega
  .rcases hk.1 with vG|vG
   .exact an k e vG
   .have:=(I k e).2;omega
 .refine⟨?_,fun e=>?_,by have:=hk.2;omega⟩
  .rintro rfl;rcases hk.1 with vG|vG
   .exact(i.2.1 k vG).1 rfl
   .omega
  .have F:=hk.2;rcases(I k e).1 with h9|h9
   .rcases hk.1 with vG|vG
    .exact(i.2.1 k vG).2.1 h9
    .have:=al k h9;omega
   .omega
 .intro e;rcases(I Pb e).1 with h9|h9
  .exact i.2.2 h9
  .omega
 .rcases hk with⟨hk,F⟩|⟨hk,F⟩|rfl|hk
  .rcases hk with hk|hk
   .exact .inl (s.o k (.inl hk))
   .exact .inr ⟨aa,F⟩
  .rcases hk with hk|hk
   .exact .inl (s.o k (.inr (.inl hk)))
   .exact .inr ⟨aa,aa⟩
  .exact .inl (s.o k (.inr (.inr (.inl rfl))))
  .have F:=I k hk;rcases F.1 with h9|h9
   .exact .inl (s.o k (.inr (.inr (.inr h9))))
   .exact .inr ⟨aa,aa⟩
 .refine((((ay.refl G w).below aE.o).trans (aU.o.mono fun k h=>s.o k (.inr (.inl h)))).trans (U.o.mono fun k h=>?_)).trans (v.o.mono fun k h=>s.o k (.inl h));rcases h with h|h
  .exact s.o k (.inr (.inr (.inr h)))
  .exact s.o k (.inr (.inr (.inl h)))
end
section
variable {w w':World} {Pb Hb Ab base m:Nat} {av:Value} {G GH SD S:Nat->Prop} {A:List eU} {D:List (Int×Int)} {ALL now:List Pt} {N wk fD RQ:Int}
theorem Nq (h:ek w Pb G m now N wk fD) (d:Int) (p:d∉ids now):
  aK 13 #[aj Pb,au d] w (gm w (.tuple #[ae 0,.bool false])):=by
 obtain⟨Hb,Ab,base,av,GH,SD,A,D,ALL,a,rfl,t⟩:=h;have r:∀q,(d,q)∉D:=fun q s=>by
  obtain⟨k,c,-,n,-,e⟩:=a.fwd d q s;exact p (dm.2 ⟨c.1,dm.2 ⟨c,n,rfl⟩,e⟩)
 have i:=af (mo a.blk);have g:=af (P8 a.dir d r);have d1:w.cell? (ag Pb 1)=some (aj Ab):=aF a.blk;go_enter func13,ntmps13
 go_wp2_with (first|(go_at_call 55;refine i.o.mono ?_;rintro e w1 ⟨rfl,b⟩;have l:=b.symm;clear b;subst l)|(go_at_call 58;refine g.o.mono ?_;rintro e w1 ⟨rfl,f⟩;have j:=af f;clear f))
 go_ret2;exact⟨rfl,j.o⟩
def Vl (w:World) (Pb:Nat) (G:Nat->Prop) (m:Nat) (now:List Pt) (N wk fD:Int) (p:Pt) (e:Ending) (w':World):Prop:=
 ∃(n:Nat) (N':Int),e=.returned (.tuple #[ae n,.bool true])/\ek w' Pb (fun k=>G k\/w.heap.size<=k/\k<w'.heap.size) (m+1) (now.filter fun q=>decide (q≠p)) N' (wk+n) fD/\ay G w w'/\V9 (now.filter fun q=>decide (q≠p)).length N N' n
theorem vZ (h:ek w Pb G m now N wk fD) (aT:m<5000) (x y d:Int) (P:(x,y,d)∈now):
  aK 13 #[aj Pb,au d] w (Vl w Pb G m now N wk fD (x,y,d)):=by
 obtain⟨Hb,Ab,base,av,GH,SD,A,D,ALL,g,rfl,aE⟩:=h;have⟨c,u,O⟩:=dm.1 P;have aP:=g.half.facts.2.2.2.1;have Q:∀f∈A,f.1.2.2=d->f.1=(x,y,d):=fun f j e=>by
  have aB:(A.map (·.1)).Pairwise fun p q=>p.2.2≠q.2.2:=dx.1 aP;rcases eD aB (nU j) P with h1|h1|h1
  .exact h1
  .exact absurd e h1
  .exact absurd e.symm h1
 have⟨q,i⟩:=g.bwd c u;rw[O]at i;obtain⟨k,f,rfl,j,hk,hid⟩:=g.fwd d q i;rw[Q f j hid]at hk;have F:=(fq.1 hk).1;have an:=af Q;have Y:=af u;have Z:=af O;have al:=af hk;have l:=af aE;have V:=af (mo g.blk);have U:=af (Nh g.dir g.hb d (k:Int) i);have d1:w.cell? (ag Pb 1)=some (aj Ab):=aF g.blk;have a:=af g;have a7:=g.few;go_enter func13,ntmps13
 go_wp2_with (go_at_call 55;refine V.o.mono ?_;rintro e w1 ⟨rfl,J⟩;have aA:=J.symm;clear J;subst aA)
 refine U.o.mono ?_;rintro e w3 ⟨rfl,aC,aV⟩;have s:=aV.Uc;have ab:=af aC.clip;have ae:=af (a.o.half.kept s fun k hk=>(a.o.rq.1 k hk).1);have C:=bq s a.o.blk (fun h9=>(a.o.rq.2.1 Pb h9).1 rfl);have R:=aR a.o.row s (fun B e h9=>(a.o.rq.2.1 B h9).2.1 e);have bd:=s.size;have X:=af C;have ao:=af R;have am:=af s
 go_wp2_with fail
 obtain⟨aW,ac,az,-,-,aU⟩:=bW.aD bg ai R;have⟨aX,aY,aw,a8,E⟩:=aU.get aa;have I:=E k F 0 aa;have x1:=E k F 1 aa;have x2:=E k F 2 aa;have⟨bc,aQ⟩:=fq.1 al.o;rw[aQ]at I x1 x2;simp only[dw,fI,dz,dI]at I x1 x2;have d0:w3.cell? (ag Pb 0)=some (aj Hb):=aF C;have d2:w3.cell? (ag Pb 2)=some av:=aF C;rw[az,aw]at d2;have bb:(k:Int)<(ALL.length:Int):=aa;have a0:=ah d0;have a1:=ah d2;have a2:=ah I;have a3:=ah x1;have a4:=ah x2;have T:=af (RI (w:=w3.drew) (ae.o.kept (S:=fun _=>False) ((ay.refl _ w3).drew) fun _ _ h=>h) aT c Y.o x y d Z.o);refine ax (fun W=>∃p:aS w3,W=p.W) [11,12,13,14,15] [(0,false),(1,false),(2,false),(3,true),(4,false),(5,false),(6,false),(7,true),(8,false),(9,false),(10,true)] ⟨⟨_,(aJ _ _).drew⟩,rfl⟩ 5 ?_;refine aH 11 rfl fun K aL=>?_;refine bf Np rfl _ _ rfl (vals:=#[aj Hb,iZ x y d]) rfl T.o ?_;rintro e w6 ⟨n,ap,rfl,aG,aN,aO⟩;have ad:=af aO;refine⟨_,rfl,?_⟩;refine aL _ _ (fun _ h=>absurd ai h) ?_;have ak:=af aG.clip;have r:Hid (ay GH w3 w6):=((ay.refl _ w3).drew).trans aN;refine ig (fun _=>True) [14,15] aM ?_;refine bz [(12,false),(13,false)] trivial rfl ?_;refine aI [14,15] ?_;go_wp2;go_ret2;have be:=r.o.size;have b:=a.o.rq;have a9:w3.drew.heap.size=w3.heap.size:=rfl;have a6:=(aZ.1 a.o.blk).1;have M:∀k,av.ownBlock=some k->k<w.heap.size:=fun k e=>(a.o.row.lt k e).2;refine⟨n,ap,rfl,⟨Hb,Ab,base,av,_,_,_,D.filter fun z=>decide (z.1≠d),ALL,⟨bq r.o X.o (fun h=>(b.1 Pb h).2.1 rfl),aR ao.o r.o (fun B e h=>(b.1 B h).2.2.1 e),ak.o,(ab.o.mono (fun k h=>h) (Nat.le_succ _)).kept r.o ?_,bB a.o.hb aa,aa,?_,?_,⟨fun k hk=>?_,fun k hk=>?_,b.2.2⟩⟩,?_,fun k hk=>?_⟩,?_,?_⟩
 .rintro k ⟨hk,ba⟩ h9;rcases hk with hk|hk
  .exact(b.1 k h9).1 hk
  .have:=(b.1 k h9).2.2.2;omega
 .intro id H i;have⟨i,t⟩:=bG.1 i;have⟨k,f,aq,u,ar,v⟩:=a.o.fwd id H i;refine⟨k,f,aq,bG.2 ⟨u,?_⟩,ar,v⟩;simp only[dH]at t |-;intro e;rw[e]at v;exact t v.symm
 .intro f j;have⟨j,t⟩:=bG.1 j;have⟨H,i⟩:=a.o.bwd f j;refine⟨H,bG.2 ⟨i,?_⟩⟩;simp only[dH]at t |-;exact fun e=>t (an.o f j e)
 .refine⟨?_,?_,fun e=>?_,hk.2⟩
  .rintro⟨h9,a5⟩;rcases hk.1 with vG|vG
   .rcases h9 with h9|h9
    .exact(b.1 k vG).1 h9
    .have:=(b.1 k vG).2.2.2;omega
   .omega
  .rintro rfl;rcases hk.1 with vG|vG
   .exact(b.1 k vG).2.1 rfl
   .omega
  .rcases hk.1 with vG|vG
   .exact(b.1 k vG).2.2.1 e
   .have:=M k e;omega
 .refine⟨?_,fun e=>?_,by have:=hk.2;omega⟩
  .rintro rfl;rcases hk.1 with vG|vG
   .exact(b.2.1 k vG).1 rfl
   .omega
  .rcases hk.1 with vG|vG
   .exact(b.2.1 k vG).2.1 e
   .have:=M k e;omega
 .rw[xZ];rfl
 .rcases hk with⟨hk,L⟩|⟨hk,L⟩|rfl|hk
  .rcases hk with hk|hk
   .exact .inl (l.o k (.inl hk))
   .exact .inr ⟨aa,L⟩
  .rcases hk with hk|hk
   .exact .inl (l.o k (.inr (.inl hk)))
   .exact .inr ⟨aa,aa⟩
  .exact .inl (l.o k (.inr (.inr (.inl rfl))))
  .exact .inl (l.o k (.inr (.inr (.inr hk))))
 .exact(am.o.mono fun k h=>l.o k (.inr (.inl h))).trans (r.o.mono fun k h=>l.o k (.inl h))
 .rw[xZ,bU];exact ad.o
end
end
section
open Go.RowKit Go.Maps
theorem zm {l:List Pt}:(bN l).length<=l.length:=by
 have a:(bN l).length<=(eX l).length:=by unfold bN F8;exact gD _ _
 rw[(dQ l).length_eq]at a;exact a
theorem CO (A B:List Pt) (p:Pt):uo (A++B) p=(uo A p||uo B p):=by unfold uo;rw[List.any_append]
theorem nK.self {l T:List Pt} (h:nK l T):nK T T:=⟨h.1,fun p=>⟨fun hp=>⟨hp,by rw[wF h];exact((h.2 p).1 hp).2⟩,fun hp=>hp.1⟩⟩
theorem FP {l:List Pt} (hu:lF l=true) {p:Pt} (h:p∈bN l):p∈l:=((kZ ((iy l).1 hu)).2 p).1 h|>.1
theorem FQ {l:List Pt} (hu:lF l=true):lF (bN l)=true:=by
 rw[iy]at*;have a:(ids (eX l)).Nodup:=((dQ l).map _).nodup_iff.2 hu;unfold bN F8;exact a.sublist (List.Sublist.map _ Eo)
theorem CP {l:List Pt} (hu:lF l=true):kg (bN l)=true:=by
 unfold kg;rw[(F9 _).2 (kZ ((iy l).1 hu)).self,FQ hu];rfl
theorem Lg {l:List Pt} (hu:lF l=true) (h:KW l):KW (bN l):=fun p hp=>h p (FP hu hp)
theorem xG {A B:List Pt}:lF (A++B)=true↔lF A=true/\lF B=true/\∀p∈A,∀q∈B,p.2.2≠q.2.2:=by
 simp only[iy,ids,bL,pI,dm];refine and_congr Iff.rfl (and_congr Iff.rfl ⟨fun h p hp q a=>h _ ⟨p,hp,rfl⟩ _ ⟨q,a,rfl⟩,?_⟩);rintro h _ ⟨p,hp,rfl⟩ _ ⟨q,a,rfl⟩;exact h p hp q a
theorem Eb {A B:List Pt} (h:lF (A++B)=true):lF (bN A++bN B)=true:=by
 rw[xG]at*;exact⟨FQ h.1,FQ h.2.1,fun p hp q a=>h.2.2 p (FP h.1 hp) q (FP h.2.1 a)⟩
theorem Ec {l m:List Pt} (b:lF l=true) (c:lF m=true) (h:∀p,(p∈l/\uo l p=false)↔(p∈m/\uo m p=false)):bN l=bN m:=by
 have a:=kZ ((iy _).1 b);exact nK.unique (l:=m) ⟨a.1,fun p=>(a.2 p).trans (h p)⟩ (kZ ((iy _).1 c))
theorem Qj {A B:List Pt} (h:lF (A++B)=true):bN (bN A++bN B)=bN (A++B):=by
 have d:=(xG.1 h).1;have e:=(xG.1 h).2.1;have b:=kZ ((iy _).1 d);have c:=kZ ((iy _).1 e);refine Ec (Eb h) h fun p=>?_;rw[CO,CO,wF b,wF c,bP,bP,b.2 p,c.2 p,Bool.or_eq_false_iff];constructor
 .rintro⟨h1|h1,a⟩
  .exact⟨.inl h1.1,a⟩
  .exact⟨.inr h1.1,a⟩
 .rintro⟨h1|h1,a⟩
  .exact⟨.inl ⟨h1,a.1⟩,a⟩
  .exact⟨.inr ⟨h1,a.2⟩,a⟩
theorem RV:bN []=[]:=by simp[bN,F8,eX]
end
end Go.Proofs.YtkjdbndekceffaaGreat
