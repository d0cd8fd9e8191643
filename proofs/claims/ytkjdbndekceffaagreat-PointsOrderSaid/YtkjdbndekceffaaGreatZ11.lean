/- Made small by a program. -/
import Derived.Test.YtkjdbndekceffaaGreatZ09
import Derived.Test.YtkjdbndekceffaaGreatZ10
set_option linter.unusedSimpArgs false
set_option linter.unusedVariables false
set_option maxRecDepth 100000
set_option maxHeartbeats 16000000
namespace Go.Proofs.YtkjdbndekceffaaGreat
open Tryz
section
open Go.RowKit Go.Maps
attribute [local irreducible] wpQuiet
def Vw (l:List Pt) (p:Pt) (w:World) (e:Ending) (w':World):Prop:=
 ∃k:Nat,e=.returned (.tuple #[af k,.bool (decide (∃h:k<l.length,iE l[k] p=0))])/\k<=l.length/\(∀t (h:t<l.length),t<k->iE l[t] p<0)/\(∀t (h:t<l.length),k<=t->¬iE l[t] p<0)/\Below w.heap.size w w'
theorem Vx (a:Option Addr) (l:List Pt) (n an:Nat) (p:Pt) (W:World) (ar:l.length=n) (aC:n<=1000000) (ab:bQ bX 3 W a l) (ac:l.Pairwise kE):
  aK 191 #[.slice a n an,iT p.1 p.2.1 p.2.2,.func (.func 94) #[] #[]] W (Vw l p W):=by
 subst ar;obtain⟨d,f,c⟩:=p;have X:=ag ab;have al:=ag ac;have V:=ag (fun(q:Pt) W=>(SE q (d,f,c) W).mono (fun e w' (h:e=.returned (af (iE q (d,f,c)))/\xz W w')=>(⟨h.1,h.2.below (aB _)⟩:e=.returned (af (iE q (d,f,c)))/\Below W.heap.size W w')));have ai:Hid (∀t i (Y:t<l.length) (g:i<l.length),t<=i->iE l[i] (d,f,c)<0->iE l[t] (d,f,c)<0):=fun t i Y g L M=>by
  by_cases e:t=i
  .subst e;exact M
  .have ao:=gQ.1 al.o t i Y g aa;rw[qf]at M |-;exact oH ao M
 clear ab ac;go_enter func191,ntmps191
 go_wp2_with fail
 have Z:Below W.heap.size W (W.alloc (.cells #[af d,af f,ay c] 29)):=(aJ _ _).alloc (aB _) _;have am:Hid ((W.alloc (.cells #[af d,af f,ay c] 29)).heap[W.heap.size]? =some (.cells #[af d,af f,ay c] 29 (0,0))):=cB W _;have au:W.heap.size<(W.alloc (.cells #[af d,af f,ay c] 29)).heap.size:=aA;generalize(W.alloc (.cells #[af d,af f,ay c] 29))=J at*;have U:=ag Z;clear Z
 go_loopw [9,10] (fun O P wr=>∃i j:Nat,O=.int .i64 i/\P=.int .i64 j/\i<=j/\j<=l.length/\Hid (∀t (h:t<l.length),t<i->iE l[t] (d,f,c)<0)/\Hid (∀t (h:t<l.length),j<=t->¬iE l[t] (d,f,c)<0)/\Hid (Below J.heap.size J wr))
  (fun O P _=>(intOf P).toNat-(intOf O).toNat)
 case atStart=>exact⟨0,l.length,rfl,rfl,aX _,aB _,fun t h g=>absurd g (kC _),fun t h g=>absurd h aa,aJ _ _⟩
 case round=>
  obtain⟨i,j,rfl,rfl,az,ap,K,T,F⟩:=hrel;have A:Below W.heap.size W wr:=U.o.trans (F.o.mono U.o.size);have D:=(F.o.block _ au).trans am.o;have Q:=ah (w:=wr) (ad:=(ae W.heap.size 0)) (v:=.int .i64 d) (aG D);have R:=ah (w:=wr) (ad:=(ae W.heap.size 1)) (v:=.int .i64 f) (aG D);have S:=ah (w:=wr) (ad:=(ae W.heap.size 2)) (v:=.int .u32 c) (aG D);by_cases aD:i<j
  .obtain⟨m,aq⟩:∃m,m=(i+j)/2:=⟨_,rfl⟩;have aE:((i:Int)+(j:Int))/2=(m:Int):=aa;have C:m<l.length:=aa;have aF:i<=m/\m<j:=aa;clear aq;obtain⟨b,off,y,N,u⟩:=(X.o.below A).get aa;have r:=u (m) C 0 aa;have x1:=u (m) C 1 aa;have x2:=u (m) C 2 aa;simp only[bX,fw,fD,dx]at r x1 x2;have r:=ah r;have x1:=ah x1;have x2:=ah x2;have I:Hid (iE l[m] (d,f,c)<0->∀t (h:t<l.length),t<m+1->iE l[t] (d,f,c)<0):=fun h t ht g=>ai.o t _ ht C aa h;have H:Hid (¬iE l[m] (d,f,c)<0->∀t (h:t<l.length),m<=t->¬iE l[t] (d,f,c)<0):=fun h t ht g L=>h (ai.o _ t C ht g L);have s:Hid (∀p:aQ wr,aK 94 #[iT l[m].1 l[m].2.1 l[m].2.2,iT d f c] p.W fun e w'=>e=.returned (af (iE l[m] (d,f,c)))/\Below p.W.heap.size p.W w'):=fun p=>V.o l[m] p.W;have x:=ag y;obtain⟨o,k⟩:∃o,o=iE l[m] (d,f,c):=⟨_,rfl⟩;rw[<-k]at I H s;clear u y k D;generalize l[m]=q at*;obtain⟨aw,ax,av⟩:=q;simp only at r x1 x2 s;obtain rfl:=x.o;clear x
   go_upto_region 5 with fail
   refine bG aO aO ?_
   repeat(quiet_step ((go_at_call 94;exact dJ (s.o _))))
   refine jM ?_;intro w2 E;have z:Below wr.heap.size wr w2:=by obtain⟨p,rfl⟩:=E;exact p.h
   have G:Hid (Below J.heap.size J w2):=F.o.trans (z.mono F.o.size);clear E Q R S r x1 x2 z s;by_cases k:o<0
   .have ak:=ag (I.o k);have d1:decide (o<0)=true:=aP k;clear I H;go_wp2;go_roundw
    case rel=>exact⟨m+1,j,by go_num,rfl,aa,ap,ak,T,G⟩
    case measure=>exact dU
   .have aj:=ag (H.o k);have d1:decide (o<0)=false:=aP k;clear I H;go_wp2;go_roundw
    case rel=>exact⟨i,m,rfl,rfl,aa,aa,K,aj,G⟩
    case measure=>exact dU
  .obtain rfl:i=j:=aa;by_cases B:i<l.length
   .obtain⟨b,off,y,N,u⟩:=(X.o.below A).get aa;have r:=u i B 0 aa;have x1:=u i B 1 aa;have x2:=u i B 2 aa;simp only[bX,fw,fD,dx]at r x1 x2;have r:=ah r;have x1:=ah x1;have x2:=ah x2;have s:Hid (∀p:aQ wr,aK 94 #[iT l[i].1 l[i].2.1 l[i].2.2,iT d f c] p.W fun e w'=>e=.returned (af (iE l[i] (d,f,c)))/\Below p.W.heap.size p.W w'):=fun p=>V.o l[i] p.W;have x:=ag y;obtain⟨o,k⟩:∃o,o=iE l[i] (d,f,c):=⟨_,rfl⟩;have HO:Hid (decide (∃h:i<l.length,iE l[i] (d,f,c)=0)=(o==0)):=by
     show _=_;rw[k,mO];simp[B]
    rw[<-k]at s;have hd:decide (i<l.length)=true:=aP B;clear u y k D;generalize l[i]=q at*;obtain⟨aw,ax,av⟩:=q;simp only at r x1 x2 s;obtain rfl:=x.o;clear x
    go_upto_region 8 with fail
    refine bG aO aO ?_
    repeat(quiet_step ((go_at_call 94;exact dJ (s.o _))))
    refine jM ?_;intro w2 E;have z:Below wr.heap.size wr w2:=by obtain⟨p,rfl⟩:=E;exact p.h
    have G:Hid (Below W.heap.size W w2):=A.trans (z.mono A.size);clear E Q R S r x1 x2 z s;go_wp2;go_ret2;exact⟨i,by rw[HO.o];rfl,aa,K.o,(fun t h g L=>absurd (T.o t h g) aa),G.o⟩
   .obtain rfl:i=l.length:=aa;have N:=ag A;clear Q R S
    go_upto_region 8 with fail
    go_quiet (fail)
    go_wp2;go_ret2;exact⟨l.length,aA,aB _,K.o,fun t h g=>absurd h aa,N.o.trans (Below.bq _ _)⟩
end
section
open Go.RowKit Go.Sort Go.Shelf Go.Lib Go.Maps
theorem E5 {α:Type} [Inhabited α] {enc:α->Value} {w:World} {base g d:Nat} {e:TypeId} {l:List α} {i:Nat} {zr:α} (h:w.ownsRow base e 1 (au g l.length d) l.length (l.map enc)) (hi:i<l.length) (q:Nat):
  (putRow enc (Sort.ahead w q) g 0 (l.toArray.toList.take i++l.toArray.toList.drop (i+1)++List.replicate (i+1-i) zr).toArray).ownsRow base e 1 (au g (l.length-1) d) (l.length-1) ((l.eraseIdx i).map enc)/\
  ax (fun k=>k=g) w (putRow enc (Sort.ahead w q) g 0 (l.toArray.toList.take i++l.toArray.toList.drop (i+1)++List.replicate (i+1-i) zr).toArray):=by
 rcases h.2 with⟨b,B⟩|⟨A,v,x,b,r,s,C,t,E,ht⟩
 .cases b
 .injection b with a z n;injection a with a;injection a with a _ _;subst a n;have j:(l.take i++l.drop (i+1)++[zr]).length=l.length:=aD;obtain⟨y,-,-,-,c⟩:=rV (l:=l) (l':=l.take i++l.drop (i+1)++[zr]) r s aa t aa j q #[];rw[Sort.grow_empty]at c;have p:(l.toArray.toList.take i++l.toArray.toList.drop (i+1)++List.replicate (i+1-i) zr)=l.take i++l.drop (i+1)++[zr]:=by
   rw[show i+1-i=1 by omega];simp
  rw[p];constructor
  .rw[j]at c;have f:=l8 (m:=l.length-1) c aa;have o:((l.take i++l.drop (i+1)++[zr]).map enc).take ((l.length-1)*1)=(l.eraseIdx i).map enc:=by
    rw[iM,<-List.map_take,DZ aD,ky aD,xA]
   rw[o]at f;exact f
  .refine⟨rfl,rfl,rfl,?_,fun k D u=>?_⟩
   .show w.heap.size<=(w.heap.modify g _).size;simp
   .show(w.heap.modify g _)[k]? =_;rw[xG,aM (iN u)]
theorem Jg {w:World} {base g b:Nat} {l:List Int} {i:Nat} (h:w.ownsRow base 27 1 (au g l.length b) l.length (l.map (Value.int .u32))) (hi:i<l.length):
  aK 198 #[au g l.length b,af i,af (i+1:Nat)] w fun e w'=>e=.returned (au g (l.length-1) b)/\w'.ownsRow base 27 1 (au g (l.length-1) b) (l.length-1) ((l.eraseIdx i).map (Value.int .u32))/\ax (fun k=>k=g) w w':=by
 obtain⟨j,B,D⟩:∃j,Tryz.prog.info? 27=some j/\j.size=1:=by
  have a:(Tryz.prog.info? 27).map (fun i=>i.size)=some 1:=aO;cases p:Tryz.prog.info? 27 with
  |none=>rw[p]at a;cases a
  |some i=>rw[p]at a;injection a with a;exact⟨i,rfl,a⟩
 have n:l.length<=b/\b<=9223372036854775807:=by
  rcases h.2 with⟨c,v⟩|⟨u,r,s,c,A,a,f,o,C,ht⟩
  .cases c
  .injection c with d t m;subst m;unfold maxLen at o;omega
 have z:Holds (Value.int .u32) w g 0 l.toArray:=by
  rcases h.2 with⟨c,v⟩|⟨u,r,s,c,A,a,f,o,C,ht⟩
  .cases c
  .injection c with d t m;injection d with d;injection d with d _ _;subst d;rw[iM]at ht;exact holds_of_block a ht
 have f:=AnyE.slices_Delete Tryz.Jg (Value.int .u32) (fun _=>rfl) 0 (fun w=>zeroValue27 w) j B D g 0 b i (i+1) l.toArray w z (aP n.1) n.2 aa aD;change aK 198 _ _ _ at f;rw[show l.toArray.size=l.length by simp]at f;refine f.mono ?_;rintro e w' ⟨rfl,q,rfl⟩;have⟨x,y⟩:=E5 (zr:=(0:Int)) h hi q;exact⟨by rw[show i+1-i=1 by omega],x,y⟩
theorem Ji {w:World} {base g b:Nat} {l:List Int} {i:Nat} (h:w.ownsRow base 2 1 (au g l.length b) l.length (l.map (Value.int .i64))) (hi:i<l.length):
  aK 197 #[au g l.length b,af i,af (i+1:Nat)] w fun e w'=>e=.returned (au g (l.length-1) b)/\w'.ownsRow base 2 1 (au g (l.length-1) b) (l.length-1) ((l.eraseIdx i).map (Value.int .i64))/\ax (fun k=>k=g) w w':=by
 obtain⟨j,B,D⟩:∃j,Tryz.prog.info? 2=some j/\j.size=1:=by
  have a:(Tryz.prog.info? 2).map (fun i=>i.size)=some 1:=aO;cases p:Tryz.prog.info? 2 with
  |none=>rw[p]at a;cases a
  |some i=>rw[p]at a;injection a with a;exact⟨i,rfl,a⟩
 have n:l.length<=b/\b<=9223372036854775807:=by
  rcases h.2 with⟨c,v⟩|⟨u,r,s,c,A,a,f,o,C,ht⟩
  .cases c
  .injection c with d t m;subst m;unfold maxLen at o;omega
 have z:Holds (Value.int .i64) w g 0 l.toArray:=by
  rcases h.2 with⟨c,v⟩|⟨u,r,s,c,A,a,f,o,C,ht⟩
  .cases c
  .injection c with d t m;injection d with d;injection d with d _ _;subst d;rw[iM]at ht;exact holds_of_block a ht
 have f:=AnyE.slices_Delete Tryz.Ji (Value.int .i64) (fun _=>rfl) 0 (fun w=>zeroValue2 w) j B D g 0 b i (i+1) l.toArray w z (aP n.1) n.2 aa aD;change aK 197 _ _ _ at f;rw[show l.toArray.size=l.length by simp]at f;refine f.mono ?_;rintro e w' ⟨rfl,q,rfl⟩;have⟨x,y⟩:=E5 (zr:=(0:Int)) h hi q;exact⟨by rw[show i+1-i=1 by omega],x,y⟩
theorem EY {w:World} {base g b:Nat} {l:List Int} {i:Nat} (h:w.ownsRow base 3 1 (au g l.length b) l.length (l.map (Value.int .i64))) (hi:i<l.length):
  aK 199 #[au g l.length b,af i,af (i+1:Nat)] w fun e w'=>e=.returned (au g (l.length-1) b)/\w'.ownsRow base 3 1 (au g (l.length-1) b) (l.length-1) ((l.eraseIdx i).map (Value.int .i64))/\ax (fun k=>k=g) w w':=by
 obtain⟨j,B,D⟩:∃j,Tryz.prog.info? 3=some j/\j.size=1:=by
  have a:(Tryz.prog.info? 3).map (fun i=>i.size)=some 1:=aO;cases p:Tryz.prog.info? 3 with
  |none=>rw[p]at a;cases a
  |some i=>rw[p]at a;injection a with a;exact⟨i,rfl,a⟩
 have n:l.length<=b/\b<=9223372036854775807:=by
  rcases h.2 with⟨c,v⟩|⟨u,r,s,c,A,a,f,o,C,ht⟩
  .cases c
  .injection c with d t m;subst m;unfold maxLen at o;omega
 have z:Holds (Value.int .i64) w g 0 l.toArray:=by
  rcases h.2 with⟨c,v⟩|⟨u,r,s,c,A,a,f,o,C,ht⟩
  .cases c
  .injection c with d t m;injection d with d;injection d with d _ _;subst d;rw[iM]at ht;exact holds_of_block a ht
 have f:=AnyE.slices_Delete Tryz.EY (Value.int .i64) (fun _=>rfl) 0 (fun w=>zeroValue3 w) j B D g 0 b i (i+1) l.toArray w z (aP n.1) n.2 aa aD;change aK 199 _ _ _ at f;rw[show l.toArray.size=l.length by simp]at f;refine f.mono ?_;rintro e w' ⟨rfl,q,rfl⟩;have⟨x,y⟩:=E5 (zr:=(0:Int)) h hi q;exact⟨by rw[show i+1-i=1 by omega],x,y⟩
theorem QS (a:Option Addr) (l:List Int) (n c:Nat) (x:Int) (w:World) (C:l.length=n) (h:Rd (.int .u32) w a l) (J:n<=1000000) (u:x∈l):
  aK 196 #[.slice a n c,ay x] w fun e w'=>(∃i:Nat,e=.returned (af i)/\∃h:i<l.length,l[i]=x)/\w'=w:=by
 subst C;have z:=ag h;have A:=ag u;clear h u;go_enter func196,ntmps196;go_wp2
 go_loopg [8] l.length (fun D E wr=>∃j:Nat,E=.int .i64 j/\j<=l.length/\l.length-j<=D/\wr=w/\Hid (∀t (h:t<l.length),t<j->l[t]≠x))
 case atStart=>exact⟨0,rfl,aX _,aa,rfl,fun t h q=>absurd q (kC _)⟩
 case round=>
  obtain⟨j,rfl,H,I,rfl,k⟩:=hrel;by_cases s:j<l.length
  .obtain⟨b,off,p,G,r⟩:=z.o.get aa;have F:=r j s;have g:=ag p;obtain⟨y,f⟩:∃y,y=l[j]:=⟨_,rfl⟩;rw[<-f]at F;have m:=ag f;clear r p f;obtain rfl:=g.o;clear g;by_cases d:x=y
   .have d1:(x==y)=true:=by simp[d]
    have d2:decide (x=y)=true:=by simp[d]
    have B:=ag d;clear d;go_wp2;go_ret;exact⟨⟨j,rfl,s,by rw[<-m.o,B.o]⟩,rfl⟩
   .have d1:(x==y)=false:=by simp[d]
    have d2:decide (x=y)=false:=by simp[d]
    have v:Hid (∀t (h:t<l.length),t<j+1->l[t]≠x):=fun t h q=>by
     by_cases e:t=j
     .subst e;rw[<-m.o];exact fun e=>d e.symm
     .exact k.o t h aa
    clear d;go_wp2
    go_roundg (l.length-(j+1))
    case measure=>omega
    case rel=>exact⟨j+1,by go_num,aa,aB _,rfl,v⟩
  .obtain⟨t,ht,e⟩:=jb A.o;exact absurd e (k.o t ht aa)
end
section
open Go.RowKit Go.Sort Go.Shelf Go.Lib Go.Maps
attribute [local irreducible] wpQuiet
attribute [local go_sem] Oper.eF
def Jl (R:List Pt) (p:Pt):Nat:=R.countP fun q=>decide (iE q p<0)
def Tg (R:List Pt) (p:Pt):Bool:=decide (∃h:Jl R p<R.length,iE R[Jl R p] p=0)
theorem OE (a:Option Addr) (l:List Pt) (n c:Nat) (p:Pt) (W:World) (q:l.length=n) (o:n<=1000000) (r:bQ bX 3 W a l) (s:l.Pairwise kE):
  aK 191 #[.slice a n c,iT p.1 p.2.1 p.2.2,.func (.func 94) #[] #[]] W (fV W (.tuple #[af (Jl l p),.bool (Tg l p)])):=
 (Vx a l n c p W q o r s).mono fun e w' ⟨k,j,m,f,g,i⟩=>by
  have d:k=Jl l p:=oP l k m (fun t h b=>by simpa using f t h b) (fun t h b=>by simpa using g t h b);subst d;exact⟨j,i⟩
theorem E8 {R:List Pt} (d:R.Pairwise kE) {x:Nat} (a:x<R.length):Jl R R[x]=x/\Tg R R[x]=true:=by
 have b:x=Jl R R[x]:=oP R x (uY a) (fun t h c=>by
  have:=gQ.1 d t x h a c;simpa[qf]using this) (fun t h c=>by
  simp only[iI,qf];by_cases e:t=x
  .subst e;exact sU _
  .intro f;have:=gQ.1 d x t a h aa;exact sU _ (oH this f))
 refine⟨b.symm,?_⟩;unfold Tg;rw[bO];refine⟨aa,?_⟩;have e:R[Jl R R[x]]'aa=R[x]:=by congr 1;exact b.symm
 rw[e,Qw];exact⟨rfl,rfl⟩
end
section
open Go.RowKit Go.Sort Go.Shelf Go.Lib Go.Maps
def E9 (n k:Nat):FT:=(((dM 0 n).subs 0).getD k (.leaf 0,0)).1
theorem mE {n:Nat} {t:FT} {s:Nat} (h:FT.At (aW n) t s):E9 n (t.root s)=t:=by
 have a:=kU h;have c:=h.lt;rw[df]at c;have b:t.root s<((dM 0 n).subs 0).length:=by rw[FT.fq,fe 0 n a];exact c
 have e:=FT.oQ (dM 0 n) 0 _ b;have f:=FT.kR (dM 0 n) 0 (fH a▸jT n a) _ (bB b);have⟨d,g⟩:=FT.At.unique (fH a▸h) f (by rw[e];omega);unfold E9;rw[ja,cz b];exact d.symm
def mZ (n:Nat) (YS:List Nat) (k:Nat):List Nat:=nl YS (E9 n k)
def xc (n:Nat) (YS:List Nat) (k:Nat):List Int:=match E9 n k with
 |.leaf _=>[]
 |.node l r=>lf l.hi (nl YS (.node l r))
theorem zX {n:Nat} {l r:FT} {s:Nat} (h:FT.At (aW n) (.node l r) s) (YS:List Nat):xc n YS ((FT.node l r).root s)=lf l.hi (nl YS (.node l r)):=by
 unfold xc;rw[mE h]
section
variable {w w':World} {lo hi tb fb:Nat} {R:List Pt} {gone:List Bool} {YS:List Nat} {V:yt}
theorem jC.V8 (h:jC w lo hi tb fb R gone YS V):gI w lo hi tb fb R gone YS.length YS (mZ R.length YS) (xc R.length YS) V:=
 ⟨h.blk,h.fo,h.row,h.xs,h.Dw,h.iD,h.jc,h.EF,h.ys,fun k b=>by
  obtain⟨t,s,a,rfl⟩:=tK b;unfold mZ;rw[mE a];exact h.FV t s a,fun l r s a=>by rw[zX a];exact h.Bc l r s a,h.Dr,h.top,h.oO,h.Nv,h.H7,h.Gf⟩
theorem gI.toAt {nc:Nat->List Nat} {lc:Nat->List Int} (h:gI w lo hi tb fb R gone YS.length YS nc lc V) (c:∀k,k<(aW R.length).length->nc k=mZ R.length YS k) (d:∀l r s,FT.At (aW R.length) (.node l r) s->lc ((FT.node l r).root s)=xc R.length YS ((FT.node l r).root s)):jC w lo hi tb fb R gone YS V:=
 ⟨h.blk,h.fo,h.row,h.xs,h.Dw,h.iD,h.jc,h.EF,h.ys,fun t s a=>by
  have b:=h.FV _ a.lt;rw[c _ a.lt,mZ,mE a]at b;exact b,fun l r s a=>by
  have b:=h.Bc l r s a;rw[d l r s a,zX a]at b;exact b,h.Dr,h.top,h.oO,h.Nv,h.H7,h.Gf⟩
end
def l6 (YS:List Nat) (x:Nat) (P:List Nat) (k:Nat):List Nat:=if k∈P then dW YS x else YS
theorem DC (YS:List Nat) (x k:Nat):l6 YS x [] k=YS:=by simp[l6]
theorem BH {n x:Nat} (h:x<n) (YS:List Nat) {k:Nat} (g:k<(aW n).length):mZ n (l6 YS x ((dM 0 n).path 0 x) k) k=mZ n (dW YS x) k/\xc n (l6 YS x ((dM 0 n).path 0 x) k) k=xc n (dW YS x) k:=by
 have e:0<n:=aa;obtain⟨t,s,d,rfl⟩:=tK g;unfold l6;by_cases c:t.root s∈(dM 0 n).path 0 x
 .rw[aN c];exact⟨rfl,rfl⟩
 .rw[aM c];have f:¬(t.lo<=x/\x<t.hi):=fun⟨a,b⟩=>c (FT.wM _ 0 x (bJ 0 n e).1 _ (FT.at_mem (fH e▸d)) a b);unfold mZ xc;rw[mE d];refine⟨(wK f).symm,?_⟩;cases t with
  |leaf a=>rfl
  |node l r=>
   show lf _ _=lf _ _;rw[wK f]
end
section
open Go.RowKit Go.Sort Go.Shelf Go.Lib Go.Maps
attribute [local irreducible] wpQuiet
attribute [local go_sem] Oper.eF
def Uy (w:World) (lo hi tb fb:Nat) (R:List Pt) (gone:List Bool) (YS:List Nat) (x:Nat) (e:Ending) (w':World):Prop:=
 e=.returned (.bool true)/\∃V',jC w' lo hi tb fb R (gone.set x true) (dW YS x) V'/\ax (fun k=>lo<=k/\k<hi) w w'
theorem nY {α b:Type} (f:α->b):∀(l:List α) (i:Nat),(l.map f).eraseIdx i=(l.eraseIdx i).map f
 |[],i=>aA
 |a::l,0=>aA
 |a::l,i+1=>by simp[nY f l i]
theorem OG {m:Nat} {L:List Nat} {y:Int} (h:y∈lf m L):0<=y/\y<=L.length:=by
 unfold lf at h;obtain⟨j,b,rfl⟩:=dh.1 h;have a:=Io (p:=fun i=>decide (i<m)) (l:=L.take j);rw[eQ]at a;omega
theorem Ti {m:Nat} {L:List Nat} {i:Nat} (hi:i<L.length) {j:Nat} (a:j<L.length):0<=(zF m L i j)[j]'(by rw[qj hi aa];exact a)/\(zF m L i j)[j]'(by rw[qj hi aa];exact a)<=L.length:=by
 rw[Kr hi a];exact OG (List.mem_of_mem_eraseIdx (bB _))
theorem Me {α:Type} (f:Nat->α) (k:Nat) (v a:α):nu (nu f k v) k a=nu f k a:=by
 funext j;simp only[nu];split<;>rfl
theorem OH {YS:List Nat} (a:YS.Nodup) {x:Nat} (b:x∈YS):(dW YS x).length=YS.length-1:=by
 have⟨i,hi,e⟩:=jb b;unfold dW;rw[<-erase_filter a hi e,Af,aN hi]
theorem CS {w:World} {lo hi tb fb:Nat} {R:List Pt} {gone:List Bool} {YS:List Nat} {V:yt} (an:jC w lo hi tb fb R gone YS V) (b7:cu R gone YS) (d9:R.length<=20000) {x:Nat} (ar:x<R.length) (ei:gone[x]? =some false) (p:Pt) (hp:R[x]=p):
  aK 128 #[aj tb,iT p.1 p.2.1 p.2.2] w (Uy w lo hi tb fb R gone YS x):=by
 have a4:=an.blk;have fO:tb<w.heap.size:=bR an.fo.2.1 an.fo.2.2.2.2;obtain⟨cv,cw,cN,-,-,c9⟩:=bQ.aI bg ai an.row;obtain⟨gx,fd,cI⟩:=fF an.Dw;have a3:=an.V8;rw[cN,cI]at a4;have CB:=ag (fun W (a4:Below w.heap.size w W)=>OE cv R R.length cw p W rfl aa (c9.below a4) b7.A9);have cb:=E8 b7.A9 ar;rw[hp]at cb;have eW:=ag c9;have bd:=ag cI;have eK:=ag cN;obtain⟨av,aw,F⟩:=p;obtain⟨n,c8⟩:∃n,n=R.length:=⟨_,rfl⟩;rw[<-c8]at d9 a4 CB ar;have f:=ag c8;have eI:=ag a4;have dP:=ag a3;have dR:=ag hp;have dI:=ag ei;have X:=ag b7;have aV:=an.fo;rw[cb.1,cb.2]at CB;clear an c9 a4 cN cI c8 a3 hp ei b7 cb;go_enter func128,ntmps128
 go_wp2_with fail
 obtain⟨z,bt⟩:∃z,z=w.heap.size:=⟨_,rfl⟩;obtain⟨w1,b0⟩:∃w1,w1=w.alloc (.cells #[af av,af aw,ay F] 29):=⟨_,rfl⟩;have a5:Below w.heap.size w w1:=by rw[b0];exact(aJ _ _).alloc (aB _) _
 have a9:w1.heap[z]? =some (.cells #[af av,af aw,ay F] 29 (0,0)):=by rw[b0,bt];exact cB w _
 have dc:=(a5.block tb fO).trans eI.o;rw[<-b0];clear b0;have bU:w1.cell? (ae tb 3)=some (aj fb):=aG dc;refine(yu tb fb w1 bU).mono ?_;rintro e w' ⟨rfl,fc⟩;subst w'
 go_upto_region 3 with fail
 rw[<-bt];have gV:hi<=z:=by rw[bt];exact aV.2.2.2.2
 have gs:=ag bt;clear bt;have fS:=ah (w:=w1) (ad:=(ae tb 0)) (v:=.slice cv n cw) (aG dc);have dl:=ah (w:=w1) (ad:=(ae z 0)) (v:=.int .i64 av) (aG a9);have dm:=ah (w:=w1) (ad:=(ae z 1)) (v:=.int .i64 aw) (aG a9);have fT:=ah (w:=w1) (ad:=(ae z 2)) (v:=.int .u32 F) (aG a9);have dD:Hid (∀p:aQ w1,aK 191 #[.slice cv n cw,iT av aw F,.func (.func 94) #[] #[]] p.W fun e w'=>e=.returned (.tuple #[af x,.bool true])/\Below p.W.heap.size p.W w'):=fun p=>CB.o p.W (a5.trans (p.h.mono a5.size));refine bG aO aO ?_
 repeat(quiet_step ((go_at_call 191;exact dJ (dD.o _))))
 refine jM ?_;intro w2 bw;have cU:Below w1.heap.size w1 w2:=by obtain⟨p,rfl⟩:=bw;exact p.h
 clear bw dD fS dl dm fT CB bU;have bx:=(cU.block z (aZ.1 a9).1).trans a9;have b3:Below w.heap.size w w2:=a5.trans (cU.mono a5.size);have aE:Hid (gI w2 lo hi tb fb R gone YS.length YS (mZ R.length YS) (xc R.length YS) V):=dP.o.below b3 aV.2.2.2.2;have dB:=ag b3;have dU:=ag bx;have dd:=aE.o.blk;have e1:w2.cell? (ae tb 0)=some (.slice cv n cw):=by simp[World.cell?,dd];rw[eK.o,f.o]
 have bp:=aE.o.Dw;rw[bd.o]at bp;obtain⟨am,gy,cJ,_,_⟩:=aU bp (by have:=f.o;omega);injection cJ with cJ e7 e8;subst cJ;clear e7 e8;have e2:w2.cell? (ae tb 2)=some (au am n fd):=by simp[World.cell?,dd];rw[bd.o,f.o]
 have go:w2.cell? (ae z 0)=some (af av):=aG bx;have x1:w2.cell? (ae z 1)=some (af aw):=aG bx;have x2:w2.cell? (ae z 2)=some (ay F):=aG bx;have ac:x<R.length:=by rw[<-f.o];exact ar
 obtain⟨b,off,e4,fn,ca⟩:=(eW.o.below b3).get aa;have ds:=ca x ac 0 aa;have dt:=ca x ac 1 aa;have du:=ca x ac 2 aa;rw[dR.o]at ds dt du;simp only[bX,fw,fD,dx]at ds dt du;have cO:=bp.cellAt x aa;have gp:=bp.frozenAt x;rw[iy,dI.o]at cO;simp only[fP]at cO;subst e4;clear ca bp b3 a5 cU dc a9 dd bx dP
 go_upto_region 4 with fail
 go_quiet (fail)
 go_upto_region 7 with fail
 obtain⟨w3,bj⟩:∃w3,w3=(w2.drewN nq).setCell (ae am x) (.bool true):=⟨_,rfl⟩;have cD:Hid (gI w3 lo hi tb fb R (gone.set x true) YS.length YS (mZ R.length YS) (xc R.length YS) V):=by
  rw[bj];exact gI.QR (aE.o.below (Below.bq w2.heap.size nq) aE.o.fo.2.2.2.2) bd.o x
 have ef:lo<=am/\am<hi:=⟨(aE.o.Dw.lt am (by rw[bd.o];rfl)).1,aE.o.top V.gv aA am (by rw[bd.o];rfl)⟩;have dK:Hid (ax (fun k=>lo<=k/\k<hi) w w3):=by
  rw[bj];exact(((ax.refl _ w).below dB.o).below (Below.bq w2.heap.size nq)).set (a:=(ae am x)) _ (.inl ef)
 have dV:Hid (w3.heap[z]? =some (.cells #[af av,af aw,ay F] 29 (0,0))):=by
  rw[bj];exact(aC (show am≠z by omega)).trans dU.o
 rw[<-bj];clear bj e1 e2 go x1 x2 ds dt du cO gp dB dU aE ef fn;have cp:x∈YS:=(X.o.live x).2 dI.o;have fm:=X.o.len;have gE:0<YS.length:=List.length_pos_of_mem cp;have de:=cD.o.blk;have e3:w3.cell? (ae tb 7)=some (af YS.length):=aG de;have eE:w3.frozen? (ae tb 7)=false:=aG de;obtain⟨m,eo⟩:∃m,m=YS.length-1:=⟨_,rfl⟩;have gS:(YS.length:Int)-1=(m:Int):=aa;have eU:Hid (m=(dW YS x).length):=by rw[eo];exact(OH X.o.nodup cp).symm
 have gF:YS.length<=20000:=by rw[f.o]at d9;omega
 have e0:=ag cp;clear eo fm de cp
 go_upto_region 8 with fail
 obtain⟨w4,bk⟩:∃w4,w4=w3.setCell (ae tb 7) (.int .i64 m):=⟨_,rfl⟩;have bh:Hid (gI w4 lo hi tb fb R (gone.set x true) m YS (mZ R.length YS) (xc R.length YS) V):=by rw[bk];exact cD.o.BG m
 have dL:Hid (ax (fun k=>lo<=k/\k<hi) w w4):=by rw[bk];exact dK.o.set (a:=(ae tb 7)) _ (.inl ⟨aV.1,aV.2.1⟩)
 have bT:Hid (w4.heap[z]? =some (.cells #[af av,af aw,ay F] 29 (0,0))):=by rw[bk];exact(aC (show tb≠z by omega)).trans dV.o
 rw[<-bk];clear bk e3 eE cD dK dV;have ev:=bh.o.blk;have bU:w4.cell? (ae tb 3)=some (aj fb):=aG ev;have dy:=ag (vF lo fb n x V.fv aa ar w4 (by rw[f.o];exact bh.o.iD));clear ev
 go_wp2_with fail
 refine dy.o.mono ?_;rintro e aD ⟨pv,rfl,ci,bo⟩;have fN:=bh.o.fo.2.2.2.2;have eS:Hid (gI aD lo hi tb fb R (gone.set x true) m YS (mZ R.length YS) (xc R.length YS) V):=bh.o.below bo fN;have eM:Hid (ax (fun k=>lo<=k/\k<hi) w aD):=dL.o.below bo;have eY:=ag ((bo.block z (aZ.1 bT.o).1).trans bT.o);have gU:w4.heap.size<=aD.heap.size:=bo.size;have cF:=ag ci;have gX:z<w4.heap.size:=(aZ.1 bT.o).1;clear bU dy bh dL bT bo;obtain⟨P,b6⟩:∃P,P=(dM 0 n).path 0 x:=⟨_,rfl⟩;rw[<-b6]at ci cF;have gC:P.length<=n+1:=by
  have J:=FT.oF (dM 0 n) 0 x;have aL:=vB 0 n n (uY (Eh));rw[b6];omega
 have aF:=ag b6;obtain⟨g2,g3,rfl⟩:=fF ci;clear ci b6
 go_wp2_with fail
 go_loopg [72] P.length (fun dn gj wr=>∃(j:Nat) (yy:List Nat) (nc:Nat->List Nat) (lc:Nat->List Int) (V:yt),gj=.int .i64 j/\j<=P.length/\P.length-j<=dn/\
  Hid (gI wr lo hi tb fb R (gone.set x true) m yy nc lc V)/\Hid (yy=if 0<j then dW YS x else YS)/\Hid (∀k,k<(aW R.length).length->nc k=mZ n (l6 YS x (P.take j) k) k)/\Hid (∀l r s,FT.At (aW R.length) (.node l r) s->lc ((FT.node l r).root s)=xc n (l6 YS x (P.take j) ((FT.node l r).root s)) ((FT.node l r).root s))/\
  Hid (ax (fun k=>lo<=k/\k<hi) aD wr))
 case atStart=>
  refine⟨0,YS,_,_,V,rfl,aX _,aa,eS,rfl,?_,?_,ax.refl _ _⟩
  .intro k Z;rw[f.o,xS,DC]
  .intro l r s ap;rw[f.o,xS,DC]
 case round=>
  obtain⟨j,yy,nc,lc,V,rfl,gN,gP,ak,cG,cE,bP,bf⟩:=hrel;by_cases a7:j<P.length
  .have T:0<n:=aa;obtain⟨co,fG,fy⟩:=bJ 0 n T;obtain⟨k,Z⟩:∃k,k=P[j]:=⟨_,rfl⟩;have en:k∈(dM 0 n).path 0 x:=by rw[<-aF.o,Z];exact bB _
   obtain⟨⟨t,s⟩,di,bv,cr,cq⟩:=FT.mW (dM 0 n) 0 x co aa aa k en;simp only at bv cr cq;have cT:=jT n T;rw[fH T]at cT;have ap:FT.At (aW n) t s:=by rw[fH T];exact FT.kR _ 0 cT _ di
   have ex:t.wf:=FT.qi _ 0 co _ di;have c4:k<(aW n).length:=bv▸ap.lt;have ch:P.Pairwise (·>·):=by rw[aF.o];exact FT.tC _ 0 x co aa aa
   have c5:k∉P.take j:=fun h=>by
    obtain⟨q,fK,e⟩:=jb h;rw[xN]at e;rw[eQ]at fK;have:=gQ.1 ch q j aa a7 aa;omega
   have db:(k=2*n-2)↔j=0:=by
    obtain⟨Q,aS⟩:=FT.sQ (dM 0 n) 0 x;rw[lD T]at aS;have ff:P[0]'aa=2*n-2:=by
     have:P=(2*n-2)::Q:=by rw[aF.o,aS]
     simp only[this,rq]
    constructor
    .intro h;by_cases e:j=0
     .exact e
     .have:=gQ.1 ch 0 j aa a7 aa;omega
    .intro h;subst h;rw[Z,ff]
   have cg:nc k=nl YS t:=by
    rw[cE.o k (by rw[<-f.o];exact c4),l6,aM c5,mZ,<-bv,mE ap]
   obtain⟨L,ao⟩:∃L,L=nl YS t:=⟨_,rfl⟩;rw[<-ao]at cg;have b4:L.Nodup:=by rw[ao];exact lT _ X.o.nodup
   have dj:x∈L:=by rw[ao];exact bF.2 ⟨e0.o,by simpa using⟨cr,cq⟩⟩
   obtain⟨i,C,aq⟩:=jb dj;have gA:L.length<=20000:=by
    have J:L.length<=YS.length:=by rw[ao];exact gT _ _
    omega
   have ep:nl (dW YS x) t=L.eraseIdx i:=by
    subst ao;exact LM X.o.nodup C aq
   have B:Hid (FT.At (aW n) t s/\t.root s=k/\t.wf/\t.lo<=x/\x<t.hi/\L=nl YS t/\nc k=L/\L.Nodup/\nl (dW YS x) t=L.eraseIdx i/\k∉P.take j/\k=P[j]/\k<(aW n).length/\P.Pairwise (·>·)/\∃h:i<L.length,L[i]=x):=⟨ap,bv,ex,cr,cq,ao,cg,b4,ep,c5,Z,c4,ch,C,aq⟩;have cX:=ak.o.blk;have cR:(aW R.length).length=(aW n).length:=by rw[f.o]
   obtain⟨gl,cl,bY,_,_⟩:=aU ak.o.EF aa;have I:cK wr lo gl (aW R.length).length cl V.LN V.LL:=by have h:=ak.o.EF;rw[bY]at h;exact h
   have E:=ak.o.FV k aa;rw[cg]at E;obtain⟨g,c,bW,_,_⟩:=aU E aa;rw[bW]at E;have fI:(aW n).length<=40000:=by rw[df];omega
   obtain⟨al,b5⟩:∃al,al=(aW n).length:=⟨_,rfl⟩;have gO:k<al:=aa;have gB:al<=40000:=aa;have gf:wr.cell? (ae tb 5)=some (au gl al cl):=by simp[World.cell?,cX];rw[bY,b5,cR]
   have dp:wr.cell? (ae tb 3)=some (aj fb):=aG cX;have bE:wr.cell? ⟨gl,k*2,none⟩=some (.slice (some ⟨g,0,none⟩) L.length c):=(I.get aa).1.trans (congrArg some bW);have ea:wr.heap[z]? =some (.cells #[af av,af aw,ay F] 29 (0,0)):=bz bf.o eY.o (fun h=>aa);have eA:wr.cell? (ae z 2)=some (ay F):=aG ea;have cS:=aT cF.o bf.o (fun g h aL=>by have:=(cF.o.lt g h).1;have:=aV.2.2.2.2;omega);obtain⟨gz,gw,cL,_,_⟩:=aU cS aa;injection cL with cL e9 fa;subst cL;have dq:=cS.cellAt j aa;rw[iy,cz a7,<-Z]at dq;simp only[fP]at dq;have dw:Hid (∀W,Below wr.heap.size wr W->aK 196 #[au g L.length c,ay F] W (fV W (af i))):=fun W cW=>by
    have fL:=az E cW;obtain⟨gt,gu,D,-,-,et⟩:=Rd.aI fL;injection D with D H d1;rw[<-D]at et;have eq:F=jI R x:=by
     unfold jI bV;have ac:x<R.length:=by rw[<-f.o];exact ar
     rw[ja,cz ac];simp[dR.o]
    have S:F∈L.map (jI R):=by rw[eq];exact dh.2 ⟨x,dj,rfl⟩
    refine(QS (some (ae g 0)) (L.map (jI R)) L.length c F W aA et aa S).mono ?_;rintro e w' ⟨⟨a0,fp,fz,a6⟩,rfl⟩;rw[fM,eq]at a6;have cZ:a0<L.length:=aP fz;have fi:∀y∈L,y<R.length:=fun y ba=>X.o.lt (by rw[ao]at ba;exact(bF.1 ba).1);have ey:L[a0]=x:=by
     have J:=fi _ (bB cZ);have ac:x<R.length:=by rw[<-f.o];exact ar
     unfold jI bV at a6;rw[ja,ja,cz J,cz ac]at a6;simp only[gG]at a6;by_cases e:L[a0]=x
     .exact e
     .exfalso;have hid:=dA.1 X.o.ids;rcases Nat.lt_or_gt_of_ne e with h9|h9
      .exact gQ.1 hid _ _ J ac h9 a6
      .exact gQ.1 hid _ _ ac J h9 a6.symm
    have fA:a0=i:=by
     by_cases e:a0=i
     .exact e
     .exfalso;rcases Nat.lt_or_gt_of_ne e with h9|h9
      .exact gQ.1 b4 a0 i cZ C h9 (by rw[ey,aq])
      .exact gQ.1 b4 i a0 C cZ h9 (by rw[ey,aq])
    subst fA;exact⟨fp,aJ _ _⟩
   have dz:Hid (∀W,Below wr.heap.size wr W->aK 95 #[aj fb] W fun e w'=>e=.returned (af ((2*n-2:Nat):Int))/\w'=W):=fun W cW=>by
    have ed:=ak.o.iD.blk;have cY:=(cW.block fb (aZ.1 ed).1).trans ed;rw[<-f.o]at cY;exact jw fb n T aa W (aG cY) (aG cY)
   have K:=ag (And.intro bY bW);have dQ:Hid (al=(aW n).length/\(aW R.length).length=al):=⟨b5,by rw[cR,b5]⟩;clear ap bv di ex cr cq ao cg b4 ep c5 Z ch aq dj cT en cX I E ea cS e9 fa b5 cR c4 fI bY bW co fG fy
   go_upto_region 13 with fail
   have dl:=ah bE;have dm:=ah eA;have dC:Hid (∀p:aQ wr,aK 196 #[au g L.length c,ay F] p.W fun e w'=>e=.returned (af i)/\Below p.W.heap.size p.W w'):=fun p=>dw.o p.W p.h;refine bG aO aO ?_
   repeat(quiet_step ((go_at_call 196;exact dJ (dC.o _))))
   refine jM ?_;intro w6 bw;have cV:Below wr.heap.size wr w6:=by obtain⟨p,rfl⟩:=bw;exact p.h
   have bN:=ag cV;have fQ:tb<wr.heap.size:=gY wr _ dp;have gd:=(cV.cell (p:=(ae tb 3)) fQ).trans dp;clear bw dl dm dC cV dw dp gf bE eA dq;obtain⟨bC,ce⟩:∃bC,bC=decide (j=0):=⟨_,rfl⟩;have fU:((k:Int)==((2*n-2:Nat):Int))=bC:=by
    rw[ce,mO,beq_iff_eq,bO,<-db];omega
   have fW:(k==2*n-2)=bC:=by
    rw[ce,mO,beq_iff_eq,bO,<-db]
   have dN:=ag ce;clear ce db
   go_wp2_with fail
   refine(dz.o w6 bN.o).mono ?_;rintro e w' ⟨rfl,fc⟩;subst w'
   go_upto_if 95 with fail
   have a1:Hid (gI w6 lo hi tb fb R (gone.set x true) m yy nc lc V):=ak.o.below bN.o ak.o.fo.2.2.2.2;have gZ:=bN.o.size;clear dz gd fU fW
   go_cut []from 73 to 175 (fun eD=>∃bb:Value,Hid (gI eD lo hi tb fb R (gone.set x true) m (dW YS x) nc lc {V with yv:=bb})/\Hid (ax (fun k=>lo<=k/\k<hi) w6 eD))
   case first=>
    cases bC with
    |false=>
     have cd:0<j:=by
      have h:=dN.o;by_cases e:j=0
      .simp[e]at h
      .omega
     have D:=cG.o;rw[aN cd]at D;have eH:Hid (gI w6 lo hi tb fb R (gone.set x true) m (dW YS x) nc lc {V with yv:=V.yv}):=by
      have h:=a1.o;rw[D]at h;exact h
     clear D;go_wp2;go_meet;exact⟨V.yv,eH.o,ax.refl _ _⟩
    |true=>
     have cd:j=0:=by
      have h:=dN.o;simpa using h.symm
     have D:=cG.o;rw[aM aa]at D;have cP:L=YS:=by
      obtain⟨f1,f2,f3,f4,f5,f6,f7,f8,f9,f10,f11,f12,f13,f14⟩:=B.o;have fC:k=2*n-2:=by
       obtain⟨Q,aS⟩:=FT.sQ (dM 0 n) 0 x;rw[lD T]at aS;have fl:P=(2*n-2)::Q:=by rw[aF.o,aS]
       rw[f11];simp only[cd,fl,rq]
      obtain⟨ht,-⟩:=FT.At.unique f1 (jT n T) (by rw[f2,fC,lD T]);rw[f6,ht,f.o];exact X.o.top (by rw[<-f.o];exact T)
     have aY:=a1.o.ys;rw[D]at aY;obtain⟨Y,cH,bl,_,_⟩:=aU aY aa;rw[bl]at aY;have dk:(jl R YS).length=YS.length:=by simp[jl]
     have cc:i<YS.length:=by rw[<-cP];exact C
     have ej:YS[i]'cc=x:=by
      obtain⟨f1,f2,f3,f4,f5,f6,f7,f8,f9,f10,f11,f12,f13,f14,f15⟩:=B.o;subst cP;exact f15
     have eb:YS.eraseIdx i=dW YS x:=erase_filter X.o.nodup cc ej;have bM:=Ji (l:=jl R YS) (i:=i) (by rw[dk];exact aY) (by rw[dk];exact cc);rw[dk]at bM;have bM:=ag bM;have cj:=a1.o.blk;have g4:w6.cell? (ae tb 6)=some (au Y YS.length cH):=by simp[World.cell?,cj];rw[bl]
     have fx:tb≠Y:=fun h=>bn aY cj ai Y rfl h;have dF:=ag bl;have dX:=ag eb;have eJ:=ag D;have g0:tb<w6.heap.size:=(aZ.1 cj).1;have fu:lo<=Y/\Y<hi:=⟨(aY.lt Y rfl).1,a1.o.top V.yv aA Y (by rw[bl];rfl)⟩;clear aY cj cP eb D bl ej cd
     go_wp2_with (go_at_call 197;refine bM.o.mono ?_;rintro e eC ⟨rfl,bu,c2⟩;have dg:=bz c2 a1.o.blk fx;have g5:eC.cell? (ae tb 6)=some (au Y YS.length cH):=(by simp[World.cell?,dg];rw[dF.o]);have eE:eC.frozen? (ae tb 6)=false:=(aG dg);have eV:=ag bu;have be:=ag c2;clear bu c2 dg)
     go_meet;have bu:=eV.o;refine⟨au Y (YS.length-1) cH,?_,?_⟩
     .have h:=a1.o;rw[eJ.o]at h;refine gI.Ux h dF.o be.o (yy':=dW YS x) ?_;have H:(jl R YS).eraseIdx i=jl R (dW YS x):=by
       rw[<-dX.o];unfold jl;rw[nY]
      have d1:(dW YS x).length=YS.length-1:=by rw[<-dX.o,Af,aN cc]
      rw[H]at bu;rw[d1];exact bu
     .exact(be.o.mono (fun k h=>by subst h;exact fu)).set (a:=(ae tb 6)) _ (.inl ⟨aV.1,aV.2.1⟩)
   case rest=>
    obtain⟨bb,a2,be⟩:=hcut;have aR:k<(aW R.length).length:=by have:=dQ.o;omega
    have E:=a2.o.FV k aR;obtain⟨f1,f2,f3,f4,f5,f6,f7,f8,f9,f10,f11,f12,f13,f14,f15⟩:=B.o;rw[f7]at E;have E:wc.ownsRow lo 27 1 (V.LN k) L.length ((L.map (jI R)).map (Value.int .u32)):=E;rw[K.o.2]at E;have I:cK wc lo gl (aW R.length).length cl V.LN V.LL:=by have h:=a2.o.EF;have h:World.ownsRow _ _ _ _ V.lv _ _:=h;rw[K.o.1]at h;exact h
    have bE:wc.cell? ⟨gl,k*2,none⟩=some (.slice (some ⟨g,0,none⟩) L.length c):=(I.get aR).1.trans (congrArg some K.o.2);have fr:gl≠g:=fun h=>bA I E ai gl rfl (by rw[h];rfl);have c7:(L.map (jI R)).length=L.length:=aA;have bc:=Jg (l:=L.map (jI R)) (i:=i) (by rw[c7];exact E) (by rw[c7];exact C);rw[c7]at bc;have bc:=ag bc;have fq:lo<=g/\g<hi:=⟨(E.lt g rfl).1,(a2.o.oO k aR).1 g (by show(V.LN k).ownBlock=some g;rw[K.o.2];rfl)⟩;have eh:lo<=gl/\gl<hi:=⟨(I.lt gl rfl).1,a2.o.top V.lv aA gl (by rw[K.o.1];rfl)⟩;have ft:gl<wc.heap.size:=(I.lt gl rfl).2;have eG:=I.frozenAt (k*2);clear f1 f2 f3 f4 f5 f6 f7 f8 f9 f10 f11 f12 f13 f15 E I
    go_upto_region 17 with(go_at_call 198;refine bc.o.mono ?_;rintro e gn ⟨rfl,es,c3⟩;obtain⟨d0,d5⟩:=bZ c3 ft fr;have gg:=(d0 (k*2)).trans bE;have gr:=(d5 (k*2)).trans eG;have dT:=ag es;have cA:=ag c3;clear es c3 d0 d5)
    obtain⟨A,b2⟩:∃A,A=gn.setCell (ae gl (k*2)) (au g (L.length-1) c):=⟨_,rfl⟩;have fh:(L.eraseIdx i).length=L.length-1:=by rw[Af,aN C]
    have U:Hid (gI A lo hi tb fb R (gone.set x true) m (dW YS x) (nu nc k (L.eraseIdx i)) lc {V with yv:=bb,LN:=upd V.LN k (au g (L.length-1) c)}):=by
     rw[b2];refine gI.Td a2.o aR K.o.2 K.o.1 cA.o (L':=L.eraseIdx i) ?_;have h:=dT.o;rw[nY]at h;rw[fh];exact h
    have cC:Hid (ax (fun k=>lo<=k/\k<hi) aD A):=by
     rw[b2];exact((((bf.o.below bN.o).trans be.o).trans (cA.o.mono (fun k h=>by subst h;exact fq))).set (a:=(ae gl (k*2))) _ (.inl eh))
    rw[<-b2];clear b2 gg gr dT cA a2 be bE eG bc;have ew:=U.o.blk;have bs:=U.o.jc;have bs:A.ownsRow lo 163 7 V.nv (aW R.length).length ((aW R.length).flatMap oK):=bs;obtain⟨fe,cn,cM,_,_⟩:=aU bs aa;obtain⟨_,_,d2,-,-,da⟩:=bQ.aI jq ai bs;rw[cM]at d2;injection d2 with d3 e5 e6;rw[<-d3,<-f.o]at da;clear d3 e5 e6;have ge:A.cell? (ae tb 4)=some (au fe al cn):=by
     simp[World.cell?,ew];rw[cM,<-dQ.o.2]
    obtain⟨gK,n0,fX,fY,fZ,f0,ga,gb⟩:=mR da (by have h:=B.o.1.get;rw[B.o.2.1]at h;exact h);rw[jL]at n0;have d7:∀k',k'<(aW R.length).length->nu nc k (L.eraseIdx i) k'=mZ n (l6 YS x (P.take (j+1)) k') k':=fun k' fB=>by
     obtain⟨f1,f2,f3,f4,f5,f6,f7,f8,f9,f10,f11,f12,f13,f14,f15⟩:=B.o;have S:k'∈P.take (j+1)↔k'∈P.take j\/k'=k:=by rw[gW a7,<-f11];simp
     by_cases e:k'=k
     .subst e;rw[jD,l6,aN (S.2 (.inr rfl)),mZ,<-f2,mE f1,f9]
     .rw[w9 e,cE.o k' fB];unfold l6;by_cases H:k'∈P.take j
      .rw[aN H,aN (S.2 (.inl H))]
      .rw[aM H,aM (fun h=>(S.1 h).elim H e)]
    have dG:=ag d7;have d8:∀k',k'≠k->∀v,lc k'=xc n (l6 YS x (P.take j) k') k'->nu lc k v k'=xc n (l6 YS x (P.take (j+1)) k') k':=fun k' e v h=>by
     obtain⟨f1,f2,f3,f4,f5,f6,f7,f8,f9,f10,f11,f12,f13,f14,f15⟩:=B.o;have S:k'∈P.take (j+1)↔k'∈P.take j\/k'=k:=by rw[gW a7,<-f11];simp
     rw[w9 e,h];unfold l6;by_cases H:k'∈P.take j
     .rw[aN H,aN (S.2 (.inl H))]
     .rw[aM H,aM (fun h=>(S.1 h).elim H e)]
    have dH:=ag d8;clear d7 d8 da bs ew cM fX fY fZ f0 ga gb;have ez:dW YS x=if 0<j+1 then dW YS x else YS:=by rw[aN aa]
    have dY:=ag ez;clear ez;cases ht:t with
    |leaf q=>
     rw[ht]at n0;simp only[FT.top]at n0;have aH:=ag ht;clear ht;have em:nu lc k (lc k)=lc:=by
      funext k';unfold nu;split
      .rename_i e;rw[e]
      .rfl
     have eN:=ag em;clear em;go_wp2
     go_roundg (P.length-(j+1))
     case measure=>omega
     case rel=>
      refine⟨j+1,dW YS x,_,lc,_,by go_num,aa,aB _,U,dY.o,dG.o,?_,cC⟩;intro l r bH b9;have fJ:(FT.node l r).root bH≠k:=fun e=>by
       have J:=B.o.1;rw[aH.o,f.o]at J;have:=(FT.At.unique b9 J (by rw[e,<-B.o.2.1,aH.o])).1;cases this
      have h9:=dH.o _ fJ (lc k) (bP.o l r bH b9);rw[eN.o]at h9;exact h9
    |node l r=>
     rw[ht]at n0;simp only[FT.top]at n0;have aH:=ag ht;clear ht;obtain⟨M,a3⟩:∃M,M=l.hi:=⟨_,rfl⟩;have bm:FT.At (aW R.length) (.node l r) s:=by rw[<-f.o,<-aH.o];exact B.o.1
     have a8:(FT.node l r).root s=k:=by rw[<-aH.o];exact B.o.2.1
     have cQ:L=nl YS (.node l r):=by rw[<-aH.o];exact B.o.2.2.2.2.2.1
     have c6:lc k=lf M L:=by
      rw[<-a8,bP.o l r s bm,a8,l6,aM B.o.2.2.2.2.2.2.2.2.2.1];have h9:=zX (n:=n) (by rw[f.o];exact bm) YS;rw[a8]at h9;rw[h9,a3,<-cQ]
     have O:A.ownsRow lo 3 1 (V.LL k) (lc k).length ((lc k).map (Value.int .i64)):=by have h9:=U.o.Bc l r s bm;rw[a8]at h9;exact h9
     rw[c6]at O;have ab:=rY M L;obtain⟨u,G,bi,_,_⟩:=aU O aa;rw[bi]at O;have aq:=B.o.2.2.2.2.2.2.2.2.2.2.2.2.2;have br:cK A lo gl (aW R.length).length cl (upd V.LN k (au g (L.length-1) c)) V.LL:=by have h:=U.o.EF;have h:World.ownsRow _ _ _ _ V.lv _ _:=h;rw[K.o.1]at h;exact h
     have bD:A.cell? ⟨gl,k*2+1,none⟩=some (.slice (some ⟨u,0,none⟩) (L.length+1) G):=by
      exact(br.get aR).2.trans (congrArg some (bi.trans (by rw[ab])))
     have cs:=O.cellAt (i+1) aa;have ct:=O.cellAt i aa;rw[iy,cz (show i+1<(lf M L).length by omega)]at cs;rw[iy,cz (show i<(lf M L).length by omega)]at ct;simp only[fP]at cs ct;obtain⟨bI,ck⟩:∃bI,bI=(lf M L)[i+1]'aa:=⟨_,rfl⟩;obtain⟨bK,cm⟩:∃bK,bK=(lf M L)[i]'aa:=⟨_,rfl⟩;rw[<-ck]at cs;rw[<-cm]at ct;have fR:bI-bK=if x<M then 1 else 0:=by rw[ck,cm];exact QC C aq.2 _ _
     have g1:0<=bI/\bI<=20000/\0<=bK/\bK<=20000:=by
      have J:=OG (m:=M) (L:=L) (ck▸bB _);have aL:=OG (m:=M) (L:=L) (cm▸bB _);omega
     obtain⟨W,b8⟩:∃W,W=(if x<M then(1:Int)else 0):=⟨_,rfl⟩;rw[<-b8]at fR;have gD:0<=W/\W<=1:=by rw[b8];split<;>omega
     have eX:=ag b8;have eP:=ag c6;have bL:=EY (l:=lf M L) (i:=i+1) (by rw[ab];rw[ab]at O;exact O) aa;rw[ab]at bL;have bL:=ag bL;have fs:gl≠u:=fun h=>bA br O ai gl rfl (by rw[h];rfl);have ee:lo<=u/\u<hi:=⟨(O.lt u rfl).1,(U.o.oO k aR).2 u (by show(V.LL k).ownBlock=some u;rw[bi];rfl)⟩;have eg:gl<A.heap.size:=(br.lt gl rfl).2;have eF:=br.frozenAt (k*2+1);have dE:=ag bi;have N:=ag (And.intro bm a8);have eT:=ag (And.intro a3 cQ);have gL:i+1<L.length+1:=aa;clear O br ck cm b8 c6 bi bm a8 a3 cQ ab aq
     go_upto_region 18 with fail
     go_quiet (fail)
     have gh:(A.drewN nq).cell? (ae gl (k*2+1))=some (au u (L.length+1) G):=bD;have dv:Hid (∀q,aK 199 #[au u (L.length+1) G,af (i+1:Nat),af (i+1+1:Nat)] (A.drewN q) fun e w'=>e=.returned (au u L.length G)/\w'.ownsRow lo 3 1 (au u L.length G) L.length (((lf M L).eraseIdx (i+1)).map (Value.int .i64))/\ax (fun k=>k=u) A w'):=fun q=>by
      have ab:=rY M L;have h9:=U.o.Bc l r s N.o.1;rw[N.o.2]at h9;have h9:A.ownsRow lo 3 1 (V.LL k) (lc k).length ((lc k).map (Value.int .i64)):=h9;rw[eP.o,dE.o,ab]at h9;have d6:=EY (w:=A.drewN q) (l:=lf M L) (i:=i+1) (by rw[ab];exact h9) aa;rw[ab]at d6;refine d6.mono ?_;rintro e w' ⟨J,aL,fg⟩;exact⟨J,aL,((ax.refl (fun k=>k=u) A).below (Below.bq A.heap.size q)).trans fg⟩
     clear bL
     go_upto_region 20 with(go_at_call 199;refine(dv.o _).mono ?_;rintro e gm ⟨rfl,er,c1⟩;obtain⟨dZ,d4⟩:=bZ c1 eg fs;have gc:=(dZ (k*2+1)).trans bD;have gq:=(d4 (k*2+1)).trans eF;have dS:=ag er;have cy:=ag c1;clear er c1 dZ d4)
     have fj:∃h:i<L.length,L[i]=x:=B.o.2.2.2.2.2.2.2.2.2.2.2.2.2;obtain⟨cx,b1⟩:∃cx,cx=gm.setCell (ae gl (k*2+1)) (au u L.length G):=⟨_,rfl⟩;have fE:=tq (m:=M) C;have eR:Hid (gI cx lo hi tb fb R (gone.set x true) m (dW YS x) (nu nc k (L.eraseIdx i)) (nu lc k (zF M L i (i+1))) {V with yv:=bb,LN:=upd V.LN k (au g (L.length-1) c),LL:=upd V.LL k (au u L.length G)}):=by
      rw[b1];refine gI.Te U.o N.o.1 N.o.2 dE.o K.o.1 cy.o (L':=zF M L i (i+1)) ?_;rw[LP C,fE];exact dS.o
     have eL:Hid (ax (fun k=>lo<=k/\k<hi) aD cx):=by
      rw[b1];exact(cC.o.trans (cy.o.mono (fun k h=>by subst h;exact ee))).set (a:=(ae gl (k*2+1))) _ (.inl eh)
     rw[<-b1];clear b1 gc gq dS cy U cC bD gh cs ct eF dv ge n0 eg
     go_wp2_with fail
     go_loopg [14] L.length (fun dn gi wr=>∃d:Nat,gi=.int .i64 d/\i+1<=d/\d<=L.length/\L.length-d<=dn/\Hid (gI wr lo hi tb fb R (gone.set x true) m (dW YS x) (nu nc k (L.eraseIdx i)) (nu lc k (zF M L i d)) {V with yv:=bb,LN:=upd V.LN k (au g (L.length-1) c),LL:=upd V.LL k (au u L.length G)})/\Hid (ax (fun k=>lo<=k/\k<hi) aD wr))
     case atStart=>exact⟨i+1,rfl,aB _,aa,aa,eR,eL⟩
     case round=>
      obtain⟨d,rfl,gM,ek,gR,bS,dO⟩:=hrel;have I:cK wr lo gl (aW R.length).length cl (upd V.LN k (au g (L.length-1) c)) (upd V.LL k (au u L.length G)):=by have h:=bS.o.EF;have h:World.ownsRow _ _ _ _ V.lv _ _:=h;rw[K.o.1]at h;exact h
      have bD:=(I.get aR).2;rw[upd_same]at bD;have cf:wr.ownsRow lo 3 1 (au u L.length G) L.length ((zF M L i d).map (Value.int .i64)):=by
       have h:=bS.o.Bc l r s N.o.1;rw[N.o.2,jD]at h;have h:wr.ownsRow lo 3 1 (upd V.LL k (au u L.length G) k) (zF M L i d).length ((zF M L i d).map (Value.int .i64)):=h;rw[upd_same,qj C ek]at h;exact h
      clear I;by_cases c0:d<L.length
      .have dr:=cf.cellAt d aa;have g6:=cf.frozenAt d;have el:d<(zF M L i d).length:=by rw[qj C aa];exact c0
       rw[iy,cz el]at dr;simp only[fP]at dr;have ec:=Ti (m:=M) C c0;obtain⟨y,ba⟩:∃y,y=(zF M L i d)[d]'el:=⟨_,rfl⟩;rw[<-ba]at dr ec;have eu:(zF M L i d).set d (y-W)=zF M L i (d+1):=by
        rw[ba,eX.o];exact Oe C fj.2 aa c0
       have gJ:0<=y/\y<=20000:=aa;have eZ:Hid (gI (wr.setCell (ae u d) (.int .i64 (y-W))) lo hi tb fb R (gone.set x true) m (dW YS x) (nu nc k (L.eraseIdx i)) (nu lc k (zF M L i (d+1))) {V with yv:=bb,LN:=upd V.LN k (au g (L.length-1) c),LL:=upd V.LL k (au u L.length G)}):=by
        have h:=gI.Tf bS.o N.o.1 N.o.2 (c:=G) (g:=u) (by rw[jD,qj C ek];exact upd_same _ _ _) (j:=d) (y-W);rw[jD,Me,eu]at h;exact h
       have eO:Hid (ax (fun k=>lo<=k/\k<hi) aD (wr.setCell (ae u d) (.int .i64 (y-W)))):=dO.o.set (a:=(ae u d)) _ (.inl ee);clear ba eu cf ec;go_wp2
       go_roundg (L.length-(d+1))
       case measure=>omega
       case rel=>exact⟨d+1,by go_num,aa,aa,aB _,eZ,eO⟩
      .obtain rfl:d=L.length:=aa;clear cf;go_wp2
       go_roundg (P.length-(j+1))
       case measure=>omega
       case rel=>
        refine⟨j+1,dW YS x,_,_,_,by go_num,aa,aB _,bS,dY.o,dG.o,?_,dO⟩;intro l' eB bH b9;by_cases e:(FT.node l' eB).root bH=k
        .obtain⟨f1,f2,f3,f4,f5,f6,f7,f8,f9,f10,f11,f12,f13,f14⟩:=B.o;have S:k∈P.take (j+1):=by rw[gW a7,<-f11];simp
         have h9:=zX (n:=n) (by rw[f.o];exact N.o.1) (dW YS x);rw[N.o.2]at h9;rw[e,jD,Od C,l6,aN S,h9,eT.o.1];rw[aH.o]at f9;rw[f9]
        .exact dH.o _ e _ (bP.o l' eB bH b9)
  .obtain rfl:j=P.length:=aa;have gH:=bf.o.size;go_wp2;go_ret;have D:=cG.o;have fk:0<P.length:=by
    rw[aF.o];obtain⟨Q,aS⟩:=FT.sQ (dM 0 n) 0 x;rw[aS];simp
   rw[aN fk]at D;subst D;have aL:=ak.o;rw[eU.o]at aL;refine⟨rfl,V,aL.toAt (fun k Z=>?_) (fun l r s ap=>?_),eM.o.trans bf.o⟩
   .rw[cE.o k Z,jk,<-f.o,aF.o];exact(BH ar YS (by rw[f.o];exact Z)).1
   .rw[bP.o l r s ap,jk,<-f.o,aF.o];exact(BH ar YS (by rw[f.o];exact ap.lt)).2
end
section
open Go.RowKit Go.Sort Go.Shelf Go.Lib Go.Maps
def iG (w:World) (lo hi tb n0:Nat) (l:List Pt):Prop:=
 ∃fb R gone YS V,jC w lo hi tb fb R gone YS V/\cu R gone YS/\sD R YS l/\R.length=n0/\n0<=20000
section
variable {w w':World} {lo hi tb n0:Nat} {l:List Pt}
theorem iG.kept {S:Nat->Prop} (h:iG w lo hi tb n0 l) (K:ax S w w') (hS:∀k,lo<=k->k<hi->¬S k):iG w' lo hi tb n0 l:=by
 have⟨fb,R,gone,YS,V,a,b⟩:=h;exact⟨fb,R,gone,YS,V,a.kept K hS,b⟩
theorem iG.below {B:Nat} (h:iG w lo hi tb n0 l) (d:Below B w w') (c:hi<=B):iG w' lo hi tb n0 l:=by
 have⟨fb,R,gone,YS,V,a,b⟩:=h;exact⟨fb,R,gone,YS,V,a.below d c,b⟩
theorem OI (a:Option Addr) (c:Nat) (l:List Pt) (w:World) (j:bQ bX 3 w a l) (m:l.length<=20000) (o:H9 l) (hu:lH l=true):
  aK 35 #[.slice a l.length c] w fun e w'=>∃tb,e=.returned (.tuple #[aj tb,af 0])/\iG w' w.heap.size w'.heap.size tb l.length l/\Below w.heap.size w w':=
 (Jk a c l w j m o hu).mono fun e w' ⟨tb,fb,V,h,f,g⟩=>by
  have b:(ids l).Nodup:=by unfold lH at hu;simpa using hu
  have n:=fT b;have hid:(ids (eP l)).Nodup:=((dN l).map _).nodup_iff.2 b;have d:=qo n hid;have k:(eP l).length=l.length:=(dN l).length_eq;refine⟨tb,h,⟨fb,_,_,_,V,f,d,zl b _ (fun i=>?_),k,aa⟩,g⟩;rw[d.live,rf];split<;>simp_all
theorem KC (h:iG w lo hi tb n0 l) (x1 x2 y1 y2 b:Int):
  aK 39 #[aj tb,.agg #[af x1,af x2,af y1,af y2,ay b]] w fun e w'=>∃v,∃c:Nat,e=.returned (.tuple #[v,af ((c+(hasB l x1 x2 y1 y2).length:Nat):Int)])/\c<=8*Lib.bitLen n0+1/\w'.ownsRow w.heap.size 27 1 v (hasB l x1 x2 y1 y2).length ((hasB l x1 x2 y1 y2).map (Value.int .u32))/\Below w.heap.size w w':=by
 have⟨fb,R,gone,YS,V,k,a,m,n,p⟩:=h;refine(Gg k a aa x1 x2 y1 y2 b).mono ?_;rintro e w' ⟨v,f,g,o⟩;have⟨i,j⟩:=I9 a m x1 x2 y1 y2;have d:(lM R YS x1 x2 y1 y2).1.length=(hasB l x1 x2 y1 y2).length:=by
  rw[j];unfold hasB;rw[iP];simp[ids]
 rw[i,d]at g;rw[d]at f;exact⟨v,_,f,n▸LQ a aa x1 x2 y1 y2,g,o⟩
end
end
section
open Go.RowKit Go.ChangeShapes Go.WideShapes Go.Deep
section
variable {H:Type} {enc:TypeId×Value->H} {P:Program} {w:World} {base:Nat} {spare:Nat->Bool} {held:Bool}
theorem nK {t e:TypeId} {b:Array Field} {fuel:Nat} {cs:List Value} {x:DataW H×List MemPlace} (ht:P.underlying t=some (.slice e)) (G:P.underlying e=some (.struct b))
  (R:oneCellFields P b=true) (r:P.cellsOf e=b.size) (h:DataW.trod enc P w base spare held fuel t cs=some x):
  (cs=[aL]/\x=(.nil,[]))\/
  ∃(a:Addr) (c g m:Nat) (D:Nat->DataW H) (k:Nat->List MemPlace),cs=[.slice (some a) c g]/\base<=a.block/\c<=g/\g<=maxLen/\m=(if spare a.block then g else c)/\
   x=(.slice ((List.range c).map D) ((List.range (m-c)).map fun j=>D (c+j)),MemPlace.row a (m*b.size)++(List.range m).flatMap k)/\
   ∀i,i<m->∃(d:List (DataW H×List MemPlace)) (n:Nat),D i=.agg (d.map (·.1))/\k i=d.flatMap (·.2)/\d.length=b.size/\
    ∀(j:Nat) (f:Field),b[j]? =some f->∃(v:Value) (y:DataW H×List MemPlace),w.cell? (a.add (i*b.size+j))=some v/\d[j]? =some y/\DataW.trod enc P w base spare held n f.type [v]=some y:=by
 rcases open_slice ht h with A|⟨a,c,g,m,n,D,k,F,C,M,N,O,u,hi⟩
 .exact .inl A
 .refine .inr ⟨a,c,g,m,D,k,F,C,M,N,O,by rw[r]at u;exact u,fun i J=>?_⟩;obtain⟨l,s,T⟩:=hi i J;rw[r]at s;obtain⟨d,n',Y,q,X,V,I⟩:=DataW.trod_struct G T;obtain⟨_,W,B⟩:=World.cells?_some s;simp only[rM]at q;refine⟨d,n',q.1,q.2,V,fun j f p=>?_⟩;obtain⟨Q,L⟩:=hone_of R j f p;have K:j<b.size:=(aZ.1 p).1;have E:=B j K;have U:l[j]? =some (l[j]'aa):=cz aa;have o:=I j f p;rw[Q,L]at o;have S:(l.drop j).take 1=[l[j]'aa]:=by
   rw[jJ aa];rfl
  rw[S]at o;have z:d[j]? =some (d[j]'aa):=cz aa;refine⟨_,_,?_,z,o.trans z⟩;rw[<-Go.Deep.add_add,E,U]
end
theorem KD {α:Type} [Inhabited α] (n:Nat) (p:Nat->α->Prop) (h:∀i,i<n->∃x,p i x):∃l:List α,l.length=n/\∀i (h:i<l.length),p i l[i]:=by
 have a:∀i,∃x,i<n->p i x:=fun i=>by
  by_cases hi:i<n
  .obtain⟨x,c⟩:=h i hi;exact⟨x,fun _=>c⟩
  .exact⟨default,fun h=>absurd h hi⟩
 refine⟨(List.range n).map fun i=>Classical.choose (a i),aA,fun i hi=>?_⟩;have b:i<n:=aP hi;simpa using Classical.choose_spec (a i) b
theorem zt {H:Type} {enc:TypeId×Value->H} {w:World} {base:Nat} {spare:Nat->Bool} {held:Bool} {fuel:Nat} {a:Option Addr} {d f:Nat} {x:DataW H×List MemPlace} (h:DataW.trod enc prog w base spare held fuel 22 [.slice a d f]=some x):
  ∃l:List Pt,l.length=d/\bQ bX 3 w a l/\d<=f/\f<=maxLen/\∀x∈l,(Lit.int .i64 x.1).wf=true/\(Lit.int .i64 x.2.1).wf=true/\(Lit.int .u32 x.2.2).wf=true:=by
 rcases nK underlying22 underlying29 aO aO h with⟨c,_⟩|⟨ad,U,R,m,D,Q,c,_,E,G,I,_,hi⟩
 .simp at c;obtain⟨rfl,rfl,rfl⟩:=c;exact⟨[],rfl,.nil,aB _,aX _,aA⟩
 .simp at c;obtain⟨rfl,rfl,rfl⟩:=c;have T:d<=m:=by rw[I];split<;>omega
  obtain⟨l,F,hp⟩:=KD d (fun i (p:Pt)=>w.cell? (ad.add (i*3+0))=some (af p.1)/\w.cell? (ad.add (i*3+1))=some (af p.2.1)/\w.cell? (ad.add (i*3+2))=some (ay p.2.2)/\(Lit.int .i64 p.1).wf=true/\(Lit.int .i64 p.2.1).wf=true/\(Lit.int .u32 p.2.2).wf=true) (fun i S=>by
   obtain⟨Y,n,_,_,_,g⟩:=hi i aa;obtain⟨V,X,u,_,t0⟩:=g 0 _ rfl;obtain⟨M,k,_,z⟩:=rG underlying2 t0;simp at k;subst k;obtain⟨v1,y1,v,_,t1⟩:=g 1 _ rfl;obtain⟨N,o,_,A⟩:=rG underlying2 t1;simp at o;subst o;obtain⟨W,y2,y,_,t2⟩:=g 2 _ rfl;obtain⟨O,q,_,B⟩:=rG underlying27 t2;simp at q;subst q;exact⟨⟨M,N,O⟩,u,v,y,z,A,B⟩)
  refine⟨l,F,?_,E,G,fun x L=>?_⟩
  .by_cases r:l=[]
   .exact .inl r
   .obtain⟨b,off,P⟩:=ad;have J:0<l.length:=xI.2 r;have s:=(hp 0 J).1;have K:P=none:=by simpa[Addr.add]using World.cell?_spot s
    subst K;have t:∀i,((ae b off):Addr).add i=(ae b (off+i)):=fun i=>by unfold Addr.add;split<;>simp_all
    refine .inr ⟨b,off,rfl,?_,fun i hi j C=>?_⟩
    .have:=gY w _ s;rw[t]at this;exact this
    .have e:=hp i hi;simp only[t]at e;rw[rJ]
     match j,C with
     |0,_=>exact e.1
     |1,_=>exact e.2.1
     |2,_=>exact e.2.2.1
  .obtain⟨i,hi,rfl⟩:=jb L;exact(hp i hi).2.2.2
abbrev Bx:=Int×Int×Int×Int×Int
def Uz (p:Bx):List Value:=[.int .i64 p.1,.int .i64 p.2.1,.int .i64 p.2.2.1,.int .i64 p.2.2.2.1,.int .u32 p.2.2.2.2]
abbrev Bx.wf (p:Bx):Prop:=(Lit.int .i64 p.1).wf=true/\(Lit.int .i64 p.2.1).wf=true/\(Lit.int .i64 p.2.2.1).wf=true/\(Lit.int .i64 p.2.2.2.1).wf=true/\(Lit.int .u32 p.2.2.2.2).wf=true
theorem Jm {H:Type} {enc:TypeId×Value->H} {w:World} {base:Nat} {spare:Nat->Bool} {held:Bool} {fuel:Nat} {a:Option Addr} {f g:Nat} {x:DataW H×List MemPlace} (h:DataW.trod enc prog w base spare held fuel 23 [.slice a f g]=some x):
  ∃l:List Bx,l.length=f/\bQ Uz 5 w a l/\f<=g/\g<=maxLen/\∀x∈l,x.wf:=by
 rcases nK underlying23 underlying38 aO aO h with⟨d,_⟩|⟨ad,ag,Z,m,D,Y,d,_,L,N,O,_,hi⟩
 .simp at d;obtain⟨rfl,rfl,rfl⟩:=d;exact⟨[],rfl,.nil,aB _,aX _,aA⟩
 .simp at d;obtain⟨rfl,rfl,rfl⟩:=d;have ac:f<=m:=by rw[O];split<;>omega
  obtain⟨l,M,hp⟩:=KD f (fun i (p:Bx)=>w.cell? (ad.add (i*5+0))=some (af p.1)/\w.cell? (ad.add (i*5+1))=some (af p.2.1)/\w.cell? (ad.add (i*5+2))=some (af p.2.2.1)/\w.cell? (ad.add (i*5+3))=some (af p.2.2.2.1)/\w.cell? (ad.add (i*5+4))=some (ay p.2.2.2.2)/\p.wf) (fun i ab=>by
   obtain⟨ao,n,_,_,_,e⟩:=hi i aa;obtain⟨ah,al,y,_,t0⟩:=e 0 _ rfl;obtain⟨S,k,_,E⟩:=rG underlying2 t0;simp at k;subst k;obtain⟨v1,y1,z,_,t1⟩:=e 1 _ rfl;obtain⟨T,o,_,F⟩:=rG underlying2 t1;simp at o;subst o;obtain⟨ai,y2,A,_,t2⟩:=e 2 _ rfl;obtain⟨U,q,_,G⟩:=rG underlying2 t2;simp at q;subst q;obtain⟨aj,am,B,_,t3⟩:=e 3 _ rfl;obtain⟨V,r,_,I⟩:=rG underlying2 t3;simp at r;subst r;obtain⟨ak,an,C,_,t4⟩:=e 4 _ rfl;obtain⟨W,s,_,J⟩:=rG underlying27 t4;simp at s;subst s;exact⟨⟨S,T,U,V,W⟩,y,z,A,B,C,E,F,G,I,J⟩)
  refine⟨l,M,?_,L,N,fun x R=>?_⟩
  .by_cases t:l=[]
   .exact .inl t
   .obtain⟨b,off,X⟩:=ad;have P:0<l.length:=xI.2 t;have u:=(hp 0 P).1;have Q:X=none:=by simpa[Addr.add]using World.cell?_spot u
    subst Q;have v:∀i,((ae b off):Addr).add i=(ae b (off+i)):=fun i=>by unfold Addr.add;split<;>simp_all
    refine .inr ⟨b,off,rfl,?_,fun i hi j K=>?_⟩
    .have:=gY w _ u;rw[v]at this;exact this
    .have c:=hp i hi;simp only[v]at c;rw[rJ]
     match j,K with
     |0,_=>exact c.1
     |1,_=>exact c.2.1
     |2,_=>exact c.2.2.1
     |3,_=>exact c.2.2.2.1
     |4,_=>exact c.2.2.2.2.1
  .obtain⟨i,hi,rfl⟩:=jb R;exact(hp i hi).2.2.2.2.2
end
section
open Go.RowKit
theorem Vz:eD prog 23 38 5 40:=.mk' (z:=.agg #[af 0,af 0,af 0,af 0,ay 0]) underlying23 aO rfl ai
def OJ (p:Bx):Obj:=.cells #[af p.1,af p.2.1,af p.2.2.1,af p.2.2.2.1,ay p.2.2.2.2] 38 (0,0)
theorem ig {W:World} {b:Nat} {p:Bx} (h:W.heap[b]? =some (OJ p)):W.cell? (ae b 0)=some (af p.1)/\W.cell? (ae b 1)=some (af p.2.1)/\W.cell? (ae b 2)=some (af p.2.2.1)/\W.cell? (ae b 3)=some (af p.2.2.2.1)/\W.cell? (ae b 4)=some (ay p.2.2.2.2):=by simp[World.cell?,h,OJ]
def yH (p:Pt):Obj:=.cells #[af p.1,af p.2.1,ay p.2.2] 29 (0,0)
theorem gD {W:World} {b:Nat} {p:Pt} (h:W.heap[b]? =some (yH p)):W.cell? (ae b 0)=some (af p.1)/\W.cell? (ae b 1)=some (af p.2.1)/\W.cell? (ae b 2)=some (ay p.2.2):=by simp[World.cell?,h,yH]
end
section
open Go.RowKit
attribute [local irreducible] wpQuiet
theorem OL:eD prog 22 29 3 24:=.mk' (z:=.agg #[af 0,af 0,ay 0]) underlying22 aO rfl ai
end
section
open Go Go.RowKit
abbrev Fa:Int:=-9223372036854775808
abbrev KE:Int:=9223372036854775807
def T9 (l:List Pt):Prop:=∀p∈l,(Lit.int .i64 p.1).wf=true/\(Lit.int .i64 p.2.1).wf=true/\(Lit.int .u32 p.2.2).wf=true
theorem UA {x:Int} (h:(Lit.int .i64 x).wf=true):Fa<=x/\x<=KE:=by
 simp[Lit.wf,IntKind.min,IntKind.max,IntKind.signed,IntKind.bits]at h;exact h
def BI (l:List Pt) (f:Pt->Bool):List Int:=dE (ids (l.filter f))
theorem Jn {l:List Pt} {f g:Pt->Bool} (h:∀p∈l,f p=g p):BI l f=BI l g:=by
 unfold BI;rw[oD h]
theorem OM:dE []=[]:=gX (iP [])
def VA (n x:Int) (up:Bool):Bool:=if up then decide (x<=n)else decide (n<=x)
def BJ (x y:Int) (wx wy:Bool) (p:Pt):Bool:=VA p.1 x wx&&VA p.2.1 y wy
def bx1 (x:Int) (up:Bool):Int:=if up then x else Fa
def DD (x:Int) (up:Bool):Int:=if up then KE else x
theorem Tj {p:Pt} (e:(Lit.int .i64 p.1).wf=true) (f:(Lit.int .i64 p.2.1).wf=true) (x y:Int) (c d:Bool):H8 (bx1 x c) (DD x c) (bx1 y d) (DD y d) p=BJ x y c d p:=by
 have a:=UA e;have b:=UA f;unfold Fa KE at a b;cases c<;>cases d<;>simp only[H8,BJ,VA,bx1,DD,Fa,KE,gK,jN,qM,<-Bool.decide_and]<;>refine uP.2 ?_<;>omega
theorem OO {l:List Pt} (c:T9 l) (x y:Int) (a b:Bool):hasB l (bx1 x a) (DD x a) (bx1 y b) (DD y b)=BI l (BJ x y a b):=
 Jn fun p hp=>Tj (c p hp).1 (c p hp).2.1 x y a b
end
section
open Go.RowKit Go.Maps
attribute [local irreducible] wpQuiet
theorem UB (x:Int) (a:Bool) (w:World):
  aK 173 #[af x,.bool a] w fun e w'=>e=.returned (.tuple #[af (bx1 x a),af (DD x a)])/\w'=w:=by
 cases a
 all_goals
  go_enter func173,ntmps173;go_wp2;go_ret2;exact⟨rfl,rfl⟩
theorem QT (x y:Int) (a b:Bool) (d:Int) (c:d=(if a then 1 else 0)+(if b then 2 else 0)) (w:World):
  aK 107 #[af x,af y,.int .u8 d] w fun e w'=>e=.returned (.agg #[af (bx1 x a),af (DD x a),af (bx1 y b),af (DD y b),ay 0])/\w'=(w.alloc (.cells #[af (bx1 x a),af (DD x a),af (bx1 y b),af (DD y b),ay 0] 38)).alloc (.cells #[af (bx1 x a),af (DD x a),af (bx1 y b),af (DD y b),ay 0] 38):=by
 have C:=ag (fun x f w=>UB x f w);cases a<;>cases b<;>simp only[gK,jN,qM,Int.add_zero,Int.zero_add,Int.reduceAdd]at c<;>subst c
 all_goals
  go_enter func107,ntmps107
  go_wp2_with (go_at_call 173;refine(C.o _ _ _).mono ?_;rintro e w1 ⟨rfl,rfl⟩)
  (try simp only[Exit.inBlock,Exit.then])
  refine kY (results_cell_row rfl _ _ w.heap.size _ _ _ _ rfl (IG _ _ _) underlying38 rfl aO) rfl ?_
  first
   |exact⟨rfl,rfl⟩
   |(simp only[show(bits .and .u8 0 1==1)=false by decide,show(bits .and .u8 0 2==2)=false by decide,show(bits .and .u8 1 1==1)=true by decide,show(bits .and .u8 1 2==2)=false by decide,show(bits .and .u8 2 1==1)=false by decide,show(bits .and .u8 2 2==2)=true by decide,show(bits .and .u8 3 1==1)=true by decide,show(bits .and .u8 3 2==2)=true by decide];exact⟨rfl,rfl⟩)
theorem Tk (x y:Int) (a b:Bool) (c:Int) (g:c=(if a then 1 else 0)+(if b then 2 else 0)) (w:World):
  aK 107 #[af x,af y,.int .u8 c] w (fV w (.agg #[af (bx1 x a),af (DD x a),af (bx1 y b),af (DD y b),ay 0])):=
 (QT x y a b c g w).mono fun e w' ⟨d,f⟩=>⟨d,by rw[f];exact((aJ _ _).alloc (aB _) _).alloc aA _⟩
theorem Gv (w:World):
  aK 106 #[.pointer none] w fun e w'=>e=.returned (.bool true)/\w'=w:=by
 go_enter func106,ntmps106;go_wp2;go_ret;exact⟨rfl,rfl⟩
theorem Fb (cb:Nat) (tb:Nat) (w:World) (h:w.cell? (ae cb 0)=some (aj tb)):
  aK 106 #[aj cb] w fun e w'=>e=.returned (.bool false)/\w'=w:=by
 go_enter func106,ntmps106;go_wp2;go_ret;exact⟨rfl,rfl⟩
end
section
open Go.RowKit Go.Maps
attribute [local irreducible] wpQuiet
attribute [local go_sem] Oper.eF
theorem OP:gF 107:=di func107 aO rfl
theorem Gw:gF 39:=di func39 aO rfl
theorem Mf:gF 106:=di func106 aO rfl
section
variable {w:World} {cb tb:Nat}
theorem Mg {R:World->Value->Value->World->Prop} (F:cb<w.heap.size) (n:w.cell? (ae cb 0)=some (aj tb)) (x y:Int) (a b:Bool) (f:Int) (h:f=(if a then 1 else 0)+(if b then 2 else 0))
  (C:∀W,Below w.heap.size w W->aK 39 #[aj tb,.agg #[af (bx1 x a),af (DD x a),af (bx1 y b),af (DD y b),ay 0]] W fun e W'=>∃v c,e=.returned (.tuple #[v,c])/\Below W.heap.size W W'/\R W v c W'):
  aK 40 #[aj cb,af x,af y,.int .u8 f] w fun e w'=>∃v c,e=.returned (.tuple #[v,c])/\∃W,Below w.heap.size w W/\R W v c w':=by
 have q:=ag (Fb cb tb w n);have r:=ag (fun W=>Tk x y a b f h W);have j:=ag C;have d3:decide (3<f)=false:=by simp only[iI];cases a<;>cases b<;>simp at h<;>omega
 have H:decide (f>3)=false:=d3;have G:=ag F;clear C h;generalize bx1 x a=z at*;generalize DD x a=A at*;generalize bx1 y b=B at*;generalize DD y b=D at*;go_enter func40,ntmps40
 go_wp2_with fail
 refine q.o.mono ?_;rintro e w1 ⟨rfl,rfl⟩
 go_wp2_with fail
 have E:∀p:aQ w1,p.W.cell? (ae cb 0)=some (aj tb):=ah n;refine ak (fun W=>∃p:aQ w1,W=p.W) [8,9,10,11,12] [(0,false),(1,false),(2,false),(3,true),(4,false),(5,false),(6,false)] ⟨⟨_,(aJ _ _).drew⟩,rfl⟩ 6 ?_;refine aF 7 rfl fun K g=>?_;refine bf OP rfl _ _ rfl (vals:=#[af x,af y,.int .u8 f]) rfl (r.o _) ?_;rintro e w2 ⟨rfl,l⟩;have d:Below w1.heap.size w1 w2:=(aJ _ _).drew.trans l;refine⟨_,rfl,?_⟩;refine g _ _ (fun _ _=>⟨⟨_,d⟩,rfl⟩) ?_;clear g K;have s:=ag (j.o w2 d);clear j l E;refine aF 8 rfl fun K g=>?_;refine bf Gw rfl _ _ rfl (vals:=#[aj tb,.agg #[af z,af A,af B,af D,ay 0]]) rfl s.o ?_;rintro e w3 ⟨v,c,rfl,m,k⟩;have i:=d.trans (m.mono d.size);have u:=ag k;have t:=ag d;clear k d m;refine⟨_,rfl,?_⟩;refine g _ _ (fun _ _=>⟨⟨_,i⟩,rfl⟩) ?_;clear g K;refine bu [(9,false),(10,false)] ⟨⟨_,i⟩,rfl⟩ rfl ?_;refine aH [11,12] ?_
 go_wp2_with fail
 go_ret2;exact⟨v,c,rfl,w2,t.o,u.o⟩
theorem Fe {w:World} (p:Option Addr) (hp:p=none\/∃cb tb,p=some (ae cb 0)/\w.cell? (ae cb 0)=some (aj tb)) (x y b:Int) (d:p=none\/3<b):
  aK 40 #[.pointer p,af x,af y,.int .u8 b] w fun e w'=>e=.returned (.tuple #[aL,af 0])/\w'=w:=by
 rcases hp with rfl|⟨cb,tb,rfl,c⟩
 .have a:=ag (Gv w);go_enter func40,ntmps40
  go_wp2_with (go_at_call 106;refine a.o.mono ?_;rintro e w1 ⟨rfl,rfl⟩)
  go_ret2;exact⟨rfl,rfl⟩
 .have a:=ag (Fb cb tb w c);have d3:decide (3<b)=true:=by rcases d with h|h;cases h;simpa using h
  go_enter func40,ntmps40
  go_wp2_with (go_at_call 106;refine a.o.mono ?_;rintro e w1 ⟨rfl,rfl⟩)
  go_ret2;exact⟨rfl,rfl⟩
end
section
variable {w:World} {cb tb:Nat}
theorem QU {R:World->Bool->World->Prop} (t:cb<w.heap.size) (s:w.cell? (ae cb 0)=some (aj tb)) (c d a:Int)
  (C:∀W,Below w.heap.size w W->aK 128 #[aj tb,iT c d a] W fun e W'=>∃b,e=.returned (.bool b)/\R W b W'):
  aK 125 #[aj cb,iT c d a] w fun e w'=>∃b,e=.returned (.bool b)/\∃W,Below w.heap.size w W/\R W b w':=by
 have j:=ag C;clear C;go_enter func125,ntmps125
 go_wp2_with fail
 obtain⟨w1,g⟩:∃w1,w1=w.alloc (.cells #[af c,af d,ay a] 29):=⟨_,rfl⟩;have h:w1.heap[w.heap.size]? =some (.cells #[af c,af d,ay a] 29 (0,0)):=by rw[g];exact cB _ _
 have f:Below w.heap.size w w1:=by rw[g];exact(aJ _ _).alloc (aB _) _
 rw[<-g];clear g;have i:w1.cell? (ae cb 0)=some (aj tb):=(f.cell (p:=(ae cb 0)) t).trans s;have m:=ag (Fb cb tb w1.drew i);have u:=ah i;have v:=ah (show w1.cell? (ae w.heap.size 0)=some (af c) from aG h);have x:=ah (show w1.cell? (ae w.heap.size 1)=some (af d) from aG h);have y:=ah (show w1.cell? (ae w.heap.size 2)=some (ay a) from aG h);have n:=ag (j.o w1.drew f.drew);have q:=ag (show Below w.heap.size w w1.drew from f.drew);clear j h f i;refine ak (fun W=>∃p:aQ w1,W=p.W) [9,10,11] [(0,false)] ⟨⟨_,(aJ _ _).drew⟩,rfl⟩ 11 ?_;refine aF 1 rfl fun K k=>?_;refine bf Mf rfl _ _ rfl (vals:=#[aj cb]) rfl m.o ?_;rintro e w2 ⟨rfl,rfl⟩;refine⟨_,rfl,?_⟩;refine k _ _ (fun _ _=>⟨⟨_,(aJ _ _).drew⟩,rfl⟩) ?_;clear k K;refine bu [(2,false),(3,false),(4,false),(5,false),(6,false),(7,true),(8,true)] ⟨⟨_,(aJ _ _).drew⟩,rfl⟩ rfl ?_;refine aH [9,10,11] ?_
 go_wp2_with fail
 refine n.o.mono ?_;rintro e w3 ⟨b,rfl,l⟩;have r:=ag l;clear l
 go_wp2_with fail
 go_ret;exact⟨b,rfl,_,q.o,r.o⟩
theorem OQ {a:Option Addr} {n c:Nat} {R:Nat->World->Prop} (C:aK 35 #[.slice a n c] w fun e W'=>∃tb,e=.returned (.tuple #[aj tb,af 0])/\Below w.heap.size w W'/\R tb W'):
  aK 36 #[.slice a n c] w fun e w'=>∃tb W,e=.returned (.tuple #[aj W.heap.size,af 0])/\R tb W/\Below w.heap.size w W/\w'=W.alloc (.cells #[aj tb] 153):=by
 have d:=ag C;go_enter func36,ntmps36
 go_wp2_with (go_at_call 35;refine d.o.mono ?_;rintro e w1 ⟨tb,rfl,g,b⟩;have f:=ag b;clear b)
 go_ret2;exact⟨tb,w1,rfl,f.o,g,rfl⟩
end
end
section
open Go.RowKit Go.Sort Go.Shelf Go.Lib Go.Maps
def uy (w:World) (lo hi cb n0:Nat) (l:List Pt):Prop:=
 ∃tb h2,iG w lo h2 tb n0 l/\h2<=cb/\cb<hi/\hi<=w.heap.size/\w.heap[cb]? =some (.cells #[aj tb] 153 (0,0))
section
variable {w w':World} {lo hi cb n0:Nat} {l:List Pt}
theorem iG.Ff {w:World} {lo hi tb n0:Nat} {l:List Pt} (h:iG w lo hi tb n0 l):l.length<=n0/\n0<=20000:=by
 have⟨fb,R,gone,YS,V,c,a,b,d,e⟩:=h;have:=a.QD;have:=b.len a;omega
theorem iG.lo_le {w:World} {lo hi tb n0:Nat} {l:List Pt} (h:iG w lo hi tb n0 l):lo<=hi:=by
 have⟨fb,R,gone,YS,V,a,b⟩:=h;have:=a.fo;omega
theorem uy.kept {S:Nat->Prop} (h:uy w lo hi cb n0 l) (K:ax S w w') (hS:∀k,lo<=k->k<hi->¬S k):uy w' lo hi cb n0 l:=by
 have⟨tb,c,b,d,a,e,f⟩:=h;have:=b.lo_le;exact⟨tb,c,b.kept K (fun k g i=>hS k g aa),d,a,bD e K.size,(K.block cb aa (hS cb aa a)).trans f⟩
theorem BK {w:World} {cb tb:Nat} (h:w.heap[cb]? =some (.cells #[aj tb] 153 (0,0))):w.cell? (ae cb 0)=some (aj tb):=aG h
theorem QV (a:Option Addr) (c:Nat) (l:List Pt) (w:World) (h:bQ bX 3 w a l) (i:l.length<=20000) (j:H9 l) (hu:lH l=true):
  aK 36 #[.slice a l.length c] w fun e w'=>∃cb,e=.returned (.tuple #[aj cb,af 0])/\uy w' w.heap.size w'.heap.size cb l.length l/\Below w.heap.size w w':=by
 refine(OQ (R:=fun tb W=>iG W w.heap.size W.heap.size tb l.length l) ((OI a c l w h i j hu).mono fun e w1 ⟨tb,g,d,b⟩=>⟨tb,g,b,d⟩)).mono ?_;rintro e w' ⟨tb,W,rfl,d,b,rfl⟩;have f:Below W.heap.size W (W.alloc (.cells #[aj tb] 153)):=(aJ _ _).alloc (aB _) _;exact⟨_,rfl,⟨tb,W.heap.size,d.below f (aB _),aB _,aA,aB _,cB _ _⟩,b.trans (f.mono b.size)⟩
theorem OT (h:uy w lo hi cb n0 l) (n:T9 l) (x y:Int) (a b:Bool) (j:Int) (o:j=(if a then 1 else 0)+(if b then 2 else 0)):
  aK 40 #[aj cb,af x,af y,.int .u8 j] w fun e w'=>∃v,∃c:Nat,e=.returned (.tuple #[v,af ((c+(BI l (BJ x y a b)).length:Nat):Int)])/\c<=8*Lib.bitLen n0+1/\w'.ownsRow w.heap.size 27 1 v (BI l (BJ x y a b)).length ((BI l (BJ x y a b)).map (Value.int .u32))/\Below w.heap.size w w':=by
 have⟨tb,p,m,r,s,t,k⟩:=h;refine(Mg (R:=fun W v q w'=>∃c:Nat,q=.int .i64 ((c+(BI l (BJ x y a b)).length:Nat):Int)/\c<=8*Lib.bitLen n0+1/\w'.ownsRow W.heap.size 27 1 v (BI l (BJ x y a b)).length ((BI l (BJ x y a b)).map (Value.int .u32))/\Below W.heap.size W w') aa (BK k) x y a b j o ?_).mono ?_
 .intro W d;refine(KC (m.below d aa) (bx1 x a) (DD x a) (bx1 y b) (DD y b) 0).mono ?_;rintro e w' ⟨v,c,rfl,g,i,f⟩;rw[OO n]at*;exact⟨v,_,rfl,f,c,rfl,g,i,f⟩
 .rintro e w' ⟨v,q,rfl,W,d,c,rfl,g,i,f⟩;exact⟨v,c,rfl,g,bH i d.size,d.trans (f.mono d.size)⟩
theorem Gx (h:uy w lo hi cb n0 l) (x y a:Int) (c:3<a):
  aK 40 #[aj cb,af x,af y,.int .u8 a] w fun e w'=>e=.returned (.tuple #[aL,af 0])/\w'=w:=by
 have⟨tb,d,j,f,g,i,b⟩:=h;exact Fe _ (.inr ⟨cb,tb,rfl,BK b⟩) x y a (.inr c)
end
end
end Go.Proofs.YtkjdbndekceffaaGreat
namespace Go.Proofs
open Go.Shelf
def Tryz.Fg:Go.Shelf.Ren:=⟨fun|6=>98|15=>86|14=>167|28=>160|29=>161|20=>242|21=>243|22=>244|23=>245|24=>246|25=>247|26=>248|27=>249|46=>296|47=>286|48=>287|49=>297|50=>298|57=>322|n=>n,fun|22=>148|24=>3|25=>157|3=>3|39=>135|0=>0|53=>27|55=>229|4=>4|46=>308|45=>307|50=>30|5=>5|9=>9|66=>364|70=>368|76=>391|77=>60|n=>n,fun|n=>n⟩
theorem Tryz.Gy:Go.Proofs.SlLaysF.n6 Tryz.prog Tryz.Fg:={
 mixed:=aO
 f6:=gu Tryz.func98
 f14:=gu Tryz.func167
 f15:=Tryz.func86.trans (congrArg some aO)
 f20:=gu Tryz.func242
 f21:=gu Tryz.func243
 f22:=gu Tryz.func244
 f23:=gu Tryz.func245
 f24:=gu Tryz.func246
 f25:=gu Tryz.func247
 f26:=gu Tryz.func248
 f27:=gu Tryz.func249
 f28:=Tryz.func160.trans (congrArg some aO)
 f29:=Tryz.func161.trans (congrArg some aO)
 f46:=gu Tryz.func296
 f47:=Tryz.func286.trans (congrArg some aO)
 f48:=Tryz.func287.trans (congrArg some aO)
 f49:=gu Tryz.func297
 f50:=gu Tryz.func298
 f57:=gu Tryz.func322
 t0:=uO
 a0:=vg
 z0:=uW
 v0:=uS
 t3:=rA
 a3:=nU
 z3:=nT
 v3:=rD
 t4:=pq
 a4:=rT
 z4:=rP
 v4:=rE
 t5:=xP
 a5:=Tryz.isAgg5
 z5:=Tryz.sizeOf5
 v5:=Tryz.zeroValue5
 t9:=Tryz.underlying9
 a9:=Tryz.isAgg9
 z9:=Tryz.sizeOf9
 v9:=Tryz.zeroValue9
 t22:=Tryz.underlying148
 a22:=Tryz.isAgg148
 z22:=Tryz.sizeOf148
 v22:=Tryz.zeroValue148
 a24:=nU
 z24:=nT
 t25:=Tryz.underlying157
 a25:=Tryz.isAgg157
 z25:=Tryz.sizeOf157
 v25:=Tryz.zeroValue157
 t39:=Ai
 a39:=Tryz.isAgg135
 z39:=AP
 v39:=Ao
 t45:=Tryz.underlying307
 a45:=Tryz.isAgg307
 z45:=Tryz.sizeOf307
 v45:=Tryz.zeroValue307
 t46:=Tryz.underlying308
 a46:=Tryz.isAgg308
 z46:=Tryz.sizeOf308
 v46:=Tryz.zeroValue308
 t50:=Tryz.underlying30
 a50:=Tryz.isAgg30
 z50:=Tryz.sizeOf30
 v50:=Tryz.zeroValue30
 t53:=Ap
 a53:=xW
 z53:=xU
 v53:=Ay
 t55:=Aj
 a55:=Tryz.isAgg229
 z55:=AQ
 v55:=Aq
 t66:=Tryz.underlying364
 a66:=Tryz.isAgg364
 z66:=Tryz.sizeOf364
 v66:=Tryz.zeroValue364
 t70:=Tryz.underlying368
 a70:=Tryz.isAgg368
 z70:=Tryz.sizeOf368
 v70:=Tryz.zeroValue368
 t76:=Tryz.underlying391
 a76:=Tryz.isAgg391
 z76:=Tryz.sizeOf391
 v76:=Tryz.zeroValue391
 t77:=Tryz.underlying60
 a77:=Tryz.isAgg60
 z77:=Tryz.sizeOf60
 v77:=Tryz.zeroValue60}
end Go.Proofs
