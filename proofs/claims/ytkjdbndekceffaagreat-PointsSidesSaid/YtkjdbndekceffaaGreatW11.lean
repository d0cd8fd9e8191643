/- Made small by a program. -/
import Derived.Test.YtkjdbndekceffaaGreatW09
import Derived.Test.YtkjdbndekceffaaGreatW10
set_option linter.unusedSimpArgs false
set_option linter.unusedVariables false
set_option maxRecDepth 100000
set_option maxHeartbeats 16000000
namespace Go.Proofs.YtkjdbndekceffaaGreat
open Tryz
section
open Go.RowKit Go.Maps
attribute [local irreducible] wpQuiet
def VH (l:List Pt) (p:Pt) (w:World) (e:Ending) (w':World):Prop:=
 ∃k:Nat,e=.returned (.tuple #[ae k,.bool (decide (∃h:k<l.length,iJ l[k] p=0))])/\k<=l.length/\(∀t (h:t<l.length),t<k->iJ l[t] p<0)/\(∀t (h:t<l.length),k<=t->¬iJ l[t] p<0)/\Below w.heap.size w w'
theorem VI (a:Option Addr) (l:List Pt) (n an:Nat) (p:Pt) (W:World) (ar:l.length=n) (aC:n<=1000000) (ab:bW dw 3 W a l) (ac:l.Pairwise kG):
  aK 191 #[.slice a n an,iZ p.1 p.2.1 p.2.2,.func (.func 94) #[] #[]] W (VH l p W):=by
 subst ar;obtain⟨d,f,c⟩:=p;have X:=af ab;have al:=af ac;have V:=af (fun(q:Pt) W=>(SY q (d,f,c) W).mono (fun e w' (h:e=.returned (ae (iJ q (d,f,c)))/\xI W w')=>(⟨h.1,h.2.below (aB _)⟩:e=.returned (ae (iJ q (d,f,c)))/\Below W.heap.size W w')));have ai:Hid (∀t i (Y:t<l.length) (g:i<l.length),t<=i->iJ l[i] (d,f,c)<0->iJ l[t] (d,f,c)<0):=fun t i Y g L M=>by
  by_cases e:t=i
  .subst e;exact M
  .have ao:=gU.1 al.o t i Y g aa;rw[qw]at M |-;exact oK ao M
 clear ab ac;go_enter func191,ntmps191
 go_wp2_with fail
 have Z:Below W.heap.size W (W.alloc (.cells #[ae d,ae f,au c] 29)):=(aJ _ _).alloc (aB _) _;have am:Hid ((W.alloc (.cells #[ae d,ae f,au c] 29)).heap[W.heap.size]? =some (.cells #[ae d,ae f,au c] 29 (0,0))):=bV W _;have av:W.heap.size<(W.alloc (.cells #[ae d,ae f,au c] 29)).heap.size:=aA;generalize(W.alloc (.cells #[ae d,ae f,au c] 29))=J at*;have U:=af Z;clear Z
 go_loopw [9,10] (fun O P wr=>∃i j:Nat,O=.int .i64 i/\P=.int .i64 j/\i<=j/\j<=l.length/\Hid (∀t (h:t<l.length),t<i->iJ l[t] (d,f,c)<0)/\Hid (∀t (h:t<l.length),j<=t->¬iJ l[t] (d,f,c)<0)/\Hid (Below J.heap.size J wr))
  (fun O P _=>(intOf P).toNat-(intOf O).toNat)
 case atStart=>exact⟨0,l.length,rfl,rfl,aY _,aB _,fun t h g=>absurd g (kC _),fun t h g=>absurd h aa,aJ _ _⟩
 case round=>
  obtain⟨i,j,rfl,rfl,az,ap,K,T,F⟩:=hrel;have A:Below W.heap.size W wr:=U.o.trans (F.o.mono U.o.size);have D:=(F.o.block _ av).trans am.o;have Q:=ah (w:=wr) (ad:=(ag W.heap.size 0)) (v:=.int .i64 d) (aF D);have R:=ah (w:=wr) (ad:=(ag W.heap.size 1)) (v:=.int .i64 f) (aF D);have S:=ah (w:=wr) (ad:=(ag W.heap.size 2)) (v:=.int .u32 c) (aF D);by_cases aD:i<j
  .obtain⟨m,aq⟩:∃m,m=(i+j)/2:=⟨_,rfl⟩;have aE:((i:Int)+(j:Int))/2=(m:Int):=aa;have C:m<l.length:=aa;have aG:i<=m/\m<j:=aa;clear aq;obtain⟨b,off,y,N,u⟩:=(X.o.below A).get aa;have r:=u (m) C 0 aa;have x1:=u (m) C 1 aa;have x2:=u (m) C 2 aa;simp only[dw,fI,dz,dI]at r x1 x2;have r:=ah r;have x1:=ah x1;have x2:=ah x2;have I:Hid (iJ l[m] (d,f,c)<0->∀t (h:t<l.length),t<m+1->iJ l[t] (d,f,c)<0):=fun h t ht g=>ai.o t _ ht C aa h;have H:Hid (¬iJ l[m] (d,f,c)<0->∀t (h:t<l.length),m<=t->¬iJ l[t] (d,f,c)<0):=fun h t ht g L=>h (ai.o _ t C ht g L);have s:Hid (∀p:aS wr,aK 94 #[iZ l[m].1 l[m].2.1 l[m].2.2,iZ d f c] p.W fun e w'=>e=.returned (ae (iJ l[m] (d,f,c)))/\Below p.W.heap.size p.W w'):=fun p=>V.o l[m] p.W;have x:=af y;obtain⟨o,k⟩:∃o,o=iJ l[m] (d,f,c):=⟨_,rfl⟩;rw[<-k]at I H s;clear u y k D;generalize l[m]=q at*;obtain⟨ax,ay,aw⟩:=q;simp only at r x1 x2 s;obtain rfl:=x.o;clear x
   go_upto_region 5 with fail
   refine bH aM aM ?_
   repeat(quiet_step ((go_at_call 94;exact dM (s.o _))))
   refine jN ?_;intro w2 E;have z:Below wr.heap.size wr w2:=by obtain⟨p,rfl⟩:=E;exact p.h
   have G:Hid (Below J.heap.size J w2):=F.o.trans (z.mono F.o.size);clear E Q R S r x1 x2 z s;by_cases k:o<0
   .have ak:=af (I.o k);have d1:decide (o<0)=true:=aQ k;clear I H;go_wp2;go_roundw
    case rel=>exact⟨m+1,j,by go_num,rfl,aa,ap,ak,T,G⟩
    case measure=>exact eO
   .have aj:=af (H.o k);have d1:decide (o<0)=false:=aQ k;clear I H;go_wp2;go_roundw
    case rel=>exact⟨i,m,rfl,rfl,aa,aa,K,aj,G⟩
    case measure=>exact eO
  .obtain rfl:i=j:=aa;by_cases B:i<l.length
   .obtain⟨b,off,y,N,u⟩:=(X.o.below A).get aa;have r:=u i B 0 aa;have x1:=u i B 1 aa;have x2:=u i B 2 aa;simp only[dw,fI,dz,dI]at r x1 x2;have r:=ah r;have x1:=ah x1;have x2:=ah x2;have s:Hid (∀p:aS wr,aK 94 #[iZ l[i].1 l[i].2.1 l[i].2.2,iZ d f c] p.W fun e w'=>e=.returned (ae (iJ l[i] (d,f,c)))/\Below p.W.heap.size p.W w'):=fun p=>V.o l[i] p.W;have x:=af y;obtain⟨o,k⟩:∃o,o=iJ l[i] (d,f,c):=⟨_,rfl⟩;have HO:Hid (decide (∃h:i<l.length,iJ l[i] (d,f,c)=0)=(o==0)):=by
     show _=_;rw[k,nH];simp[B]
    rw[<-k]at s;have hd:decide (i<l.length)=true:=aQ B;clear u y k D;generalize l[i]=q at*;obtain⟨ax,ay,aw⟩:=q;simp only at r x1 x2 s;obtain rfl:=x.o;clear x
    go_upto_region 8 with fail
    refine bH aM aM ?_
    repeat(quiet_step ((go_at_call 94;exact dM (s.o _))))
    refine jN ?_;intro w2 E;have z:Below wr.heap.size wr w2:=by obtain⟨p,rfl⟩:=E;exact p.h
    have G:Hid (Below W.heap.size W w2):=A.trans (z.mono A.size);clear E Q R S r x1 x2 z s;go_wp2;go_ret2;exact⟨i,by rw[HO.o];rfl,aa,K.o,(fun t h g L=>absurd (T.o t h g) aa),G.o⟩
   .obtain rfl:i=l.length:=aa;have N:=af A;clear Q R S
    go_upto_region 8 with fail
    go_quiet (fail)
    go_wp2;go_ret2;exact⟨l.length,aA,aB _,K.o,fun t h g=>absurd h aa,N.o.trans (Below.bu _ _)⟩
end
section
open Go.RowKit Go.Sort Go.Shelf Go.Lib Go.Maps
theorem Fp {α:Type} [Inhabited α] {enc:α->Value} {w:World} {base g d:Nat} {e:TypeId} {l:List α} {i:Nat} {zr:α} (h:w.ownsRow base e 1 (az g l.length d) l.length (l.map enc)) (hi:i<l.length) (q:Nat):
  (putRow enc (Sort.ahead w q) g 0 (l.toArray.toList.take i++l.toArray.toList.drop (i+1)++List.replicate (i+1-i) zr).toArray).ownsRow base e 1 (az g (l.length-1) d) (l.length-1) ((l.eraseIdx i).map enc)/\
  ay (fun k=>k=g) w (putRow enc (Sort.ahead w q) g 0 (l.toArray.toList.take i++l.toArray.toList.drop (i+1)++List.replicate (i+1-i) zr).toArray):=by
 rcases h.2 with⟨b,B⟩|⟨A,v,x,b,r,s,C,t,E,ht⟩
 .cases b
 .injection b with a z n;injection a with a;injection a with a _ _;subst a n;have j:(l.take i++l.drop (i+1)++[zr]).length=l.length:=aG;obtain⟨y,-,-,-,c⟩:=rV (l:=l) (l':=l.take i++l.drop (i+1)++[zr]) r s aa t aa j q #[];rw[Sort.grow_empty]at c;have p:(l.toArray.toList.take i++l.toArray.toList.drop (i+1)++List.replicate (i+1-i) zr)=l.take i++l.drop (i+1)++[zr]:=by
   rw[show i+1-i=1 by omega];simp
  rw[p];constructor
  .rw[j]at c;have f:=ma (m:=l.length-1) c aa;have o:((l.take i++l.drop (i+1)++[zr]).map enc).take ((l.length-1)*1)=(l.eraseIdx i).map enc:=by
    rw[iQ,<-List.map_take,Ee aG,jK aG,xJ]
   rw[o]at f;exact f
  .refine⟨rfl,rfl,rfl,?_,fun k D u=>?_⟩
   .show w.heap.size<=(w.heap.modify g _).size;simp
   .show(w.heap.modify g _)[k]? =_;rw[xN,aN (iR u)]
theorem Jp {w:World} {base g b:Nat} {l:List Int} {i:Nat} (h:w.ownsRow base 27 1 (az g l.length b) l.length (l.map (Value.int .u32))) (hi:i<l.length):
  aK 198 #[az g l.length b,ae i,ae (i+1:Nat)] w fun e w'=>e=.returned (az g (l.length-1) b)/\w'.ownsRow base 27 1 (az g (l.length-1) b) (l.length-1) ((l.eraseIdx i).map (Value.int .u32))/\ay (fun k=>k=g) w w':=by
 obtain⟨j,B,D⟩:∃j,Tryz.prog.info? 27=some j/\j.size=1:=by
  have a:(Tryz.prog.info? 27).map (fun i=>i.size)=some 1:=aM;cases p:Tryz.prog.info? 27 with
  |none=>rw[p]at a;cases a
  |some i=>rw[p]at a;injection a with a;exact⟨i,rfl,a⟩
 have n:l.length<=b/\b<=9223372036854775807:=by
  rcases h.2 with⟨c,v⟩|⟨u,r,s,c,A,a,f,o,C,ht⟩
  .cases c
  .injection c with d t m;subst m;unfold maxLen at o;omega
 have z:Holds (Value.int .u32) w g 0 l.toArray:=by
  rcases h.2 with⟨c,v⟩|⟨u,r,s,c,A,a,f,o,C,ht⟩
  .cases c
  .injection c with d t m;injection d with d;injection d with d _ _;subst d;rw[iQ]at ht;exact holds_of_block a ht
 have f:=AnyE.slices_Delete Tryz.Jp (Value.int .u32) (fun _=>rfl) 0 (fun w=>zeroValue27 w) j B D g 0 b i (i+1) l.toArray w z (aQ n.1) n.2 aa aG;change aK 198 _ _ _ at f;rw[show l.toArray.size=l.length by simp]at f;refine f.mono ?_;rintro e w' ⟨rfl,q,rfl⟩;have⟨x,y⟩:=Fp (zr:=(0:Int)) h hi q;exact⟨by rw[show i+1-i=1 by omega],x,y⟩
theorem Jr {w:World} {base g b:Nat} {l:List Int} {i:Nat} (h:w.ownsRow base 2 1 (az g l.length b) l.length (l.map (Value.int .i64))) (hi:i<l.length):
  aK 197 #[az g l.length b,ae i,ae (i+1:Nat)] w fun e w'=>e=.returned (az g (l.length-1) b)/\w'.ownsRow base 2 1 (az g (l.length-1) b) (l.length-1) ((l.eraseIdx i).map (Value.int .i64))/\ay (fun k=>k=g) w w':=by
 obtain⟨j,B,D⟩:∃j,Tryz.prog.info? 2=some j/\j.size=1:=by
  have a:(Tryz.prog.info? 2).map (fun i=>i.size)=some 1:=aM;cases p:Tryz.prog.info? 2 with
  |none=>rw[p]at a;cases a
  |some i=>rw[p]at a;injection a with a;exact⟨i,rfl,a⟩
 have n:l.length<=b/\b<=9223372036854775807:=by
  rcases h.2 with⟨c,v⟩|⟨u,r,s,c,A,a,f,o,C,ht⟩
  .cases c
  .injection c with d t m;subst m;unfold maxLen at o;omega
 have z:Holds (Value.int .i64) w g 0 l.toArray:=by
  rcases h.2 with⟨c,v⟩|⟨u,r,s,c,A,a,f,o,C,ht⟩
  .cases c
  .injection c with d t m;injection d with d;injection d with d _ _;subst d;rw[iQ]at ht;exact holds_of_block a ht
 have f:=AnyE.slices_Delete Tryz.Jr (Value.int .i64) (fun _=>rfl) 0 (fun w=>zeroValue2 w) j B D g 0 b i (i+1) l.toArray w z (aQ n.1) n.2 aa aG;change aK 197 _ _ _ at f;rw[show l.toArray.size=l.length by simp]at f;refine f.mono ?_;rintro e w' ⟨rfl,q,rfl⟩;have⟨x,y⟩:=Fp (zr:=(0:Int)) h hi q;exact⟨by rw[show i+1-i=1 by omega],x,y⟩
theorem Fh {w:World} {base g b:Nat} {l:List Int} {i:Nat} (h:w.ownsRow base 3 1 (az g l.length b) l.length (l.map (Value.int .i64))) (hi:i<l.length):
  aK 199 #[az g l.length b,ae i,ae (i+1:Nat)] w fun e w'=>e=.returned (az g (l.length-1) b)/\w'.ownsRow base 3 1 (az g (l.length-1) b) (l.length-1) ((l.eraseIdx i).map (Value.int .i64))/\ay (fun k=>k=g) w w':=by
 obtain⟨j,B,D⟩:∃j,Tryz.prog.info? 3=some j/\j.size=1:=by
  have a:(Tryz.prog.info? 3).map (fun i=>i.size)=some 1:=aM;cases p:Tryz.prog.info? 3 with
  |none=>rw[p]at a;cases a
  |some i=>rw[p]at a;injection a with a;exact⟨i,rfl,a⟩
 have n:l.length<=b/\b<=9223372036854775807:=by
  rcases h.2 with⟨c,v⟩|⟨u,r,s,c,A,a,f,o,C,ht⟩
  .cases c
  .injection c with d t m;subst m;unfold maxLen at o;omega
 have z:Holds (Value.int .i64) w g 0 l.toArray:=by
  rcases h.2 with⟨c,v⟩|⟨u,r,s,c,A,a,f,o,C,ht⟩
  .cases c
  .injection c with d t m;injection d with d;injection d with d _ _;subst d;rw[iQ]at ht;exact holds_of_block a ht
 have f:=AnyE.slices_Delete Tryz.Fh (Value.int .i64) (fun _=>rfl) 0 (fun w=>zeroValue3 w) j B D g 0 b i (i+1) l.toArray w z (aQ n.1) n.2 aa aG;change aK 199 _ _ _ at f;rw[show l.toArray.size=l.length by simp]at f;refine f.mono ?_;rintro e w' ⟨rfl,q,rfl⟩;have⟨x,y⟩:=Fp (zr:=(0:Int)) h hi q;exact⟨by rw[show i+1-i=1 by omega],x,y⟩
theorem Q5 (a:Option Addr) (l:List Int) (n c:Nat) (x:Int) (w:World) (C:l.length=n) (h:Rd (.int .u32) w a l) (J:n<=1000000) (u:x∈l):
  aK 196 #[.slice a n c,au x] w fun e w'=>(∃i:Nat,e=.returned (ae i)/\∃h:i<l.length,l[i]=x)/\w'=w:=by
 subst C;have z:=af h;have A:=af u;clear h u;go_enter func196,ntmps196;go_wp2
 go_loopg [8] l.length (fun D E wr=>∃j:Nat,E=.int .i64 j/\j<=l.length/\l.length-j<=D/\wr=w/\Hid (∀t (h:t<l.length),t<j->l[t]≠x))
 case atStart=>exact⟨0,rfl,aY _,aa,rfl,fun t h q=>absurd q (kC _)⟩
 case round=>
  obtain⟨j,rfl,H,I,rfl,k⟩:=hrel;by_cases s:j<l.length
  .obtain⟨b,off,p,G,r⟩:=z.o.get aa;have F:=r j s;have g:=af p;obtain⟨y,f⟩:∃y,y=l[j]:=⟨_,rfl⟩;rw[<-f]at F;have m:=af f;clear r p f;obtain rfl:=g.o;clear g;by_cases d:x=y
   .have d1:(x==y)=true:=by simp[d]
    have d2:decide (x=y)=true:=by simp[d]
    have B:=af d;clear d;go_wp2;go_ret;exact⟨⟨j,rfl,s,by rw[<-m.o,B.o]⟩,rfl⟩
   .have d1:(x==y)=false:=by simp[d]
    have d2:decide (x=y)=false:=by simp[d]
    have v:Hid (∀t (h:t<l.length),t<j+1->l[t]≠x):=fun t h q=>by
     by_cases e:t=j
     .subst e;rw[<-m.o];exact fun e=>d e.symm
     .exact k.o t h aa
    clear d;go_wp2
    go_roundg (l.length-(j+1))
    case measure=>omega
    case rel=>exact⟨j+1,by go_num,aa,aB _,rfl,v⟩
  .obtain⟨t,ht,e⟩:=jk A.o;exact absurd e (k.o t ht aa)
end
section
open Go.RowKit Go.Sort Go.Shelf Go.Lib Go.Maps
attribute [local irreducible] wpQuiet
attribute [local go_sem] Oper.fw
def Ju (R:List Pt) (p:Pt):Nat:=R.countP fun q=>decide (iJ q p<0)
def Tw (R:List Pt) (p:Pt):Bool:=decide (∃h:Ju R p<R.length,iJ R[Ju R p] p=0)
theorem OG (a:Option Addr) (l:List Pt) (n c:Nat) (p:Pt) (W:World) (q:l.length=n) (o:n<=1000000) (r:bW dw 3 W a l) (s:l.Pairwise kG):
  aK 191 #[.slice a n c,iZ p.1 p.2.1 p.2.2,.func (.func 94) #[] #[]] W (gm W (.tuple #[ae (Ju l p),.bool (Tw l p)])):=
 (VI a l n c p W q o r s).mono fun e w' ⟨k,j,m,f,g,i⟩=>by
  have d:k=Ju l p:=oV l k m (fun t h b=>by simpa using f t h b) (fun t h b=>by simpa using g t h b);subst d;exact⟨j,i⟩
theorem Fq {R:List Pt} (d:R.Pairwise kG) {x:Nat} (a:x<R.length):Ju R R[x]=x/\Tw R R[x]=true:=by
 have b:x=Ju R R[x]:=oV R x (vv a) (fun t h c=>by
  have:=gU.1 d t x h a c;simpa[qw]using this) (fun t h c=>by
  simp only[gY,qw];by_cases e:t=x
  .subst e;exact sZ _
  .intro f;have:=gU.1 d x t a h aa;exact sZ _ (oK this f))
 refine⟨b.symm,?_⟩;unfold Tw;rw[dH];refine⟨aa,?_⟩;have e:R[Ju R R[x]]'aa=R[x]:=by congr 1;exact b.symm
 rw[e,QG];exact⟨rfl,rfl⟩
end
section
open Go.RowKit Go.Sort Go.Shelf Go.Lib Go.Maps
def Fs (n k:Nat):FT:=(((dP 0 n).subs 0).getD k (.leaf 0,0)).1
theorem mF {n:Nat} {t:FT} {s:Nat} (h:FT.At (aW n) t s):Fs n (t.root s)=t:=by
 have a:=kU h;have c:=h.lt;rw[dh]at c;have b:t.root s<((dP 0 n).subs 0).length:=by rw[FT.fB,fu 0 n a];exact c
 have e:=FT.oW (dP 0 n) 0 _ b;have f:=FT.kR (dP 0 n) 0 (fK a▸jU n a) _ (bF b);have⟨d,g⟩:=FT.At.unique (fK a▸h) f (by rw[e];omega);unfold Fs;rw[jc,bZ b];exact d.symm
def nu (n:Nat) (YS:List Nat) (k:Nat):List Nat:=nl YS (Fs n k)
def xk (n:Nat) (YS:List Nat) (k:Nat):List Int:=match Fs n k with
 |.leaf _=>[]
 |.node l r=>lf l.hi (nl YS (.node l r))
theorem Af {n:Nat} {l r:FT} {s:Nat} (h:FT.At (aW n) (.node l r) s) (YS:List Nat):xk n YS ((FT.node l r).root s)=lf l.hi (nl YS (.node l r)):=by
 unfold xk;rw[mF h]
section
variable {w w':World} {lo hi tb fb:Nat} {R:List Pt} {gone:List Bool} {YS:List Nat} {V:yF}
theorem jE.Wo (h:jE w lo hi tb fb R gone YS V):gM w lo hi tb fb R gone YS.length YS (nu R.length YS) (xk R.length YS) V:=
 ⟨h.blk,h.fA,h.row,h.xs,h.DK,h.iH,h.je,h.EO,h.ys,fun k b=>by
  obtain⟨t,s,a,rfl⟩:=tO b;unfold nu;rw[mF a];exact h.Gd t s a,fun l r s a=>by rw[Af a];exact h.Bp l r s a,h.DD,h.top,h.oU,h.Ny,h.Ik,h.Gu⟩
theorem gM.toAt {nc:Nat->List Nat} {lc:Nat->List Int} (h:gM w lo hi tb fb R gone YS.length YS nc lc V) (c:∀k,k<(aW R.length).length->nc k=nu R.length YS k) (d:∀l r s,FT.At (aW R.length) (.node l r) s->lc ((FT.node l r).root s)=xk R.length YS ((FT.node l r).root s)):jE w lo hi tb fb R gone YS V:=
 ⟨h.blk,h.fA,h.row,h.xs,h.DK,h.iH,h.je,h.EO,h.ys,fun t s a=>by
  have b:=h.Gd _ a.lt;rw[c _ a.lt,nu,mF a]at b;exact b,fun l r s a=>by
  have b:=h.Bp l r s a;rw[d l r s a,Af a]at b;exact b,h.DD,h.top,h.oU,h.Ny,h.Ik,h.Gu⟩
end
def l8 (YS:List Nat) (x:Nat) (P:List Nat) (k:Nat):List Nat:=if k∈P then dX YS x else YS
theorem DW (YS:List Nat) (x k:Nat):l8 YS x [] k=YS:=by simp[l8]
theorem BS {n x:Nat} (h:x<n) (YS:List Nat) {k:Nat} (g:k<(aW n).length):nu n (l8 YS x ((dP 0 n).path 0 x) k) k=nu n (dX YS x) k/\xk n (l8 YS x ((dP 0 n).path 0 x) k) k=xk n (dX YS x) k:=by
 have e:0<n:=aa;obtain⟨t,s,d,rfl⟩:=tO g;unfold l8;by_cases c:t.root s∈(dP 0 n).path 0 x
 .rw[aO c];exact⟨rfl,rfl⟩
 .rw[aN c];have f:¬(t.lo<=x/\x<t.hi):=fun⟨a,b⟩=>c (FT.wQ _ 0 x (bJ 0 n e).1 _ (FT.at_mem (fK e▸d)) a b);unfold nu xk;rw[mF d];refine⟨(wO f).symm,?_⟩;cases t with
  |leaf a=>rfl
  |node l r=>
   show lf _ _=lf _ _;rw[wO f]
end
section
open Go.RowKit Go.Sort Go.Shelf Go.Lib Go.Maps
attribute [local irreducible] wpQuiet
attribute [local go_sem] Oper.fw
def UN (w:World) (lo hi tb fb:Nat) (R:List Pt) (gone:List Bool) (YS:List Nat) (x:Nat) (e:Ending) (w':World):Prop:=
 e=.returned (.bool true)/\∃V',jE w' lo hi tb fb R (gone.set x true) (dX YS x) V'/\ay (fun k=>lo<=k/\k<hi) w w'
theorem om {α b:Type} (f:α->b):∀(l:List α) (i:Nat),(l.map f).eraseIdx i=(l.eraseIdx i).map f
 |[],i=>aA
 |a::l,0=>aA
 |a::l,i+1=>by simp[om f l i]
theorem OH {m:Nat} {L:List Nat} {y:Int} (h:y∈lf m L):0<=y/\y<=L.length:=by
 unfold lf at h;obtain⟨j,b,rfl⟩:=dm.1 h;have a:=IC (p:=fun i=>decide (i<m)) (l:=L.take j);rw[eQ]at a;omega
theorem Tx {m:Nat} {L:List Nat} {i:Nat} (hi:i<L.length) {j:Nat} (a:j<L.length):0<=(zP m L i j)[j]'(by rw[qA hi aa];exact a)/\(zP m L i j)[j]'(by rw[qA hi aa];exact a)<=L.length:=by
 rw[Ky hi a];exact OH (List.mem_of_mem_eraseIdx (bF _))
theorem Mj {α:Type} (f:Nat->α) (k:Nat) (v a:α):nC (nC f k v) k a=nC f k a:=by
 funext j;simp only[nC];split<;>rfl
theorem OI {YS:List Nat} (a:YS.Nodup) {x:Nat} (b:x∈YS):(dX YS x).length=YS.length-1:=by
 have⟨i,hi,e⟩:=jk b;unfold dX;rw[<-erase_filter a hi e,Ap,aO hi]
theorem Dc {w:World} {lo hi tb fb:Nat} {R:List Pt} {gone:List Bool} {YS:List Nat} {V:yF} (ao:jE w lo hi tb fb R gone YS V) (b6:cB R gone YS) (ea:R.length<=20000) {x:Nat} (av:x<R.length) (ej:gone[x]? =some false) (p:Pt) (hp:R[x]=p):
  aK 128 #[aj tb,iZ p.1 p.2.1 p.2.2] w (UN w lo hi tb fb R gone YS x):=by
 have a4:=ao.blk;have fN:tb<w.heap.size:=bX ao.fA.2.1 ao.fA.2.2.2.2;obtain⟨ct,cu,cL,-,-,c7⟩:=bW.aD bg ai ao.row;obtain⟨gx,fe,cG⟩:=fH ao.DK;have a3:=ao.Wo;rw[cL,cG]at a4;have CB:=af (fun W (a4:Below w.heap.size w W)=>OG ct R R.length cu p W rfl aa (c7.below a4) b6.Bj);have ca:=Fq b6.Bj av;rw[hp]at ca;have eX:=af c7;have bd:=af cG;have eL:=af cL;obtain⟨aw,ax,F⟩:=p;obtain⟨n,c6⟩:∃n,n=R.length:=⟨_,rfl⟩;rw[<-c6]at ea a4 CB av;have f:=af c6;have eJ:=af a4;have dQ:=af a3;have dS:=af hp;have dJ:=af ej;have X:=af b6;have aV:=ao.fA;rw[ca.1,ca.2]at CB;clear ao c7 a4 cL cG c6 a3 hp ej b6 ca;go_enter func128,ntmps128
 go_wp2_with fail
 obtain⟨z,bt⟩:∃z,z=w.heap.size:=⟨_,rfl⟩;obtain⟨w1,bY⟩:∃w1,w1=w.alloc (.cells #[ae aw,ae ax,au F] 29):=⟨_,rfl⟩;have a5:Below w.heap.size w w1:=by rw[bY];exact(aJ _ _).alloc (aB _) _
 have a9:w1.heap[z]? =some (.cells #[ae aw,ae ax,au F] 29 (0,0)):=by rw[bY,bt];exact bV w _
 have da:=(a5.block tb fN).trans eJ.o;rw[<-bY];clear bY;have bR:w1.cell? (ag tb 3)=some (aj fb):=aF da;refine(yG tb fb w1 bR).mono ?_;rintro e w' ⟨rfl,fd⟩;subst w'
 go_upto_region 3 with fail
 rw[<-bt];have gV:hi<=z:=by rw[bt];exact aV.2.2.2.2
 have gs:=af bt;clear bt;have fS:=ah (w:=w1) (ad:=(ag tb 0)) (v:=.slice ct n cu) (aF da);have di:=ah (w:=w1) (ad:=(ag z 0)) (v:=.int .i64 aw) (aF a9);have dj:=ah (w:=w1) (ad:=(ag z 1)) (v:=.int .i64 ax) (aF a9);have fT:=ah (w:=w1) (ad:=(ag z 2)) (v:=.int .u32 F) (aF a9);have dC:Hid (∀p:aS w1,aK 191 #[.slice ct n cu,iZ aw ax F,.func (.func 94) #[] #[]] p.W fun e w'=>e=.returned (.tuple #[ae x,.bool true])/\Below p.W.heap.size p.W w'):=fun p=>CB.o p.W (a5.trans (p.h.mono a5.size));refine bH aM aM ?_
 repeat(quiet_step ((go_at_call 191;exact dM (dC.o _))))
 refine jN ?_;intro w2 bx;have cS:Below w1.heap.size w1 w2:=by obtain⟨p,rfl⟩:=bx;exact p.h
 clear bx dC fS di dj fT CB bR;have bz:=(cS.block z (aZ.1 a9).1).trans a9;have b2:Below w.heap.size w w2:=a5.trans (cS.mono a5.size);have aG:Hid (gM w2 lo hi tb fb R gone YS.length YS (nu R.length YS) (xk R.length YS) V):=dQ.o.below b2 aV.2.2.2.2;have dA:=af b2;have dV:=af bz;have db:=aG.o.blk;have e2:w2.cell? (ag tb 0)=some (.slice ct n cu):=by simp[World.cell?,db];rw[eL.o,f.o]
 have bp:=aG.o.DK;rw[bd.o]at bp;obtain⟨an,gy,cH,_,_⟩:=aU bp (by have:=f.o;omega);injection cH with cH e8 e9;subst cH;clear e8 e9;have e3:w2.cell? (ag tb 2)=some (az an n fe):=by simp[World.cell?,db];rw[bd.o,f.o]
 have go:w2.cell? (ag z 0)=some (ae aw):=aF bz;have x1:w2.cell? (ag z 1)=some (ae ax):=aF bz;have x2:w2.cell? (ag z 2)=some (au F):=aF bz;have ac:x<R.length:=by rw[<-f.o];exact av
 obtain⟨b,off,e5,fo,b9⟩:=(eX.o.below b2).get aa;have dq:=b9 x ac 0 aa;have dr:=b9 x ac 1 aa;have ds:=b9 x ac 2 aa;rw[dS.o]at dq dr ds;simp only[dw,fI,dz,dI]at dq dr ds;have cM:=bp.cellAt x aa;have gp:=bp.frozenAt x;rw[iB,dJ.o]at cM;simp only[fQ]at cM;subst e5;clear b9 bp b2 a5 cS da a9 db bz dQ
 go_upto_region 4 with fail
 go_quiet (fail)
 go_upto_region 7 with fail
 obtain⟨w3,bj⟩:∃w3,w3=(w2.drewN nq).setCell (ag an x) (.bool true):=⟨_,rfl⟩;have cA:Hid (gM w3 lo hi tb fb R (gone.set x true) YS.length YS (nu R.length YS) (xk R.length YS) V):=by
  rw[bj];exact gM.Q4 (aG.o.below (Below.bu w2.heap.size nq) aG.o.fA.2.2.2.2) bd.o x
 have eg:lo<=an/\an<hi:=⟨(aG.o.DK.lt an (by rw[bd.o];rfl)).1,aG.o.top V.gv aA an (by rw[bd.o];rfl)⟩;have dK:Hid (ay (fun k=>lo<=k/\k<hi) w w3):=by
  rw[bj];exact(((ay.refl _ w).below dA.o).below (Below.bu w2.heap.size nq)).set (a:=(ag an x)) _ (.inl eg)
 have dW:Hid (w3.heap[z]? =some (.cells #[ae aw,ae ax,au F] 29 (0,0))):=by
  rw[bj];exact(aC (show an≠z by omega)).trans dV.o
 rw[<-bj];clear bj e2 e3 go x1 x2 dq dr ds cM gp dA dV aG eg fo;have co:x∈YS:=(X.o.live x).2 dJ.o;have fn:=X.o.len;have gF:0<YS.length:=IA co;have dc:=cA.o.blk;have e4:w3.cell? (ag tb 7)=some (ae YS.length):=aF dc;have eF:w3.frozen? (ag tb 7)=false:=aF dc;obtain⟨m,ep⟩:∃m,m=YS.length-1:=⟨_,rfl⟩;have gS:(YS.length:Int)-1=(m:Int):=aa;have eV:Hid (m=(dX YS x).length):=by rw[ep];exact(OI X.o.nodup co).symm
 have gG:YS.length<=20000:=by rw[f.o]at ea;omega
 have e1:=af co;clear ep fn dc co
 go_upto_region 8 with fail
 obtain⟨w4,bk⟩:∃w4,w4=w3.setCell (ag tb 7) (.int .i64 m):=⟨_,rfl⟩;have bh:Hid (gM w4 lo hi tb fb R (gone.set x true) m YS (nu R.length YS) (xk R.length YS) V):=by rw[bk];exact cA.o.BR m
 have dL:Hid (ay (fun k=>lo<=k/\k<hi) w w4):=by rw[bk];exact dK.o.set (a:=(ag tb 7)) _ (.inl ⟨aV.1,aV.2.1⟩)
 have bQ:Hid (w4.heap[z]? =some (.cells #[ae aw,ae ax,au F] 29 (0,0))):=by rw[bk];exact(aC (show tb≠z by omega)).trans dW.o
 rw[<-bk];clear bk e4 eF cA dK dW;have ew:=bh.o.blk;have bR:w4.cell? (ag tb 3)=some (aj fb):=aF ew;have dv:=af (vI lo fb n x V.fv aa av w4 (by rw[f.o];exact bh.o.iH));clear ew
 go_wp2_with fail
 refine dv.o.mono ?_;rintro e aE ⟨pv,rfl,ch,bo⟩;have fM:=bh.o.fA.2.2.2.2;have eT:Hid (gM aE lo hi tb fb R (gone.set x true) m YS (nu R.length YS) (xk R.length YS) V):=bh.o.below bo fM;have eN:Hid (ay (fun k=>lo<=k/\k<hi) w aE):=dL.o.below bo;have eZ:=af ((bo.block z (aZ.1 bQ.o).1).trans bQ.o);have gT:w4.heap.size<=aE.heap.size:=bo.size;have cD:=af ch;have gW:z<w4.heap.size:=(aZ.1 bQ.o).1;clear bR dv bh dL bQ bo;obtain⟨P,b5⟩:∃P,P=(dP 0 n).path 0 x:=⟨_,rfl⟩;rw[<-b5]at ch cD;have gC:P.length<=n+1:=by
  have J:=FT.oI (dP 0 n) 0 x;have aL:=vE 0 n n (vv (Es));rw[b5];omega
 have aH:=af b5;obtain⟨g1,g2,rfl⟩:=fH ch;clear ch b5
 go_wp2_with fail
 go_loopg [72] P.length (fun dk gi wr=>∃(j:Nat) (yy:List Nat) (nc:Nat->List Nat) (lc:Nat->List Int) (V:yF),gi=.int .i64 j/\j<=P.length/\P.length-j<=dk/\
  Hid (gM wr lo hi tb fb R (gone.set x true) m yy nc lc V)/\Hid (yy=if 0<j then dX YS x else YS)/\Hid (∀k,k<(aW R.length).length->nc k=nu n (l8 YS x (P.take j) k) k)/\Hid (∀l r s,FT.At (aW R.length) (.node l r) s->lc ((FT.node l r).root s)=xk n (l8 YS x (P.take j) ((FT.node l r).root s)) ((FT.node l r).root s))/\
  Hid (ay (fun k=>lo<=k/\k<hi) aE wr))
 case atStart=>
  refine⟨0,YS,_,_,V,rfl,aY _,aa,eT,rfl,?_,?_,ay.refl _ _⟩
  .intro k Z;rw[f.o,lL,DW]
  .intro l r s aq;rw[f.o,lL,DW]
 case round=>
  obtain⟨j,yy,nc,lc,V,rfl,gO,gQ,al,cE,cC,bO,bf⟩:=hrel;by_cases a7:j<P.length
  .have T:0<n:=aa;obtain⟨cm,fE,fx⟩:=bJ 0 n T;obtain⟨k,Z⟩:∃k,k=P[j]:=⟨_,rfl⟩;have eo:k∈(dP 0 n).path 0 x:=by rw[<-aH.o,Z];exact bF _
   obtain⟨⟨t,s⟩,de,bw,cq,cp⟩:=FT.ng (dP 0 n) 0 x cm aa aa k eo;simp only at bw cq cp;have cR:=jU n T;rw[fK T]at cR;have aq:FT.At (aW n) t s:=by rw[fK T];exact FT.kR _ 0 cR _ de
   have ey:t.wf:=FT.qz _ 0 cm _ de;have c2:k<(aW n).length:=bw▸aq.lt;have cg:P.Pairwise (·>·):=by rw[aH.o];exact FT.tK _ 0 x cm aa aa
   have c3:k∉P.take j:=fun h=>by
    obtain⟨q,fJ,e⟩:=jk h;rw[xW]at e;rw[eQ]at fJ;have:=gU.1 cg q j aa a7 aa;omega
   have c9:(k=2*n-2)↔j=0:=by
    obtain⟨Q,aT⟩:=FT.sU (dP 0 n) 0 x;rw[lu T]at aT;have fg:P[0]'aa=2*n-2:=by
     have:P=(2*n-2)::Q:=by rw[aH.o,aT]
     simp only[this,nE]
    constructor
    .intro h;by_cases e:j=0
     .exact e
     .have:=gU.1 cg 0 j aa a7 aa;omega
    .intro h;subst h;rw[Z,fg]
   have cf:nc k=nl YS t:=by
    rw[cC.o k (by rw[<-f.o];exact c2),l8,aN c3,nu,<-bw,mF aq]
   obtain⟨L,ap⟩:∃L,L=nl YS t:=⟨_,rfl⟩;rw[<-ap]at cf;have b3:L.Nodup:=by rw[ap];exact lV _ X.o.nodup
   have df:x∈L:=by rw[ap];exact bG.2 ⟨e1.o,by simpa using⟨cq,cp⟩⟩
   obtain⟨i,C,ar⟩:=jk df;have gA:L.length<=20000:=by
    have J:L.length<=YS.length:=by rw[ap];exact gD _ _
    omega
   have eq:nl (dX YS x) t=L.eraseIdx i:=by
    subst ap;exact LV X.o.nodup C ar
   have B:Hid (FT.At (aW n) t s/\t.root s=k/\t.wf/\t.lo<=x/\x<t.hi/\L=nl YS t/\nc k=L/\L.Nodup/\nl (dX YS x) t=L.eraseIdx i/\k∉P.take j/\k=P[j]/\k<(aW n).length/\P.Pairwise (·>·)/\∃h:i<L.length,L[i]=x):=⟨aq,bw,ey,cq,cp,ap,cf,b3,eq,c3,Z,c2,cg,C,ar⟩;have cV:=al.o.blk;have cP:(aW R.length).length=(aW n).length:=by rw[f.o]
   obtain⟨gl,cl,bU,_,_⟩:=aU al.o.EO aa;have I:cK wr lo gl (aW R.length).length cl V.LN V.LL:=by have h:=al.o.EO;rw[bU]at h;exact h
   have E:=al.o.Gd k aa;rw[cf]at E;obtain⟨g,c,bT,_,_⟩:=aU E aa;rw[bT]at E;have fF:(aW n).length<=40000:=by rw[dh];omega
   obtain⟨am,b4⟩:∃am,am=(aW n).length:=⟨_,rfl⟩;have gP:k<am:=aa;have gB:am<=40000:=aa;have ge:wr.cell? (ag tb 5)=some (az gl am cl):=by simp[World.cell?,cV];rw[bU,b4,cP]
   have dl:wr.cell? (ag tb 3)=some (aj fb):=aF cV;have bD:wr.cell? ⟨gl,k*2,none⟩=some (.slice (some ⟨g,0,none⟩) L.length c):=(I.get aa).1.trans (congrArg some bT);have eb:wr.heap[z]? =some (.cells #[ae aw,ae ax,au F] 29 (0,0)):=bq bf.o eZ.o (fun h=>aa);have eB:wr.cell? (ag z 2)=some (au F):=aF eb;have cQ:=aR cD.o bf.o (fun g h aL=>by have:=(cD.o.lt g h).1;have:=aV.2.2.2.2;omega);obtain⟨gz,gw,cI,_,_⟩:=aU cQ aa;injection cI with cI fa fc;subst cI;have dn:=cQ.cellAt j aa;rw[iB,bZ a7,<-Z]at dn;simp only[fQ]at dn;have du:Hid (∀W,Below wr.heap.size wr W->aK 196 #[az g L.length c,au F] W (gm W (ae i))):=fun W cU=>by
    have fL:=ak E cU;obtain⟨gt,gu,D,-,-,eu⟩:=Rd.aD fL;injection D with D H d2;rw[<-D]at eu;have er:F=jJ R x:=by
     unfold jJ bS;have ac:x<R.length:=by rw[<-f.o];exact av
     rw[jc,bZ ac];simp[dS.o]
    have S:F∈L.map (jJ R):=by rw[er];exact dm.2 ⟨x,df,rfl⟩
    refine(Q5 (some (ag g 0)) (L.map (jJ R)) L.length c F W aA eu aa S).mono ?_;rintro e w' ⟨⟨a0,fp,fy,a6⟩,rfl⟩;rw[fO,er]at a6;have cX:a0<L.length:=aQ fy;have fj:∀y∈L,y<R.length:=fun y ba=>X.o.lt (by rw[ap]at ba;exact(bG.1 ba).1);have ez:L[a0]=x:=by
     have J:=fj _ (bF cX);have ac:x<R.length:=by rw[<-f.o];exact av
     unfold jJ bS at a6;rw[jc,jc,bZ J,bZ ac]at a6;simp only[gI]at a6;by_cases e:L[a0]=x
     .exact e
     .exfalso;have hid:=dx.1 X.o.ids;rcases Nat.lt_or_gt_of_ne e with h9|h9
      .exact gU.1 hid _ _ J ac h9 a6
      .exact gU.1 hid _ _ ac J h9 a6.symm
    have fz:a0=i:=by
     by_cases e:a0=i
     .exact e
     .exfalso;rcases Nat.lt_or_gt_of_ne e with h9|h9
      .exact gU.1 b3 a0 i cX C h9 (by rw[ez,ar])
      .exact gU.1 b3 i a0 C cX h9 (by rw[ez,ar])
    subst fz;exact⟨fp,aJ _ _⟩
   have dy:Hid (∀W,Below wr.heap.size wr W->aK 95 #[aj fb] W fun e w'=>e=.returned (ae ((2*n-2:Nat):Int))/\w'=W):=fun W cU=>by
    have ee:=al.o.iH.blk;have cW:=(cU.block fb (aZ.1 ee).1).trans ee;rw[<-f.o]at cW;exact jA fb n T aa W (aF cW) (aF cW)
   have K:=af (And.intro bU bT);have dR:Hid (am=(aW n).length/\(aW R.length).length=am):=⟨b4,by rw[cP,b4]⟩;clear aq bw de ey cq cp ap cf b3 eq c3 Z cg ar df cR eo cV I E eb cQ fa fc b4 cP c2 fF bU bT cm fE fx
   go_upto_region 13 with fail
   have di:=ah bD;have dj:=ah eB;have dB:Hid (∀p:aS wr,aK 196 #[az g L.length c,au F] p.W fun e w'=>e=.returned (ae i)/\Below p.W.heap.size p.W w'):=fun p=>du.o p.W p.h;refine bH aM aM ?_
   repeat(quiet_step ((go_at_call 196;exact dM (dB.o _))))
   refine jN ?_;intro w6 bx;have cT:Below wr.heap.size wr w6:=by obtain⟨p,rfl⟩:=bx;exact p.h
   have bN:=af cT;have fP:tb<wr.heap.size:=gX wr _ dl;have gc:=(cT.cell (p:=(ag tb 3)) fP).trans dl;clear bx di dj dB cT du dl ge bD eB dn;obtain⟨bB,cd⟩:∃bB,bB=decide (j=0):=⟨_,rfl⟩;have fU:((k:Int)==((2*n-2:Nat):Int))=bB:=by
    rw[cd,nH,yu,dH,<-c9];omega
   have fV:(k==2*n-2)=bB:=by
    rw[cd,nH,yu,dH,<-c9]
   have dN:=af cd;clear cd c9
   go_wp2_with fail
   refine(dy.o w6 bN.o).mono ?_;rintro e w' ⟨rfl,fd⟩;subst w'
   go_upto_if 95 with fail
   have a1:Hid (gM w6 lo hi tb fb R (gone.set x true) m yy nc lc V):=al.o.below bN.o al.o.fA.2.2.2.2;have gY:=bN.o.size;clear dy gc fU fV
   go_cut []from 73 to 175 (fun eE=>∃bb:Value,Hid (gM eE lo hi tb fb R (gone.set x true) m (dX YS x) nc lc {V with yv:=bb})/\Hid (ay (fun k=>lo<=k/\k<hi) w6 eE))
   case first=>
    cases bB with
    |false=>
     have cc:0<j:=by
      have h:=dN.o;by_cases e:j=0
      .simp[e]at h
      .omega
     have D:=cE.o;rw[aO cc]at D;have eI:Hid (gM w6 lo hi tb fb R (gone.set x true) m (dX YS x) nc lc {V with yv:=V.yv}):=by
      have h:=a1.o;rw[D]at h;exact h
     clear D;go_wp2;go_meet;exact⟨V.yv,eI.o,ay.refl _ _⟩
    |true=>
     have cc:j=0:=by
      have h:=dN.o;simpa using h.symm
     have D:=cE.o;rw[aN aa]at D;have cN:L=YS:=by
      obtain⟨f1,f2,f3,f4,f5,f6,f7,f8,f9,f10,f11,f12,f13,f14⟩:=B.o;have fC:k=2*n-2:=by
       obtain⟨Q,aT⟩:=FT.sU (dP 0 n) 0 x;rw[lu T]at aT;have fm:P=(2*n-2)::Q:=by rw[aH.o,aT]
       rw[f11];simp only[cc,fm,nE]
      obtain⟨ht,-⟩:=FT.At.unique f1 (jU n T) (by rw[f2,fC,lu T]);rw[f6,ht,f.o];exact X.o.top (by rw[<-f.o];exact T)
     have aX:=a1.o.ys;rw[D]at aX;obtain⟨Y,cF,bl,_,_⟩:=aU aX aa;rw[bl]at aX;have dg:(jo R YS).length=YS.length:=by simp[jo]
     have cb:i<YS.length:=by rw[<-cN];exact C
     have ek:YS[i]'cb=x:=by
      obtain⟨f1,f2,f3,f4,f5,f6,f7,f8,f9,f10,f11,f12,f13,f14,f15⟩:=B.o;subst cN;exact f15
     have ec:YS.eraseIdx i=dX YS x:=erase_filter X.o.nodup cb ek;have bM:=Jr (l:=jo R YS) (i:=i) (by rw[dg];exact aX) (by rw[dg];exact cb);rw[dg]at bM;have bM:=af bM;have ci:=a1.o.blk;have g3:w6.cell? (ag tb 6)=some (az Y YS.length cF):=by simp[World.cell?,ci];rw[bl]
     have fw:tb≠Y:=fun h=>bn aX ci ai Y rfl h;have dE:=af bl;have dY:=af ec;have eK:=af D;have gZ:tb<w6.heap.size:=(aZ.1 ci).1;have fu:lo<=Y/\Y<hi:=⟨(aX.lt Y rfl).1,a1.o.top V.yv aA Y (by rw[bl];rfl)⟩;clear aX ci cN ec D bl ek cc
     go_wp2_with (go_at_call 197;refine bM.o.mono ?_;rintro e eD ⟨rfl,bv,c0⟩;have dd:=bq c0 a1.o.blk fw;have g4:eD.cell? (ag tb 6)=some (az Y YS.length cF):=(by simp[World.cell?,dd];rw[dE.o]);have eF:eD.frozen? (ag tb 6)=false:=(aF dd);have eW:=af bv;have be:=af c0;clear bv c0 dd)
     go_meet;have bv:=eW.o;refine⟨az Y (YS.length-1) cF,?_,?_⟩
     .have h:=a1.o;rw[eK.o]at h;refine gM.UM h dE.o be.o (yy':=dX YS x) ?_;have H:(jo R YS).eraseIdx i=jo R (dX YS x):=by
       rw[<-dY.o];unfold jo;rw[om]
      have d2:(dX YS x).length=YS.length-1:=by rw[<-dY.o,Ap,aO cb]
      rw[H]at bv;rw[d2];exact bv
     .exact(be.o.mono (fun k h=>by subst h;exact fu)).set (a:=(ag tb 6)) _ (.inl ⟨aV.1,aV.2.1⟩)
   case rest=>
    obtain⟨bb,a2,be⟩:=hcut;have aP:k<(aW R.length).length:=by have:=dR.o;omega
    have E:=a2.o.Gd k aP;obtain⟨f1,f2,f3,f4,f5,f6,f7,f8,f9,f10,f11,f12,f13,f14,f15⟩:=B.o;rw[f7]at E;have E:wc.ownsRow lo 27 1 (V.LN k) L.length ((L.map (jJ R)).map (Value.int .u32)):=E;rw[K.o.2]at E;have I:cK wc lo gl (aW R.length).length cl V.LN V.LL:=by have h:=a2.o.EO;have h:World.ownsRow _ _ _ _ V.lv _ _:=h;rw[K.o.1]at h;exact h
    have bD:wc.cell? ⟨gl,k*2,none⟩=some (.slice (some ⟨g,0,none⟩) L.length c):=(I.get aP).1.trans (congrArg some K.o.2);have fr:gl≠g:=fun h=>bA I E ai gl rfl (by rw[h];rfl);have c5:(L.map (jJ R)).length=L.length:=aA;have bc:=Jp (l:=L.map (jJ R)) (i:=i) (by rw[c5];exact E) (by rw[c5];exact C);rw[c5]at bc;have bc:=af bc;have fq:lo<=g/\g<hi:=⟨(E.lt g rfl).1,(a2.o.oU k aP).1 g (by show(V.LN k).ownBlock=some g;rw[K.o.2];rfl)⟩;have ei:lo<=gl/\gl<hi:=⟨(I.lt gl rfl).1,a2.o.top V.lv aA gl (by rw[K.o.1];rfl)⟩;have ft:gl<wc.heap.size:=(I.lt gl rfl).2;have eH:=I.frozenAt (k*2);clear f1 f2 f3 f4 f5 f6 f7 f8 f9 f10 f11 f12 f13 f15 E I
    go_upto_region 17 with(go_at_call 198;refine bc.o.mono ?_;rintro e gn ⟨rfl,et,c1⟩;obtain⟨d1,d6⟩:=cz c1 ft fr;have gf:=(d1 (k*2)).trans bD;have gr:=(d6 (k*2)).trans eH;have dU:=af et;have cx:=af c1;clear et c1 d1 d6)
    obtain⟨A,b1⟩:∃A,A=gn.setCell (ag gl (k*2)) (az g (L.length-1) c):=⟨_,rfl⟩;have fi:(L.eraseIdx i).length=L.length-1:=by rw[Ap,aO C]
    have U:Hid (gM A lo hi tb fb R (gone.set x true) m (dX YS x) (nC nc k (L.eraseIdx i)) lc {V with yv:=bb,LN:=upd V.LN k (az g (L.length-1) c)}):=by
     rw[b1];refine gM.Tt a2.o aP K.o.2 K.o.1 cx.o (L':=L.eraseIdx i) ?_;have h:=dU.o;rw[om]at h;rw[fi];exact h
    have cy:Hid (ay (fun k=>lo<=k/\k<hi) aE A):=by
     rw[b1];exact((((bf.o.below bN.o).trans be.o).trans (cx.o.mono (fun k h=>by subst h;exact fq))).set (a:=(ag gl (k*2))) _ (.inl ei))
    rw[<-b1];clear b1 gf gr dU cx a2 be bD eH bc;have ex:=U.o.blk;have bs:=U.o.je;have bs:A.ownsRow lo 163 7 V.nv (aW R.length).length ((aW R.length).flatMap oN):=bs;obtain⟨ff,cn,cJ,_,_⟩:=aU bs aa;obtain⟨_,_,d3,-,-,c8⟩:=bW.aD jr ai bs;rw[cJ]at d3;injection d3 with d4 e6 e7;rw[<-d4,<-f.o]at c8;clear d4 e6 e7;have gd:A.cell? (ag tb 4)=some (az ff am cn):=by
     simp[World.cell?,ex];rw[cJ,<-dR.o.2]
    obtain⟨gK,n0,fW,fX,fY,fZ,f0,ga⟩:=mX c8 (by have h:=B.o.1.get;rw[B.o.2.1]at h;exact h);rw[kF]at n0;have d8:∀k',k'<(aW R.length).length->nC nc k (L.eraseIdx i) k'=nu n (l8 YS x (P.take (j+1)) k') k':=fun k' fB=>by
     obtain⟨f1,f2,f3,f4,f5,f6,f7,f8,f9,f10,f11,f12,f13,f14,f15⟩:=B.o;have S:k'∈P.take (j+1)↔k'∈P.take j\/k'=k:=by rw[ik a7,<-f11];simp
     by_cases e:k'=k
     .subst e;rw[jF,l8,aO (S.2 (.inr rfl)),nu,<-f2,mF f1,f9]
     .rw[xh e,cC.o k' fB];unfold l8;by_cases H:k'∈P.take j
      .rw[aO H,aO (S.2 (.inl H))]
      .rw[aN H,aN (fun h=>(S.1 h).elim H e)]
    have dF:=af d8;have d9:∀k',k'≠k->∀v,lc k'=xk n (l8 YS x (P.take j) k') k'->nC lc k v k'=xk n (l8 YS x (P.take (j+1)) k') k':=fun k' e v h=>by
     obtain⟨f1,f2,f3,f4,f5,f6,f7,f8,f9,f10,f11,f12,f13,f14,f15⟩:=B.o;have S:k'∈P.take (j+1)↔k'∈P.take j\/k'=k:=by rw[ik a7,<-f11];simp
     rw[xh e,h];unfold l8;by_cases H:k'∈P.take j
     .rw[aO H,aO (S.2 (.inl H))]
     .rw[aN H,aN (fun h=>(S.1 h).elim H e)]
    have dG:=af d9;clear d8 d9 c8 bs ex cJ fW fX fY fZ f0 ga;have eA:dX YS x=if 0<j+1 then dX YS x else YS:=by rw[aO aa]
    have dZ:=af eA;clear eA;cases ht:t with
    |leaf q=>
     rw[ht]at n0;simp only[FT.top]at n0;have aI:=af ht;clear ht;have en:nC lc k (lc k)=lc:=by
      funext k';unfold nC;split
      .rename_i e;rw[e]
      .rfl
     have eO:=af en;clear en;go_wp2
     go_roundg (P.length-(j+1))
     case measure=>omega
     case rel=>
      refine⟨j+1,dX YS x,_,lc,_,by go_num,aa,aB _,U,dZ.o,dF.o,?_,cy⟩;intro l r bE b8;have fG:(FT.node l r).root bE≠k:=fun e=>by
       have J:=B.o.1;rw[aI.o,f.o]at J;have:=(FT.At.unique b8 J (by rw[e,<-B.o.2.1,aI.o])).1;cases this
      have h9:=dG.o _ fG (lc k) (bO.o l r bE b8);rw[eO.o]at h9;exact h9
    |node l r=>
     rw[ht]at n0;simp only[FT.top]at n0;have aI:=af ht;clear ht;obtain⟨M,a3⟩:∃M,M=l.hi:=⟨_,rfl⟩;have bm:FT.At (aW R.length) (.node l r) s:=by rw[<-f.o,<-aI.o];exact B.o.1
     have a8:(FT.node l r).root s=k:=by rw[<-aI.o];exact B.o.2.1
     have cO:L=nl YS (.node l r):=by rw[<-aI.o];exact B.o.2.2.2.2.2.1
     have c4:lc k=lf M L:=by
      rw[<-a8,bO.o l r s bm,a8,l8,aN B.o.2.2.2.2.2.2.2.2.2.1];have h9:=Af (n:=n) (by rw[f.o];exact bm) YS;rw[a8]at h9;rw[h9,a3,<-cO]
     have O:A.ownsRow lo 3 1 (V.LL k) (lc k).length ((lc k).map (Value.int .i64)):=by have h9:=U.o.Bp l r s bm;rw[a8]at h9;exact h9
     rw[c4]at O;have ab:=rY M L;obtain⟨u,G,bi,_,_⟩:=aU O aa;rw[bi]at O;have ar:=B.o.2.2.2.2.2.2.2.2.2.2.2.2.2;have br:cK A lo gl (aW R.length).length cl (upd V.LN k (az g (L.length-1) c)) V.LL:=by have h:=U.o.EO;have h:World.ownsRow _ _ _ _ V.lv _ _:=h;rw[K.o.1]at h;exact h
     have bC:A.cell? ⟨gl,k*2+1,none⟩=some (.slice (some ⟨u,0,none⟩) (L.length+1) G):=by
      exact(br.get aP).2.trans (congrArg some (bi.trans (by rw[ab])))
     have cr:=O.cellAt (i+1) aa;have cs:=O.cellAt i aa;rw[iB,bZ (show i+1<(lf M L).length by omega)]at cr;rw[iB,bZ (show i<(lf M L).length by omega)]at cs;simp only[fQ]at cr cs;obtain⟨bI,cj⟩:∃bI,bI=(lf M L)[i+1]'aa:=⟨_,rfl⟩;obtain⟨bK,ck⟩:∃bK,bK=(lf M L)[i]'aa:=⟨_,rfl⟩;rw[<-cj]at cr;rw[<-ck]at cs;have fR:bI-bK=if x<M then 1 else 0:=by rw[cj,ck];exact QM C ar.2 _ _
     have g0:0<=bI/\bI<=20000/\0<=bK/\bK<=20000:=by
      have J:=OH (m:=M) (L:=L) (cj▸bF _);have aL:=OH (m:=M) (L:=L) (ck▸bF _);omega
     obtain⟨W,b7⟩:∃W,W=(if x<M then(1:Int)else 0):=⟨_,rfl⟩;rw[<-b7]at fR;have gE:0<=W/\W<=1:=by rw[b7];split<;>omega
     have eY:=af b7;have eR:=af c4;have bL:=Fh (l:=lf M L) (i:=i+1) (by rw[ab];rw[ab]at O;exact O) aa;rw[ab]at bL;have bL:=af bL;have fs:gl≠u:=fun h=>bA br O ai gl rfl (by rw[h];rfl);have ef:lo<=u/\u<hi:=⟨(O.lt u rfl).1,(U.o.oU k aP).2 u (by show(V.LL k).ownBlock=some u;rw[bi];rfl)⟩;have eh:gl<A.heap.size:=(br.lt gl rfl).2;have eG:=br.frozenAt (k*2+1);have dD:=af bi;have N:=af (And.intro bm a8);have eU:=af (And.intro a3 cO);have gL:i+1<L.length+1:=aa;clear O br cj ck b7 c4 bi bm a8 a3 cO ab ar
     go_upto_region 18 with fail
     go_quiet (fail)
     have gg:(A.drewN nq).cell? (ag gl (k*2+1))=some (az u (L.length+1) G):=bC;have dt:Hid (∀q,aK 199 #[az u (L.length+1) G,ae (i+1:Nat),ae (i+1+1:Nat)] (A.drewN q) fun e w'=>e=.returned (az u L.length G)/\w'.ownsRow lo 3 1 (az u L.length G) L.length (((lf M L).eraseIdx (i+1)).map (Value.int .i64))/\ay (fun k=>k=u) A w'):=fun q=>by
      have ab:=rY M L;have h9:=U.o.Bp l r s N.o.1;rw[N.o.2]at h9;have h9:A.ownsRow lo 3 1 (V.LL k) (lc k).length ((lc k).map (Value.int .i64)):=h9;rw[eR.o,dD.o,ab]at h9;have d7:=Fh (w:=A.drewN q) (l:=lf M L) (i:=i+1) (by rw[ab];exact h9) aa;rw[ab]at d7;refine d7.mono ?_;rintro e w' ⟨J,aL,fh⟩;exact⟨J,aL,((ay.refl (fun k=>k=u) A).below (Below.bu A.heap.size q)).trans fh⟩
     clear bL
     go_upto_region 20 with(go_at_call 199;refine(dt.o _).mono ?_;rintro e gj ⟨rfl,es,cZ⟩;obtain⟨d0,d5⟩:=cz cZ eh fs;have gb:=(d0 (k*2+1)).trans bC;have gq:=(d5 (k*2+1)).trans eG;have dT:=af es;have cw:=af cZ;clear es cZ d0 d5)
     have fk:∃h:i<L.length,L[i]=x:=B.o.2.2.2.2.2.2.2.2.2.2.2.2.2;obtain⟨cv,b0⟩:∃cv,cv=gj.setCell (ag gl (k*2+1)) (az u L.length G):=⟨_,rfl⟩;have fD:=tJ (m:=M) C;have eS:Hid (gM cv lo hi tb fb R (gone.set x true) m (dX YS x) (nC nc k (L.eraseIdx i)) (nC lc k (zP M L i (i+1))) {V with yv:=bb,LN:=upd V.LN k (az g (L.length-1) c),LL:=upd V.LL k (az u L.length G)}):=by
      rw[b0];refine gM.Tu U.o N.o.1 N.o.2 dD.o K.o.1 cw.o (L':=zP M L i (i+1)) ?_;rw[LW C,fD];exact dT.o
     have eM:Hid (ay (fun k=>lo<=k/\k<hi) aE cv):=by
      rw[b0];exact(cy.o.trans (cw.o.mono (fun k h=>by subst h;exact ef))).set (a:=(ag gl (k*2+1))) _ (.inl ei)
     rw[<-b0];clear b0 gb gq dT cw U cy bC gg cr cs eG dt gd n0 eh
     go_wp2_with fail
     go_loopg [14] L.length (fun dk gh wr=>∃d:Nat,gh=.int .i64 d/\i+1<=d/\d<=L.length/\L.length-d<=dk/\Hid (gM wr lo hi tb fb R (gone.set x true) m (dX YS x) (nC nc k (L.eraseIdx i)) (nC lc k (zP M L i d)) {V with yv:=bb,LN:=upd V.LN k (az g (L.length-1) c),LL:=upd V.LL k (az u L.length G)})/\Hid (ay (fun k=>lo<=k/\k<hi) aE wr))
     case atStart=>exact⟨i+1,rfl,aB _,aa,aa,eS,eM⟩
     case round=>
      obtain⟨d,rfl,gN,el,gR,bP,dO⟩:=hrel;have I:cK wr lo gl (aW R.length).length cl (upd V.LN k (az g (L.length-1) c)) (upd V.LL k (az u L.length G)):=by have h:=bP.o.EO;have h:World.ownsRow _ _ _ _ V.lv _ _:=h;rw[K.o.1]at h;exact h
      have bC:=(I.get aP).2;rw[upd_same]at bC;have ce:wr.ownsRow lo 3 1 (az u L.length G) L.length ((zP M L i d).map (Value.int .i64)):=by
       have h:=bP.o.Bp l r s N.o.1;rw[N.o.2,jF]at h;have h:wr.ownsRow lo 3 1 (upd V.LL k (az u L.length G) k) (zP M L i d).length ((zP M L i d).map (Value.int .i64)):=h;rw[upd_same,qA C el]at h;exact h
      clear I;by_cases cY:d<L.length
      .have dp:=ce.cellAt d aa;have g5:=ce.frozenAt d;have em:d<(zP M L i d).length:=by rw[qA C aa];exact cY
       rw[iB,bZ em]at dp;simp only[fQ]at dp;have ed:=Tx (m:=M) C cY;obtain⟨y,ba⟩:∃y,y=(zP M L i d)[d]'em:=⟨_,rfl⟩;rw[<-ba]at dp ed;have ev:(zP M L i d).set d (y-W)=zP M L i (d+1):=by
        rw[ba,eY.o];exact Og C fk.2 aa cY
       have gJ:0<=y/\y<=20000:=aa;have e0:Hid (gM (wr.setCell (ag u d) (.int .i64 (y-W))) lo hi tb fb R (gone.set x true) m (dX YS x) (nC nc k (L.eraseIdx i)) (nC lc k (zP M L i (d+1))) {V with yv:=bb,LN:=upd V.LN k (az g (L.length-1) c),LL:=upd V.LL k (az u L.length G)}):=by
        have h:=gM.Tv bP.o N.o.1 N.o.2 (c:=G) (g:=u) (by rw[jF,qA C el];exact upd_same _ _ _) (j:=d) (y-W);rw[jF,Mj,ev]at h;exact h
       have eP:Hid (ay (fun k=>lo<=k/\k<hi) aE (wr.setCell (ag u d) (.int .i64 (y-W)))):=dO.o.set (a:=(ag u d)) _ (.inl ef);clear ba ev ce ed;go_wp2
       go_roundg (L.length-(d+1))
       case measure=>omega
       case rel=>exact⟨d+1,by go_num,aa,aa,aB _,e0,eP⟩
      .obtain rfl:d=L.length:=aa;clear ce;go_wp2
       go_roundg (P.length-(j+1))
       case measure=>omega
       case rel=>
        refine⟨j+1,dX YS x,_,_,_,by go_num,aa,aB _,bP,dZ.o,dF.o,?_,dO⟩;intro l' eC bE b8;by_cases e:(FT.node l' eC).root bE=k
        .obtain⟨f1,f2,f3,f4,f5,f6,f7,f8,f9,f10,f11,f12,f13,f14⟩:=B.o;have S:k∈P.take (j+1):=by rw[ik a7,<-f11];simp
         have h9:=Af (n:=n) (by rw[f.o];exact N.o.1) (dX YS x);rw[N.o.2]at h9;rw[e,jF,Oe C,l8,aO S,h9,eU.o.1];rw[aI.o]at f9;rw[f9]
        .exact dG.o _ e _ (bO.o l' eC bE b8)
  .obtain rfl:j=P.length:=aa;have gH:=bf.o.size;go_wp2;go_ret;have D:=cE.o;have fl:0<P.length:=by
    rw[aH.o];obtain⟨Q,aT⟩:=FT.sU (dP 0 n) 0 x;rw[aT];simp
   rw[aO fl]at D;subst D;have aL:=al.o;rw[eV.o]at aL;refine⟨rfl,V,aL.toAt (fun k Z=>?_) (fun l r s aq=>?_),eN.o.trans bf.o⟩
   .rw[cC.o k Z,jL,<-f.o,aH.o];exact(BS av YS (by rw[f.o];exact Z)).1
   .rw[bO.o l r s aq,jL,<-f.o,aH.o];exact(BS av YS (by rw[f.o];exact aq.lt)).2
end
section
open Go.RowKit Go.Sort Go.Shelf Go.Lib Go.Maps
def iK (w:World) (lo hi tb n0:Nat) (l:List Pt):Prop:=
 ∃fb R gone YS V,jE w lo hi tb fb R gone YS V/\cB R gone YS/\sD R YS l/\R.length=n0/\n0<=20000
section
variable {w w':World} {lo hi tb n0:Nat} {l:List Pt}
theorem iK.kept {S:Nat->Prop} (h:iK w lo hi tb n0 l) (K:ay S w w') (hS:∀k,lo<=k->k<hi->¬S k):iK w' lo hi tb n0 l:=by
 have⟨fb,R,gone,YS,V,a,b⟩:=h;exact⟨fb,R,gone,YS,V,a.kept K hS,b⟩
theorem iK.below {B:Nat} (h:iK w lo hi tb n0 l) (d:Below B w w') (c:hi<=B):iK w' lo hi tb n0 l:=by
 have⟨fb,R,gone,YS,V,a,b⟩:=h;exact⟨fb,R,gone,YS,V,a.below d c,b⟩
theorem OJ (a:Option Addr) (c:Nat) (l:List Pt) (w:World) (j:bW dw 3 w a l) (m:l.length<=20000) (o:Il l) (hu:lF l=true):
  aK 35 #[.slice a l.length c] w fun e w'=>∃tb,e=.returned (.tuple #[aj tb,ae 0])/\iK w' w.heap.size w'.heap.size tb l.length l/\Below w.heap.size w w':=
 (Jt a c l w j m o hu).mono fun e w' ⟨tb,fb,V,h,f,g⟩=>by
  have b:(ids l).Nodup:=by unfold lF at hu;simpa using hu
  have n:=fT b;have hid:(ids (eX l)).Nodup:=((dQ l).map _).nodup_iff.2 b;have d:=qD n hid;have k:(eX l).length=l.length:=(dQ l).length_eq;refine⟨tb,h,⟨fb,_,_,_,V,f,d,zy b _ (fun i=>?_),k,aa⟩,g⟩;rw[d.live,rz];split<;>simp_all
theorem KH (h:iK w lo hi tb n0 l) (x1 x2 y1 y2 b:Int):
  aK 39 #[aj tb,.agg #[ae x1,ae x2,ae y1,ae y2,au b]] w fun e w'=>∃v,∃c:Nat,e=.returned (.tuple #[v,ae ((c+(hasB l x1 x2 y1 y2).length:Nat):Int)])/\c<=8*Lib.bitLen n0+1/\w'.ownsRow w.heap.size 27 1 v (hasB l x1 x2 y1 y2).length ((hasB l x1 x2 y1 y2).map (Value.int .u32))/\Below w.heap.size w w':=by
 have⟨fb,R,gone,YS,V,k,a,m,n,p⟩:=h;refine(Gv k a aa x1 x2 y1 y2 b).mono ?_;rintro e w' ⟨v,f,g,o⟩;have⟨i,j⟩:=Ji a m x1 x2 y1 y2;have d:(lN R YS x1 x2 y1 y2).1.length=(hasB l x1 x2 y1 y2).length:=by
  rw[j];unfold hasB;rw[jm];simp[ids]
 rw[i,d]at g;rw[d]at f;exact⟨v,_,f,n▸LX a aa x1 x2 y1 y2,g,o⟩
end
end
section
open Go.RowKit Go.ChangeShapes Go.WideShapes Go.Deep
theorem Q6 {α:Type} [Inhabited α] (n:Nat) (p:Nat->α->Prop) (h:∀i,i<n->∃x,p i x):∃l:List α,l.length=n/\∀i (h:i<l.length),p i l[i]:=by
 have a:∀i,∃x,i<n->p i x:=fun i=>by
  by_cases hi:i<n
  .obtain⟨x,c⟩:=h i hi;exact⟨x,fun _=>c⟩
  .exact⟨default,fun h=>absurd h hi⟩
 refine⟨(List.range n).map fun i=>Classical.choose (a i),aA,fun i hi=>?_⟩;have b:i<n:=aQ hi;simpa using Classical.choose_spec (a i) b
abbrev Bx:=Int×Int×Int×Int×Int
abbrev V8 (p:Bx):Value:=.agg #[ae p.1,ae p.2.1,ae p.2.2.1,ae p.2.2.2.1,au p.2.2.2.2]
abbrev Bx.wf (p:Bx):Prop:=(Lit.int .i64 p.1).wf=true/\(Lit.int .i64 p.2.1).wf=true/\(Lit.int .i64 p.2.2.1).wf=true/\(Lit.int .i64 p.2.2.2.1).wf=true/\(Lit.int .u32 p.2.2.2.2).wf=true
theorem Ty {α:Type} {cs:Array α} (h:cs.size=5):∃a b c d e,cs=#[a,b,c,d,e]:=by
 obtain⟨l⟩:=cs
 match l,h with
 |[a,b,c,d,e],_=>exact⟨a,b,c,d,e,rfl⟩
section
variable {H:Type} {enc:TypeId×Value->H} {P:Program} {w:World} {base:Nat} {spare:Nat->Bool} {held:Bool}
theorem GL {r:Reach} {j:Nat} {t:TypeId} {a:Array Field} {v:Value} {d:DataW H} {p:List MemPlace} (g:P.underlying t=some (.struct a)) (q:oneCellFields P a=true) (l:P.cellsOf t=a.size)
  (x:Value.okWide P w r j t v) (h:DataW.Trod enc P w base spare held t v d p):
  ∃cs:Array Value,v=.agg cs/\cs.size=a.size/\∃n,∀(i:Nat) (f:Field),a[i]? =some f->∃(u:Value) (y:DataW H×List MemPlace),cs[i]? =some u/\DataW.trod enc P w base spare held n f.type [u]=some y:=by
 obtain⟨cs,rfl,s⟩:=okWide_struct g x;obtain⟨fuel,c⟩:=h;obtain⟨xs,n,_,_,B,C,c⟩:=DataW.trod_struct g c;refine⟨cs,rfl,s.trans l,n,fun i f hi=>?_⟩;obtain⟨o,m⟩:=hone_of q i f hi;have A:i<a.size:=(aZ.1 hi).1;have b:=c i f hi;have e:i<cs.size:=aa;rw[o,m]at b;have k:((Value.agg cs).cells.toList.drop i).take 1=[cs[i]]:=by
  show(cs.toList.drop i).take 1=_;rw[lU (aQ e)];simp
 rw[k]at b;have z:xs[i]? =some (xs[i]'aa):=bZ aa;exact⟨cs[i],_,by simp[e],b.trans z⟩
end
theorem OL {H:Type} {enc:TypeId×Value->H} {w:World} {base:Nat} {spare:Nat->Bool} {held:Bool} {r:Reach} {h:Nat} {v:Value} {d:DataW H} {z:List MemPlace} (y:Value.okWide prog w r h 38 v) (hd:DataW.Trod enc prog w base spare held 38 v d z):
  ∃p:Bx,v=V8 p/\p.wf:=by
 obtain⟨cs,rfl,x,n,a⟩:=GL underlying38 aM aM y hd;obtain⟨i,j,k,l,m,rfl⟩:=Ty (x.trans rfl);obtain⟨u0,L,F,t0⟩:=a 0 _ rfl;obtain rfl:i=u0:=aQ F;obtain⟨A,b,_,o⟩:=mO underlying2 t0;simp at b;subst b;obtain⟨u1,y1,G,t1⟩:=a 1 _ rfl;obtain rfl:j=u1:=aQ G;obtain⟨B,c,_,q⟩:=mO underlying2 t1;simp at c;subst c;obtain⟨u2,y2,I,t2⟩:=a 2 _ rfl;obtain rfl:k=u2:=aQ I;obtain⟨C,e,_,s⟩:=mO underlying2 t2;simp at e;subst e;obtain⟨u3,M,J,t3⟩:=a 3 _ rfl;obtain rfl:l=u3:=aQ J;obtain⟨D,f,_,t⟩:=mO underlying2 t3;simp at f;subst f;obtain⟨u4,N,K,t4⟩:=a 4 _ rfl;obtain rfl:m=u4:=aQ K;obtain⟨E,g,_,u⟩:=mO underlying27 t4;simp at g;subst g;exact⟨(A,B,C,D,E),rfl,o,q,s,t,u⟩
end
section
open Go.RowKit
def KI (p:Bx):Obj:=.cells #[ae p.1,ae p.2.1,ae p.2.2.1,ae p.2.2.2.1,au p.2.2.2.2] 38 (0,0)
theorem eG {W:World} {b:Nat} {p:Bx} (h:W.heap[b]? =some (KI p)):W.cell? (ag b 0)=some (ae p.1)/\W.cell? (ag b 1)=some (ae p.2.1)/\W.cell? (ag b 2)=some (ae p.2.2.1)/\W.cell? (ag b 3)=some (ae p.2.2.2.1)/\W.cell? (ag b 4)=some (au p.2.2.2.2):=by simp[World.cell?,h,KI]
def yR (p:Pt):Obj:=.cells #[ae p.1,ae p.2.1,au p.2.2] 29 (0,0)
theorem gW {W:World} {b:Nat} {p:Pt} (h:W.heap[b]? =some (yR p)):W.cell? (ag b 0)=some (ae p.1)/\W.cell? (ag b 1)=some (ae p.2.1)/\W.cell? (ag b 2)=some (au p.2.2):=by simp[World.cell?,h,yR]
end
section
open Go.RowKit
attribute [local irreducible] wpQuiet
theorem OM:eH prog 22 29 3 24:=.mk' (z:=.agg #[ae 0,ae 0,au 0]) underlying22 aM rfl ai
end
section
open Go Go.RowKit
abbrev Fu:Int:=-9223372036854775808
abbrev KJ:Int:=9223372036854775807
def Tz (l:List Pt):Prop:=∀p∈l,(Lit.int .i64 p.1).wf=true/\(Lit.int .i64 p.2.1).wf=true/\(Lit.int .u32 p.2.2).wf=true
theorem UO {x:Int} (h:(Lit.int .i64 x).wf=true):Fu<=x/\x<=KJ:=by
 simp[Lit.wf,IntKind.min,IntKind.max,IntKind.signed,IntKind.bits]at h;exact h
def BU (l:List Pt) (f:Pt->Bool):List Int:=eu (ids (l.filter f))
theorem Jv {l:List Pt} {f g:Pt->Bool} (h:∀p∈l,f p=g p):BU l f=BU l g:=by
 unfold BU;rw[mJ h]
theorem OO:eu []=[]:=gV (jm [])
def UQ (n x:Int) (up:Bool):Bool:=if up then decide (x<=n)else decide (n<=x)
def yS (x y:Int) (wx wy:Bool) (p:Pt):Bool:=UQ p.1 x wx&&UQ p.2.1 y wy
def bx1 (x:Int) (up:Bool):Int:=if up then x else Fu
def DX (x:Int) (up:Bool):Int:=if up then KJ else x
theorem TA {p:Pt} (e:(Lit.int .i64 p.1).wf=true) (f:(Lit.int .i64 p.2.1).wf=true) (x y:Int) (c d:Bool):DN (bx1 x c) (DX x c) (bx1 y d) (DX y d) p=yS x y c d p:=by
 have a:=UO e;have b:=UO f;unfold Fu KJ at a b;cases c<;>cases d<;>simp only[DN,yS,UQ,bx1,DX,Fu,KJ,gG,jw,qV,<-Bool.decide_and]<;>refine mP.2 ?_<;>omega
theorem OP {l:List Pt} (c:Tz l) (x y:Int) (a b:Bool):hasB l (bx1 x a) (DX x a) (bx1 y b) (DX y b)=BU l (yS x y a b):=
 Jv fun p hp=>TA (c p hp).1 (c p hp).2.1 x y a b
end
section
open Go.RowKit Go.Maps
attribute [local irreducible] wpQuiet
theorem UR (x:Int) (a:Bool) (w:World):
  aK 173 #[ae x,.bool a] w fun e w'=>e=.returned (.tuple #[ae (bx1 x a),ae (DX x a)])/\w'=w:=by
 cases a
 all_goals
  go_enter func173,ntmps173;go_wp2;go_ret2;exact⟨rfl,rfl⟩
theorem Q7 (x y:Int) (a b:Bool) (d:Int) (c:d=(if a then 1 else 0)+(if b then 2 else 0)) (w:World):
  aK 107 #[ae x,ae y,.int .u8 d] w fun e w'=>e=.returned (.agg #[ae (bx1 x a),ae (DX x a),ae (bx1 y b),ae (DX y b),au 0])/\w'=(w.alloc (.cells #[ae (bx1 x a),ae (DX x a),ae (bx1 y b),ae (DX y b),au 0] 38)).alloc (.cells #[ae (bx1 x a),ae (DX x a),ae (bx1 y b),ae (DX y b),au 0] 38):=by
 have C:=af (fun x f w=>UR x f w);cases a<;>cases b<;>simp only[gG,jw,qV,Int.add_zero,Int.zero_add,Int.reduceAdd]at c<;>subst c
 all_goals
  go_enter func107,ntmps107
  go_wp2_with (go_at_call 173;refine(C.o _ _ _).mono ?_;rintro e w1 ⟨rfl,rfl⟩)
  (try simp only[Exit.inBlock,Exit.then])
  refine jM (results_cell_row rfl _ _ w.heap.size _ _ _ _ rfl (F4 _ _ _) underlying38 rfl aM) rfl ?_
  first
   |exact⟨rfl,rfl⟩
   |(simp only[show(bits .and .u8 0 1==1)=false by decide,show(bits .and .u8 0 2==2)=false by decide,show(bits .and .u8 1 1==1)=true by decide,show(bits .and .u8 1 2==2)=false by decide,show(bits .and .u8 2 1==1)=false by decide,show(bits .and .u8 2 2==2)=true by decide,show(bits .and .u8 3 1==1)=true by decide,show(bits .and .u8 3 2==2)=true by decide];exact⟨rfl,rfl⟩)
theorem TB (x y:Int) (a b:Bool) (c:Int) (g:c=(if a then 1 else 0)+(if b then 2 else 0)) (w:World):
  aK 107 #[ae x,ae y,.int .u8 c] w (gm w (.agg #[ae (bx1 x a),ae (DX x a),ae (bx1 y b),ae (DX y b),au 0])):=
 (Q7 x y a b c g w).mono fun e w' ⟨d,f⟩=>⟨d,by rw[f];exact((aJ _ _).alloc (aB _) _).alloc aA _⟩
theorem GM (w:World):
  aK 106 #[.pointer none] w fun e w'=>e=.returned (.bool true)/\w'=w:=by
 go_enter func106,ntmps106;go_wp2;go_ret;exact⟨rfl,rfl⟩
theorem Fv (cb:Nat) (tb:Nat) (w:World) (h:w.cell? (ag cb 0)=some (aj tb)):
  aK 106 #[aj cb] w fun e w'=>e=.returned (.bool false)/\w'=w:=by
 go_enter func106,ntmps106;go_wp2;go_ret;exact⟨rfl,rfl⟩
end
section
open Go.RowKit Go.Maps
attribute [local irreducible] wpQuiet
attribute [local go_sem] Oper.fw
theorem OQ:fV 107:=bY func107 aM rfl
theorem GN:fV 39:=bY func39 aM rfl
theorem Mk:fV 106:=bY func106 aM rfl
section
variable {w:World} {cb tb:Nat}
theorem Ml {R:World->Value->Value->World->Prop} (F:cb<w.heap.size) (n:w.cell? (ag cb 0)=some (aj tb)) (x y:Int) (a b:Bool) (f:Int) (h:f=(if a then 1 else 0)+(if b then 2 else 0))
  (C:∀W,Below w.heap.size w W->aK 39 #[aj tb,.agg #[ae (bx1 x a),ae (DX x a),ae (bx1 y b),ae (DX y b),au 0]] W fun e W'=>∃v c,e=.returned (.tuple #[v,c])/\Below W.heap.size W W'/\R W v c W'):
  aK 40 #[aj cb,ae x,ae y,.int .u8 f] w fun e w'=>∃v c,e=.returned (.tuple #[v,c])/\∃W,Below w.heap.size w W/\R W v c w':=by
 have q:=af (Fv cb tb w n);have r:=af (fun W=>TB x y a b f h W);have j:=af C;have d3:decide (3<f)=false:=by simp only[gY];cases a<;>cases b<;>simp at h<;>omega
 have H:decide (f>3)=false:=d3;have G:=af F;clear C h;generalize bx1 x a=z at*;generalize DX x a=A at*;generalize bx1 y b=B at*;generalize DX y b=D at*;go_enter func40,ntmps40
 go_wp2_with fail
 refine q.o.mono ?_;rintro e w1 ⟨rfl,rfl⟩
 go_wp2_with fail
 have E:∀p:aS w1,p.W.cell? (ag cb 0)=some (aj tb):=ah n;refine ax (fun W=>∃p:aS w1,W=p.W) [8,9,10,11,12] [(0,false),(1,false),(2,false),(3,true),(4,false),(5,false),(6,false)] ⟨⟨_,(aJ _ _).drew⟩,rfl⟩ 6 ?_;refine aH 7 rfl fun K g=>?_;refine bf OQ rfl _ _ rfl (vals:=#[ae x,ae y,.int .u8 f]) rfl (r.o _) ?_;rintro e w2 ⟨rfl,l⟩;have d:Below w1.heap.size w1 w2:=(aJ _ _).drew.trans l;refine⟨_,rfl,?_⟩;refine g _ _ (fun _ _=>⟨⟨_,d⟩,rfl⟩) ?_;clear g K;have s:=af (j.o w2 d);clear j l E;refine aH 8 rfl fun K g=>?_;refine bf GN rfl _ _ rfl (vals:=#[aj tb,.agg #[ae z,ae A,ae B,ae D,au 0]]) rfl s.o ?_;rintro e w3 ⟨v,c,rfl,m,k⟩;have i:=d.trans (m.mono d.size);have u:=af k;have t:=af d;clear k d m;refine⟨_,rfl,?_⟩;refine g _ _ (fun _ _=>⟨⟨_,i⟩,rfl⟩) ?_;clear g K;refine bz [(9,false),(10,false)] ⟨⟨_,i⟩,rfl⟩ rfl ?_;refine aI [11,12] ?_
 go_wp2_with fail
 go_ret2;exact⟨v,c,rfl,w2,t.o,u.o⟩
theorem Fw {w:World} (p:Option Addr) (hp:p=none\/∃cb tb,p=some (ag cb 0)/\w.cell? (ag cb 0)=some (aj tb)) (x y b:Int) (d:p=none\/3<b):
  aK 40 #[.pointer p,ae x,ae y,.int .u8 b] w fun e w'=>e=.returned (.tuple #[aL,ae 0])/\w'=w:=by
 rcases hp with rfl|⟨cb,tb,rfl,c⟩
 .have a:=af (GM w);go_enter func40,ntmps40
  go_wp2_with (go_at_call 106;refine a.o.mono ?_;rintro e w1 ⟨rfl,rfl⟩)
  go_ret2;exact⟨rfl,rfl⟩
 .have a:=af (Fv cb tb w c);have d3:decide (3<b)=true:=by rcases d with h|h;cases h;simpa using h
  go_enter func40,ntmps40
  go_wp2_with (go_at_call 106;refine a.o.mono ?_;rintro e w1 ⟨rfl,rfl⟩)
  go_ret2;exact⟨rfl,rfl⟩
end
section
variable {w:World} {cb tb:Nat}
theorem Q8 {R:World->Bool->World->Prop} (t:cb<w.heap.size) (s:w.cell? (ag cb 0)=some (aj tb)) (c d a:Int)
  (C:∀W,Below w.heap.size w W->aK 128 #[aj tb,iZ c d a] W fun e W'=>∃b,e=.returned (.bool b)/\R W b W'):
  aK 125 #[aj cb,iZ c d a] w fun e w'=>∃b,e=.returned (.bool b)/\∃W,Below w.heap.size w W/\R W b w':=by
 have j:=af C;clear C;go_enter func125,ntmps125
 go_wp2_with fail
 obtain⟨w1,g⟩:∃w1,w1=w.alloc (.cells #[ae c,ae d,au a] 29):=⟨_,rfl⟩;have h:w1.heap[w.heap.size]? =some (.cells #[ae c,ae d,au a] 29 (0,0)):=by rw[g];exact bV _ _
 have f:Below w.heap.size w w1:=by rw[g];exact(aJ _ _).alloc (aB _) _
 rw[<-g];clear g;have i:w1.cell? (ag cb 0)=some (aj tb):=(f.cell (p:=(ag cb 0)) t).trans s;have m:=af (Fv cb tb w1.drew i);have u:=ah i;have v:=ah (show w1.cell? (ag w.heap.size 0)=some (ae c) from aF h);have x:=ah (show w1.cell? (ag w.heap.size 1)=some (ae d) from aF h);have y:=ah (show w1.cell? (ag w.heap.size 2)=some (au a) from aF h);have n:=af (j.o w1.drew f.drew);have q:=af (show Below w.heap.size w w1.drew from f.drew);clear j h f i;refine ax (fun W=>∃p:aS w1,W=p.W) [9,10,11] [(0,false)] ⟨⟨_,(aJ _ _).drew⟩,rfl⟩ 11 ?_;refine aH 1 rfl fun K k=>?_;refine bf Mk rfl _ _ rfl (vals:=#[aj cb]) rfl m.o ?_;rintro e w2 ⟨rfl,rfl⟩;refine⟨_,rfl,?_⟩;refine k _ _ (fun _ _=>⟨⟨_,(aJ _ _).drew⟩,rfl⟩) ?_;clear k K;refine bz [(2,false),(3,false),(4,false),(5,false),(6,false),(7,true),(8,true)] ⟨⟨_,(aJ _ _).drew⟩,rfl⟩ rfl ?_;refine aI [9,10,11] ?_
 go_wp2_with fail
 refine n.o.mono ?_;rintro e w3 ⟨b,rfl,l⟩;have r:=af l;clear l
 go_wp2_with fail
 go_ret;exact⟨b,rfl,_,q.o,r.o⟩
theorem OT {a:Option Addr} {n c:Nat} {R:Nat->World->Prop} (C:aK 35 #[.slice a n c] w fun e W'=>∃tb,e=.returned (.tuple #[aj tb,ae 0])/\Below w.heap.size w W'/\R tb W'):
  aK 36 #[.slice a n c] w fun e w'=>∃tb W,e=.returned (.tuple #[aj W.heap.size,ae 0])/\R tb W/\Below w.heap.size w W/\w'=W.alloc (.cells #[aj tb] 153):=by
 have d:=af C;go_enter func36,ntmps36
 go_wp2_with (go_at_call 35;refine d.o.mono ?_;rintro e w1 ⟨tb,rfl,g,b⟩;have f:=af b;clear b)
 go_ret2;exact⟨tb,w1,rfl,f.o,g,rfl⟩
end
end
section
open Go.RowKit Go.Sort Go.Shelf Go.Lib Go.Maps
def uA (w:World) (lo hi cb n0:Nat) (l:List Pt):Prop:=
 ∃tb h2,iK w lo h2 tb n0 l/\h2<=cb/\cb<hi/\hi<=w.heap.size/\w.heap[cb]? =some (.cells #[aj tb] 153 (0,0))
section
variable {w w':World} {lo hi cb n0:Nat} {l:List Pt}
theorem iK.Fx {w:World} {lo hi tb n0:Nat} {l:List Pt} (h:iK w lo hi tb n0 l):l.length<=n0/\n0<=20000:=by
 have⟨fb,R,gone,YS,V,c,a,b,d,e⟩:=h;have:=a.QN;have:=b.len a;omega
theorem iK.lo_le {w:World} {lo hi tb n0:Nat} {l:List Pt} (h:iK w lo hi tb n0 l):lo<=hi:=by
 have⟨fb,R,gone,YS,V,a,b⟩:=h;have:=a.fA;omega
theorem uA.kept {S:Nat->Prop} (h:uA w lo hi cb n0 l) (K:ay S w w') (hS:∀k,lo<=k->k<hi->¬S k):uA w' lo hi cb n0 l:=by
 have⟨tb,c,b,d,a,e,f⟩:=h;have:=b.lo_le;exact⟨tb,c,b.kept K (fun k g i=>hS k g aa),d,a,bB e K.size,(K.block cb aa (hS cb aa a)).trans f⟩
theorem BV {w:World} {cb tb:Nat} (h:w.heap[cb]? =some (.cells #[aj tb] 153 (0,0))):w.cell? (ag cb 0)=some (aj tb):=aF h
theorem Q9 (a:Option Addr) (c:Nat) (l:List Pt) (w:World) (h:bW dw 3 w a l) (i:l.length<=20000) (j:Il l) (hu:lF l=true):
  aK 36 #[.slice a l.length c] w fun e w'=>∃cb,e=.returned (.tuple #[aj cb,ae 0])/\uA w' w.heap.size w'.heap.size cb l.length l/\Below w.heap.size w w':=by
 refine(OT (R:=fun tb W=>iK W w.heap.size W.heap.size tb l.length l) ((OJ a c l w h i j hu).mono fun e w1 ⟨tb,g,d,b⟩=>⟨tb,g,b,d⟩)).mono ?_;rintro e w' ⟨tb,W,rfl,d,b,rfl⟩;have f:Below W.heap.size W (W.alloc (.cells #[aj tb] 153)):=(aJ _ _).alloc (aB _) _;exact⟨_,rfl,⟨tb,W.heap.size,d.below f (aB _),aB _,aA,aB _,bV _ _⟩,b.trans (f.mono b.size)⟩
theorem OU (h:uA w lo hi cb n0 l) (n:Tz l) (x y:Int) (a b:Bool) (j:Int) (o:j=(if a then 1 else 0)+(if b then 2 else 0)):
  aK 40 #[aj cb,ae x,ae y,.int .u8 j] w fun e w'=>∃v,∃c:Nat,e=.returned (.tuple #[v,ae ((c+(BU l (yS x y a b)).length:Nat):Int)])/\c<=8*Lib.bitLen n0+1/\w'.ownsRow w.heap.size 27 1 v (BU l (yS x y a b)).length ((BU l (yS x y a b)).map (Value.int .u32))/\Below w.heap.size w w':=by
 have⟨tb,p,m,r,s,t,k⟩:=h;refine(Ml (R:=fun W v q w'=>∃c:Nat,q=.int .i64 ((c+(BU l (yS x y a b)).length:Nat):Int)/\c<=8*Lib.bitLen n0+1/\w'.ownsRow W.heap.size 27 1 v (BU l (yS x y a b)).length ((BU l (yS x y a b)).map (Value.int .u32))/\Below W.heap.size W w') aa (BV k) x y a b j o ?_).mono ?_
 .intro W d;refine(KH (m.below d aa) (bx1 x a) (DX x a) (bx1 y b) (DX y b) 0).mono ?_;rintro e w' ⟨v,c,rfl,g,i,f⟩;rw[OP n]at*;exact⟨v,_,rfl,f,c,rfl,g,i,f⟩
 .rintro e w' ⟨v,q,rfl,W,d,c,rfl,g,i,f⟩;exact⟨v,c,rfl,g,bI i d.size,d.trans (f.mono d.size)⟩
theorem GQ (h:uA w lo hi cb n0 l) (x y a:Int) (c:3<a):
  aK 40 #[aj cb,ae x,ae y,.int .u8 a] w fun e w'=>e=.returned (.tuple #[aL,ae 0])/\w'=w:=by
 have⟨tb,d,j,f,g,i,b⟩:=h;exact Fw _ (.inr ⟨cb,tb,rfl,BV b⟩) x y a (.inr c)
end
end
end Go.Proofs.YtkjdbndekceffaaGreat
namespace Go.Proofs
open Go.Shelf
def Tryz.Fy:Go.Shelf.Ren:=⟨fun|6=>98|15=>86|14=>167|28=>160|29=>161|20=>242|21=>243|22=>244|23=>245|24=>246|25=>247|26=>248|27=>249|46=>296|47=>286|48=>287|49=>297|50=>298|57=>322|n=>n,fun|22=>148|24=>3|25=>157|3=>3|39=>135|0=>0|53=>27|55=>229|4=>4|46=>308|45=>307|50=>30|5=>5|9=>9|66=>364|70=>368|76=>391|77=>60|n=>n,fun|n=>n⟩
theorem Tryz.GR:Go.Proofs.SlLaysF.n6 Tryz.prog Tryz.Fy:={
 mixed:=aM
 f6:=gz Tryz.func98
 f14:=gz Tryz.func167
 f15:=Tryz.func86.trans (congrArg some aM)
 f20:=gz Tryz.func242
 f21:=gz Tryz.func243
 f22:=gz Tryz.func244
 f23:=gz Tryz.func245
 f24:=gz Tryz.func246
 f25:=gz Tryz.func247
 f26:=gz Tryz.func248
 f27:=gz Tryz.func249
 f28:=Tryz.func160.trans (congrArg some aM)
 f29:=Tryz.func161.trans (congrArg some aM)
 f46:=gz Tryz.func296
 f47:=Tryz.func286.trans (congrArg some aM)
 f48:=Tryz.func287.trans (congrArg some aM)
 f49:=gz Tryz.func297
 f50:=gz Tryz.func298
 f57:=gz Tryz.func322
 t0:=uS
 a0:=vB
 z0:=vg
 v0:=uV
 t3:=rF
 a3:=nZ
 z3:=nX
 v3:=rH
 t4:=pJ
 a4:=rT
 z4:=rQ
 v4:=rJ
 t5:=Tryz.underlying5
 a5:=Tryz.isAgg5
 z5:=Tryz.sizeOf5
 v5:=Tryz.zeroValue5
 t9:=Tryz.underlying9
 a9:=Tryz.isAgg9
 z9:=Tryz.sizeOf9
 v9:=Tryz.zeroValue9
 t22:=Tryz.underlying148
 a22:=Tryz.isAgg148
 z22:=Tryz.sizeOf148
 v22:=Tryz.zeroValue148
 a24:=nZ
 z24:=nX
 t25:=Tryz.underlying157
 a25:=Tryz.isAgg157
 z25:=Tryz.sizeOf157
 v25:=Tryz.zeroValue157
 t39:=Aw
 a39:=Tryz.isAgg135
 z39:=A9
 v39:=AL
 t45:=Tryz.underlying307
 a45:=Tryz.isAgg307
 z45:=Tryz.sizeOf307
 v45:=Tryz.zeroValue307
 t46:=Tryz.underlying308
 a46:=Tryz.isAgg308
 z46:=Tryz.sizeOf308
 v46:=Tryz.zeroValue308
 t50:=Tryz.underlying30
 a50:=Tryz.isAgg30
 z50:=Tryz.sizeOf30
 v50:=Tryz.zeroValue30
 t53:=AO
 a53:=yf
 z53:=x9
 v53:=AV
 t55:=Ay
 a55:=Tryz.isAgg229
 z55:=Ba
 v55:=AP
 t66:=Tryz.underlying364
 a66:=Tryz.isAgg364
 z66:=Tryz.sizeOf364
 v66:=Tryz.zeroValue364
 t70:=Tryz.underlying368
 a70:=Tryz.isAgg368
 z70:=Tryz.sizeOf368
 v70:=Tryz.zeroValue368
 t76:=Tryz.underlying391
 a76:=Tryz.isAgg391
 z76:=Tryz.sizeOf391
 v76:=Tryz.zeroValue391
 t77:=Tryz.underlying60
 a77:=Tryz.isAgg60
 z77:=Tryz.sizeOf60
 v77:=Tryz.zeroValue60}
end Go.Proofs
