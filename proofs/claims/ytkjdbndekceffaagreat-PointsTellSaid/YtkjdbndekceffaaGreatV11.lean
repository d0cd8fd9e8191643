/- Made small by a program. -/
import Derived.Test.YtkjdbndekceffaaGreatV09
import Derived.Test.YtkjdbndekceffaaGreatV10
set_option linter.unusedSimpArgs false
set_option linter.unusedVariables false
set_option maxRecDepth 100000
set_option maxHeartbeats 16000000
namespace Go.Proofs.YtkjdbndekceffaaGreat
open Tryz
section
open Go.RowKit Go.Maps
attribute [local irreducible] wpQuiet
def Xc (l:List Pt) (p:Pt) (w:World) (e:Ending) (w':World):Prop:=
 ∃k:Nat,e=.returned (.tuple #[ae k,.bool (decide (∃h:k<l.length,iW l[k] p=0))])/\k<=l.length/\(∀t (h:t<l.length),t<k->iW l[t] p<0)/\(∀t (h:t<l.length),k<=t->¬iW l[t] p<0)/\Below w.heap.size w w'
theorem Xd (a:Option Addr) (l:List Pt) (n ao:Nat) (p:Pt) (W:World) (au:l.length=n) (aC:n<=1000000) (ab:bV bX 3 W a l) (ac:l.Pairwise kY):
  aK 191 #[.slice a n ao,jb p.1 p.2.1 p.2.2,.func (.func 94) #[] #[]] W (Xc l p W):=by
 subst au;obtain⟨d,f,c⟩:=p;have X:=af ab;have am:=af ac;have V:=af (fun(q:Pt) W=>(Uw q (d,f,c) W).mono (fun e w' (h:e=.returned (ae (iW q (d,f,c)))/\yF W w')=>(⟨h.1,h.2.below (aA _)⟩:e=.returned (ae (iW q (d,f,c)))/\Below W.heap.size W w')));have ai:Hid (∀t i (Y:t<l.length) (g:i<l.length),t<=i->iW l[i] (d,f,c)<0->iW l[t] (d,f,c)<0):=fun t i Y g L M=>by
  by_cases e:t=i
  .subst e;exact M
  .have ap:=gH.1 am.o t i Y g aa;rw[qX]at M |-;exact pK ap M
 clear ab ac;go_enter func191,ntmps191
 go_wp2_with fail
 have Z:Below W.heap.size W (W.alloc (.cells #[ae d,ae f,ak c] 29)):=(aJ _ _).alloc (aA _) _;have an:Hid ((W.alloc (.cells #[ae d,ae f,ak c] 29)).heap[W.heap.size]? =some (.cells #[ae d,ae f,ak c] 29 (0,0))):=bY W _;have av:W.heap.size<(W.alloc (.cells #[ae d,ae f,ak c] 29)).heap.size:=ax;generalize(W.alloc (.cells #[ae d,ae f,ak c] 29))=J at*;have U:=af Z;clear Z
 go_loopw [9,10] (fun O P wr=>∃i j:Nat,O=.int .i64 i/\P=.int .i64 j/\i<=j/\j<=l.length/\Hid (∀t (h:t<l.length),t<i->iW l[t] (d,f,c)<0)/\Hid (∀t (h:t<l.length),j<=t->¬iW l[t] (d,f,c)<0)/\Hid (Below J.heap.size J wr))
  (fun O P _=>(intOf P).toNat-(intOf O).toNat)
 case atStart=>exact⟨0,l.length,rfl,rfl,aT _,aA _,fun t h g=>absurd g (kz _),fun t h g=>absurd h aa,aJ _ _⟩
 case round=>
  obtain⟨i,j,rfl,rfl,aB,aq,K,T,F⟩:=hrel;have A:Below W.heap.size W wr:=U.o.trans (F.o.mono U.o.size);have D:=(F.o.block _ av).trans an.o;have Q:=ah (w:=wr) (ad:=(ag W.heap.size 0)) (v:=.int .i64 d) (aI D);have R:=ah (w:=wr) (ad:=(ag W.heap.size 1)) (v:=.int .i64 f) (aI D);have S:=ah (w:=wr) (ad:=(ag W.heap.size 2)) (v:=.int .u32 c) (aI D);by_cases aD:i<j
  .obtain⟨m,ar⟩:∃m,m=(i+j)/2:=⟨_,rfl⟩;have aE:((i:Int)+(j:Int))/2=(m:Int):=aa;have C:m<l.length:=aa;have aF:i<=m/\m<j:=aa;clear ar;obtain⟨b,off,y,N,u⟩:=(X.o.below A).get aa;have r:=u (m) C 0 aa;have x1:=u (m) C 1 aa;have x2:=u (m) C 2 aa;simp only[bX,eG,eQ,df]at r x1 x2;have r:=ah r;have x1:=ah x1;have x2:=ah x2;have I:Hid (iW l[m] (d,f,c)<0->∀t (h:t<l.length),t<m+1->iW l[t] (d,f,c)<0):=fun h t ht g=>ai.o t _ ht C aa h;have H:Hid (¬iW l[m] (d,f,c)<0->∀t (h:t<l.length),m<=t->¬iW l[t] (d,f,c)<0):=fun h t ht g L=>h (ai.o _ t C ht g L);have s:Hid (∀p:aR wr,aK 94 #[jb l[m].1 l[m].2.1 l[m].2.2,jb d f c] p.W fun e w'=>e=.returned (ae (iW l[m] (d,f,c)))/\Below p.W.heap.size p.W w'):=fun p=>V.o l[m] p.W;have x:=af y;obtain⟨o,k⟩:∃o,o=iW l[m] (d,f,c):=⟨_,rfl⟩;rw[<-k]at I H s;clear u y k D;generalize l[m]=q at*;obtain⟨ay,az,aw⟩:=q;simp only at r x1 x2 s;obtain rfl:=x.o;clear x
   go_upto_region 5 with fail
   refine bG aL aL ?_
   repeat(quiet_step ((go_at_call 94;exact dH (s.o _))))
   refine jS ?_;intro w2 E;have z:Below wr.heap.size wr w2:=by obtain⟨p,rfl⟩:=E;exact p.h
   have G:Hid (Below J.heap.size J w2):=F.o.trans (z.mono F.o.size);clear E Q R S r x1 x2 z s;by_cases k:o<0
   .have al:=af (I.o k);have d1:decide (o<0)=true:=aQ k;clear I H;go_wp2;go_roundw
    case rel=>exact⟨m+1,j,by go_num,rfl,aa,aq,al,T,G⟩
    case measure=>exact bZ
   .have aj:=af (H.o k);have d1:decide (o<0)=false:=aQ k;clear I H;go_wp2;go_roundw
    case rel=>exact⟨i,m,rfl,rfl,aa,aa,K,aj,G⟩
    case measure=>exact bZ
  .obtain rfl:i=j:=aa;by_cases B:i<l.length
   .obtain⟨b,off,y,N,u⟩:=(X.o.below A).get aa;have r:=u i B 0 aa;have x1:=u i B 1 aa;have x2:=u i B 2 aa;simp only[bX,eG,eQ,df]at r x1 x2;have r:=ah r;have x1:=ah x1;have x2:=ah x2;have s:Hid (∀p:aR wr,aK 94 #[jb l[i].1 l[i].2.1 l[i].2.2,jb d f c] p.W fun e w'=>e=.returned (ae (iW l[i] (d,f,c)))/\Below p.W.heap.size p.W w'):=fun p=>V.o l[i] p.W;have x:=af y;obtain⟨o,k⟩:∃o,o=iW l[i] (d,f,c):=⟨_,rfl⟩;have HO:Hid (decide (∃h:i<l.length,iW l[i] (d,f,c)=0)=(o==0)):=by
     show _=_;rw[k,nD];simp[B]
    rw[<-k]at s;have hd:decide (i<l.length)=true:=aQ B;clear u y k D;generalize l[i]=q at*;obtain⟨ay,az,aw⟩:=q;simp only at r x1 x2 s;obtain rfl:=x.o;clear x
    go_upto_region 8 with fail
    refine bG aL aL ?_
    repeat(quiet_step ((go_at_call 94;exact dH (s.o _))))
    refine jS ?_;intro w2 E;have z:Below wr.heap.size wr w2:=by obtain⟨p,rfl⟩:=E;exact p.h
    have G:Hid (Below W.heap.size W w2):=A.trans (z.mono A.size);clear E Q R S r x1 x2 z s;go_wp2;go_ret2;exact⟨i,by rw[HO.o];rfl,aa,K.o,(fun t h g L=>absurd (T.o t h g) aa),G.o⟩
   .obtain rfl:i=l.length:=aa;have N:=af A;clear Q R S
    go_upto_region 8 with fail
    go_quiet (fail)
    go_wp2;go_ret2;exact⟨l.length,ax,aA _,K.o,fun t h g=>absurd h aa,N.o.trans (Below.aX _ _)⟩
end
section
open Go.RowKit Go.Sort Go.Shelf Go.Lib Go.Maps
theorem Gn {α:Type} [Inhabited α] {enc:α->Value} {w:World} {base g d:Nat} {e:TypeId} {l:List α} {i:Nat} {zr:α} (h:w.ownsRow base e 1 (aC g l.length d) l.length (l.map enc)) (hi:i<l.length) (q:Nat):
  (putRow enc (Sort.ahead w q) g 0 (l.toArray.toList.take i++l.toArray.toList.drop (i+1)++List.replicate (i+1-i) zr).toArray).ownsRow base e 1 (aC g (l.length-1) d) (l.length-1) ((l.eraseIdx i).map enc)/\
  aB (fun k=>k=g) w (putRow enc (Sort.ahead w q) g 0 (l.toArray.toList.take i++l.toArray.toList.drop (i+1)++List.replicate (i+1-i) zr).toArray):=by
 rcases h.2 with⟨b,B⟩|⟨A,v,x,b,r,s,C,t,E,ht⟩
 .cases b
 .injection b with a z n;injection a with a;injection a with a _ _;subst a n;have j:(l.take i++l.drop (i+1)++[zr]).length=l.length:=aH;obtain⟨y,-,-,-,c⟩:=tH (l:=l) (l':=l.take i++l.drop (i+1)++[zr]) r s aa t aa j q #[];rw[Sort.grow_empty]at c;have p:(l.toArray.toList.take i++l.toArray.toList.drop (i+1)++List.replicate (i+1-i) zr)=l.take i++l.drop (i+1)++[zr]:=by
   rw[show i+1-i=1 by omega];simp
  rw[p];constructor
  .rw[j]at c;have f:=mK (m:=l.length-1) c aa;have o:((l.take i++l.drop (i+1)++[zr]).map enc).take ((l.length-1)*1)=(l.eraseIdx i).map enc:=by
    rw[ji,<-List.map_take,yH aH,jc aH,yG]
   rw[o]at f;exact f
  .refine⟨rfl,rfl,rfl,?_,fun k D u=>?_⟩
   .show w.heap.size<=(w.heap.modify g _).size;simp
   .show(w.heap.modify g _)[k]? =_;rw[yN,aN (jk u)]
theorem Kq {w:World} {base g b:Nat} {l:List Int} {i:Nat} (h:w.ownsRow base 27 1 (aC g l.length b) l.length (l.map (Value.int .u32))) (hi:i<l.length):
  aK 198 #[aC g l.length b,ae i,ae (i+1:Nat)] w fun e w'=>e=.returned (aC g (l.length-1) b)/\w'.ownsRow base 27 1 (aC g (l.length-1) b) (l.length-1) ((l.eraseIdx i).map (Value.int .u32))/\aB (fun k=>k=g) w w':=by
 obtain⟨j,B,D⟩:∃j,Tryz.prog.info? 27=some j/\j.size=1:=by
  have a:(Tryz.prog.info? 27).map (fun i=>i.size)=some 1:=aL;cases p:Tryz.prog.info? 27 with
  |none=>rw[p]at a;cases a
  |some i=>rw[p]at a;injection a with a;exact⟨i,rfl,a⟩
 have n:l.length<=b/\b<=9223372036854775807:=by
  rcases h.2 with⟨c,v⟩|⟨u,r,s,c,A,a,f,o,C,ht⟩
  .cases c
  .injection c with d t m;subst m;unfold maxLen at o;omega
 have z:Holds (Value.int .u32) w g 0 l.toArray:=by
  rcases h.2 with⟨c,v⟩|⟨u,r,s,c,A,a,f,o,C,ht⟩
  .cases c
  .injection c with d t m;injection d with d;injection d with d _ _;subst d;rw[ji]at ht;exact holds_of_block a ht
 have f:=AnyE.slices_Delete Tryz.Kq (Value.int .u32) (fun _=>rfl) 0 (fun w=>zeroValue27 w) j B D g 0 b i (i+1) l.toArray w z (aQ n.1) n.2 aa aH;change aK 198 _ _ _ at f;rw[show l.toArray.size=l.length by simp]at f;refine f.mono ?_;rintro e w' ⟨rfl,q,rfl⟩;have⟨x,y⟩:=Gn (zr:=(0:Int)) h hi q;exact⟨by rw[show i+1-i=1 by omega],x,y⟩
theorem Kt {w:World} {base g b:Nat} {l:List Int} {i:Nat} (h:w.ownsRow base 2 1 (aC g l.length b) l.length (l.map (Value.int .i64))) (hi:i<l.length):
  aK 197 #[aC g l.length b,ae i,ae (i+1:Nat)] w fun e w'=>e=.returned (aC g (l.length-1) b)/\w'.ownsRow base 2 1 (aC g (l.length-1) b) (l.length-1) ((l.eraseIdx i).map (Value.int .i64))/\aB (fun k=>k=g) w w':=by
 obtain⟨j,B,D⟩:∃j,Tryz.prog.info? 2=some j/\j.size=1:=by
  have a:(Tryz.prog.info? 2).map (fun i=>i.size)=some 1:=aL;cases p:Tryz.prog.info? 2 with
  |none=>rw[p]at a;cases a
  |some i=>rw[p]at a;injection a with a;exact⟨i,rfl,a⟩
 have n:l.length<=b/\b<=9223372036854775807:=by
  rcases h.2 with⟨c,v⟩|⟨u,r,s,c,A,a,f,o,C,ht⟩
  .cases c
  .injection c with d t m;subst m;unfold maxLen at o;omega
 have z:Holds (Value.int .i64) w g 0 l.toArray:=by
  rcases h.2 with⟨c,v⟩|⟨u,r,s,c,A,a,f,o,C,ht⟩
  .cases c
  .injection c with d t m;injection d with d;injection d with d _ _;subst d;rw[ji]at ht;exact holds_of_block a ht
 have f:=AnyE.slices_Delete Tryz.Kt (Value.int .i64) (fun _=>rfl) 0 (fun w=>zeroValue2 w) j B D g 0 b i (i+1) l.toArray w z (aQ n.1) n.2 aa aH;change aK 197 _ _ _ at f;rw[show l.toArray.size=l.length by simp]at f;refine f.mono ?_;rintro e w' ⟨rfl,q,rfl⟩;have⟨x,y⟩:=Gn (zr:=(0:Int)) h hi q;exact⟨by rw[show i+1-i=1 by omega],x,y⟩
theorem Gl {w:World} {base g b:Nat} {l:List Int} {i:Nat} (h:w.ownsRow base 3 1 (aC g l.length b) l.length (l.map (Value.int .i64))) (hi:i<l.length):
  aK 199 #[aC g l.length b,ae i,ae (i+1:Nat)] w fun e w'=>e=.returned (aC g (l.length-1) b)/\w'.ownsRow base 3 1 (aC g (l.length-1) b) (l.length-1) ((l.eraseIdx i).map (Value.int .i64))/\aB (fun k=>k=g) w w':=by
 obtain⟨j,B,D⟩:∃j,Tryz.prog.info? 3=some j/\j.size=1:=by
  have a:(Tryz.prog.info? 3).map (fun i=>i.size)=some 1:=aL;cases p:Tryz.prog.info? 3 with
  |none=>rw[p]at a;cases a
  |some i=>rw[p]at a;injection a with a;exact⟨i,rfl,a⟩
 have n:l.length<=b/\b<=9223372036854775807:=by
  rcases h.2 with⟨c,v⟩|⟨u,r,s,c,A,a,f,o,C,ht⟩
  .cases c
  .injection c with d t m;subst m;unfold maxLen at o;omega
 have z:Holds (Value.int .i64) w g 0 l.toArray:=by
  rcases h.2 with⟨c,v⟩|⟨u,r,s,c,A,a,f,o,C,ht⟩
  .cases c
  .injection c with d t m;injection d with d;injection d with d _ _;subst d;rw[ji]at ht;exact holds_of_block a ht
 have f:=AnyE.slices_Delete Tryz.Gl (Value.int .i64) (fun _=>rfl) 0 (fun w=>zeroValue3 w) j B D g 0 b i (i+1) l.toArray w z (aQ n.1) n.2 aa aH;change aK 199 _ _ _ at f;rw[show l.toArray.size=l.length by simp]at f;refine f.mono ?_;rintro e w' ⟨rfl,q,rfl⟩;have⟨x,y⟩:=Gn (zr:=(0:Int)) h hi q;exact⟨by rw[show i+1-i=1 by omega],x,y⟩
theorem Sn (a:Option Addr) (l:List Int) (n c:Nat) (x:Int) (w:World) (C:l.length=n) (h:Rd (.int .u32) w a l) (J:n<=1000000) (u:x∈l):
  aK 196 #[.slice a n c,ak x] w fun e w'=>(∃i:Nat,e=.returned (ae i)/\∃h:i<l.length,l[i]=x)/\w'=w:=by
 subst C;have z:=af h;have A:=af u;clear h u;go_enter func196,ntmps196;go_wp2
 go_loopg [8] l.length (fun D E wr=>∃j:Nat,E=.int .i64 j/\j<=l.length/\l.length-j<=D/\wr=w/\Hid (∀t (h:t<l.length),t<j->l[t]≠x))
 case atStart=>exact⟨0,rfl,aT _,aa,rfl,fun t h q=>absurd q (kz _)⟩
 case round=>
  obtain⟨j,rfl,H,I,rfl,k⟩:=hrel;by_cases s:j<l.length
  .obtain⟨b,off,p,G,r⟩:=z.o.get aa;have F:=r j s;have g:=af p;obtain⟨y,f⟩:∃y,y=l[j]:=⟨_,rfl⟩;rw[<-f]at F;have m:=af f;clear r p f;obtain rfl:=g.o;clear g;by_cases d:x=y
   .have d1:(x==y)=true:=by simp[d]
    have d2:decide (x=y)=true:=by simp[d]
    have B:=af d;clear d;go_wp2;go_ret;exact⟨⟨j,rfl,s,by rw[<-m.o,B.o]⟩,rfl⟩
   .have d1:(x==y)=false:=by simp[d]
    have d2:decide (x=y)=false:=by simp[d]
    have v:Hid (∀t (h:t<l.length),t<j+1->l[t]≠x):=fun t h q=>by
     by_cases e:t=j
     .subst e;rw[<-m.o];exact fun e=>d e.symm
     .exact k.o t h aa
    clear d;go_wp2
    go_roundg (l.length-(j+1))
    case measure=>omega
    case rel=>exact⟨j+1,by go_num,aa,aA _,rfl,v⟩
  .obtain⟨t,ht,e⟩:=iN A.o;exact absurd e (k.o t ht aa)
end
section
open Go.RowKit Go.Sort Go.Shelf Go.Lib Go.Maps
attribute [local irreducible] wpQuiet
attribute [local go_sem] Oper.dZ
def Kw (R:List Pt) (p:Pt):Nat:=R.countP fun q=>decide (iW q p<0)
def UQ (R:List Pt) (p:Pt):Bool:=decide (∃h:Kw R p<R.length,iW R[Kw R p] p=0)
theorem PW (a:Option Addr) (l:List Pt) (n c:Nat) (p:Pt) (W:World) (q:l.length=n) (o:n<=1000000) (r:bV bX 3 W a l) (s:l.Pairwise kY):
  aK 191 #[.slice a n c,jb p.1 p.2.1 p.2.2,.func (.func 94) #[] #[]] W (gD W (.tuple #[ae (Kw l p),.bool (UQ l p)])):=
 (Xd a l n c p W q o r s).mono fun e w' ⟨k,j,m,f,g,i⟩=>by
  have d:k=Kw l p:=pX l k m (fun t h b=>by simpa using f t h b) (fun t h b=>by simpa using g t h b);subst d;exact⟨j,i⟩
theorem Gp {R:List Pt} (d:R.Pairwise kY) {x:Nat} (a:x<R.length):Kw R R[x]=x/\UQ R R[x]=true:=by
 have b:x=Kw R R[x]:=pX R x (wm a) (fun t h c=>by
  have:=gH.1 d t x h a c;simpa[qX]using this) (fun t h c=>by
  simp only[gY,qX];by_cases e:t=x
  .subst e;exact uF _
  .intro f;have:=gH.1 d x t a h aa;exact uF _ (pK this f))
 refine⟨b.symm,?_⟩;unfold UQ;rw[bO];refine⟨aa,?_⟩;have e:R[Kw R R[x]]'aa=R[x]:=by congr 1;exact b.symm
 rw[e,RQ];exact⟨rfl,rfl⟩
end
section
open Go.RowKit Go.Sort Go.Shelf Go.Lib Go.Maps
def Gq (n k:Nat):FT:=(((dU 0 n).subs 0).getD k (.leaf 0,0)).1
theorem mY {n:Nat} {t:FT} {s:Nat} (h:FT.At (bf n) t s):Gq n (t.root s)=t:=by
 have a:=lJ h;have c:=h.lt;rw[dB]at c;have b:t.root s<((dU 0 n).subs 0).length:=by rw[FT.fO,fJ 0 n a];exact c
 have e:=FT.pY (dU 0 n) 0 _ b;have f:=FT.lG (dU 0 n) 0 (gm a▸kH n a) _ (bC b);have⟨d,g⟩:=FT.At.unique (gm a▸h) f (by rw[e];omega);unfold Gq;rw[jA,cK b];exact d.symm
def nP (n:Nat) (YS:List Nat) (k:Nat):List Nat:=nl YS (Gq n k)
def yh (n:Nat) (YS:List Nat) (k:Nat):List Int:=match Gq n k with
 |.leaf _=>[]
 |.node l r=>lf l.hi (nl YS (.node l r))
theorem Bg {n:Nat} {l r:FT} {s:Nat} (h:FT.At (bf n) (.node l r) s) (YS:List Nat):yh n YS ((FT.node l r).root s)=lf l.hi (nl YS (.node l r)):=by
 unfold yh;rw[mY h]
section
variable {w w':World} {lo hi tb fb:Nat} {R:List Pt} {gone:List Bool} {YS:List Nat} {V:xI}
theorem jK.XJ (h:jK w lo hi tb fb R gone YS V):il w lo hi tb fb R gone YS.length YS (nP R.length YS) (yh R.length YS) V:=
 ⟨h.blk,h.fM,h.row,h.xs,h.ED,h.iU,h.jD,h.F4,h.ys,fun k b=>by
  obtain⟨t,s,a,rfl⟩:=uM b;unfold nP;rw[mY a];exact h.Hl t s a,fun l r s a=>by rw[Bg a];exact h.Co l r s a,h.Ez,h.top,h.pW,h.OQ,h.Jv,h.H6⟩
theorem il.toAt {nc:Nat->List Nat} {lc:Nat->List Int} (h:il w lo hi tb fb R gone YS.length YS nc lc V) (c:∀k,k<(bf R.length).length->nc k=nP R.length YS k) (d:∀l r s,FT.At (bf R.length) (.node l r) s->lc ((FT.node l r).root s)=yh R.length YS ((FT.node l r).root s)):jK w lo hi tb fb R gone YS V:=
 ⟨h.blk,h.fM,h.row,h.xs,h.ED,h.iU,h.jD,h.F4,h.ys,fun t s a=>by
  have b:=h.Hl _ a.lt;rw[c _ a.lt,nP,mY a]at b;exact b,fun l r s a=>by
  have b:=h.Co l r s a;rw[d l r s a,Bg a]at b;exact b,h.Ez,h.top,h.pW,h.OQ,h.Jv,h.H6⟩
end
def mI (YS:List Nat) (x:Nat) (P:List Nat) (k:Nat):List Nat:=if k∈P then eF YS x else YS
theorem EK (YS:List Nat) (x k:Nat):mI YS x [] k=YS:=by simp[mI]
theorem CZ {n x:Nat} (h:x<n) (YS:List Nat) {k:Nat} (g:k<(bf n).length):nP n (mI YS x ((dU 0 n).path 0 x) k) k=nP n (eF YS x) k/\yh n (mI YS x ((dU 0 n).path 0 x) k) k=yh n (eF YS x) k:=by
 have e:0<n:=aa;obtain⟨t,s,d,rfl⟩:=uM g;unfold mI;by_cases c:t.root s∈(dU 0 n).path 0 x
 .rw[aO c];exact⟨rfl,rfl⟩
 .rw[aN c];have f:¬(t.lo<=x/\x<t.hi):=fun⟨a,b⟩=>c (FT.xN _ 0 x (bR 0 n e).1 _ (FT.at_mem (gm e▸d)) a b);unfold nP yh;rw[mY d];refine⟨(xL f).symm,?_⟩;cases t with
  |leaf a=>rfl
  |node l r=>
   show lf _ _=lf _ _;rw[xL f]
end
section
open Go.RowKit Go.Sort Go.Shelf Go.Lib Go.Maps
attribute [local irreducible] wpQuiet
attribute [local go_sem] Oper.dZ
def VY (w:World) (lo hi tb fb:Nat) (R:List Pt) (gone:List Bool) (YS:List Nat) (x:Nat) (e:Ending) (w':World):Prop:=
 e=.returned (.bool true)/\∃V',jK w' lo hi tb fb R (gone.set x true) (eF YS x) V'/\aB (fun k=>lo<=k/\k<hi) w w'
theorem oQ {α b:Type} (f:α->b):∀(l:List α) (i:Nat),(l.map f).eraseIdx i=(l.eraseIdx i).map f
 |[],i=>ax
 |a::l,0=>ax
 |a::l,i+1=>by simp[oQ f l i]
theorem PX {m:Nat} {L:List Nat} {y:Int} (h:y∈lf m L):0<=y/\y<=L.length:=by
 unfold lf at h;obtain⟨j,b,rfl⟩:=dD.1 h;have a:=JI (p:=fun i=>decide (i<m)) (l:=L.take j);rw[dO]at a;omega
theorem UR {m:Nat} {L:List Nat} {i:Nat} (hi:i<L.length) {j:Nat} (a:j<L.length):0<=(AP m L i j)[j]'(by rw[q9 hi aa];exact a)/\(AP m L i j)[j]'(by rw[q9 hi aa];exact a)<=L.length:=by
 rw[LM hi a];exact PX (List.mem_of_mem_eraseIdx (bC _))
theorem Nt {α:Type} (f:Nat->α) (k:Nat) (v a:α):nU (nU f k v) k a=nU f k a:=by
 funext j;simp only[nU];split<;>rfl
theorem PY {YS:List Nat} (a:YS.Nodup) {x:Nat} (b:x∈YS):(eF YS x).length=YS.length-1:=by
 have⟨i,hi,e⟩:=iN b;unfold eF;rw[<-erase_filter a hi e,Br,aO hi]
theorem D8 {w:World} {lo hi tb fb:Nat} {R:List Pt} {gone:List Bool} {YS:List Nat} {V:xI} (ao:jK w lo hi tb fb R gone YS V) (b5:dm R gone YS) (d9:R.length<=20000) {x:Nat} (au:x<R.length) (ei:gone[x]? =some false) (p:Pt) (hp:R[x]=p):
  aK 128 #[aj tb,jb p.1 p.2.1 p.2.2] w (VY w lo hi tb fb R gone YS x):=by
 have a3:=ao.blk;have fO:tb<w.heap.size:=cO ao.fM.2.1 ao.fM.2.2.2.2;obtain⟨cs,ct,cI,-,-,c6⟩:=bV.aD bq ai ao.row;obtain⟨gx,fg,cE⟩:=fK ao.ED;have a2:=ao.XJ;rw[cI,cE]at a3;have CB:=af (fun W (a3:Below w.heap.size w W)=>PW cs R R.length ct p W rfl aa (c6.below a3) b5.Cm);have b9:=Gp b5.Cm au;rw[hp]at b9;have eZ:=af c6;have bc:=af cE;have eM:=af cI;obtain⟨av,aw,F⟩:=p;obtain⟨n,c5⟩:∃n,n=R.length:=⟨_,rfl⟩;rw[<-c5]at d9 a3 CB au;have f:=af c5;have eK:=af a3;have dP:=af a2;have dR:=af hp;have dJ:=af ei;have X:=af b5;have aW:=ao.fM;rw[b9.1,b9.2]at CB;clear ao c6 a3 cI cE c5 a2 hp ei b5 b9;go_enter func128,ntmps128
 go_wp2_with fail
 obtain⟨z,bs⟩:∃z,z=w.heap.size:=⟨_,rfl⟩;obtain⟨w1,bW⟩:∃w1,w1=w.alloc (.cells #[ae av,ae aw,ak F] 29):=⟨_,rfl⟩;have a4:Below w.heap.size w w1:=by rw[bW];exact(aJ _ _).alloc (aA _) _
 have a8:w1.heap[z]? =some (.cells #[ae av,ae aw,ak F] 29 (0,0)):=by rw[bW,bs];exact bY w _
 have c9:=(a4.block tb fO).trans eK.o;rw[<-bW];clear bW;have bS:w1.cell? (ag tb 3)=some (aj fb):=aI c9;refine(zz tb fb w1 bS).mono ?_;rintro e w' ⟨rfl,ff⟩;subst w'
 go_upto_region 3 with fail
 rw[<-bs];have gU:hi<=z:=by rw[bs];exact aW.2.2.2.2
 have gs:=af bs;clear bs;have fR:=ah (w:=w1) (ad:=(ag tb 0)) (v:=.slice cs n ct) (aI c9);have dh:=ah (w:=w1) (ad:=(ag z 0)) (v:=.int .i64 av) (aI a8);have dj:=ah (w:=w1) (ad:=(ag z 1)) (v:=.int .i64 aw) (aI a8);have fS:=ah (w:=w1) (ad:=(ag z 2)) (v:=.int .u32 F) (aI a8);have dA:Hid (∀p:aR w1,aK 191 #[.slice cs n ct,jb av aw F,.func (.func 94) #[] #[]] p.W fun e w'=>e=.returned (.tuple #[ae x,.bool true])/\Below p.W.heap.size p.W w'):=fun p=>CB.o p.W (a4.trans (p.h.mono a4.size));refine bG aL aL ?_
 repeat(quiet_step ((go_at_call 191;exact dH (dA.o _))))
 refine jS ?_;intro w2 bw;have cR:Below w1.heap.size w1 w2:=by obtain⟨p,rfl⟩:=bw;exact p.h
 clear bw dA fR dh dj fS CB bS;have bx:=(cR.block z (bg.1 a8).1).trans a8;have b1:Below w.heap.size w w2:=a4.trans (cR.mono a4.size);have aE:Hid (il w2 lo hi tb fb R gone YS.length YS (nP R.length YS) (yh R.length YS) V):=dP.o.below b1 aW.2.2.2.2;have dy:=af b1;have dV:=af bx;have da:=aE.o.blk;have e4:w2.cell? (ag tb 0)=some (.slice cs n ct):=by simp[World.cell?,da];rw[eM.o,f.o]
 have bo:=aE.o.ED;rw[bc.o]at bo;obtain⟨an,gy,cF,_,_⟩:=aS bo (by have:=f.o;omega);injection cF with cF fa fc;subst cF;clear fa fc;have e5:w2.cell? (ag tb 2)=some (aC an n fg):=by simp[World.cell?,da];rw[bc.o,f.o]
 have gn:w2.cell? (ag z 0)=some (ae av):=aI bx;have x1:w2.cell? (ag z 1)=some (ae aw):=aI bx;have x2:w2.cell? (ag z 2)=some (ak F):=aI bx;have ac:x<R.length:=by rw[<-f.o];exact au
 obtain⟨b,off,e7,fr,b8⟩:=(eZ.o.below b1).get aa;have dq:=b8 x ac 0 aa;have dr:=b8 x ac 1 aa;have ds:=b8 x ac 2 aa;rw[dR.o]at dq dr ds;simp only[bX,eG,eQ,df]at dq dr ds;have cJ:=bo.cellAt x aa;have go:=bo.frozenAt x;rw[ib,dJ.o]at cJ;simp only[eP]at cJ;subst e7;clear b8 bo b1 a4 cR c9 a8 da bx dP
 go_upto_region 4 with fail
 go_quiet (fail)
 go_upto_region 7 with fail
 obtain⟨w3,bj⟩:∃w3,w3=(w2.drewN nq).setCell (ag an x) (.bool true):=⟨_,rfl⟩;have cz:Hid (il w3 lo hi tb fb R (gone.set x true) YS.length YS (nP R.length YS) (yh R.length YS) V):=by
  rw[bj];exact il.Sm (aE.o.below (Below.aX w2.heap.size nq) aE.o.fM.2.2.2.2) bc.o x
 have ef:lo<=an/\an<hi:=⟨(aE.o.ED.lt an (by rw[bc.o];rfl)).1,aE.o.top V.gv ax an (by rw[bc.o];rfl)⟩;have dK:Hid (aB (fun k=>lo<=k/\k<hi) w w3):=by
  rw[bj];exact(((aB.refl _ w).below dy.o).below (Below.aX w2.heap.size nq)).set (a:=(ag an x)) _ (.inl ef)
 have dW:Hid (w3.heap[z]? =some (.cells #[ae av,ae aw,ak F] 29 (0,0))):=by
  rw[bj];exact(aG (show an≠z by omega)).trans dV.o
 rw[<-bj];clear bj e4 e5 gn x1 x2 dq dr ds cJ go dy dV aE ef fr;have cm:x∈YS:=(X.o.live x).2 dJ.o;have fp:=X.o.len;have gF:0<YS.length:=List.length_pos_of_mem cm;have db:=cz.o.blk;have e6:w3.cell? (ag tb 7)=some (ae YS.length):=aI db;have eE:w3.frozen? (ag tb 7)=false:=aI db;obtain⟨m,eo⟩:∃m,m=YS.length-1:=⟨_,rfl⟩;have gR:(YS.length:Int)-1=(m:Int):=aa;have eX:Hid (m=(eF YS x).length):=by rw[eo];exact(PY X.o.nodup cm).symm
 have gG:YS.length<=20000:=by rw[f.o]at d9;omega
 have e3:=af cm;clear eo fp db cm
 go_upto_region 8 with fail
 obtain⟨w4,bk⟩:∃w4,w4=w3.setCell (ag tb 7) (.int .i64 m):=⟨_,rfl⟩;have bh:Hid (il w4 lo hi tb fb R (gone.set x true) m YS (nP R.length YS) (yh R.length YS) V):=by rw[bk];exact cz.o.CY m
 have dL:Hid (aB (fun k=>lo<=k/\k<hi) w w4):=by rw[bk];exact dK.o.set (a:=(ag tb 7)) _ (.inl ⟨aW.1,aW.2.1⟩)
 have bQ:Hid (w4.heap[z]? =some (.cells #[ae av,ae aw,ak F] 29 (0,0))):=by rw[bk];exact(aG (show tb≠z by omega)).trans dW.o
 rw[<-bk];clear bk e6 eE cz dK dW;have ev:=bh.o.blk;have bS:w4.cell? (ag tb 3)=some (aj fb):=aI ev;have dv:=af (wI lo fb n x V.fv aa au w4 (by rw[f.o];exact bh.o.iU));clear ev
 go_wp2_with fail
 refine dv.o.mono ?_;rintro e ay ⟨pv,rfl,cg,bn⟩;have fN:=bh.o.fM.2.2.2.2;have eV:Hid (il ay lo hi tb fb R (gone.set x true) m YS (nP R.length YS) (yh R.length YS) V):=bh.o.below bn fN;have eO:Hid (aB (fun k=>lo<=k/\k<hi) w ay):=dL.o.below bn;have e1:=af ((bn.block z (bg.1 bQ.o).1).trans bQ.o);have gS:w4.heap.size<=ay.heap.size:=bn.size;have cB:=af cg;have gV:z<w4.heap.size:=(bg.1 bQ.o).1;clear bS dv bh dL bQ bn;obtain⟨P,b4⟩:∃P,P=(dU 0 n).path 0 x:=⟨_,rfl⟩;rw[<-b4]at cg cB;have gC:P.length<=n+1:=by
  have J:=FT.pG (dU 0 n) 0 x;have aM:=wE 0 n n (wm (Fy));rw[b4];omega
 have aF:=af b4;obtain⟨gZ,g0,rfl⟩:=fK cg;clear cg b4
 go_wp2_with fail
 go_loopg [72] P.length (fun dk gh wr=>∃(j:Nat) (yy:List Nat) (nc:Nat->List Nat) (lc:Nat->List Int) (V:xI),gh=.int .i64 j/\j<=P.length/\P.length-j<=dk/\
  Hid (il wr lo hi tb fb R (gone.set x true) m yy nc lc V)/\Hid (yy=if 0<j then eF YS x else YS)/\Hid (∀k,k<(bf R.length).length->nc k=nP n (mI YS x (P.take j) k) k)/\Hid (∀l r s,FT.At (bf R.length) (.node l r) s->lc ((FT.node l r).root s)=yh n (mI YS x (P.take j) ((FT.node l r).root s)) ((FT.node l r).root s))/\
  Hid (aB (fun k=>lo<=k/\k<hi) ay wr))
 case atStart=>
  refine⟨0,YS,_,_,V,rfl,aT _,aa,eV,rfl,?_,?_,aB.refl _ _⟩
  .intro k Z;rw[f.o,lh,EK]
  .intro l r s aq;rw[f.o,lh,EK]
 case round=>
  obtain⟨j,yy,nc,lc,V,rfl,gN,gP,al,cC,cA,bN,be⟩:=hrel;by_cases a6:j<P.length
  .have T:0<n:=aa;obtain⟨ck,fG,fA⟩:=bR 0 n T;obtain⟨k,Z⟩:∃k,k=P[j]:=⟨_,rfl⟩;have en:k∈(dU 0 n).path 0 x:=by rw[<-aF.o,Z];exact bC _
   obtain⟨⟨t,s⟩,dd,bv,cp,co⟩:=FT.nM (dU 0 n) 0 x ck aa aa k en;simp only at bv cp co;have cQ:=kH n T;rw[gm T]at cQ;have aq:FT.At (bf n) t s:=by rw[gm T];exact FT.lG _ 0 cQ _ dd
   have ex:t.wf:=FT.q8 _ 0 ck _ dd;have c1:k<(bf n).length:=bv▸aq.lt;have cf:P.Pairwise (·>·):=by rw[aF.o];exact FT.uJ _ 0 x ck aa aa
   have c2:k∉P.take j:=fun h=>by
    obtain⟨q,fJ,e⟩:=iN h;rw[qx]at e;rw[dO]at fJ;have:=gH.1 cf q j aa a6 aa;omega
   have c8:(k=2*n-2)↔j=0:=by
    obtain⟨Q,aV⟩:=FT.uC (dU 0 n) 0 x;rw[lZ T]at aV;have fi:P[0]'aa=2*n-2:=by
     have:P=(2*n-2)::Q:=by rw[aF.o,aV]
     simp only[this,ni]
    constructor
    .intro h;by_cases e:j=0
     .exact e
     .have:=gH.1 cf 0 j aa a6 aa;omega
    .intro h;subst h;rw[Z,fi]
   have ce:nc k=nl YS t:=by
    rw[cA.o k (by rw[<-f.o];exact c1),mI,aN c2,nP,<-bv,mY aq]
   obtain⟨L,ap⟩:∃L,L=nl YS t:=⟨_,rfl⟩;rw[<-ap]at ce;have b2:L.Nodup:=by rw[ap];exact mD _ X.o.nodup
   have de:x∈L:=by rw[ap];exact bI.2 ⟨e3.o,by simpa using⟨cp,co⟩⟩
   obtain⟨i,C,ar⟩:=iN de;have gA:L.length<=20000:=by
    have J:L.length<=YS.length:=by rw[ap];exact fq _ _
    omega
   have ep:nl (eF YS x) t=L.eraseIdx i:=by
    subst ap;exact Na X.o.nodup C ar
   have B:Hid (FT.At (bf n) t s/\t.root s=k/\t.wf/\t.lo<=x/\x<t.hi/\L=nl YS t/\nc k=L/\L.Nodup/\nl (eF YS x) t=L.eraseIdx i/\k∉P.take j/\k=P[j]/\k<(bf n).length/\P.Pairwise (·>·)/\∃h:i<L.length,L[i]=x):=⟨aq,bv,ex,cp,co,ap,ce,b2,ep,c2,Z,c1,cf,C,ar⟩;have cU:=al.o.blk;have cN:(bf R.length).length=(bf n).length:=by rw[f.o]
   obtain⟨gl,cl,bU,_,_⟩:=aS al.o.F4 aa;have I:dw wr lo gl (bf R.length).length cl V.LN V.LL:=by have h:=al.o.F4;rw[bU]at h;exact h
   have E:=al.o.Hl k aa;rw[ce]at E;obtain⟨g,c,bT,_,_⟩:=aS E aa;rw[bT]at E;have fH:(bf n).length<=40000:=by rw[dB];omega
   obtain⟨am,b3⟩:∃am,am=(bf n).length:=⟨_,rfl⟩;have gO:k<am:=aa;have gB:am<=40000:=aa;have gd:wr.cell? (ag tb 5)=some (aC gl am cl):=by simp[World.cell?,cU];rw[bU,b3,cN]
   have dl:wr.cell? (ag tb 3)=some (aj fb):=aI cU;have bE:wr.cell? ⟨gl,k*2,none⟩=some (.slice (some ⟨g,0,none⟩) L.length c):=(I.get aa).1.trans (congrArg some bT);have ea:wr.heap[z]? =some (.cells #[ae av,ae aw,ak F] 29 (0,0)):=bu be.o e1.o (fun h=>aa);have eA:wr.cell? (ag z 2)=some (ak F):=aI ea;have cP:=aU cB.o be.o (fun g h aM=>by have:=(cB.o.lt g h).1;have:=aW.2.2.2.2;omega);obtain⟨gz,gw,cG,_,_⟩:=aS cP aa;injection cG with cG fd fe;subst cG;have dn:=cP.cellAt j aa;rw[ib,cK a6,<-Z]at dn;simp only[eP]at dn;have du:Hid (∀W,Below wr.heap.size wr W->aK 196 #[aC g L.length c,ak F] W (gD W (ae i))):=fun W cT=>by
    have fL:=az E cT;obtain⟨gt,gu,D,-,-,et⟩:=Rd.aD fL;injection D with D H d1;rw[<-D]at et;have eq:F=ku R x:=by
     unfold ku cu;have ac:x<R.length:=by rw[<-f.o];exact au
     rw[jA,cK ac];simp[dR.o]
    have S:F∈L.map (ku R):=by rw[eq];exact dD.2 ⟨x,de,rfl⟩
    refine(Sn (some (ag g 0)) (L.map (ku R)) L.length c F W ax et aa S).mono ?_;rintro e w' ⟨⟨aZ,fs,fB,a5⟩,rfl⟩;rw[gq,eq]at a5;have cW:aZ<L.length:=aQ fB;have fl:∀y∈L,y<R.length:=fun y a9=>X.o.lt (by rw[ap]at a9;exact(bI.1 a9).1);have ey:L[aZ]=x:=by
     have J:=fl _ (bC cW);have ac:x<R.length:=by rw[<-f.o];exact au
     unfold ku cu at a5;rw[jA,jA,cK J,cK ac]at a5;simp only[ic]at a5;by_cases e:L[aZ]=x
     .exact e
     .exfalso;have hid:=dF.1 X.o.ids;rcases Nat.lt_or_gt_of_ne e with h9|h9
      .exact gH.1 hid _ _ J ac h9 a5
      .exact gH.1 hid _ _ ac J h9 a5.symm
    have fC:aZ=i:=by
     by_cases e:aZ=i
     .exact e
     .exfalso;rcases Nat.lt_or_gt_of_ne e with h9|h9
      .exact gH.1 b2 aZ i cW C h9 (by rw[ey,ar])
      .exact gH.1 b2 i aZ C cW h9 (by rw[ey,ar])
    subst fC;exact⟨fs,aJ _ _⟩
   have dx:Hid (∀W,Below wr.heap.size wr W->aK 95 #[aj fb] W fun e w'=>e=.returned (ae ((2*n-2:Nat):Int))/\w'=W):=fun W cT=>by
    have ed:=al.o.iU.blk;have cV:=(cT.block fb (bg.1 ed).1).trans ed;rw[<-f.o]at cV;exact jV fb n T aa W (aI cV) (aI cV)
   have K:=af (And.intro bU bT);have dQ:Hid (am=(bf n).length/\(bf R.length).length=am):=⟨b3,by rw[cN,b3]⟩;clear aq bv dd ex cp co ap ce b2 ep c2 Z cf ar de cQ en cU I E ea cP fd fe b3 cN c1 fH bU bT ck fG fA
   go_upto_region 13 with fail
   have dh:=ah bE;have dj:=ah eA;have dz:Hid (∀p:aR wr,aK 196 #[aC g L.length c,ak F] p.W fun e w'=>e=.returned (ae i)/\Below p.W.heap.size p.W w'):=fun p=>du.o p.W p.h;refine bG aL aL ?_
   repeat(quiet_step ((go_at_call 196;exact dH (dz.o _))))
   refine jS ?_;intro w6 bw;have cS:Below wr.heap.size wr w6:=by obtain⟨p,rfl⟩:=bw;exact p.h
   have bM:=af cS;have fP:tb<wr.heap.size:=iF wr _ dl;have gb:=(cS.cell (p:=(ag tb 3)) fP).trans dl;clear bw dh dj dz cS du dl gd bE eA dn;obtain⟨bA,cc⟩:∃bA,bA=decide (j=0):=⟨_,rfl⟩;have fT:((k:Int)==((2*n-2:Nat):Int))=bA:=by
    rw[cc,nD,beq_iff_eq,bO,<-c8];omega
   have fU:(k==2*n-2)=bA:=by
    rw[cc,nD,beq_iff_eq,bO,<-c8]
   have dM:=af cc;clear cc c8
   go_wp2_with fail
   refine(dx.o w6 bM.o).mono ?_;rintro e w' ⟨rfl,ff⟩;subst w'
   go_upto_if 95 with fail
   have a0:Hid (il w6 lo hi tb fb R (gone.set x true) m yy nc lc V):=al.o.below bM.o al.o.fM.2.2.2.2;have gW:=bM.o.size;clear dx gb fT fU
   go_cut []from 73 to 175 (fun eD=>∃ba:Value,Hid (il eD lo hi tb fb R (gone.set x true) m (eF YS x) nc lc {V with yv:=ba})/\Hid (aB (fun k=>lo<=k/\k<hi) w6 eD))
   case first=>
    cases bA with
    |false=>
     have cb:0<j:=by
      have h:=dM.o;by_cases e:j=0
      .simp[e]at h
      .omega
     have D:=cC.o;rw[aO cb]at D;have eJ:Hid (il w6 lo hi tb fb R (gone.set x true) m (eF YS x) nc lc {V with yv:=V.yv}):=by
      have h:=a0.o;rw[D]at h;exact h
     clear D;go_wp2;go_meet;exact⟨V.yv,eJ.o,aB.refl _ _⟩
    |true=>
     have cb:j=0:=by
      have h:=dM.o;simpa using h.symm
     have D:=cC.o;rw[aN aa]at D;have cL:L=YS:=by
      obtain⟨f1,f2,f3,f4,f5,f6,f7,f8,f9,f10,f11,f12,f13,f14⟩:=B.o;have fE:k=2*n-2:=by
       obtain⟨Q,aV⟩:=FT.uC (dU 0 n) 0 x;rw[lZ T]at aV;have fo:P=(2*n-2)::Q:=by rw[aF.o,aV]
       rw[f11];simp only[cb,fo,ni]
      obtain⟨ht,-⟩:=FT.At.unique f1 (kH n T) (by rw[f2,fE,lZ T]);rw[f6,ht,f.o];exact X.o.top (by rw[<-f.o];exact T)
     have aY:=a0.o.ys;rw[D]at aY;obtain⟨Y,cD,bl,_,_⟩:=aS aY aa;rw[bl]at aY;have dg:(jI R YS).length=YS.length:=by simp[jI]
     have ca:i<YS.length:=by rw[<-cL];exact C
     have ej:YS[i]'ca=x:=by
      obtain⟨f1,f2,f3,f4,f5,f6,f7,f8,f9,f10,f11,f12,f13,f14,f15⟩:=B.o;subst cL;exact f15
     have eb:YS.eraseIdx i=eF YS x:=erase_filter X.o.nodup ca ej;have bL:=Kt (l:=jI R YS) (i:=i) (by rw[dg];exact aY) (by rw[dg];exact ca);rw[dg]at bL;have bL:=af bL;have ch:=a0.o.blk;have g1:w6.cell? (ag tb 6)=some (aC Y YS.length cD):=by simp[World.cell?,ch];rw[bl]
     have fz:tb≠Y:=fun h=>bz aY ch ai Y rfl h;have dE:=af bl;have dX:=af eb;have eL:=af D;have gX:tb<w6.heap.size:=(bg.1 ch).1;have fy:lo<=Y/\Y<hi:=⟨(aY.lt Y rfl).1,a0.o.top V.yv ax Y (by rw[bl];rfl)⟩;clear aY ch cL eb D bl ej cb
     go_wp2_with (go_at_call 197;refine bL.o.mono ?_;rintro e eC ⟨rfl,bt,cZ⟩;have dc:=bu cZ a0.o.blk fz;have g2:eC.cell? (ag tb 6)=some (aC Y YS.length cD):=(by simp[World.cell?,dc];rw[dE.o]);have eE:eC.frozen? (ag tb 6)=false:=(aI dc);have eY:=af bt;have bd:=af cZ;clear bt cZ dc)
     go_meet;have bt:=eY.o;refine⟨aC Y (YS.length-1) cD,?_,?_⟩
     .have h:=a0.o;rw[eL.o]at h;refine il.VX h dE.o bd.o (yy':=eF YS x) ?_;have H:(jI R YS).eraseIdx i=jI R (eF YS x):=by
       rw[<-dX.o];unfold jI;rw[oQ]
      have d1:(eF YS x).length=YS.length-1:=by rw[<-dX.o,Br,aO ca]
      rw[H]at bt;rw[d1];exact bt
     .exact(bd.o.mono (fun k h=>by subst h;exact fy)).set (a:=(ag tb 6)) _ (.inl ⟨aW.1,aW.2.1⟩)
   case rest=>
    obtain⟨ba,a1,bd⟩:=hcut;have aP:k<(bf R.length).length:=by have:=dQ.o;omega
    have E:=a1.o.Hl k aP;obtain⟨f1,f2,f3,f4,f5,f6,f7,f8,f9,f10,f11,f12,f13,f14,f15⟩:=B.o;rw[f7]at E;have E:wc.ownsRow lo 27 1 (V.LN k) L.length ((L.map (ku R)).map (Value.int .u32)):=E;rw[K.o.2]at E;have I:dw wc lo gl (bf R.length).length cl V.LN V.LL:=by have h:=a1.o.F4;have h:World.ownsRow _ _ _ _ V.lv _ _:=h;rw[K.o.1]at h;exact h
    have bE:wc.cell? ⟨gl,k*2,none⟩=some (.slice (some ⟨g,0,none⟩) L.length c):=(I.get aP).1.trans (congrArg some K.o.2);have fu:gl≠g:=fun h=>bB I E ai gl rfl (by rw[h];rfl);have c4:(L.map (ku R)).length=L.length:=ax;have bb:=Kq (l:=L.map (ku R)) (i:=i) (by rw[c4];exact E) (by rw[c4];exact C);rw[c4]at bb;have bb:=af bb;have ft:lo<=g/\g<hi:=⟨(E.lt g rfl).1,(a1.o.pW k aP).1 g (by show(V.LN k).ownBlock=some g;rw[K.o.2];rfl)⟩;have eh:lo<=gl/\gl<hi:=⟨(I.lt gl rfl).1,a1.o.top V.lv ax gl (by rw[K.o.1];rfl)⟩;have fx:gl<wc.heap.size:=(I.lt gl rfl).2;have eI:=I.frozenAt (k*2);clear f1 f2 f3 f4 f5 f6 f7 f8 f9 f10 f11 f12 f13 f15 E I
    go_upto_region 17 with(go_at_call 198;refine bb.o.mono ?_;rintro e gj ⟨rfl,es,c0⟩;obtain⟨d0,d5⟩:=di c0 fx fu;have ge:=(d0 (k*2)).trans bE;have gr:=(d5 (k*2)).trans eI;have dT:=af es;have cx:=af c0;clear es c0 d0 d5)
    obtain⟨A,b0⟩:∃A,A=gj.setCell (ag gl (k*2)) (aC g (L.length-1) c):=⟨_,rfl⟩;have fk:(L.eraseIdx i).length=L.length-1:=by rw[Br,aO C]
    have U:Hid (il A lo hi tb fb R (gone.set x true) m (eF YS x) (nU nc k (L.eraseIdx i)) lc {V with yv:=ba,LN:=upd V.LN k (aC g (L.length-1) c)}):=by
     rw[b0];refine il.UM a1.o aP K.o.2 K.o.1 cx.o (L':=L.eraseIdx i) ?_;have h:=dT.o;rw[oQ]at h;rw[fk];exact h
    have cy:Hid (aB (fun k=>lo<=k/\k<hi) ay A):=by
     rw[b0];exact((((be.o.below bM.o).trans bd.o).trans (cx.o.mono (fun k h=>by subst h;exact ft))).set (a:=(ag gl (k*2))) _ (.inl eh))
    rw[<-b0];clear b0 ge gr dT cx a1 bd bE eI bb;have ew:=U.o.blk;have br:=U.o.jD;have br:A.ownsRow lo 163 7 V.nv (bf R.length).length ((bf R.length).flatMap pR):=br;obtain⟨fh,cn,cH,_,_⟩:=aS br aa;obtain⟨_,_,d2,-,-,c7⟩:=bV.aD jO ai br;rw[cH]at d2;injection d2 with d3 e8 e9;rw[<-d3,<-f.o]at c7;clear d3 e8 e9;have gc:A.cell? (ag tb 4)=some (aC fh am cn):=by
     simp[World.cell?,ew];rw[cH,<-dQ.o.2]
    obtain⟨gK,n0,fV,fW,fX,fY,fZ,f0⟩:=nJ c7 (by have h:=B.o.1.get;rw[B.o.2.1]at h;exact h);rw[kD]at n0;have d7:∀k',k'<(bf R.length).length->nU nc k (L.eraseIdx i) k'=nP n (mI YS x (P.take (j+1)) k') k':=fun k' fD=>by
     obtain⟨f1,f2,f3,f4,f5,f6,f7,f8,f9,f10,f11,f12,f13,f14,f15⟩:=B.o;have S:k'∈P.take (j+1)↔k'∈P.take j\/k'=k:=by rw[gT a6,<-f11];simp
     by_cases e:k'=k
     .subst e;rw[jZ,mI,aO (S.2 (.inr rfl)),nP,<-f2,mY f1,f9]
     .rw[yg e,cA.o k' fD];unfold mI;by_cases H:k'∈P.take j
      .rw[aO H,aO (S.2 (.inl H))]
      .rw[aN H,aN (fun h=>(S.1 h).elim H e)]
    have dG:=af d7;have d8:∀k',k'≠k->∀v,lc k'=yh n (mI YS x (P.take j) k') k'->nU lc k v k'=yh n (mI YS x (P.take (j+1)) k') k':=fun k' e v h=>by
     obtain⟨f1,f2,f3,f4,f5,f6,f7,f8,f9,f10,f11,f12,f13,f14,f15⟩:=B.o;have S:k'∈P.take (j+1)↔k'∈P.take j\/k'=k:=by rw[gT a6,<-f11];simp
     rw[yg e,h];unfold mI;by_cases H:k'∈P.take j
     .rw[aO H,aO (S.2 (.inl H))]
     .rw[aN H,aN (fun h=>(S.1 h).elim H e)]
    have dI:=af d8;clear d7 d8 c7 br ew cH fV fW fX fY fZ f0;have ez:eF YS x=if 0<j+1 then eF YS x else YS:=by rw[aO aa]
    have dY:=af ez;clear ez;cases ht:t with
    |leaf q=>
     rw[ht]at n0;simp only[FT.top]at n0;have aH:=af ht;clear ht;have em:nU lc k (lc k)=lc:=by
      funext k';unfold nU;split
      .rename_i e;rw[e]
      .rfl
     have eR:=af em;clear em;go_wp2
     go_roundg (P.length-(j+1))
     case measure=>omega
     case rel=>
      refine⟨j+1,eF YS x,_,lc,_,by go_num,aa,aA _,U,dY.o,dG.o,?_,cy⟩;intro l r bF b7;have fI:(FT.node l r).root bF≠k:=fun e=>by
       have J:=B.o.1;rw[aH.o,f.o]at J;have:=(FT.At.unique b7 J (by rw[e,<-B.o.2.1,aH.o])).1;cases this
      have h9:=dI.o _ fI (lc k) (bN.o l r bF b7);rw[eR.o]at h9;exact h9
    |node l r=>
     rw[ht]at n0;simp only[FT.top]at n0;have aH:=af ht;clear ht;obtain⟨M,a2⟩:∃M,M=l.hi:=⟨_,rfl⟩;have bm:FT.At (bf R.length) (.node l r) s:=by rw[<-f.o,<-aH.o];exact B.o.1
     have a7:(FT.node l r).root s=k:=by rw[<-aH.o];exact B.o.2.1
     have cM:L=nl YS (.node l r):=by rw[<-aH.o];exact B.o.2.2.2.2.2.1
     have c3:lc k=lf M L:=by
      rw[<-a7,bN.o l r s bm,a7,mI,aN B.o.2.2.2.2.2.2.2.2.2.1];have h9:=Bg (n:=n) (by rw[f.o];exact bm) YS;rw[a7]at h9;rw[h9,a2,<-cM]
     have O:A.ownsRow lo 3 1 (V.LL k) (lc k).length ((lc k).map (Value.int .i64)):=by have h9:=U.o.Co l r s bm;rw[a7]at h9;exact h9
     rw[c3]at O;have ab:=tL M L;obtain⟨u,G,bi,_,_⟩:=aS O aa;rw[bi]at O;have ar:=B.o.2.2.2.2.2.2.2.2.2.2.2.2.2;have bp:dw A lo gl (bf R.length).length cl (upd V.LN k (aC g (L.length-1) c)) V.LL:=by have h:=U.o.F4;have h:World.ownsRow _ _ _ _ V.lv _ _:=h;rw[K.o.1]at h;exact h
     have bD:A.cell? ⟨gl,k*2+1,none⟩=some (.slice (some ⟨u,0,none⟩) (L.length+1) G):=by
      exact(bp.get aP).2.trans (congrArg some (bi.trans (by rw[ab])))
     have cq:=O.cellAt (i+1) aa;have cr:=O.cellAt i aa;rw[ib,cK (show i+1<(lf M L).length by omega)]at cq;rw[ib,cK (show i<(lf M L).length by omega)]at cr;simp only[eP]at cq cr;obtain⟨bH,ci⟩:∃bH,bH=(lf M L)[i+1]'aa:=⟨_,rfl⟩;obtain⟨bJ,cj⟩:∃bJ,bJ=(lf M L)[i]'aa:=⟨_,rfl⟩;rw[<-ci]at cq;rw[<-cj]at cr;have fQ:bH-bJ=if x<M then 1 else 0:=by rw[ci,cj];exact R3 C ar.2 _ _
     have gY:0<=bH/\bH<=20000/\0<=bJ/\bJ<=20000:=by
      have J:=PX (m:=M) (L:=L) (ci▸bC _);have aM:=PX (m:=M) (L:=L) (cj▸bC _);omega
     obtain⟨W,b6⟩:∃W,W=(if x<M then(1:Int)else 0):=⟨_,rfl⟩;rw[<-b6]at fQ;have gE:0<=W/\W<=1:=by rw[b6];split<;>omega
     have e0:=af b6;have eT:=af c3;have bK:=Gl (l:=lf M L) (i:=i+1) (by rw[ab];rw[ab]at O;exact O) aa;rw[ab]at bK;have bK:=af bK;have fw:gl≠u:=fun h=>bB bp O ai gl rfl (by rw[h];rfl);have ee:lo<=u/\u<hi:=⟨(O.lt u rfl).1,(U.o.pW k aP).2 u (by show(V.LL k).ownBlock=some u;rw[bi];rfl)⟩;have eg:gl<A.heap.size:=(bp.lt gl rfl).2;have eH:=bp.frozenAt (k*2+1);have dC:=af bi;have N:=af (And.intro bm a7);have eW:=af (And.intro a2 cM);have gL:i+1<L.length+1:=aa;clear O bp ci cj b6 c3 bi bm a7 a2 cM ab ar
     go_upto_region 18 with fail
     go_quiet (fail)
     have gf:(A.drewN nq).cell? (ag gl (k*2+1))=some (aC u (L.length+1) G):=bD;have dt:Hid (∀q,aK 199 #[aC u (L.length+1) G,ae (i+1:Nat),ae (i+1+1:Nat)] (A.drewN q) fun e w'=>e=.returned (aC u L.length G)/\w'.ownsRow lo 3 1 (aC u L.length G) L.length (((lf M L).eraseIdx (i+1)).map (Value.int .i64))/\aB (fun k=>k=u) A w'):=fun q=>by
      have ab:=tL M L;have h9:=U.o.Co l r s N.o.1;rw[N.o.2]at h9;have h9:A.ownsRow lo 3 1 (V.LL k) (lc k).length ((lc k).map (Value.int .i64)):=h9;rw[eT.o,dC.o,ab]at h9;have d6:=Gl (w:=A.drewN q) (l:=lf M L) (i:=i+1) (by rw[ab];exact h9) aa;rw[ab]at d6;refine d6.mono ?_;rintro e w' ⟨J,aM,fj⟩;exact⟨J,aM,((aB.refl (fun k=>k=u) A).below (Below.aX A.heap.size q)).trans fj⟩
     clear bK
     go_upto_region 20 with(go_at_call 199;refine(dt.o _).mono ?_;rintro e gi ⟨rfl,er,cY⟩;obtain⟨dZ,d4⟩:=di cY eg fw;have ga:=(dZ (k*2+1)).trans bD;have gp:=(d4 (k*2+1)).trans eH;have dS:=af er;have cw:=af cY;clear er cY dZ d4)
     have fm:∃h:i<L.length,L[i]=x:=B.o.2.2.2.2.2.2.2.2.2.2.2.2.2;obtain⟨cv,bZ⟩:∃cv,cv=gi.setCell (ag gl (k*2+1)) (aC u L.length G):=⟨_,rfl⟩;have fF:=uI (m:=M) C;have eU:Hid (il cv lo hi tb fb R (gone.set x true) m (eF YS x) (nU nc k (L.eraseIdx i)) (nU lc k (AP M L i (i+1))) {V with yv:=ba,LN:=upd V.LN k (aC g (L.length-1) c),LL:=upd V.LL k (aC u L.length G)}):=by
      rw[bZ];refine il.UN U.o N.o.1 N.o.2 dC.o K.o.1 cw.o (L':=AP M L i (i+1)) ?_;rw[Nb C,fF];exact dS.o
     have eN:Hid (aB (fun k=>lo<=k/\k<hi) ay cv):=by
      rw[bZ];exact(cy.o.trans (cw.o.mono (fun k h=>by subst h;exact ee))).set (a:=(ag gl (k*2+1))) _ (.inl eh)
     rw[<-bZ];clear bZ ga gp dS cw U cy bD gf cq cr eH dt gc n0 eg
     go_wp2_with fail
     go_loopg [14] L.length (fun dk gg wr=>∃d:Nat,gg=.int .i64 d/\i+1<=d/\d<=L.length/\L.length-d<=dk/\Hid (il wr lo hi tb fb R (gone.set x true) m (eF YS x) (nU nc k (L.eraseIdx i)) (nU lc k (AP M L i d)) {V with yv:=ba,LN:=upd V.LN k (aC g (L.length-1) c),LL:=upd V.LL k (aC u L.length G)})/\Hid (aB (fun k=>lo<=k/\k<hi) ay wr))
     case atStart=>exact⟨i+1,rfl,aA _,aa,aa,eU,eN⟩
     case round=>
      obtain⟨d,rfl,gM,ek,gQ,bP,dN⟩:=hrel;have I:dw wr lo gl (bf R.length).length cl (upd V.LN k (aC g (L.length-1) c)) (upd V.LL k (aC u L.length G)):=by have h:=bP.o.F4;have h:World.ownsRow _ _ _ _ V.lv _ _:=h;rw[K.o.1]at h;exact h
      have bD:=(I.get aP).2;rw[upd_same]at bD;have cd:wr.ownsRow lo 3 1 (aC u L.length G) L.length ((AP M L i d).map (Value.int .i64)):=by
       have h:=bP.o.Co l r s N.o.1;rw[N.o.2,jZ]at h;have h:wr.ownsRow lo 3 1 (upd V.LL k (aC u L.length G) k) (AP M L i d).length ((AP M L i d).map (Value.int .i64)):=h;rw[upd_same,q9 C ek]at h;exact h
      clear I;by_cases cX:d<L.length
      .have dp:=cd.cellAt d aa;have g3:=cd.frozenAt d;have el:d<(AP M L i d).length:=by rw[q9 C aa];exact cX
       rw[ib,cK el]at dp;simp only[eP]at dp;have ec:=UR (m:=M) C cX;obtain⟨y,a9⟩:∃y,y=(AP M L i d)[d]'el:=⟨_,rfl⟩;rw[<-a9]at dp ec;have eu:(AP M L i d).set d (y-W)=AP M L i (d+1):=by
        rw[a9,e0.o];exact Pw C fm.2 aa cX
       have gJ:0<=y/\y<=20000:=aa;have e2:Hid (il (wr.setCell (ag u d) (.int .i64 (y-W))) lo hi tb fb R (gone.set x true) m (eF YS x) (nU nc k (L.eraseIdx i)) (nU lc k (AP M L i (d+1))) {V with yv:=ba,LN:=upd V.LN k (aC g (L.length-1) c),LL:=upd V.LL k (aC u L.length G)}):=by
        have h:=il.UO bP.o N.o.1 N.o.2 (c:=G) (g:=u) (by rw[jZ,q9 C ek];exact upd_same _ _ _) (j:=d) (y-W);rw[jZ,Nt,eu]at h;exact h
       have eS:Hid (aB (fun k=>lo<=k/\k<hi) ay (wr.setCell (ag u d) (.int .i64 (y-W)))):=dN.o.set (a:=(ag u d)) _ (.inl ee);clear a9 eu cd ec;go_wp2
       go_roundg (L.length-(d+1))
       case measure=>omega
       case rel=>exact⟨d+1,by go_num,aa,aa,aA _,e2,eS⟩
      .obtain rfl:d=L.length:=aa;clear cd;go_wp2
       go_roundg (P.length-(j+1))
       case measure=>omega
       case rel=>
        refine⟨j+1,eF YS x,_,_,_,by go_num,aa,aA _,bP,dY.o,dG.o,?_,dN⟩;intro l' eB bF b7;by_cases e:(FT.node l' eB).root bF=k
        .obtain⟨f1,f2,f3,f4,f5,f6,f7,f8,f9,f10,f11,f12,f13,f14⟩:=B.o;have S:k∈P.take (j+1):=by rw[gT a6,<-f11];simp
         have h9:=Bg (n:=n) (by rw[f.o];exact N.o.1) (eF YS x);rw[N.o.2]at h9;rw[e,jZ,Pv C,mI,aO S,h9,eW.o.1];rw[aH.o]at f9;rw[f9]
        .exact dI.o _ e _ (bN.o l' eB bF b7)
  .obtain rfl:j=P.length:=aa;have gI:=be.o.size;go_wp2;go_ret;have D:=cC.o;have fn:0<P.length:=by
    rw[aF.o];obtain⟨Q,aV⟩:=FT.uC (dU 0 n) 0 x;rw[aV];simp
   rw[aO fn]at D;subst D;have aM:=al.o;rw[eX.o]at aM;refine⟨rfl,V,aM.toAt (fun k Z=>?_) (fun l r s aq=>?_),eO.o.trans be.o⟩
   .rw[cA.o k Z,iE,<-f.o,aF.o];exact(CZ au YS (by rw[f.o];exact Z)).1
   .rw[bN.o l r s aq,iE,<-f.o,aF.o];exact(CZ au YS (by rw[f.o];exact aq.lt)).2
end
section
open Go.RowKit Go.Sort Go.Shelf Go.Lib Go.Maps
def iK (w:World) (lo hi tb n0:Nat) (l:List Pt):Prop:=
 ∃fb R gone YS V,jK w lo hi tb fb R gone YS V/\dm R gone YS/\tY R YS l/\R.length=n0/\n0<=20000
section
variable {w w':World} {lo hi tb n0:Nat} {l:List Pt}
theorem iK.kept {S:Nat->Prop} (h:iK w lo hi tb n0 l) (K:aB S w w') (hS:∀k,lo<=k->k<hi->¬S k):iK w' lo hi tb n0 l:=by
 have⟨fb,R,gone,YS,V,a,b⟩:=h;exact⟨fb,R,gone,YS,V,a.kept K hS,b⟩
theorem iK.below {B:Nat} (h:iK w lo hi tb n0 l) (d:Below B w w') (c:hi<=B):iK w' lo hi tb n0 l:=by
 have⟨fb,R,gone,YS,V,a,b⟩:=h;exact⟨fb,R,gone,YS,V,a.below d c,b⟩
theorem PZ (a:Option Addr) (c:Nat) (l:List Pt) (w:World) (j:bV bX 3 w a l) (m:l.length<=20000) (o:Jw l) (hu:lF l=true):
  aK 35 #[.slice a l.length c] w fun e w'=>∃tb,e=.returned (.tuple #[aj tb,ae 0])/\iK w' w.heap.size w'.heap.size tb l.length l/\Below w.heap.size w w':=
 (Kv a c l w j m o hu).mono fun e w' ⟨tb,fb,V,h,f,g⟩=>by
  have b:(ids l).Nodup:=by unfold lF at hu;simpa using hu
  have n:=gz b;have hid:(ids (fC l)).Nodup:=((dV l).map _).nodup_iff.2 b;have d:=ru n hid;have k:(fC l).length=l.length:=(dV l).length_eq;refine⟨tb,h,⟨fb,_,_,_,V,f,d,Am b _ (fun i=>?_),k,aa⟩,g⟩;rw[d.live,sI];split<;>simp_all
theorem LY (h:iK w lo hi tb n0 l) (x1 x2 y1 y2 b:Int):
  aK 39 #[aj tb,.agg #[ae x1,ae x2,ae y1,ae y2,ak b]] w fun e w'=>∃v,∃c:Nat,e=.returned (.tuple #[v,ae ((c+(hasB l x1 x2 y1 y2).length:Nat):Int)])/\c<=8*Lib.bitLen n0+1/\w'.ownsRow w.heap.size 27 1 v (hasB l x1 x2 y1 y2).length ((hasB l x1 x2 y1 y2).map (Value.int .u32))/\Below w.heap.size w w':=by
 have⟨fb,R,gone,YS,V,k,a,m,n,p⟩:=h;refine(H9 k a aa x1 x2 y1 y2 b).mono ?_;rintro e w' ⟨v,f,g,o⟩;have⟨i,j⟩:=CE a m x1 x2 y1 y2;have d:(kS R YS x1 x2 y1 y2).1.length=(hasB l x1 x2 y1 y2).length:=by
  rw[j];unfold hasB;rw[dY];simp[ids]
 rw[i,d]at g;rw[d]at f;exact⟨v,_,f,n▸EF a aa x1 x2 y1 y2,g,o⟩
theorem P5 (x1 x2 y1 y2:Int):(hasB l x1 x2 y1 y2).length=(l.filter (sj x1 x2 y1 y2)).length:=by unfold hasB;rw[dY];simp[ids]
theorem P6 (h:iK w lo hi tb n0 l) (x1 x2 y1 y2 b:Int):
  aK 82 #[aj tb,.agg #[ae x1,ae x2,ae y1,ae y2,ak b]] w fun e w'=>(∃c:Nat,e=.returned (.tuple #[ae ((l.filter (sj x1 x2 y1 y2)).length:Nat),ae c])/\c<=8*Lib.bitLen n0+1)/\Below w.heap.size w w':=by
 have⟨fb,R,gone,YS,V,g,a,i,j,n⟩:=h;refine(Kb g a aa x1 x2 y1 y2 b).mono ?_;rintro e w' ⟨d,k⟩;have⟨m,f⟩:=CE a i x1 x2 y1 y2;rw[f]at d;exact⟨⟨_,d,j▸EF a aa x1 x2 y1 y2⟩,k⟩
end
end
section
open Go.RowKit Go.ChangeShapes Go.WideShapes Go.Deep
theorem Sq {α:Type} [Inhabited α] (n:Nat) (p:Nat->α->Prop) (h:∀i,i<n->∃x,p i x):∃l:List α,l.length=n/\∀i (h:i<l.length),p i l[i]:=by
 have a:∀i,∃x,i<n->p i x:=fun i=>by
  by_cases hi:i<n
  .obtain⟨x,c⟩:=h i hi;exact⟨x,fun _=>c⟩
  .exact⟨default,fun h=>absurd h hi⟩
 refine⟨(List.range n).map fun i=>Classical.choose (a i),ax,fun i hi=>?_⟩;have b:i<n:=aQ hi;simpa using Classical.choose_spec (a i) b
abbrev Bx:=Int×Int×Int×Int×Int
abbrev Bx.wf (p:Bx):Prop:=(Lit.int .i64 p.1).wf=true/\(Lit.int .i64 p.2.1).wf=true/\(Lit.int .i64 p.2.2.1).wf=true/\(Lit.int .i64 p.2.2.2.1).wf=true/\(Lit.int .u32 p.2.2.2.2).wf=true
end
section
open Go.RowKit
def P7 (p:Bx):Obj:=.cells #[ae p.1,ae p.2.1,ae p.2.2.1,ae p.2.2.2.1,ak p.2.2.2.2] 38 (0,0)
theorem fu {W:World} {b:Nat} {p:Bx} (h:W.heap[b]? =some (P7 p)):W.cell? (ag b 0)=some (ae p.1)/\W.cell? (ag b 1)=some (ae p.2.1)/\W.cell? (ag b 2)=some (ae p.2.2.1)/\W.cell? (ag b 3)=some (ae p.2.2.2.1)/\W.cell? (ag b 4)=some (ak p.2.2.2.2):=by simp[World.cell?,h,P7]
def vD (p:Pt):Obj:=.cells #[ae p.1,ae p.2.1,ak p.2.2] 29 (0,0)
theorem fD {W:World} {b:Nat} {p:Pt} (h:W.heap[b]? =some (vD p)):W.cell? (ag b 0)=some (ae p.1)/\W.cell? (ag b 1)=some (ae p.2.1)/\W.cell? (ag b 2)=some (ak p.2.2):=by simp[World.cell?,h,vD]
end
section
open Go.RowKit
attribute [local irreducible] wpQuiet
theorem zL:eY prog 22 29 3 24:=.mk' (z:=.agg #[ae 0,ae 0,ak 0]) underlying22 aL rfl ai
theorem Nu (x1 x2 y1 y2:Int) (a b c:Int):
  (sj x1 x2 y1 y2 (a,b,c)=true/\decide (x1<=a)=true/\decide (a<=x2)=true/\decide (y1<=b)=true/\decide (b<=y2)=true)\/
  (sj x1 x2 y1 y2 (a,b,c)=false/\decide (x1<=a)=false)\/(sj x1 x2 y1 y2 (a,b,c)=false/\decide (x1<=a)=true/\decide (a<=x2)=false)\/
  (sj x1 x2 y1 y2 (a,b,c)=false/\decide (x1<=a)=true/\decide (a<=x2)=true/\decide (y1<=b)=false)\/
  (sj x1 x2 y1 y2 (a,b,c)=false/\decide (x1<=a)=true/\decide (a<=x2)=true/\decide (y1<=b)=true/\decide (b<=y2)=false):=by
 unfold sj;simp only[bO,gY];omega
theorem iG {l:List Pt} {i:Nat} (hi:i<l.length) (f:Pt->Bool):(f l[i]=true->ids ((l.take (i+1)).filter f)=ids ((l.take i).filter f)++[l[i].2.2])/\(f l[i]=false->ids ((l.take (i+1)).filter f)=ids ((l.take i).filter f)):=by
 rw[gT hi,kW];constructor<;>intro h
 .rw[Fg h];simp[ids]
 .rw[yK (by simp[h])];simp[ids]
theorem Nv (a:Option Addr) (l:List Pt) (n c:Nat) (w:World) (Y:l.length=n) (h:bV bX 3 w a l) (ar:n<=1000000) (x1 x2 y1 y2 q:Int):
  aK 78 #[.slice a n c,.agg #[ae x1,ae x2,ae y1,ae y2,ak q]] w fun e w'=>∃v,e=.returned v/\w'.ownsRow w.heap.size 27 1 v (hasB l x1 x2 y1 y2).length ((hasB l x1 x2 y1 y2).map (.int .u32))/\Below w.heap.size w w':=by
 subst Y;have H:=af h;clear h;have R:=af (fun a l n c w=>ug a l n c w);have J:hasB l x1 x2 y1 y2=dh (ids (l.filter (sj x1 x2 y1 y2))):=rfl;rw[J,dY];clear J;go_enter func78,ntmps78;obtain⟨w1,f⟩:∃w1,w1=w.alloc (.cells #[ae x1,ae x2,ae y1,ae y2,ak q] 38):=⟨_,rfl⟩;have r:Below w.heap.size w w1:=by rw[f];exact(aJ _ _).alloc (aA _) _
 have aw:w.heap.size+1=w1.heap.size:=by rw[f];simp
 have ah:w1.heap[w.heap.size]? =some (.cells #[ae x1,ae x2,ae y1,ae y2,ak q] 38 (0,0)):=by rw[f];show(w.heap.push _)[w.heap.size]? =_;simp
 have Q:=af f;clear f;have G:w.alloc (.cells #[ae x1,ae x2,ae y1,ae y2,ak q] 38)=w1:=Q.o.symm;go_wp2
 try rw[G]
 clear G
 go_loopw [5,6] (fun v B wr=>∃(i:Nat),B=.int .i64 i/\i<=l.length/\Hid (wr.ownsRow w1.heap.size 27 1 v (ids ((l.take i).filter (sj x1 x2 y1 y2))).length ((ids ((l.take i).filter (sj x1 x2 y1 y2))).map (.int .u32)))/\Below w1.heap.size w1 wr) (fun _ B _=>l.length-(intOf B).toNat)
 case atStart=>exact⟨0,rfl,aT _,by simp[ids];exact cZ _ _ _ _,aJ _ _⟩
 case round=>
  obtain⟨i,rfl,hi,HO,j⟩:=hrel;by_cases m:i<l.length
  .have k:=r.trans (j.mono r.size);obtain⟨b,off,K,ao,s⟩:=(H.o.below k).get aa;have N:=s i m 0 aa;have O:=s i m 1 aa;have P:=s i m 2 aa;simp only[bX,eG,eQ,df]at N O P;have bx:=(j.block w.heap.size aa).trans ah;have au:(ids ((l.take i).filter (sj x1 x2 y1 y2))).length<=1000000:=by
    unfold ids;rw[bK];exact bA (fq _ _) (by rw[dO];omega)
   have z:Hid _:=(iG m (sj x1 x2 y1 y2)).1;have y:Hid _:=(iG m (sj x1 x2 y1 y2)).2;have F:=af K;clear s K;generalize l[i]=p at*;obtain⟨C,D,t⟩:=p;simp only at N O P;obtain rfl:=F.o;clear F;generalize ids ((l.take i).filter (sj x1 x2 y1 y2))=L at*;have aj:wr.cell? (ag w.heap.size 0)=some (ae x1):=aI bx;have al:wr.cell? (ag w.heap.size 1)=some (ae x2):=aI bx;have am:wr.cell? (ag w.heap.size 2)=some (ae y1):=aI bx;have an:wr.cell? (ag w.heap.size 3)=some (ae y2):=aI bx;have ad:=j.size;have ap:w.heap.size<wr.heap.size:=aa;have ax:w.heap.size≠wr.heap.size:=aa;have aq:(i:Int)<(l.length:Int):=aa;clear bx;have x:=af (HO.o.alloc (.cells #[ae C,ae D,ak t] 29));have E:=j.alloc ad (.cells #[ae C,ae D,ak t] 29);rcases Nu x1 x2 y1 y2 C D t with⟨d,d1,d2,d3,d4⟩|⟨d,d1⟩|⟨d,d1,d2⟩|⟨d,d1,d2,d3⟩|⟨d,d1,d2,d3,d4⟩
   .have u:=af (z.o d);clear d z y
    go_wp2_with (at_builtin;refine iw CF w1.heap.size x.o [.int .u32 t] rfl (by simp[Value.oneCell']) rfl _ _ rfl rfl _ (by show aC (wr.heap.size+1) 1 1=_;simp) dE aa aH ?_;intro ay w6 Z A;have S:=bH E x.o A aH (aA _))
    go_roundw
    case rel=>
     refine⟨i+1,by go_num,aa,?_,S⟩;show World.ownsRow _ _ _ _ _ _ _;rw[u.o,bJ,bQ];exact Z
    case measure=>exact bZ
   all_goals
    have u:=af (y.o d);clear d z y;go_wp2;go_roundw
    case rel=>
     refine⟨i+1,by go_num,aa,?_,E⟩;show World.ownsRow _ _ _ _ _ _ _;rw[u.o];exact x.o
    case measure=>exact bZ
  .obtain rfl:i=l.length:=aa;have k:=r.trans (j.mono r.size);have I:=HO.o;rw[iE]at I;have V:(ids (l.filter (sj x1 x2 y1 y2))).length<=1000000:=by
    unfold ids;rw[bK];exact bA (fq _ _) aa
   obtain⟨av,cv,rfl,-,-,ab⟩:=Rd.aD I;have X:=R.o av _ _ cv wr rfl ab V
   go_wp2_with (go_at_call 156;refine X.mono ?_;rintro e az ⟨ai,rfl,M,W⟩)
   go_ret;refine⟨ai,rfl,?_,k.trans (W.mono k.size)⟩;exact⟨M.1,by
    rcases M.2 with h|⟨g,T,U,e,A,ac⟩
    .exact .inl h
    .exact .inr ⟨g,T,U,e,bA k.size A,ac⟩⟩
end
section
open Go Go.RowKit
abbrev Gr:Int:=-9223372036854775808
abbrev LZ:Int:=9223372036854775807
def Rw (l:List Pt):Prop:=∀p∈l,(Lit.int .i64 p.1).wf=true/\(Lit.int .i64 p.2.1).wf=true/\(Lit.int .u32 p.2.2).wf=true
theorem VZ {x:Int} (h:(Lit.int .i64 x).wf=true):Gr<=x/\x<=LZ:=by
 simp[Lit.wf,IntKind.min,IntKind.max,IntKind.signed,IntKind.bits]at h;exact h
def rY (l:List Pt) (f:Pt->Bool):List Int:=dh (ids (l.filter f))
theorem Ky {l:List Pt} {f g:Pt->Bool} (h:∀p∈l,f p=g p):rY l f=rY l g:=by
 unfold rY;rw[l9 h]
theorem P8:dh []=[]:=iC (dY [])
def Rx (n x:Int) (up:Bool):Bool:=if up then decide (x<=n)else decide (n<=x)
def kM (x y:Int) (wx wy:Bool) (p:Pt):Bool:=Rx p.1 x wx&&Rx p.2.1 y wy
def bx1 (x:Int) (up:Bool):Int:=if up then x else Gr
def Ar (x:Int) (up:Bool):Int:=if up then LZ else x
theorem UT {p:Pt} (e:(Lit.int .i64 p.1).wf=true) (f:(Lit.int .i64 p.2.1).wf=true) (x y:Int) (c d:Bool):sj (bx1 x c) (Ar x c) (bx1 y d) (Ar y d) p=kM x y c d p:=by
 have a:=VZ e;have b:=VZ f;unfold Gr LZ at a b;cases c<;>cases d<;>simp only[sj,kM,Rx,bx1,Ar,Gr,LZ,gJ,jC,pq,<-Bool.decide_and]<;>refine pF.2 ?_<;>omega
theorem Im {l:List Pt} (c:Rw l) (x y:Int) (a b:Bool):hasB l (bx1 x a) (Ar x a) (bx1 y b) (Ar y b)=rY l (kM x y a b):=
 Ky fun p hp=>UT (c p hp).1 (c p hp).2.1 x y a b
end
section
open Go.RowKit Go.Maps
attribute [local irreducible] wpQuiet
theorem V3 (x:Int) (a:Bool) (w:World):
  aK 173 #[ae x,.bool a] w fun e w'=>e=.returned (.tuple #[ae (bx1 x a),ae (Ar x a)])/\w'=w:=by
 cases a
 all_goals
  go_enter func173,ntmps173;go_wp2;go_ret2;exact⟨rfl,rfl⟩
theorem Sr (x y:Int) (a b:Bool) (d:Int) (c:d=(if a then 1 else 0)+(if b then 2 else 0)) (w:World):
  aK 107 #[ae x,ae y,.int .u8 d] w fun e w'=>e=.returned (.agg #[ae (bx1 x a),ae (Ar x a),ae (bx1 y b),ae (Ar y b),ak 0])/\w'=(w.alloc (.cells #[ae (bx1 x a),ae (Ar x a),ae (bx1 y b),ae (Ar y b),ak 0] 38)).alloc (.cells #[ae (bx1 x a),ae (Ar x a),ae (bx1 y b),ae (Ar y b),ak 0] 38):=by
 have C:=af (fun x f w=>V3 x f w);cases a<;>cases b<;>simp only[gJ,jC,pq,Int.add_zero,Int.zero_add,Int.reduceAdd]at c<;>subst c
 all_goals
  go_enter func107,ntmps107
  go_wp2_with (go_at_call 173;refine(C.o _ _ _).mono ?_;rintro e w1 ⟨rfl,rfl⟩)
  (try simp only[Exit.inBlock,Exit.then])
  refine kC (results_cell_row rfl _ _ w.heap.size _ _ _ _ rfl (FR _ _ _) underlying38 rfl aL) rfl ?_
  first
   |exact⟨rfl,rfl⟩
   |(simp only[show(bits .and .u8 0 1==1)=false by decide,show(bits .and .u8 0 2==2)=false by decide,show(bits .and .u8 1 1==1)=true by decide,show(bits .and .u8 1 2==2)=false by decide,show(bits .and .u8 2 1==1)=false by decide,show(bits .and .u8 2 2==2)=true by decide,show(bits .and .u8 3 1==1)=true by decide,show(bits .and .u8 3 2==2)=true by decide];exact⟨rfl,rfl⟩)
theorem P9 (x y:Int) (a b:Bool) (c:Int) (g:c=(if a then 1 else 0)+(if b then 2 else 0)) (w:World):
  aK 107 #[ae x,ae y,.int .u8 c] w (gD w (.agg #[ae (bx1 x a),ae (Ar x a),ae (bx1 y b),ae (Ar y b),ak 0])):=
 (Sr x y a b c g w).mono fun e w' ⟨d,f⟩=>⟨d,by rw[f];exact((aJ _ _).alloc (aA _) _).alloc ax _⟩
theorem Au (w:World):
  aK 106 #[.pointer none] w fun e w'=>e=.returned (.bool true)/\w'=w:=by
 go_enter func106,ntmps106;go_wp2;go_ret;exact⟨rfl,rfl⟩
theorem yj (cb:Nat) (tb:Nat) (w:World) (h:w.cell? (ag cb 0)=some (aj tb)):
  aK 106 #[aj cb] w fun e w'=>e=.returned (.bool false)/\w'=w:=by
 go_enter func106,ntmps106;go_wp2;go_ret;exact⟨rfl,rfl⟩
end
section
open Go.RowKit Go.Maps
attribute [local irreducible] wpQuiet
attribute [local go_sem] Oper.dZ
theorem Io:eU 107:=bP func107 aL rfl
theorem Ip:eU 39:=bP func39 aL rfl
theorem Kz:eU 82:=bP func82 aL rfl
theorem Ny:eU 106:=bP func106 aL rfl
section
variable {w:World} {cb tb:Nat}
theorem Nz {R:World->Value->Value->World->Prop} (F:cb<w.heap.size) (n:w.cell? (ag cb 0)=some (aj tb)) (x y:Int) (a b:Bool) (f:Int) (h:f=(if a then 1 else 0)+(if b then 2 else 0))
  (C:∀W,Below w.heap.size w W->aK 39 #[aj tb,.agg #[ae (bx1 x a),ae (Ar x a),ae (bx1 y b),ae (Ar y b),ak 0]] W fun e W'=>∃v c,e=.returned (.tuple #[v,c])/\Below W.heap.size W W'/\R W v c W'):
  aK 40 #[aj cb,ae x,ae y,.int .u8 f] w fun e w'=>∃v c,e=.returned (.tuple #[v,c])/\∃W,Below w.heap.size w W/\R W v c w':=by
 have q:=af (yj cb tb w n);have r:=af (fun W=>P9 x y a b f h W);have j:=af C;have d3:decide (3<f)=false:=by simp only[gY];cases a<;>cases b<;>simp at h<;>omega
 have H:decide (f>3)=false:=d3;have G:=af F;clear C h;generalize bx1 x a=z at*;generalize Ar x a=A at*;generalize bx1 y b=B at*;generalize Ar y b=D at*;go_enter func40,ntmps40
 go_wp2_with fail
 refine q.o.mono ?_;rintro e w1 ⟨rfl,rfl⟩
 go_wp2_with fail
 have E:∀p:aR w1,p.W.cell? (ag cb 0)=some (aj tb):=ah n;refine au (fun W=>∃p:aR w1,W=p.W) [8,9,10,11,12] [(0,false),(1,false),(2,false),(3,true),(4,false),(5,false),(6,false)] ⟨⟨_,(aJ _ _).drew⟩,rfl⟩ 6 ?_;refine ay 7 rfl fun K g=>?_;refine aY Io rfl _ _ rfl (vals:=#[ae x,ae y,.int .u8 f]) rfl (r.o _) ?_;rintro e w2 ⟨rfl,l⟩;have d:Below w1.heap.size w1 w2:=(aJ _ _).drew.trans l;refine⟨_,rfl,?_⟩;refine g _ _ (fun _ _=>⟨⟨_,d⟩,rfl⟩) ?_;clear g K;have s:=af (j.o w2 d);clear j l E;refine ay 8 rfl fun K g=>?_;refine aY Ip rfl _ _ rfl (vals:=#[aj tb,.agg #[ae z,ae A,ae B,ae D,ak 0]]) rfl s.o ?_;rintro e w3 ⟨v,c,rfl,m,k⟩;have i:=d.trans (m.mono d.size);have u:=af k;have t:=af d;clear k d m;refine⟨_,rfl,?_⟩;refine g _ _ (fun _ _=>⟨⟨_,i⟩,rfl⟩) ?_;clear g K;refine aW [(9,false),(10,false)] ⟨⟨_,i⟩,rfl⟩ rfl ?_;refine aF [11,12] ?_
 go_wp2_with fail
 go_ret2;exact⟨v,c,rfl,w2,t.o,u.o⟩
theorem Gs {w:World} (p:Option Addr) (hp:p=none\/∃cb tb,p=some (ag cb 0)/\w.cell? (ag cb 0)=some (aj tb)) (x y b:Int) (d:p=none\/3<b):
  aK 40 #[.pointer p,ae x,ae y,.int .u8 b] w fun e w'=>e=.returned (.tuple #[aM,ae 0])/\w'=w:=by
 rcases hp with rfl|⟨cb,tb,rfl,c⟩
 .have a:=af (Au w);go_enter func40,ntmps40
  go_wp2_with (go_at_call 106;refine a.o.mono ?_;rintro e w1 ⟨rfl,rfl⟩)
  go_ret2;exact⟨rfl,rfl⟩
 .have a:=af (yj cb tb w c);have d3:decide (3<b)=true:=by rcases d with h|h;cases h;simpa using h
  go_enter func40,ntmps40
  go_wp2_with (go_at_call 106;refine a.o.mono ?_;rintro e w1 ⟨rfl,rfl⟩)
  go_ret2;exact⟨rfl,rfl⟩
theorem Qa {R:World->Value->Value->World->Prop} (F:cb<w.heap.size) (n:w.cell? (ag cb 0)=some (aj tb)) (x y:Int) (a b:Bool) (f:Int) (h:f=(if a then 1 else 0)+(if b then 2 else 0))
  (C:∀W,Below w.heap.size w W->aK 82 #[aj tb,.agg #[ae (bx1 x a),ae (Ar x a),ae (bx1 y b),ae (Ar y b),ak 0]] W fun e W'=>∃v c,e=.returned (.tuple #[v,c])/\Below W.heap.size W W'/\R W v c W'):
  aK 84 #[aj cb,ae x,ae y,.int .u8 f] w fun e w'=>∃v c,e=.returned (.tuple #[v,c])/\∃W,Below w.heap.size w W/\R W v c w':=by
 have q:=af (yj cb tb w n);have r:=af (fun W=>P9 x y a b f h W);have j:=af C;have d3:decide (3<f)=false:=by simp only[gY];cases a<;>cases b<;>simp at h<;>omega
 have H:decide (f>3)=false:=d3;have G:=af F;clear C h;generalize bx1 x a=z at*;generalize Ar x a=A at*;generalize bx1 y b=B at*;generalize Ar y b=D at*;go_enter func84,ntmps84
 go_wp2_with fail
 refine q.o.mono ?_;rintro e w1 ⟨rfl,rfl⟩
 go_wp2_with fail
 have E:∀p:aR w1,p.W.cell? (ag cb 0)=some (aj tb):=ah n;refine au (fun W=>∃p:aR w1,W=p.W) [8,9,10,11,12] [(0,false),(1,false),(2,false),(3,true),(4,false),(5,false),(6,false)] ⟨⟨_,(aJ _ _).drew⟩,rfl⟩ 6 ?_;refine ay 7 rfl fun K g=>?_;refine aY Io rfl _ _ rfl (vals:=#[ae x,ae y,.int .u8 f]) rfl (r.o _) ?_;rintro e w2 ⟨rfl,l⟩;have d:Below w1.heap.size w1 w2:=(aJ _ _).drew.trans l;refine⟨_,rfl,?_⟩;refine g _ _ (fun _ _=>⟨⟨_,d⟩,rfl⟩) ?_;clear g K;have s:=af (j.o w2 d);clear j l E;refine ay 8 rfl fun K g=>?_;refine aY Kz rfl _ _ rfl (vals:=#[aj tb,.agg #[ae z,ae A,ae B,ae D,ak 0]]) rfl s.o ?_;rintro e w3 ⟨v,c,rfl,m,k⟩;have i:=d.trans (m.mono d.size);have u:=af k;have t:=af d;clear k d m;refine⟨_,rfl,?_⟩;refine g _ _ (fun _ _=>⟨⟨_,i⟩,rfl⟩) ?_;clear g K;refine aW [(9,false),(10,false)] ⟨⟨_,i⟩,rfl⟩ rfl ?_;refine aF [11,12] ?_
 go_wp2_with fail
 go_ret2;exact⟨v,c,rfl,w2,t.o,u.o⟩
theorem Iq {w:World} (p:Option Addr) (hp:p=none\/∃cb tb,p=some (ag cb 0)/\w.cell? (ag cb 0)=some (aj tb)) (x y b:Int) (d:p=none\/3<b):
  aK 84 #[.pointer p,ae x,ae y,.int .u8 b] w fun e w'=>e=.returned (.tuple #[ae 0,ae 0])/\w'=w:=by
 rcases hp with rfl|⟨cb,tb,rfl,c⟩
 .have a:=af (Au w);go_enter func84,ntmps84
  go_wp2_with (go_at_call 106;refine a.o.mono ?_;rintro e w1 ⟨rfl,rfl⟩)
  go_ret2;exact⟨rfl,rfl⟩
 .have a:=af (yj cb tb w c);have d3:decide (3<b)=true:=by rcases d with h|h;cases h;simpa using h
  go_enter func84,ntmps84
  go_wp2_with (go_at_call 106;refine a.o.mono ?_;rintro e w1 ⟨rfl,rfl⟩)
  go_ret2;exact⟨rfl,rfl⟩
end
section
variable {w:World} {cb tb:Nat}
theorem Su {R:World->Bool->World->Prop} (t:cb<w.heap.size) (s:w.cell? (ag cb 0)=some (aj tb)) (c d a:Int)
  (C:∀W,Below w.heap.size w W->aK 128 #[aj tb,jb c d a] W fun e W'=>∃b,e=.returned (.bool b)/\R W b W'):
  aK 125 #[aj cb,jb c d a] w fun e w'=>∃b,e=.returned (.bool b)/\∃W,Below w.heap.size w W/\R W b w':=by
 have j:=af C;clear C;go_enter func125,ntmps125
 go_wp2_with fail
 obtain⟨w1,g⟩:∃w1,w1=w.alloc (.cells #[ae c,ae d,ak a] 29):=⟨_,rfl⟩;have h:w1.heap[w.heap.size]? =some (.cells #[ae c,ae d,ak a] 29 (0,0)):=by rw[g];exact bY _ _
 have f:Below w.heap.size w w1:=by rw[g];exact(aJ _ _).alloc (aA _) _
 rw[<-g];clear g;have i:w1.cell? (ag cb 0)=some (aj tb):=(f.cell (p:=(ag cb 0)) t).trans s;have m:=af (yj cb tb w1.drew i);have u:=ah i;have v:=ah (show w1.cell? (ag w.heap.size 0)=some (ae c) by simp[World.cell?,h]);have x:=ah (show w1.cell? (ag w.heap.size 1)=some (ae d) by simp[World.cell?,h]);have y:=ah (show w1.cell? (ag w.heap.size 2)=some (ak a) by simp[World.cell?,h]);have n:=af (j.o w1.drew f.drew);have q:=af (show Below w.heap.size w w1.drew from f.drew);clear j h f i;refine au (fun W=>∃p:aR w1,W=p.W) [9,10,11] [(0,false)] ⟨⟨_,(aJ _ _).drew⟩,rfl⟩ 11 ?_;refine ay 1 rfl fun K k=>?_;refine aY Ny rfl _ _ rfl (vals:=#[aj cb]) rfl m.o ?_;rintro e w2 ⟨rfl,rfl⟩;refine⟨_,rfl,?_⟩;refine k _ _ (fun _ _=>⟨⟨_,(aJ _ _).drew⟩,rfl⟩) ?_;clear k K;refine aW [(2,false),(3,false),(4,false),(5,false),(6,false),(7,true),(8,true)] ⟨⟨_,(aJ _ _).drew⟩,rfl⟩ rfl ?_;refine aF [9,10,11] ?_
 go_wp2_with fail
 refine n.o.mono ?_;rintro e w3 ⟨b,rfl,l⟩;have r:=af l;clear l
 go_wp2_with fail
 go_ret;exact⟨b,rfl,_,q.o,r.o⟩
theorem Qb {a:Option Addr} {n c:Nat} {R:Nat->World->Prop} (C:aK 35 #[.slice a n c] w fun e W'=>∃tb,e=.returned (.tuple #[aj tb,ae 0])/\Below w.heap.size w W'/\R tb W'):
  aK 36 #[.slice a n c] w fun e w'=>∃tb W,e=.returned (.tuple #[aj W.heap.size,ae 0])/\R tb W/\Below w.heap.size w W/\w'=W.alloc (.cells #[aj tb] 153):=by
 have d:=af C;go_enter func36,ntmps36
 go_wp2_with (go_at_call 35;refine d.o.mono ?_;rintro e w1 ⟨tb,rfl,g,b⟩;have f:=af b;clear b)
 go_ret2;exact⟨tb,w1,rfl,f.o,g,rfl⟩
end
end
section
open Go.RowKit Go.Sort Go.Shelf Go.Lib Go.Maps
def qd (w:World) (lo hi cb n0:Nat) (l:List Pt):Prop:=
 ∃tb h2,iK w lo h2 tb n0 l/\h2<=cb/\cb<hi/\hi<=w.heap.size/\w.heap[cb]? =some (.cells #[aj tb] 153 (0,0))
section
variable {w w':World} {lo hi cb n0:Nat} {l:List Pt}
theorem iK.Gt {w:World} {lo hi tb n0:Nat} {l:List Pt} (h:iK w lo hi tb n0 l):l.length<=n0/\n0<=20000:=by
 have⟨fb,R,gone,YS,V,c,a,b,d,e⟩:=h;have:=a.R4;have:=b.len a;omega
theorem iK.lo_le {w:World} {lo hi tb n0:Nat} {l:List Pt} (h:iK w lo hi tb n0 l):lo<=hi:=by
 have⟨fb,R,gone,YS,V,a,b⟩:=h;have:=a.fM;omega
theorem qd.kept {S:Nat->Prop} (h:qd w lo hi cb n0 l) (K:aB S w w') (hS:∀k,lo<=k->k<hi->¬S k):qd w' lo hi cb n0 l:=by
 have⟨tb,c,b,d,a,e,f⟩:=h;have:=b.lo_le;exact⟨tb,c,b.kept K (fun k g i=>hS k g aa),d,a,bA e K.size,(K.block cb aa (hS cb aa a)).trans f⟩
theorem um {w:World} {cb tb:Nat} (h:w.heap[cb]? =some (.cells #[aj tb] 153 (0,0))):w.cell? (ag cb 0)=some (aj tb):=aI h
theorem Sv (a:Option Addr) (c:Nat) (l:List Pt) (w:World) (h:bV bX 3 w a l) (i:l.length<=20000) (j:Jw l) (hu:lF l=true):
  aK 36 #[.slice a l.length c] w fun e w'=>∃cb,e=.returned (.tuple #[aj cb,ae 0])/\qd w' w.heap.size w'.heap.size cb l.length l/\Below w.heap.size w w':=by
 refine(Qb (R:=fun tb W=>iK W w.heap.size W.heap.size tb l.length l) ((PZ a c l w h i j hu).mono fun e w1 ⟨tb,g,d,b⟩=>⟨tb,g,b,d⟩)).mono ?_;rintro e w' ⟨tb,W,rfl,d,b,rfl⟩;have f:Below W.heap.size W (W.alloc (.cells #[aj tb] 153)):=(aJ _ _).alloc (aA _) _;exact⟨_,rfl,⟨tb,W.heap.size,d.below f (aA _),aA _,ax,aA _,bY _ _⟩,b.trans (f.mono b.size)⟩
theorem Qc (h:qd w lo hi cb n0 l) (n:Rw l) (x y:Int) (a b:Bool) (j:Int) (o:j=(if a then 1 else 0)+(if b then 2 else 0)):
  aK 40 #[aj cb,ae x,ae y,.int .u8 j] w fun e w'=>∃v,∃c:Nat,e=.returned (.tuple #[v,ae ((c+(rY l (kM x y a b)).length:Nat):Int)])/\c<=8*Lib.bitLen n0+1/\w'.ownsRow w.heap.size 27 1 v (rY l (kM x y a b)).length ((rY l (kM x y a b)).map (Value.int .u32))/\Below w.heap.size w w':=by
 have⟨tb,p,m,r,s,t,k⟩:=h;refine(Nz (R:=fun W v q w'=>∃c:Nat,q=.int .i64 ((c+(rY l (kM x y a b)).length:Nat):Int)/\c<=8*Lib.bitLen n0+1/\w'.ownsRow W.heap.size 27 1 v (rY l (kM x y a b)).length ((rY l (kM x y a b)).map (Value.int .u32))/\Below W.heap.size W w') aa (um k) x y a b j o ?_).mono ?_
 .intro W d;refine(LY (m.below d aa) (bx1 x a) (Ar x a) (bx1 y b) (Ar y b) 0).mono ?_;rintro e w' ⟨v,c,rfl,g,i,f⟩;rw[Im n]at*;exact⟨v,_,rfl,f,c,rfl,g,i,f⟩
 .rintro e w' ⟨v,q,rfl,W,d,c,rfl,g,i,f⟩;exact⟨v,c,rfl,g,bM i d.size,d.trans (f.mono d.size)⟩
theorem Sw (h:qd w lo hi cb n0 l) (m:Rw l) (x y:Int) (a b:Bool) (i:Int) (n:i=(if a then 1 else 0)+(if b then 2 else 0)):
  aK 84 #[aj cb,ae x,ae y,.int .u8 i] w fun e w'=>(∃c:Nat,e=.returned (.tuple #[ae ((rY l (kM x y a b)).length:Nat),ae c])/\c<=8*Lib.bitLen n0+1)/\Below w.heap.size w w':=by
 have⟨tb,o,k,p,r,s,j⟩:=h;refine(Qa (R:=fun W v q w'=>∃c:Nat,v=.int .i64 ((rY l (kM x y a b)).length:Nat)/\q=.int .i64 c/\c<=8*Lib.bitLen n0+1/\Below W.heap.size W w') aa (um j) x y a b i n ?_).mono ?_
 .intro W d;refine(P6 (k.below d aa) (bx1 x a) (Ar x a) (bx1 y b) (Ar y b) 0).mono ?_;rintro e w' ⟨⟨c,rfl,g⟩,f⟩;rw[<-P5,Im m];exact⟨_,_,rfl,f,c,rfl,rfl,g,f⟩
 .rintro e w' ⟨v,q,rfl,W,d,c,rfl,rfl,g,f⟩;exact⟨⟨c,rfl,g⟩,d.trans (f.mono d.size)⟩
theorem Ir (h:qd w lo hi cb n0 l) (x y a:Int) (c:3<a):
  aK 40 #[aj cb,ae x,ae y,.int .u8 a] w fun e w'=>e=.returned (.tuple #[aM,ae 0])/\w'=w:=by
 have⟨tb,d,j,f,g,i,b⟩:=h;exact Gs _ (.inr ⟨cb,tb,rfl,um b⟩) x y a (.inr c)
theorem KA (h:qd w lo hi cb n0 l) (x y a:Int) (c:3<a):
  aK 84 #[aj cb,ae x,ae y,.int .u8 a] w fun e w'=>e=.returned (.tuple #[ae 0,ae 0])/\w'=w:=by
 have⟨tb,d,j,f,g,i,b⟩:=h;exact Iq _ (.inr ⟨cb,tb,rfl,um b⟩) x y a (.inr c)
end
end
end Go.Proofs.YtkjdbndekceffaaGreat
namespace Go.Proofs
open Go.Shelf
def Tryz.Gu:Go.Shelf.Ren:=⟨fun|6=>98|15=>86|14=>167|28=>160|29=>161|20=>242|21=>243|22=>244|23=>245|24=>246|25=>247|26=>248|27=>249|46=>296|47=>286|48=>287|49=>297|50=>298|57=>322|n=>n,fun|22=>148|24=>3|25=>157|3=>3|39=>135|0=>0|53=>27|55=>229|4=>4|46=>308|45=>307|50=>30|5=>5|9=>9|66=>364|70=>368|76=>391|77=>60|n=>n,fun|n=>n⟩
theorem Tryz.Iu:Go.Proofs.SlLaysF.n6 Tryz.prog Tryz.Gu:={
 mixed:=aL
 f6:=gQ Tryz.func98
 f14:=gQ Tryz.func167
 f15:=Tryz.func86.trans (congrArg some aL)
 f20:=gQ Tryz.func242
 f21:=gQ Tryz.func243
 f22:=gQ Tryz.func244
 f23:=gQ Tryz.func245
 f24:=gQ Tryz.func246
 f25:=gQ Tryz.func247
 f26:=gQ Tryz.func248
 f27:=gQ Tryz.func249
 f28:=Tryz.func160.trans (congrArg some aL)
 f29:=Tryz.func161.trans (congrArg some aL)
 f46:=gQ Tryz.func296
 f47:=Tryz.func286.trans (congrArg some aL)
 f48:=Tryz.func287.trans (congrArg some aL)
 f49:=gQ Tryz.func297
 f50:=gQ Tryz.func298
 f57:=gQ Tryz.func322
 t0:=vR
 a0:=wB
 z0:=vZ
 v0:=vU
 t3:=sN
 a3:=oM
 z3:=oJ
 v3:=sP
 t4:=qy
 a4:=tq
 z4:=sW
 v4:=sQ
 t5:=Tryz.underlying5
 a5:=Tryz.isAgg5
 z5:=Tryz.sizeOf5
 v5:=Tryz.zeroValue5
 t9:=Tryz.underlying9
 a9:=Tryz.isAgg9
 z9:=Tryz.sizeOf9
 v9:=Tryz.zeroValue9
 t22:=Tryz.underlying148
 a22:=Tryz.isAgg148
 z22:=Tryz.sizeOf148
 v22:=Tryz.zeroValue148
 a24:=oM
 z24:=oJ
 t25:=Tryz.underlying157
 a25:=Tryz.isAgg157
 z25:=Tryz.sizeOf157
 v25:=Tryz.zeroValue157
 t39:=BA
 a39:=Tryz.isAgg135
 z39:=BV
 v39:=BH
 t45:=Tryz.underlying307
 a45:=Tryz.isAgg307
 z45:=Tryz.sizeOf307
 v45:=Tryz.zeroValue307
 t46:=Tryz.underlying308
 a46:=Tryz.isAgg308
 z46:=Tryz.sizeOf308
 v46:=Tryz.zeroValue308
 t50:=Tryz.underlying30
 a50:=Tryz.isAgg30
 z50:=Tryz.sizeOf30
 v50:=Tryz.zeroValue30
 t53:=BI
 a53:=y8
 z53:=yZ
 v53:=BN
 t55:=BB
 a55:=Tryz.isAgg229
 z55:=BX
 v55:=BJ
 t66:=Tryz.underlying364
 a66:=Tryz.isAgg364
 z66:=Tryz.sizeOf364
 v66:=Tryz.zeroValue364
 t70:=Tryz.underlying368
 a70:=Tryz.isAgg368
 z70:=Tryz.sizeOf368
 v70:=Tryz.zeroValue368
 t76:=Tryz.underlying391
 a76:=Tryz.isAgg391
 z76:=Tryz.sizeOf391
 v76:=Tryz.zeroValue391
 t77:=Tryz.underlying60
 a77:=Tryz.isAgg60
 z77:=Tryz.sizeOf60
 v77:=Tryz.zeroValue60}
end Go.Proofs
