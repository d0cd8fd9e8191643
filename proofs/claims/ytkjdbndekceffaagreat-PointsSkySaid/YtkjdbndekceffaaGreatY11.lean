/- Made small by a program. -/
import Derived.Test.YtkjdbndekceffaaGreatY09
import Derived.Test.YtkjdbndekceffaaGreatY10
set_option linter.unusedSimpArgs false
set_option linter.unusedVariables false
set_option maxRecDepth 100000
set_option maxHeartbeats 16000000
namespace Go.Proofs.YtkjdbndekceffaaGreat
open Tryz
section
open Go.RowKit Go.Maps
attribute [local irreducible] wpQuiet
def Vv (l:List Pt) (p:Pt) (w:World) (e:Ending) (w':World):Prop:=
 ∃k:Nat,e=.returned (.tuple #[ae k,.bool (decide (∃h:k<l.length,iG l[k] p=0))])/\k<=l.length/\(∀t (h:t<l.length),t<k->iG l[t] p<0)/\(∀t (h:t<l.length),k<=t->¬iG l[t] p<0)/\Below w.heap.size w w'
theorem Vw (a:Option Addr) (l:List Pt) (n ao:Nat) (p:Pt) (W:World) (au:l.length=n) (aC:n<=1000000) (ab:bV dw 3 W a l) (ac:l.Pairwise kH):
  aK 191 #[.slice a n ao,iV p.1 p.2.1 p.2.2,.func (.func 94) #[] #[]] W (Vv l p W):=by
 subst au;obtain⟨d,f,c⟩:=p;have X:=ag ab;have am:=ag ac;have V:=ag (fun(q:Pt) W=>(SF q (d,f,c) W).mono (fun e w' (h:e=.returned (ae (iG q (d,f,c)))/\xx W w')=>(⟨h.1,h.2.below (aB _)⟩:e=.returned (ae (iG q (d,f,c)))/\Below W.heap.size W w')));have ai:Hid (∀t i (Y:t<l.length) (g:i<l.length),t<=i->iG l[i] (d,f,c)<0->iG l[t] (d,f,c)<0):=fun t i Y g L M=>by
  by_cases e:t=i
  .subst e;exact M
  .have ap:=fZ.1 am.o t i Y g aa;rw[qo]at M |-;exact oJ ap M
 clear ab ac;go_enter func191,ntmps191
 go_wp2_with fail
 have Z:Below W.heap.size W (W.alloc (.cells #[ae d,ae f,ak c] 29)):=(aJ _ _).alloc (aB _) _;have an:Hid ((W.alloc (.cells #[ae d,ae f,ak c] 29)).heap[W.heap.size]? =some (.cells #[ae d,ae f,ak c] 29 (0,0))):=df W _;have av:W.heap.size<(W.alloc (.cells #[ae d,ae f,ak c] 29)).heap.size:=aA;generalize(W.alloc (.cells #[ae d,ae f,ak c] 29))=J at*;have U:=ag Z;clear Z
 go_loopw [9,10] (fun O P wr=>∃i j:Nat,O=.int .i64 i/\P=.int .i64 j/\i<=j/\j<=l.length/\Hid (∀t (h:t<l.length),t<i->iG l[t] (d,f,c)<0)/\Hid (∀t (h:t<l.length),j<=t->¬iG l[t] (d,f,c)<0)/\Hid (Below J.heap.size J wr))
  (fun O P _=>(intOf P).toNat-(intOf O).toNat)
 case atStart=>exact⟨0,l.length,rfl,rfl,bH _,aB _,fun t h g=>absurd g (jL _),fun t h g=>absurd h aa,aJ _ _⟩
 case round=>
  obtain⟨i,j,rfl,rfl,az,aq,K,T,F⟩:=hrel;have A:Below W.heap.size W wr:=U.o.trans (F.o.mono U.o.size);have D:=(F.o.block _ av).trans an.o;have Q:=ah (w:=wr) (ad:=(af W.heap.size 0)) (v:=.int .i64 d) (aD D);have R:=ah (w:=wr) (ad:=(af W.heap.size 1)) (v:=.int .i64 f) (aD D);have S:=ah (w:=wr) (ad:=(af W.heap.size 2)) (v:=.int .u32 c) (aD D);by_cases aE:i<j
  .obtain⟨m,ar⟩:∃m,m=(i+j)/2:=⟨_,rfl⟩;have aF:((i:Int)+(j:Int))/2=(m:Int):=aa;have C:m<l.length:=aa;have aG:i<=m/\m<j:=aa;clear ar;obtain⟨b,off,y,N,u⟩:=(X.o.below A).get aa;have r:=u (m) C 0 aa;have x1:=u (m) C 1 aa;have x2:=u (m) C 2 aa;simp only[dw,fG,dx,dH]at r x1 x2;have r:=ah r;have x1:=ah x1;have x2:=ah x2;have I:Hid (iG l[m] (d,f,c)<0->∀t (h:t<l.length),t<m+1->iG l[t] (d,f,c)<0):=fun h t ht g=>ai.o t _ ht C aa h;have H:Hid (¬iG l[m] (d,f,c)<0->∀t (h:t<l.length),m<=t->¬iG l[t] (d,f,c)<0):=fun h t ht g L=>h (ai.o _ t C ht g L);have s:Hid (∀p:aR wr,aK 94 #[iV l[m].1 l[m].2.1 l[m].2.2,iV d f c] p.W fun e w'=>e=.returned (ae (iG l[m] (d,f,c)))/\Below p.W.heap.size p.W w'):=fun p=>V.o l[m] p.W;have x:=ag y;obtain⟨o,k⟩:∃o,o=iG l[m] (d,f,c):=⟨_,rfl⟩;rw[<-k]at I H s;clear u y k D;generalize l[m]=q at*;obtain⟨ax,ay,aw⟩:=q;simp only at r x1 x2 s;obtain rfl:=x.o;clear x
   go_upto_region 5 with fail
   refine bI aN aN ?_
   repeat(quiet_step ((go_at_call 94;exact dK (s.o _))))
   refine jN ?_;intro w2 E;have z:Below wr.heap.size wr w2:=by obtain⟨p,rfl⟩:=E;exact p.h
   have G:Hid (Below J.heap.size J w2):=F.o.trans (z.mono F.o.size);clear E Q R S r x1 x2 z s;by_cases k:o<0
   .have al:=ag (I.o k);have d1:decide (o<0)=true:=aP k;clear I H;go_wp2;go_roundw
    case rel=>exact⟨m+1,j,by go_num,rfl,aa,aq,al,T,G⟩
    case measure=>exact dX
   .have aj:=ag (H.o k);have d1:decide (o<0)=false:=aP k;clear I H;go_wp2;go_roundw
    case rel=>exact⟨i,m,rfl,rfl,aa,aa,K,aj,G⟩
    case measure=>exact dX
  .obtain rfl:i=j:=aa;by_cases B:i<l.length
   .obtain⟨b,off,y,N,u⟩:=(X.o.below A).get aa;have r:=u i B 0 aa;have x1:=u i B 1 aa;have x2:=u i B 2 aa;simp only[dw,fG,dx,dH]at r x1 x2;have r:=ah r;have x1:=ah x1;have x2:=ah x2;have s:Hid (∀p:aR wr,aK 94 #[iV l[i].1 l[i].2.1 l[i].2.2,iV d f c] p.W fun e w'=>e=.returned (ae (iG l[i] (d,f,c)))/\Below p.W.heap.size p.W w'):=fun p=>V.o l[i] p.W;have x:=ag y;obtain⟨o,k⟩:∃o,o=iG l[i] (d,f,c):=⟨_,rfl⟩;have HO:Hid (decide (∃h:i<l.length,iG l[i] (d,f,c)=0)=(o==0)):=by
     show _=_;rw[k,lI];simp[B]
    rw[<-k]at s;have hd:decide (i<l.length)=true:=aP B;clear u y k D;generalize l[i]=q at*;obtain⟨ax,ay,aw⟩:=q;simp only at r x1 x2 s;obtain rfl:=x.o;clear x
    go_upto_region 8 with fail
    refine bI aN aN ?_
    repeat(quiet_step ((go_at_call 94;exact dK (s.o _))))
    refine jN ?_;intro w2 E;have z:Below wr.heap.size wr w2:=by obtain⟨p,rfl⟩:=E;exact p.h
    have G:Hid (Below W.heap.size W w2):=A.trans (z.mono A.size);clear E Q R S r x1 x2 z s;go_wp2;go_ret2;exact⟨i,by rw[HO.o];rfl,aa,K.o,(fun t h g L=>absurd (T.o t h g) aa),G.o⟩
   .obtain rfl:i=l.length:=aa;have N:=ag A;clear Q R S
    go_upto_region 8 with fail
    go_quiet (fail)
    go_wp2;go_ret2;exact⟨l.length,aA,aB _,K.o,fun t h g=>absurd h aa,N.o.trans (Below.bn _ _)⟩
end
section
open Go.RowKit Go.Sort Go.Shelf Go.Lib Go.Maps
theorem EZ {α:Type} [Inhabited α] {enc:α->Value} {w:World} {base g d:Nat} {e:TypeId} {l:List α} {i:Nat} {zr:α} (h:w.ownsRow base e 1 (ax g l.length d) l.length (l.map enc)) (hi:i<l.length) (q:Nat):
  (putRow enc (Sort.ahead w q) g 0 (l.toArray.toList.take i++l.toArray.toList.drop (i+1)++List.replicate (i+1-i) zr).toArray).ownsRow base e 1 (ax g (l.length-1) d) (l.length-1) ((l.eraseIdx i).map enc)/\
  ay (fun k=>k=g) w (putRow enc (Sort.ahead w q) g 0 (l.toArray.toList.take i++l.toArray.toList.drop (i+1)++List.replicate (i+1-i) zr).toArray):=by
 rcases h.2 with⟨b,B⟩|⟨A,v,x,b,r,s,C,t,E,ht⟩
 .cases b
 .injection b with a z n;injection a with a;injection a with a _ _;subst a n;have j:(l.take i++l.drop (i+1)++[zr]).length=l.length:=aF;obtain⟨y,-,-,-,c⟩:=rT (l:=l) (l':=l.take i++l.drop (i+1)++[zr]) r s aa t aa j q #[];rw[Sort.grow_empty]at c;have p:(l.toArray.toList.take i++l.toArray.toList.drop (i+1)++List.replicate (i+1-i) zr)=l.take i++l.drop (i+1)++[zr]:=by
   rw[show i+1-i=1 by omega];simp
  rw[p];constructor
  .rw[j]at c;have f:=l6 (m:=l.length-1) c aa;have o:((l.take i++l.drop (i+1)++[zr]).map enc).take ((l.length-1)*1)=(l.eraseIdx i).map enc:=by
    rw[iN,<-List.map_take,DY aF,jJ aF,xy]
   rw[o]at f;exact f
  .refine⟨rfl,rfl,rfl,?_,fun k D u=>?_⟩
   .show w.heap.size<=(w.heap.modify g _).size;simp
   .show(w.heap.modify g _)[k]? =_;rw[xC,aM (iO u)]
theorem Jc {w:World} {base g b:Nat} {l:List Int} {i:Nat} (h:w.ownsRow base 27 1 (ax g l.length b) l.length (l.map (Value.int .u32))) (hi:i<l.length):
  aK 198 #[ax g l.length b,ae i,ae (i+1:Nat)] w fun e w'=>e=.returned (ax g (l.length-1) b)/\w'.ownsRow base 27 1 (ax g (l.length-1) b) (l.length-1) ((l.eraseIdx i).map (Value.int .u32))/\ay (fun k=>k=g) w w':=by
 obtain⟨j,B,D⟩:∃j,Tryz.prog.info? 27=some j/\j.size=1:=by
  have a:(Tryz.prog.info? 27).map (fun i=>i.size)=some 1:=aN;cases p:Tryz.prog.info? 27 with
  |none=>rw[p]at a;cases a
  |some i=>rw[p]at a;injection a with a;exact⟨i,rfl,a⟩
 have n:l.length<=b/\b<=9223372036854775807:=by
  rcases h.2 with⟨c,v⟩|⟨u,r,s,c,A,a,f,o,C,ht⟩
  .cases c
  .injection c with d t m;subst m;unfold maxLen at o;omega
 have z:Holds (Value.int .u32) w g 0 l.toArray:=by
  rcases h.2 with⟨c,v⟩|⟨u,r,s,c,A,a,f,o,C,ht⟩
  .cases c
  .injection c with d t m;injection d with d;injection d with d _ _;subst d;rw[iN]at ht;exact holds_of_block a ht
 have f:=AnyE.slices_Delete Tryz.Jc (Value.int .u32) (fun _=>rfl) 0 (fun w=>zeroValue27 w) j B D g 0 b i (i+1) l.toArray w z (aP n.1) n.2 aa aF;change aK 198 _ _ _ at f;rw[show l.toArray.size=l.length by simp]at f;refine f.mono ?_;rintro e w' ⟨rfl,q,rfl⟩;have⟨x,y⟩:=EZ (zr:=(0:Int)) h hi q;exact⟨by rw[show i+1-i=1 by omega],x,y⟩
theorem Je {w:World} {base g b:Nat} {l:List Int} {i:Nat} (h:w.ownsRow base 2 1 (ax g l.length b) l.length (l.map (Value.int .i64))) (hi:i<l.length):
  aK 197 #[ax g l.length b,ae i,ae (i+1:Nat)] w fun e w'=>e=.returned (ax g (l.length-1) b)/\w'.ownsRow base 2 1 (ax g (l.length-1) b) (l.length-1) ((l.eraseIdx i).map (Value.int .i64))/\ay (fun k=>k=g) w w':=by
 obtain⟨j,B,D⟩:∃j,Tryz.prog.info? 2=some j/\j.size=1:=by
  have a:(Tryz.prog.info? 2).map (fun i=>i.size)=some 1:=aN;cases p:Tryz.prog.info? 2 with
  |none=>rw[p]at a;cases a
  |some i=>rw[p]at a;injection a with a;exact⟨i,rfl,a⟩
 have n:l.length<=b/\b<=9223372036854775807:=by
  rcases h.2 with⟨c,v⟩|⟨u,r,s,c,A,a,f,o,C,ht⟩
  .cases c
  .injection c with d t m;subst m;unfold maxLen at o;omega
 have z:Holds (Value.int .i64) w g 0 l.toArray:=by
  rcases h.2 with⟨c,v⟩|⟨u,r,s,c,A,a,f,o,C,ht⟩
  .cases c
  .injection c with d t m;injection d with d;injection d with d _ _;subst d;rw[iN]at ht;exact holds_of_block a ht
 have f:=AnyE.slices_Delete Tryz.Je (Value.int .i64) (fun _=>rfl) 0 (fun w=>zeroValue2 w) j B D g 0 b i (i+1) l.toArray w z (aP n.1) n.2 aa aF;change aK 197 _ _ _ at f;rw[show l.toArray.size=l.length by simp]at f;refine f.mono ?_;rintro e w' ⟨rfl,q,rfl⟩;have⟨x,y⟩:=EZ (zr:=(0:Int)) h hi q;exact⟨by rw[show i+1-i=1 by omega],x,y⟩
theorem EX {w:World} {base g b:Nat} {l:List Int} {i:Nat} (h:w.ownsRow base 3 1 (ax g l.length b) l.length (l.map (Value.int .i64))) (hi:i<l.length):
  aK 199 #[ax g l.length b,ae i,ae (i+1:Nat)] w fun e w'=>e=.returned (ax g (l.length-1) b)/\w'.ownsRow base 3 1 (ax g (l.length-1) b) (l.length-1) ((l.eraseIdx i).map (Value.int .i64))/\ay (fun k=>k=g) w w':=by
 obtain⟨j,B,D⟩:∃j,Tryz.prog.info? 3=some j/\j.size=1:=by
  have a:(Tryz.prog.info? 3).map (fun i=>i.size)=some 1:=aN;cases p:Tryz.prog.info? 3 with
  |none=>rw[p]at a;cases a
  |some i=>rw[p]at a;injection a with a;exact⟨i,rfl,a⟩
 have n:l.length<=b/\b<=9223372036854775807:=by
  rcases h.2 with⟨c,v⟩|⟨u,r,s,c,A,a,f,o,C,ht⟩
  .cases c
  .injection c with d t m;subst m;unfold maxLen at o;omega
 have z:Holds (Value.int .i64) w g 0 l.toArray:=by
  rcases h.2 with⟨c,v⟩|⟨u,r,s,c,A,a,f,o,C,ht⟩
  .cases c
  .injection c with d t m;injection d with d;injection d with d _ _;subst d;rw[iN]at ht;exact holds_of_block a ht
 have f:=AnyE.slices_Delete Tryz.EX (Value.int .i64) (fun _=>rfl) 0 (fun w=>zeroValue3 w) j B D g 0 b i (i+1) l.toArray w z (aP n.1) n.2 aa aF;change aK 199 _ _ _ at f;rw[show l.toArray.size=l.length by simp]at f;refine f.mono ?_;rintro e w' ⟨rfl,q,rfl⟩;have⟨x,y⟩:=EZ (zr:=(0:Int)) h hi q;exact⟨by rw[show i+1-i=1 by omega],x,y⟩
theorem QO (a:Option Addr) (l:List Int) (n c:Nat) (x:Int) (w:World) (C:l.length=n) (h:Rd (.int .u32) w a l) (J:n<=1000000) (u:x∈l):
  aK 196 #[.slice a n c,ak x] w fun e w'=>(∃i:Nat,e=.returned (ae i)/\∃h:i<l.length,l[i]=x)/\w'=w:=by
 subst C;have z:=ag h;have A:=ag u;clear h u;go_enter func196,ntmps196;go_wp2
 go_loopg [8] l.length (fun D E wr=>∃j:Nat,E=.int .i64 j/\j<=l.length/\l.length-j<=D/\wr=w/\Hid (∀t (h:t<l.length),t<j->l[t]≠x))
 case atStart=>exact⟨0,rfl,bH _,aa,rfl,fun t h q=>absurd q (jL _)⟩
 case round=>
  obtain⟨j,rfl,H,I,rfl,k⟩:=hrel;by_cases s:j<l.length
  .obtain⟨b,off,p,G,r⟩:=z.o.get aa;have F:=r j s;have g:=ag p;obtain⟨y,f⟩:∃y,y=l[j]:=⟨_,rfl⟩;rw[<-f]at F;have m:=ag f;clear r p f;obtain rfl:=g.o;clear g;by_cases d:x=y
   .have d1:(x==y)=true:=by simp[d]
    have d2:decide (x=y)=true:=by simp[d]
    have B:=ag d;clear d;go_wp2;go_ret;exact⟨⟨j,rfl,s,by rw[<-m.o,B.o]⟩,rfl⟩
   .have d1:(x==y)=false:=by simp[d]
    have d2:decide (x=y)=false:=by simp[d]
    have v:Hid (∀t (h:t<l.length),t<j+1->l[t]≠x):=fun t h q=>by
     by_cases e:t=j
     .subst e;rw[<-m.o];exact fun e=>d e.symm
     .exact k.o t h aa
    clear d;go_wp2
    go_roundg (l.length-(j+1))
    case measure=>omega
    case rel=>exact⟨j+1,by go_num,aa,aB _,rfl,v⟩
  .obtain⟨t,ht,e⟩:=jb A.o;exact absurd e (k.o t ht aa)
end
section
open Go.RowKit Go.Sort Go.Shelf Go.Lib Go.Maps
attribute [local irreducible] wpQuiet
attribute [local go_sem] Oper.eT
def Jh (R:List Pt) (p:Pt):Nat:=R.countP fun q=>decide (iG q p<0)
def Tg (R:List Pt) (p:Pt):Bool:=decide (∃h:Jh R p<R.length,iG R[Jh R p] p=0)
theorem OA (a:Option Addr) (l:List Pt) (n c:Nat) (p:Pt) (W:World) (q:l.length=n) (o:n<=1000000) (r:bV dw 3 W a l) (s:l.Pairwise kH):
  aK 191 #[.slice a n c,iV p.1 p.2.1 p.2.2,.func (.func 94) #[] #[]] W (fV W (.tuple #[ae (Jh l p),.bool (Tg l p)])):=
 (Vw a l n c p W q o r s).mono fun e w' ⟨k,j,m,f,g,i⟩=>by
  have d:k=Jh l p:=oU l k m (fun t h b=>by simpa using f t h b) (fun t h b=>by simpa using g t h b);subst d;exact⟨j,i⟩
theorem E5 {R:List Pt} (d:R.Pairwise kH) {x:Nat} (a:x<R.length):Jh R R[x]=x/\Tg R R[x]=true:=by
 have b:x=Jh R R[x]:=oU R x (vg a) (fun t h c=>by
  have:=fZ.1 d t x h a c;simpa[qo]using this) (fun t h c=>by
  simp only[gY,qo];by_cases e:t=x
  .subst e;exact qh _
  .intro f;have:=fZ.1 d x t a h aa;exact qh _ (oJ this f))
 refine⟨b.symm,?_⟩;unfold Tg;rw[bN];refine⟨aa,?_⟩;have e:R[Jh R R[x]]'aa=R[x]:=by congr 1;exact b.symm
 rw[e,Qr];exact⟨rfl,rfl⟩
end
section
open Go.RowKit Go.Sort Go.Shelf Go.Lib Go.Maps
def E8 (n k:Nat):FT:=(((dN 0 n).subs 0).getD k (.leaf 0,0)).1
theorem mq {n:Nat} {t:FT} {s:Nat} (h:FT.At (aW n) t s):E8 n (t.root s)=t:=by
 have a:=kV h;have c:=h.lt;rw[cZ]at c;have b:t.root s<((dN 0 n).subs 0).length:=by rw[FT.fw,fq 0 n a];exact c
 have e:=FT.oV (dN 0 n) 0 _ b;have f:=FT.kS (dN 0 n) 0 (fI a▸jU n a) _ (bG b);have⟨d,g⟩:=FT.At.unique (fI a▸h) f (by rw[e];omega);unfold E8;rw[ja,bZ b];exact d.symm
def mZ (n:Nat) (YS:List Nat) (k:Nat):List Nat:=nl YS (E8 n k)
def xc (n:Nat) (YS:List Nat) (k:Nat):List Int:=match E8 n k with
 |.leaf _=>[]
 |.node l r=>lf l.hi (nl YS (.node l r))
theorem zQ {n:Nat} {l r:FT} {s:Nat} (h:FT.At (aW n) (.node l r) s) (YS:List Nat):xc n YS ((FT.node l r).root s)=lf l.hi (nl YS (.node l r)):=by
 unfold xc;rw[mq h]
section
variable {w w':World} {lo hi tb fb:Nat} {R:List Pt} {gone:List Bool} {YS:List Nat} {V:yt}
theorem jC.V9 (h:jC w lo hi tb fb R gone YS V):gL w lo hi tb fb R gone YS.length YS (mZ R.length YS) (xc R.length YS) V:=
 ⟨h.blk,h.fu,h.row,h.xs,h.Dr,h.iF,h.jd,h.EE,h.ys,fun k b=>by
  obtain⟨t,s,a,rfl⟩:=tH b;unfold mZ;rw[mq a];exact h.FV t s a,fun l r s a=>by rw[zQ a];exact h.AY l r s a,h.Dm,h.top,h.oQ,h.Ns,h.HY,h.Gc⟩
theorem gL.toAt {nc:Nat->List Nat} {lc:Nat->List Int} (h:gL w lo hi tb fb R gone YS.length YS nc lc V) (c:∀k,k<(aW R.length).length->nc k=mZ R.length YS k) (d:∀l r s,FT.At (aW R.length) (.node l r) s->lc ((FT.node l r).root s)=xc R.length YS ((FT.node l r).root s)):jC w lo hi tb fb R gone YS V:=
 ⟨h.blk,h.fu,h.row,h.xs,h.Dr,h.iF,h.jd,h.EE,h.ys,fun t s a=>by
  have b:=h.FV _ a.lt;rw[c _ a.lt,mZ,mq a]at b;exact b,fun l r s a=>by
  have b:=h.AY l r s a;rw[d l r s a,zQ a]at b;exact b,h.Dm,h.top,h.oQ,h.Ns,h.HY,h.Gc⟩
end
def lZ (YS:List Nat) (x:Nat) (P:List Nat) (k:Nat):List Nat:=if k∈P then dW YS x else YS
theorem Dy (YS:List Nat) (x k:Nat):lZ YS x [] k=YS:=by simp[lZ]
theorem BC {n x:Nat} (h:x<n) (YS:List Nat) {k:Nat} (g:k<(aW n).length):mZ n (lZ YS x ((dN 0 n).path 0 x) k) k=mZ n (dW YS x) k/\xc n (lZ YS x ((dN 0 n).path 0 x) k) k=xc n (dW YS x) k:=by
 have e:0<n:=aa;obtain⟨t,s,d,rfl⟩:=tH g;unfold lZ;by_cases c:t.root s∈(dN 0 n).path 0 x
 .rw[aO c];exact⟨rfl,rfl⟩
 .rw[aM c];have f:¬(t.lo<=x/\x<t.hi):=fun⟨a,b⟩=>c (FT.wM _ 0 x (bK 0 n e).1 _ (FT.at_mem (fI e▸d)) a b);unfold mZ xc;rw[mq d];refine⟨(wK f).symm,?_⟩;cases t with
  |leaf a=>rfl
  |node l r=>
   show lf _ _=lf _ _;rw[wK f]
end
section
open Go.RowKit Go.Sort Go.Shelf Go.Lib Go.Maps
attribute [local irreducible] wpQuiet
attribute [local go_sem] Oper.eT
def UA (w:World) (lo hi tb fb:Nat) (R:List Pt) (gone:List Bool) (YS:List Nat) (x:Nat) (e:Ending) (w':World):Prop:=
 e=.returned (.bool true)/\∃V',jC w' lo hi tb fb R (gone.set x true) (dW YS x) V'/\ay (fun k=>lo<=k/\k<hi) w w'
theorem nZ {α b:Type} (f:α->b):∀(l:List α) (i:Nat),(l.map f).eraseIdx i=(l.eraseIdx i).map f
 |[],i=>aA
 |a::l,0=>aA
 |a::l,i+1=>by simp[nZ f l i]
theorem OB {m:Nat} {L:List Nat} {y:Int} (h:y∈lf m L):0<=y/\y<=L.length:=by
 unfold lf at h;obtain⟨j,b,rfl⟩:=cu.1 h;have a:=Ii (p:=fun i=>decide (i<m)) (l:=L.take j);rw[eX]at a;omega
theorem Ti {m:Nat} {L:List Nat} {i:Nat} (hi:i<L.length) {j:Nat} (a:j<L.length):0<=(zy m L i j)[j]'(by rw[qy hi aa];exact a)/\(zy m L i j)[j]'(by rw[qy hi aa];exact a)<=L.length:=by
 rw[Kn hi a];exact OB (List.mem_of_mem_eraseIdx (bG _))
theorem Me {α:Type} (f:Nat->α) (k:Nat) (v a:α):nu (nu f k v) k a=nu f k a:=by
 funext j;simp only[nu];split<;>rfl
theorem OC {YS:List Nat} (a:YS.Nodup) {x:Nat} (b:x∈YS):(dW YS x).length=YS.length-1:=by
 have⟨i,hi,e⟩:=jb b;unfold dW;rw[<-erase_filter a hi e,zY,aO hi]
theorem CP {w:World} {lo hi tb fb:Nat} {R:List Pt} {gone:List Bool} {YS:List Nat} {V:yt} (ao:jC w lo hi tb fb R gone YS V) (b6:cz R gone YS) (d9:R.length<=20000) {x:Nat} (au:x<R.length) (ei:gone[x]? =some false) (p:Pt) (hp:R[x]=p):
  aK 128 #[aj tb,iV p.1 p.2.1 p.2.2] w (UA w lo hi tb fb R gone YS x):=by
 have a3:=ao.blk;have fN:tb<w.heap.size:=bT ao.fu.2.1 ao.fu.2.2.2.2;obtain⟨ct,cv,cL,-,-,c8⟩:=bV.aG bf ai ao.row;obtain⟨gx,fd,cH⟩:=fF ao.Dr;have a2:=ao.V9;rw[cL,cH]at a3;have CB:=ag (fun W (a3:Below w.heap.size w W)=>OA ct R R.length cv p W rfl aa (c8.below a3) b6.AU);have ca:=E5 b6.AU au;rw[hp]at ca;have eV:=ag c8;have bc:=ag cH;have eK:=ag cL;obtain⟨av,aw,F⟩:=p;obtain⟨n,c7⟩:∃n,n=R.length:=⟨_,rfl⟩;rw[<-c7]at d9 a3 CB au;have f:=ag c7;have eI:=ag a3;have dP:=ag a2;have dR:=ag hp;have dI:=ag ei;have X:=ag b6;have aV:=ao.fu;rw[ca.1,ca.2]at CB;clear ao c8 a3 cL cH c7 a2 hp ei b6 ca;go_enter func128,ntmps128
 go_wp2_with fail
 obtain⟨z,bs⟩:∃z,z=w.heap.size:=⟨_,rfl⟩;obtain⟨w1,bX⟩:∃w1,w1=w.alloc (.cells #[ae av,ae aw,ak F] 29):=⟨_,rfl⟩;have a4:Below w.heap.size w w1:=by rw[bX];exact(aJ _ _).alloc (aB _) _
 have a8:w1.heap[z]? =some (.cells #[ae av,ae aw,ak F] 29 (0,0)):=by rw[bX,bs];exact df w _
 have db:=(a4.block tb fN).trans eI.o;rw[<-bX];clear bX;have bR:w1.cell? (af tb 3)=some (aj fb):=aD db;refine(yu tb fb w1 bR).mono ?_;rintro e w' ⟨rfl,fc⟩;subst w'
 go_upto_region 3 with fail
 rw[<-bs];have gT:hi<=z:=by rw[bs];exact aV.2.2.2.2
 have gs:=ag bs;clear bs;have fR:=ah (w:=w1) (ad:=(af tb 0)) (v:=.slice ct n cv) (aD db);have dj:=ah (w:=w1) (ad:=(af z 0)) (v:=.int .i64 av) (aD a8);have dk:=ah (w:=w1) (ad:=(af z 1)) (v:=.int .i64 aw) (aD a8);have fS:=ah (w:=w1) (ad:=(af z 2)) (v:=.int .u32 F) (aD a8);have dC:Hid (∀p:aR w1,aK 191 #[.slice ct n cv,iV av aw F,.func (.func 94) #[] #[]] p.W fun e w'=>e=.returned (.tuple #[ae x,.bool true])/\Below p.W.heap.size p.W w'):=fun p=>CB.o p.W (a4.trans (p.h.mono a4.size));refine bI aN aN ?_
 repeat(quiet_step ((go_at_call 191;exact dK (dC.o _))))
 refine jN ?_;intro w2 bw;have cS:Below w1.heap.size w1 w2:=by obtain⟨p,rfl⟩:=bw;exact p.h
 clear bw dC fR dj dk fS CB bR;have bx:=(cS.block z (aY.1 a8).1).trans a8;have b2:Below w.heap.size w w2:=a4.trans (cS.mono a4.size);have aF:Hid (gL w2 lo hi tb fb R gone YS.length YS (mZ R.length YS) (xc R.length YS) V):=dP.o.below b2 aV.2.2.2.2;have dA:=ag b2;have dU:=ag bx;have dc:=aF.o.blk;have e1:w2.cell? (af tb 0)=some (.slice ct n cv):=by simp[World.cell?,dc];rw[eK.o,f.o]
 have bp:=aF.o.Dr;rw[bc.o]at bp;obtain⟨an,gy,cI,_,_⟩:=aQ bp (by have:=f.o;omega);injection cI with cI e7 e8;subst cI;clear e7 e8;have e2:w2.cell? (af tb 2)=some (ax an n fd):=by simp[World.cell?,dc];rw[bc.o,f.o]
 have go:w2.cell? (af z 0)=some (ae av):=aD bx;have x1:w2.cell? (af z 1)=some (ae aw):=aD bx;have x2:w2.cell? (af z 2)=some (ak F):=aD bx;have ac:x<R.length:=by rw[<-f.o];exact au
 obtain⟨b,off,e4,fn,b9⟩:=(eV.o.below b2).get aa;have dr:=b9 x ac 0 aa;have ds:=b9 x ac 1 aa;have dt:=b9 x ac 2 aa;rw[dR.o]at dr ds dt;simp only[dw,fG,dx,dH]at dr ds dt;have cM:=bp.cellAt x aa;have gp:=bp.frozenAt x;rw[iy,dI.o]at cM;simp only[fP]at cM;subst e4;clear b9 bp b2 a4 cS db a8 dc bx dP
 go_upto_region 4 with fail
 go_quiet (fail)
 go_upto_region 7 with fail
 obtain⟨w3,bj⟩:∃w3,w3=(w2.drewN nq).setCell (af an x) (.bool true):=⟨_,rfl⟩;have cC:Hid (gL w3 lo hi tb fb R (gone.set x true) YS.length YS (mZ R.length YS) (xc R.length YS) V):=by
  rw[bj];exact gL.QN (aF.o.below (Below.bn w2.heap.size nq) aF.o.fu.2.2.2.2) bc.o x
 have ef:lo<=an/\an<hi:=⟨(aF.o.Dr.lt an (by rw[bc.o];rfl)).1,aF.o.top V.gv aA an (by rw[bc.o];rfl)⟩;have dJ:Hid (ay (fun k=>lo<=k/\k<hi) w w3):=by
  rw[bj];exact(((ay.refl _ w).below dA.o).below (Below.bn w2.heap.size nq)).set (a:=(af an x)) _ (.inl ef)
 have dV:Hid (w3.heap[z]? =some (.cells #[ae av,ae aw,ak F] 29 (0,0))):=by
  rw[bj];exact(aC (show an≠z by omega)).trans dU.o
 rw[<-bj];clear bj e1 e2 go x1 x2 dr ds dt cM gp dA dU aF ef fn;have co:x∈YS:=(X.o.live x).2 dI.o;have fm:=X.o.len;have gE:0<YS.length:=List.length_pos_of_mem co;have dd:=cC.o.blk;have e3:w3.cell? (af tb 7)=some (ae YS.length):=aD dd;have eE:w3.frozen? (af tb 7)=false:=aD dd;obtain⟨m,eo⟩:∃m,m=YS.length-1:=⟨_,rfl⟩;have gR:(YS.length:Int)-1=(m:Int):=aa;have eT:Hid (m=(dW YS x).length):=by rw[eo];exact(OC X.o.nodup co).symm
 have gF:YS.length<=20000:=by rw[f.o]at d9;omega
 have e0:=ag co;clear eo fm dd co
 go_upto_region 8 with fail
 obtain⟨w4,bk⟩:∃w4,w4=w3.setCell (af tb 7) (.int .i64 m):=⟨_,rfl⟩;have bh:Hid (gL w4 lo hi tb fb R (gone.set x true) m YS (mZ R.length YS) (xc R.length YS) V):=by rw[bk];exact cC.o.BB m
 have dL:Hid (ay (fun k=>lo<=k/\k<hi) w w4):=by rw[bk];exact dJ.o.set (a:=(af tb 7)) _ (.inl ⟨aV.1,aV.2.1⟩)
 have bQ:Hid (w4.heap[z]? =some (.cells #[ae av,ae aw,ak F] 29 (0,0))):=by rw[bk];exact(aC (show tb≠z by omega)).trans dV.o
 rw[<-bk];clear bk e3 eE cC dJ dV;have ev:=bh.o.blk;have bR:w4.cell? (af tb 3)=some (aj fb):=aD ev;have dy:=ag (vG lo fb n x V.fv aa au w4 (by rw[f.o];exact bh.o.iF));clear ev
 go_wp2_with fail
 refine dy.o.mono ?_;rintro e aE ⟨pv,rfl,ch,bo⟩;have fL:=bh.o.fu.2.2.2.2;have eR:Hid (gL aE lo hi tb fb R (gone.set x true) m YS (mZ R.length YS) (xc R.length YS) V):=bh.o.below bo fL;have eM:Hid (ay (fun k=>lo<=k/\k<hi) w aE):=dL.o.below bo;have eY:=ag ((bo.block z (aY.1 bQ.o).1).trans bQ.o);have gS:w4.heap.size<=aE.heap.size:=bo.size;have cE:=ag ch;have gU:z<w4.heap.size:=(aY.1 bQ.o).1;clear bR dy bh dL bQ bo;obtain⟨P,b5⟩:∃P,P=(dN 0 n).path 0 x:=⟨_,rfl⟩;rw[<-b5]at ch cE;have gC:P.length<=n+1:=by
  have J:=FT.oH (dN 0 n) 0 x;have aL:=vC 0 n n (vg (Eg));rw[b5];omega
 have aH:=ag b5;obtain⟨g0,g1,rfl⟩:=fF ch;clear ch b5
 go_wp2_with fail
 go_loopg [72] P.length (fun dl gj wr=>∃(j:Nat) (yy:List Nat) (nc:Nat->List Nat) (lc:Nat->List Int) (V:yt),gj=.int .i64 j/\j<=P.length/\P.length-j<=dl/\
  Hid (gL wr lo hi tb fb R (gone.set x true) m yy nc lc V)/\Hid (yy=if 0<j then dW YS x else YS)/\Hid (∀k,k<(aW R.length).length->nc k=mZ n (lZ YS x (P.take j) k) k)/\Hid (∀l r s,FT.At (aW R.length) (.node l r) s->lc ((FT.node l r).root s)=xc n (lZ YS x (P.take j) ((FT.node l r).root s)) ((FT.node l r).root s))/\
  Hid (ay (fun k=>lo<=k/\k<hi) aE wr))
 case atStart=>
  refine⟨0,YS,_,_,V,rfl,bH _,aa,eR,rfl,?_,?_,ay.refl _ _⟩
  .intro k Z;rw[f.o,lK,Dy]
  .intro l r s aq;rw[f.o,lK,Dy]
 case round=>
  obtain⟨j,yy,nc,lc,V,rfl,gN,gP,al,cF,cD,bO,be⟩:=hrel;by_cases a6:j<P.length
  .have T:0<n:=aa;obtain⟨cm,fD,fx⟩:=bK 0 n T;obtain⟨k,Z⟩:∃k,k=P[j]:=⟨_,rfl⟩;have en:k∈(dN 0 n).path 0 x:=by rw[<-aH.o,Z];exact bG _
   obtain⟨⟨t,s⟩,dg,bv,cq,cp⟩:=FT.mW (dN 0 n) 0 x cm aa aa k en;simp only at bv cq cp;have cR:=jU n T;rw[fI T]at cR;have aq:FT.At (aW n) t s:=by rw[fI T];exact FT.kS _ 0 cR _ dg
   have ex:t.wf:=FT.qx _ 0 cm _ dg;have c3:k<(aW n).length:=bv▸aq.lt;have cg:P.Pairwise (·>·):=by rw[aH.o];exact FT.sZ _ 0 x cm aa aa
   have c4:k∉P.take j:=fun h=>by
    obtain⟨q,fJ,e⟩:=jb h;rw[xM]at e;rw[eX]at fJ;have:=fZ.1 cg q j aa a6 aa;omega
   have da:(k=2*n-2)↔j=0:=by
    obtain⟨Q,aT⟩:=FT.sP (dN 0 n) 0 x;rw[lu T]at aT;have ff:P[0]'aa=2*n-2:=by
     have:P=(2*n-2)::Q:=by rw[aH.o,aT]
     simp only[this,nA]
    constructor
    .intro h;by_cases e:j=0
     .exact e
     .have:=fZ.1 cg 0 j aa a6 aa;omega
    .intro h;subst h;rw[Z,ff]
   have cf:nc k=nl YS t:=by
    rw[cD.o k (by rw[<-f.o];exact c3),lZ,aM c4,mZ,<-bv,mq aq]
   obtain⟨L,ap⟩:∃L,L=nl YS t:=⟨_,rfl⟩;rw[<-ap]at cf;have b3:L.Nodup:=by rw[ap];exact lS _ X.o.nodup
   have dh:x∈L:=by rw[ap];exact bD.2 ⟨e0.o,by simpa using⟨cq,cp⟩⟩
   obtain⟨i,C,ar⟩:=jb dh;have gA:L.length<=20000:=by
    have J:L.length<=YS.length:=by rw[ap];exact gV _ _
    omega
   have ep:nl (dW YS x) t=L.eraseIdx i:=by
    subst ap;exact LK X.o.nodup C ar
   have B:Hid (FT.At (aW n) t s/\t.root s=k/\t.wf/\t.lo<=x/\x<t.hi/\L=nl YS t/\nc k=L/\L.Nodup/\nl (dW YS x) t=L.eraseIdx i/\k∉P.take j/\k=P[j]/\k<(aW n).length/\P.Pairwise (·>·)/\∃h:i<L.length,L[i]=x):=⟨aq,bv,ex,cq,cp,ap,cf,b3,ep,c4,Z,c3,cg,C,ar⟩;have cV:=al.o.blk;have cP:(aW R.length).length=(aW n).length:=by rw[f.o]
   obtain⟨gl,cl,bW,_,_⟩:=aQ al.o.EE aa;have I:cB wr lo gl (aW R.length).length cl V.LN V.LL:=by have h:=al.o.EE;rw[bW]at h;exact h
   have E:=al.o.FV k aa;rw[cf]at E;obtain⟨g,c,bS,_,_⟩:=aQ E aa;rw[bS]at E;have fE:(aW n).length<=40000:=by rw[cZ];omega
   obtain⟨am,b4⟩:∃am,am=(aW n).length:=⟨_,rfl⟩;have gO:k<am:=aa;have gB:am<=40000:=aa;have gf:wr.cell? (af tb 5)=some (ax gl am cl):=by simp[World.cell?,cV];rw[bW,b4,cP]
   have dn:wr.cell? (af tb 3)=some (aj fb):=aD cV;have bC:wr.cell? ⟨gl,k*2,none⟩=some (.slice (some ⟨g,0,none⟩) L.length c):=(I.get aa).1.trans (congrArg some bS);have ea:wr.heap[z]? =some (.cells #[ae av,ae aw,ak F] 29 (0,0)):=bz be.o eY.o (fun h=>aa);have eA:wr.cell? (af z 2)=some (ak F):=aD ea;have cQ:=aU cE.o be.o (fun g h aL=>by have:=(cE.o.lt g h).1;have:=aV.2.2.2.2;omega);obtain⟨gz,gw,cJ,_,_⟩:=aQ cQ aa;injection cJ with cJ e9 fa;subst cJ;have dp:=cQ.cellAt j aa;rw[iy,bZ a6,<-Z]at dp;simp only[fP]at dp;have dv:Hid (∀W,Below wr.heap.size wr W->aK 196 #[ax g L.length c,ak F] W (fV W (ae i))):=fun W cU=>by
    have fK:=az E cU;obtain⟨gt,gu,D,-,-,et⟩:=Rd.aG fK;injection D with D H d1;rw[<-D]at et;have eq:F=jI R x:=by
     unfold jI bU;have ac:x<R.length:=by rw[<-f.o];exact au
     rw[ja,bZ ac];simp[dR.o]
    have S:F∈L.map (jI R):=by rw[eq];exact cu.2 ⟨x,dh,rfl⟩
    refine(QO (some (af g 0)) (L.map (jI R)) L.length c F W aA et aa S).mono ?_;rintro e w' ⟨⟨aZ,fo,fy,a5⟩,rfl⟩;rw[fM,eq]at a5;have cX:aZ<L.length:=aP fy;have fi:∀y∈L,y<R.length:=fun y a9=>X.o.lt (by rw[ap]at a9;exact(bD.1 a9).1);have ey:L[aZ]=x:=by
     have J:=fi _ (bG cX);have ac:x<R.length:=by rw[<-f.o];exact au
     unfold jI bU at a5;rw[ja,ja,bZ J,bZ ac]at a5;simp only[gG]at a5;by_cases e:L[aZ]=x
     .exact e
     .exfalso;have hid:=dm.1 X.o.ids;rcases Nat.lt_or_gt_of_ne e with h9|h9
      .exact fZ.1 hid _ _ J ac h9 a5
      .exact fZ.1 hid _ _ ac J h9 a5.symm
    have fz:aZ=i:=by
     by_cases e:aZ=i
     .exact e
     .exfalso;rcases Nat.lt_or_gt_of_ne e with h9|h9
      .exact fZ.1 b3 aZ i cX C h9 (by rw[ey,ar])
      .exact fZ.1 b3 i aZ C cX h9 (by rw[ey,ar])
    subst fz;exact⟨fo,aJ _ _⟩
   have dz:Hid (∀W,Below wr.heap.size wr W->aK 95 #[aj fb] W fun e w'=>e=.returned (ae ((2*n-2:Nat):Int))/\w'=W):=fun W cU=>by
    have ed:=al.o.iF.blk;have cW:=(cU.block fb (aY.1 ed).1).trans ed;rw[<-f.o]at cW;exact jw fb n T aa W (aD cW) (aD cW)
   have K:=ag (And.intro bW bS);have dQ:Hid (am=(aW n).length/\(aW R.length).length=am):=⟨b4,by rw[cP,b4]⟩;clear aq bv dg ex cq cp ap cf b3 ep c4 Z cg ar dh cR en cV I E ea cQ e9 fa b4 cP c3 fE bW bS cm fD fx
   go_upto_region 13 with fail
   have dj:=ah bC;have dk:=ah eA;have dB:Hid (∀p:aR wr,aK 196 #[ax g L.length c,ak F] p.W fun e w'=>e=.returned (ae i)/\Below p.W.heap.size p.W w'):=fun p=>dv.o p.W p.h;refine bI aN aN ?_
   repeat(quiet_step ((go_at_call 196;exact dK (dB.o _))))
   refine jN ?_;intro w6 bw;have cT:Below wr.heap.size wr w6:=by obtain⟨p,rfl⟩:=bw;exact p.h
   have bM:=ag cT;have fO:tb<wr.heap.size:=gX wr _ dn;have gd:=(cT.cell (p:=(af tb 3)) fO).trans dn;clear bw dj dk dB cT dv dn gf bC eA dp;obtain⟨bA,cd⟩:∃bA,bA=decide (j=0):=⟨_,rfl⟩;have fT:((k:Int)==((2*n-2:Nat):Int))=bA:=by
    rw[cd,lI,beq_iff_eq,bN,<-da];omega
   have fU:(k==2*n-2)=bA:=by
    rw[cd,lI,beq_iff_eq,bN,<-da]
   have dM:=ag cd;clear cd da
   go_wp2_with fail
   refine(dz.o w6 bM.o).mono ?_;rintro e w' ⟨rfl,fc⟩;subst w'
   go_upto_if 95 with fail
   have a0:Hid (gL w6 lo hi tb fb R (gone.set x true) m yy nc lc V):=al.o.below bM.o al.o.fu.2.2.2.2;have gW:=bM.o.size;clear dz gd fT fU
   go_cut []from 73 to 175 (fun eD=>∃ba:Value,Hid (gL eD lo hi tb fb R (gone.set x true) m (dW YS x) nc lc {V with yv:=ba})/\Hid (ay (fun k=>lo<=k/\k<hi) w6 eD))
   case first=>
    cases bA with
    |false=>
     have cc:0<j:=by
      have h:=dM.o;by_cases e:j=0
      .simp[e]at h
      .omega
     have D:=cF.o;rw[aO cc]at D;have eH:Hid (gL w6 lo hi tb fb R (gone.set x true) m (dW YS x) nc lc {V with yv:=V.yv}):=by
      have h:=a0.o;rw[D]at h;exact h
     clear D;go_wp2;go_meet;exact⟨V.yv,eH.o,ay.refl _ _⟩
    |true=>
     have cc:j=0:=by
      have h:=dM.o;simpa using h.symm
     have D:=cF.o;rw[aM aa]at D;have cN:L=YS:=by
      obtain⟨f1,f2,f3,f4,f5,f6,f7,f8,f9,f10,f11,f12,f13,f14⟩:=B.o;have fB:k=2*n-2:=by
       obtain⟨Q,aT⟩:=FT.sP (dN 0 n) 0 x;rw[lu T]at aT;have fl:P=(2*n-2)::Q:=by rw[aH.o,aT]
       rw[f11];simp only[cc,fl,nA]
      obtain⟨ht,-⟩:=FT.At.unique f1 (jU n T) (by rw[f2,fB,lu T]);rw[f6,ht,f.o];exact X.o.top (by rw[<-f.o];exact T)
     have aX:=a0.o.ys;rw[D]at aX;obtain⟨Y,cG,bl,_,_⟩:=aQ aX aa;rw[bl]at aX;have di:(jl R YS).length=YS.length:=by simp[jl]
     have cb:i<YS.length:=by rw[<-cN];exact C
     have ej:YS[i]'cb=x:=by
      obtain⟨f1,f2,f3,f4,f5,f6,f7,f8,f9,f10,f11,f12,f13,f14,f15⟩:=B.o;subst cN;exact f15
     have eb:YS.eraseIdx i=dW YS x:=erase_filter X.o.nodup cb ej;have bL:=Je (l:=jl R YS) (i:=i) (by rw[di];exact aX) (by rw[di];exact cb);rw[di]at bL;have bL:=ag bL;have ci:=a0.o.blk;have g2:w6.cell? (af tb 6)=some (ax Y YS.length cG):=by simp[World.cell?,ci];rw[bl]
     have fw:tb≠Y:=fun h=>bg aX ci ai Y rfl h;have dE:=ag bl;have dX:=ag eb;have eJ:=ag D;have gY:tb<w6.heap.size:=(aY.1 ci).1;have ft:lo<=Y/\Y<hi:=⟨(aX.lt Y rfl).1,a0.o.top V.yv aA Y (by rw[bl];rfl)⟩;clear aX ci cN eb D bl ej cc
     go_wp2_with (go_at_call 197;refine bL.o.mono ?_;rintro e eC ⟨rfl,bt,c1⟩;have de:=bz c1 a0.o.blk fw;have g3:eC.cell? (af tb 6)=some (ax Y YS.length cG):=(by simp[World.cell?,de];rw[dE.o]);have eE:eC.frozen? (af tb 6)=false:=(aD de);have eU:=ag bt;have bd:=ag c1;clear bt c1 de)
     go_meet;have bt:=eU.o;refine⟨ax Y (YS.length-1) cG,?_,?_⟩
     .have h:=a0.o;rw[eJ.o]at h;refine gL.Uz h dE.o bd.o (yy':=dW YS x) ?_;have H:(jl R YS).eraseIdx i=jl R (dW YS x):=by
       rw[<-dX.o];unfold jl;rw[nZ]
      have d1:(dW YS x).length=YS.length-1:=by rw[<-dX.o,zY,aO cb]
      rw[H]at bt;rw[d1];exact bt
     .exact(bd.o.mono (fun k h=>by subst h;exact ft)).set (a:=(af tb 6)) _ (.inl ⟨aV.1,aV.2.1⟩)
   case rest=>
    obtain⟨ba,a1,bd⟩:=hcut;have aS:k<(aW R.length).length:=by have:=dQ.o;omega
    have E:=a1.o.FV k aS;obtain⟨f1,f2,f3,f4,f5,f6,f7,f8,f9,f10,f11,f12,f13,f14,f15⟩:=B.o;rw[f7]at E;have E:wc.ownsRow lo 27 1 (V.LN k) L.length ((L.map (jI R)).map (Value.int .u32)):=E;rw[K.o.2]at E;have I:cB wc lo gl (aW R.length).length cl V.LN V.LL:=by have h:=a1.o.EE;have h:World.ownsRow _ _ _ _ V.lv _ _:=h;rw[K.o.1]at h;exact h
    have bC:wc.cell? ⟨gl,k*2,none⟩=some (.slice (some ⟨g,0,none⟩) L.length c):=(I.get aS).1.trans (congrArg some K.o.2);have fq:gl≠g:=fun h=>bu I E ai gl rfl (by rw[h];rfl);have c6:(L.map (jI R)).length=L.length:=aA;have bb:=Jc (l:=L.map (jI R)) (i:=i) (by rw[c6];exact E) (by rw[c6];exact C);rw[c6]at bb;have bb:=ag bb;have fp:lo<=g/\g<hi:=⟨(E.lt g rfl).1,(a1.o.oQ k aS).1 g (by show(V.LN k).ownBlock=some g;rw[K.o.2];rfl)⟩;have eh:lo<=gl/\gl<hi:=⟨(I.lt gl rfl).1,a1.o.top V.lv aA gl (by rw[K.o.1];rfl)⟩;have fs:gl<wc.heap.size:=(I.lt gl rfl).2;have eG:=I.frozenAt (k*2);clear f1 f2 f3 f4 f5 f6 f7 f8 f9 f10 f11 f12 f13 f15 E I
    go_upto_region 17 with(go_at_call 198;refine bb.o.mono ?_;rintro e gn ⟨rfl,es,c2⟩;obtain⟨d0,d5⟩:=bY c2 fs fq;have gg:=(d0 (k*2)).trans bC;have gr:=(d5 (k*2)).trans eG;have dT:=ag es;have cy:=ag c2;clear es c2 d0 d5)
    obtain⟨A,b1⟩:∃A,A=gn.setCell (af gl (k*2)) (ax g (L.length-1) c):=⟨_,rfl⟩;have fh:(L.eraseIdx i).length=L.length-1:=by rw[zY,aO C]
    have U:Hid (gL A lo hi tb fb R (gone.set x true) m (dW YS x) (nu nc k (L.eraseIdx i)) lc {V with yv:=ba,LN:=upd V.LN k (ax g (L.length-1) c)}):=by
     rw[b1];refine gL.Td a1.o aS K.o.2 K.o.1 cy.o (L':=L.eraseIdx i) ?_;have h:=dT.o;rw[nZ]at h;rw[fh];exact h
    have cA:Hid (ay (fun k=>lo<=k/\k<hi) aE A):=by
     rw[b1];exact((((be.o.below bM.o).trans bd.o).trans (cy.o.mono (fun k h=>by subst h;exact fp))).set (a:=(af gl (k*2))) _ (.inl eh))
    rw[<-b1];clear b1 gg gr dT cy a1 bd bC eG bb;have ew:=U.o.blk;have br:=U.o.jd;have br:A.ownsRow lo 163 7 V.nv (aW R.length).length ((aW R.length).flatMap oM):=br;obtain⟨fe,cn,cK,_,_⟩:=aQ br aa;obtain⟨_,_,d2,-,-,c9⟩:=bV.aG jq ai br;rw[cK]at d2;injection d2 with d3 e5 e6;rw[<-d3,<-f.o]at c9;clear d3 e5 e6;have ge:A.cell? (af tb 4)=some (ax fe am cn):=by
     simp[World.cell?,ew];rw[cK,<-dQ.o.2]
    obtain⟨gJ,n0,fW,fX,fY,f0,ga,gb⟩:=mR c9 (by have h:=B.o.1.get;rw[B.o.2.1]at h;exact h);rw[kG]at n0;have d7:∀k',k'<(aW R.length).length->nu nc k (L.eraseIdx i) k'=mZ n (lZ YS x (P.take (j+1)) k') k':=fun k' fA=>by
     obtain⟨f1,f2,f3,f4,f5,f6,f7,f8,f9,f10,f11,f12,f13,f14,f15⟩:=B.o;have S:k'∈P.take (j+1)↔k'∈P.take j\/k'=k:=by rw[ig a6,<-f11];simp
     by_cases e:k'=k
     .subst e;rw[jD,lZ,aO (S.2 (.inr rfl)),mZ,<-f2,mq f1,f9]
     .rw[w9 e,cD.o k' fA];unfold lZ;by_cases H:k'∈P.take j
      .rw[aO H,aO (S.2 (.inl H))]
      .rw[aM H,aM (fun h=>(S.1 h).elim H e)]
    have dF:=ag d7;have d8:∀k',k'≠k->∀v,lc k'=xc n (lZ YS x (P.take j) k') k'->nu lc k v k'=xc n (lZ YS x (P.take (j+1)) k') k':=fun k' e v h=>by
     obtain⟨f1,f2,f3,f4,f5,f6,f7,f8,f9,f10,f11,f12,f13,f14,f15⟩:=B.o;have S:k'∈P.take (j+1)↔k'∈P.take j\/k'=k:=by rw[ig a6,<-f11];simp
     rw[w9 e,h];unfold lZ;by_cases H:k'∈P.take j
     .rw[aO H,aO (S.2 (.inl H))]
     .rw[aM H,aM (fun h=>(S.1 h).elim H e)]
    have dG:=ag d8;clear d7 d8 c9 br ew cK fW fX fY f0 ga gb;have ez:dW YS x=if 0<j+1 then dW YS x else YS:=by rw[aO aa]
    have dY:=ag ez;clear ez;cases ht:t with
    |leaf q=>
     rw[ht]at n0;simp only[FT.top]at n0;have aI:=ag ht;clear ht;have em:nu lc k (lc k)=lc:=by
      funext k';unfold nu;split
      .rename_i e;rw[e]
      .rfl
     have eN:=ag em;clear em;go_wp2
     go_roundg (P.length-(j+1))
     case measure=>omega
     case rel=>
      refine⟨j+1,dW YS x,_,lc,_,by go_num,aa,aB _,U,dY.o,dF.o,?_,cA⟩;intro l r bE b8;have fH:(FT.node l r).root bE≠k:=fun e=>by
       have J:=B.o.1;rw[aI.o,f.o]at J;have:=(FT.At.unique b8 J (by rw[e,<-B.o.2.1,aI.o])).1;cases this
      have h9:=dG.o _ fH (lc k) (bO.o l r bE b8);rw[eN.o]at h9;exact h9
    |node l r=>
     rw[ht]at n0;simp only[FT.top]at n0;have aI:=ag ht;clear ht;obtain⟨M,a2⟩:∃M,M=l.hi:=⟨_,rfl⟩;have bm:FT.At (aW R.length) (.node l r) s:=by rw[<-f.o,<-aI.o];exact B.o.1
     have a7:(FT.node l r).root s=k:=by rw[<-aI.o];exact B.o.2.1
     have cO:L=nl YS (.node l r):=by rw[<-aI.o];exact B.o.2.2.2.2.2.1
     have c5:lc k=lf M L:=by
      rw[<-a7,bO.o l r s bm,a7,lZ,aM B.o.2.2.2.2.2.2.2.2.2.1];have h9:=zQ (n:=n) (by rw[f.o];exact bm) YS;rw[a7]at h9;rw[h9,a2,<-cO]
     have O:A.ownsRow lo 3 1 (V.LL k) (lc k).length ((lc k).map (Value.int .i64)):=by have h9:=U.o.AY l r s bm;rw[a7]at h9;exact h9
     rw[c5]at O;have ab:=rW M L;obtain⟨u,G,bi,_,_⟩:=aQ O aa;rw[bi]at O;have ar:=B.o.2.2.2.2.2.2.2.2.2.2.2.2.2;have bq:cB A lo gl (aW R.length).length cl (upd V.LN k (ax g (L.length-1) c)) V.LL:=by have h:=U.o.EE;have h:World.ownsRow _ _ _ _ V.lv _ _:=h;rw[K.o.1]at h;exact h
     have bB:A.cell? ⟨gl,k*2+1,none⟩=some (.slice (some ⟨u,0,none⟩) (L.length+1) G):=by
      exact(bq.get aS).2.trans (congrArg some (bi.trans (by rw[ab])))
     have cr:=O.cellAt (i+1) aa;have cs:=O.cellAt i aa;rw[iy,bZ (show i+1<(lf M L).length by omega)]at cr;rw[iy,bZ (show i<(lf M L).length by omega)]at cs;simp only[fP]at cr cs;obtain⟨va,cj⟩:∃va,va=(lf M L)[i+1]'aa:=⟨_,rfl⟩;obtain⟨bF,ck⟩:∃bF,bF=(lf M L)[i]'aa:=⟨_,rfl⟩;rw[<-cj]at cr;rw[<-ck]at cs;have fQ:va-bF=if x<M then 1 else 0:=by rw[cj,ck];exact Qx C ar.2 _ _
     have gZ:0<=va/\va<=20000/\0<=bF/\bF<=20000:=by
      have J:=OB (m:=M) (L:=L) (cj▸bG _);have aL:=OB (m:=M) (L:=L) (ck▸bG _);omega
     obtain⟨W,b7⟩:∃W,W=(if x<M then(1:Int)else 0):=⟨_,rfl⟩;rw[<-b7]at fQ;have gD:0<=W/\W<=1:=by rw[b7];split<;>omega
     have eW:=ag b7;have eP:=ag c5;have bJ:=EX (l:=lf M L) (i:=i+1) (by rw[ab];rw[ab]at O;exact O) aa;rw[ab]at bJ;have bJ:=ag bJ;have fr:gl≠u:=fun h=>bu bq O ai gl rfl (by rw[h];rfl);have ee:lo<=u/\u<hi:=⟨(O.lt u rfl).1,(U.o.oQ k aS).2 u (by show(V.LL k).ownBlock=some u;rw[bi];rfl)⟩;have eg:gl<A.heap.size:=(bq.lt gl rfl).2;have eF:=bq.frozenAt (k*2+1);have dD:=ag bi;have N:=ag (And.intro bm a7);have eS:=ag (And.intro a2 cO);have gK:i+1<L.length+1:=aa;clear O bq cj ck b7 c5 bi bm a7 a2 cO ab ar
     go_upto_region 18 with fail
     go_quiet (fail)
     have gh:(A.drewN nq).cell? (af gl (k*2+1))=some (ax u (L.length+1) G):=bB;have du:Hid (∀q,aK 199 #[ax u (L.length+1) G,ae (i+1:Nat),ae (i+1+1:Nat)] (A.drewN q) fun e w'=>e=.returned (ax u L.length G)/\w'.ownsRow lo 3 1 (ax u L.length G) L.length (((lf M L).eraseIdx (i+1)).map (Value.int .i64))/\ay (fun k=>k=u) A w'):=fun q=>by
      have ab:=rW M L;have h9:=U.o.AY l r s N.o.1;rw[N.o.2]at h9;have h9:A.ownsRow lo 3 1 (V.LL k) (lc k).length ((lc k).map (Value.int .i64)):=h9;rw[eP.o,dD.o,ab]at h9;have d6:=EX (w:=A.drewN q) (l:=lf M L) (i:=i+1) (by rw[ab];exact h9) aa;rw[ab]at d6;refine d6.mono ?_;rintro e w' ⟨J,aL,fg⟩;exact⟨J,aL,((ay.refl (fun k=>k=u) A).below (Below.bn A.heap.size q)).trans fg⟩
     clear bJ
     go_upto_region 20 with(go_at_call 199;refine(du.o _).mono ?_;rintro e gm ⟨rfl,er,c0⟩;obtain⟨dZ,d4⟩:=bY c0 eg fr;have gc:=(dZ (k*2+1)).trans bB;have gq:=(d4 (k*2+1)).trans eF;have dS:=ag er;have cx:=ag c0;clear er c0 dZ d4)
     have fj:∃h:i<L.length,L[i]=x:=B.o.2.2.2.2.2.2.2.2.2.2.2.2.2;obtain⟨cw,b0⟩:∃cw,cw=gm.setCell (af gl (k*2+1)) (ax u L.length G):=⟨_,rfl⟩;have fC:=sW (m:=M) C;have eQ:Hid (gL cw lo hi tb fb R (gone.set x true) m (dW YS x) (nu nc k (L.eraseIdx i)) (nu lc k (zy M L i (i+1))) {V with yv:=ba,LN:=upd V.LN k (ax g (L.length-1) c),LL:=upd V.LL k (ax u L.length G)}):=by
      rw[b0];refine gL.Te U.o N.o.1 N.o.2 dD.o K.o.1 cx.o (L':=zy M L i (i+1)) ?_;rw[LM C,fC];exact dS.o
     have eL:Hid (ay (fun k=>lo<=k/\k<hi) aE cw):=by
      rw[b0];exact(cA.o.trans (cx.o.mono (fun k h=>by subst h;exact ee))).set (a:=(af gl (k*2+1))) _ (.inl eh)
     rw[<-b0];clear b0 gc gq dS cx U cA bB gh cr cs eF du ge n0 eg
     go_wp2_with fail
     go_loopg [14] L.length (fun dl gi wr=>∃d:Nat,gi=.int .i64 d/\i+1<=d/\d<=L.length/\L.length-d<=dl/\Hid (gL wr lo hi tb fb R (gone.set x true) m (dW YS x) (nu nc k (L.eraseIdx i)) (nu lc k (zy M L i d)) {V with yv:=ba,LN:=upd V.LN k (ax g (L.length-1) c),LL:=upd V.LL k (ax u L.length G)})/\Hid (ay (fun k=>lo<=k/\k<hi) aE wr))
     case atStart=>exact⟨i+1,rfl,aB _,aa,aa,eQ,eL⟩
     case round=>
      obtain⟨d,rfl,gM,ek,gQ,bP,dO⟩:=hrel;have I:cB wr lo gl (aW R.length).length cl (upd V.LN k (ax g (L.length-1) c)) (upd V.LL k (ax u L.length G)):=by have h:=bP.o.EE;have h:World.ownsRow _ _ _ _ V.lv _ _:=h;rw[K.o.1]at h;exact h
      have bB:=(I.get aS).2;rw[upd_same]at bB;have ce:wr.ownsRow lo 3 1 (ax u L.length G) L.length ((zy M L i d).map (Value.int .i64)):=by
       have h:=bP.o.AY l r s N.o.1;rw[N.o.2,jD]at h;have h:wr.ownsRow lo 3 1 (upd V.LL k (ax u L.length G) k) (zy M L i d).length ((zy M L i d).map (Value.int .i64)):=h;rw[upd_same,qy C ek]at h;exact h
      clear I;by_cases cY:d<L.length
      .have dq:=ce.cellAt d aa;have g4:=ce.frozenAt d;have el:d<(zy M L i d).length:=by rw[qy C aa];exact cY
       rw[iy,bZ el]at dq;simp only[fP]at dq;have ec:=Ti (m:=M) C cY;obtain⟨y,a9⟩:∃y,y=(zy M L i d)[d]'el:=⟨_,rfl⟩;rw[<-a9]at dq ec;have eu:(zy M L i d).set d (y-W)=zy M L i (d+1):=by
        rw[a9,eW.o];exact Ob C fj.2 aa cY
       have gI:0<=y/\y<=20000:=aa;have eZ:Hid (gL (wr.setCell (af u d) (.int .i64 (y-W))) lo hi tb fb R (gone.set x true) m (dW YS x) (nu nc k (L.eraseIdx i)) (nu lc k (zy M L i (d+1))) {V with yv:=ba,LN:=upd V.LN k (ax g (L.length-1) c),LL:=upd V.LL k (ax u L.length G)}):=by
        have h:=gL.Tf bP.o N.o.1 N.o.2 (c:=G) (g:=u) (by rw[jD,qy C ek];exact upd_same _ _ _) (j:=d) (y-W);rw[jD,Me,eu]at h;exact h
       have eO:Hid (ay (fun k=>lo<=k/\k<hi) aE (wr.setCell (af u d) (.int .i64 (y-W)))):=dO.o.set (a:=(af u d)) _ (.inl ee);clear a9 eu ce ec;go_wp2
       go_roundg (L.length-(d+1))
       case measure=>omega
       case rel=>exact⟨d+1,by go_num,aa,aa,aB _,eZ,eO⟩
      .obtain rfl:d=L.length:=aa;clear ce;go_wp2
       go_roundg (P.length-(j+1))
       case measure=>omega
       case rel=>
        refine⟨j+1,dW YS x,_,_,_,by go_num,aa,aB _,bP,dY.o,dF.o,?_,dO⟩;intro l' eB bE b8;by_cases e:(FT.node l' eB).root bE=k
        .obtain⟨f1,f2,f3,f4,f5,f6,f7,f8,f9,f10,f11,f12,f13,f14⟩:=B.o;have S:k∈P.take (j+1):=by rw[ig a6,<-f11];simp
         have h9:=zQ (n:=n) (by rw[f.o];exact N.o.1) (dW YS x);rw[N.o.2]at h9;rw[e,jD,Oa C,lZ,aO S,h9,eS.o.1];rw[aI.o]at f9;rw[f9]
        .exact dG.o _ e _ (bO.o l' eB bE b8)
  .obtain rfl:j=P.length:=aa;have gH:=be.o.size;go_wp2;go_ret;have D:=cF.o;have fk:0<P.length:=by
    rw[aH.o];obtain⟨Q,aT⟩:=FT.sP (dN 0 n) 0 x;rw[aT];simp
   rw[aO fk]at D;subst D;have aL:=al.o;rw[eT.o]at aL;refine⟨rfl,V,aL.toAt (fun k Z=>?_) (fun l r s aq=>?_),eM.o.trans be.o⟩
   .rw[cD.o k Z,jK,<-f.o,aH.o];exact(BC au YS (by rw[f.o];exact Z)).1
   .rw[bO.o l r s aq,jK,<-f.o,aH.o];exact(BC au YS (by rw[f.o];exact aq.lt)).2
end
section
open Go.RowKit Go.Sort Go.Shelf Go.Lib Go.Maps
def iH (w:World) (lo hi tb n0:Nat) (l:List Pt):Prop:=
 ∃fb R gone YS V,jC w lo hi tb fb R gone YS V/\cz R gone YS/\su R YS l/\R.length=n0/\n0<=20000
section
variable {w w':World} {lo hi tb n0:Nat} {l:List Pt}
theorem iH.kept {S:Nat->Prop} (h:iH w lo hi tb n0 l) (K:ay S w w') (hS:∀k,lo<=k->k<hi->¬S k):iH w' lo hi tb n0 l:=by
 have⟨fb,R,gone,YS,V,a,b⟩:=h;exact⟨fb,R,gone,YS,V,a.kept K hS,b⟩
theorem iH.below {B:Nat} (h:iH w lo hi tb n0 l) (d:Below B w w') (c:hi<=B):iH w' lo hi tb n0 l:=by
 have⟨fb,R,gone,YS,V,a,b⟩:=h;exact⟨fb,R,gone,YS,V,a.below d c,b⟩
theorem OD (a:Option Addr) (c:Nat) (l:List Pt) (w:World) (j:bV dw 3 w a l) (m:l.length<=20000) (o:HZ l) (hu:lF l=true):
  aK 35 #[.slice a l.length c] w fun e w'=>∃tb,e=.returned (.tuple #[aj tb,ae 0])/\iH w' w.heap.size w'.heap.size tb l.length l/\Below w.heap.size w w':=
 (Jg a c l w j m o hu).mono fun e w' ⟨tb,fb,V,h,f,g⟩=>by
  have b:(ids l).Nodup:=by unfold lF at hu;simpa using hu
  have n:=fQ b;have hid:(ids (eQ l)).Nodup:=((dO l).map _).nodup_iff.2 b;have d:=qB n hid;have k:(eQ l).length=l.length:=(dO l).length_eq;refine⟨tb,h,⟨fb,_,_,_,V,f,d,zg b _ (fun i=>?_),k,aa⟩,g⟩;rw[d.live,ru];split<;>simp_all
theorem Ky (h:iH w lo hi tb n0 l) (x1 x2 y1 y2 b:Int):
  aK 39 #[aj tb,.agg #[ae x1,ae x2,ae y1,ae y2,ak b]] w fun e w'=>∃v,∃c:Nat,e=.returned (.tuple #[v,ae ((c+(hasB l x1 x2 y1 y2).length:Nat):Int)])/\c<=8*Lib.bitLen n0+1/\w'.ownsRow w.heap.size 27 1 v (hasB l x1 x2 y1 y2).length ((hasB l x1 x2 y1 y2).map (Value.int .u32))/\Below w.heap.size w w':=by
 have⟨fb,R,gone,YS,V,k,a,m,n,p⟩:=h;refine(Gd k a aa x1 x2 y1 y2 b).mono ?_;rintro e w' ⟨v,f,g,o⟩;have⟨i,j⟩:=I5 a m x1 x2 y1 y2;have d:(lM R YS x1 x2 y1 y2).1.length=(hasB l x1 x2 y1 y2).length:=by
  rw[j];unfold hasB;rw[iB];simp[ids]
 rw[i,d]at g;rw[d]at f;exact⟨v,_,f,n▸LP a aa x1 x2 y1 y2,g,o⟩
end
end
section
open Go.RowKit Go.ChangeShapes Go.WideShapes Go.Deep
theorem QP {α:Type} [Inhabited α] (n:Nat) (p:Nat->α->Prop) (h:∀i,i<n->∃x,p i x):∃l:List α,l.length=n/\∀i (h:i<l.length),p i l[i]:=by
 have a:∀i,∃x,i<n->p i x:=fun i=>by
  by_cases hi:i<n
  .obtain⟨x,c⟩:=h i hi;exact⟨x,fun _=>c⟩
  .exact⟨default,fun h=>absurd h hi⟩
 refine⟨(List.range n).map fun i=>Classical.choose (a i),aA,fun i hi=>?_⟩;have b:i<n:=aP hi;simpa using Classical.choose_spec (a i) b
abbrev Bx:=Int×Int×Int×Int×Int
abbrev Bx.wf (p:Bx):Prop:=(Lit.int .i64 p.1).wf=true/\(Lit.int .i64 p.2.1).wf=true/\(Lit.int .i64 p.2.2.1).wf=true/\(Lit.int .i64 p.2.2.2.1).wf=true/\(Lit.int .u32 p.2.2.2.2).wf=true
end
section
open Go.RowKit
def zB (p:Pt):Obj:=.cells #[ae p.1,ae p.2.1,ak p.2.2] 29 (0,0)
theorem jE {W:World} {b:Nat} {p:Pt} (h:W.heap[b]? =some (zB p)):W.cell? (af b 0)=some (ae p.1)/\W.cell? (af b 1)=some (ae p.2.1)/\W.cell? (af b 2)=some (ak p.2.2):=by simp[World.cell?,h,zB]
end
section
open Go.RowKit
attribute [local irreducible] wpQuiet
theorem OE:eG prog 22 29 3 24:=.mk' (z:=.agg #[ae 0,ae 0,ak 0]) underlying22 aN rfl ai
end
section
open Go Go.RowKit
abbrev E9:Int:=-9223372036854775808
abbrev Kz:Int:=9223372036854775807
def T9 (l:List Pt):Prop:=∀p∈l,(Lit.int .i64 p.1).wf=true/\(Lit.int .i64 p.2.1).wf=true/\(Lit.int .u32 p.2.2).wf=true
theorem UB {x:Int} (h:(Lit.int .i64 x).wf=true):E9<=x/\x<=Kz:=by
 simp[Lit.wf,IntKind.min,IntKind.max,IntKind.signed,IntKind.bits]at h;exact h
def BD (l:List Pt) (f:Pt->Bool):List Int:=dR (ids (l.filter f))
theorem Ji {l:List Pt} {f g:Pt->Bool} (h:∀p∈l,f p=g p):BD l f=BD l g:=by
 unfold BD;rw[oG h]
theorem OG:dR []=[]:=gU (iB [])
def Vy (n x:Int) (up:Bool):Bool:=if up then decide (x<=n)else decide (n<=x)
def BF (x y:Int) (wx wy:Bool) (p:Pt):Bool:=Vy p.1 x wx&&Vy p.2.1 y wy
def bx1 (x:Int) (up:Bool):Int:=if up then x else E9
def Dz (x:Int) (up:Bool):Int:=if up then Kz else x
theorem Tj {p:Pt} (e:(Lit.int .i64 p.1).wf=true) (f:(Lit.int .i64 p.2.1).wf=true) (x y:Int) (c d:Bool):CK (bx1 x c) (Dz x c) (bx1 y d) (Dz y d) p=BF x y c d p:=by
 have a:=UB e;have b:=UB f;unfold E9 Kz at a b;cases c<;>cases d<;>simp only[CK,BF,Vy,bx1,Dz,E9,Kz,gN,jO,qP,<-Bool.decide_and]<;>refine uQ.2 ?_<;>omega
theorem OH {l:List Pt} (c:T9 l) (x y:Int) (a b:Bool):hasB l (bx1 x a) (Dz x a) (bx1 y b) (Dz y b)=BD l (BF x y a b):=
 Ji fun p hp=>Tj (c p hp).1 (c p hp).2.1 x y a b
end
section
open Go.RowKit Go.Maps
attribute [local irreducible] wpQuiet
theorem UC (x:Int) (a:Bool) (w:World):
  aK 173 #[ae x,.bool a] w fun e w'=>e=.returned (.tuple #[ae (bx1 x a),ae (Dz x a)])/\w'=w:=by
 cases a
 all_goals
  go_enter func173,ntmps173;go_wp2;go_ret2;exact⟨rfl,rfl⟩
theorem QQ (x y:Int) (a b:Bool) (d:Int) (c:d=(if a then 1 else 0)+(if b then 2 else 0)) (w:World):
  aK 107 #[ae x,ae y,.int .u8 d] w fun e w'=>e=.returned (.agg #[ae (bx1 x a),ae (Dz x a),ae (bx1 y b),ae (Dz y b),ak 0])/\w'=(w.alloc (.cells #[ae (bx1 x a),ae (Dz x a),ae (bx1 y b),ae (Dz y b),ak 0] 38)).alloc (.cells #[ae (bx1 x a),ae (Dz x a),ae (bx1 y b),ae (Dz y b),ak 0] 38):=by
 have C:=ag (fun x f w=>UC x f w);cases a<;>cases b<;>simp only[gN,jO,qP,Int.add_zero,Int.zero_add,Int.reduceAdd]at c<;>subst c
 all_goals
  go_enter func107,ntmps107
  go_wp2_with (go_at_call 173;refine(C.o _ _ _).mono ?_;rintro e w1 ⟨rfl,rfl⟩)
  (try simp only[Exit.inBlock,Exit.then])
  refine jM (results_cell_row rfl _ _ w.heap.size _ _ _ _ rfl (IA _ _ _) underlying38 rfl aN) rfl ?_
  first
   |exact⟨rfl,rfl⟩
   |(simp only[show(bits .and .u8 0 1==1)=false by decide,show(bits .and .u8 0 2==2)=false by decide,show(bits .and .u8 1 1==1)=true by decide,show(bits .and .u8 1 2==2)=false by decide,show(bits .and .u8 2 1==1)=false by decide,show(bits .and .u8 2 2==2)=true by decide,show(bits .and .u8 3 1==1)=true by decide,show(bits .and .u8 3 2==2)=true by decide];exact⟨rfl,rfl⟩)
theorem Tk (x y:Int) (a b:Bool) (c:Int) (g:c=(if a then 1 else 0)+(if b then 2 else 0)) (w:World):
  aK 107 #[ae x,ae y,.int .u8 c] w (fV w (.agg #[ae (bx1 x a),ae (Dz x a),ae (bx1 y b),ae (Dz y b),ak 0])):=
 (QQ x y a b c g w).mono fun e w' ⟨d,f⟩=>⟨d,by rw[f];exact((aJ _ _).alloc (aB _) _).alloc aA _⟩
theorem Gr (w:World):
  aK 106 #[.pointer none] w fun e w'=>e=.returned (.bool true)/\w'=w:=by
 go_enter func106,ntmps106;go_wp2;go_ret;exact⟨rfl,rfl⟩
theorem Fa (cb:Nat) (tb:Nat) (w:World) (h:w.cell? (af cb 0)=some (aj tb)):
  aK 106 #[aj cb] w fun e w'=>e=.returned (.bool false)/\w'=w:=by
 go_enter func106,ntmps106;go_wp2;go_ret;exact⟨rfl,rfl⟩
end
section
open Go.RowKit Go.Maps
attribute [local irreducible] wpQuiet
attribute [local go_sem] Oper.eT
theorem OI:gF 107:=dh func107 aN rfl
theorem Gs:gF 39:=dh func39 aN rfl
theorem Mf:gF 106:=dh func106 aN rfl
section
variable {w:World} {cb tb:Nat}
theorem Mg {R:World->Value->Value->World->Prop} (F:cb<w.heap.size) (n:w.cell? (af cb 0)=some (aj tb)) (x y:Int) (a b:Bool) (f:Int) (h:f=(if a then 1 else 0)+(if b then 2 else 0))
  (C:∀W,Below w.heap.size w W->aK 39 #[aj tb,.agg #[ae (bx1 x a),ae (Dz x a),ae (bx1 y b),ae (Dz y b),ak 0]] W fun e W'=>∃v c,e=.returned (.tuple #[v,c])/\Below W.heap.size W W'/\R W v c W'):
  aK 40 #[aj cb,ae x,ae y,.int .u8 f] w fun e w'=>∃v c,e=.returned (.tuple #[v,c])/\∃W,Below w.heap.size w W/\R W v c w':=by
 have q:=ag (Fa cb tb w n);have r:=ag (fun W=>Tk x y a b f h W);have j:=ag C;have d3:decide (3<f)=false:=by simp only[gY];cases a<;>cases b<;>simp at h<;>omega
 have H:decide (f>3)=false:=d3;have G:=ag F;clear C h;generalize bx1 x a=z at*;generalize Dz x a=A at*;generalize bx1 y b=B at*;generalize Dz y b=D at*;go_enter func40,ntmps40
 go_wp2_with fail
 refine q.o.mono ?_;rintro e w1 ⟨rfl,rfl⟩
 go_wp2_with fail
 have E:∀p:aR w1,p.W.cell? (af cb 0)=some (aj tb):=ah n;refine au (fun W=>∃p:aR w1,W=p.W) [8,9,10,11,12] [(0,false),(1,false),(2,false),(3,true),(4,false),(5,false),(6,false)] ⟨⟨_,(aJ _ _).drew⟩,rfl⟩ 6 ?_;refine aH 7 rfl fun K g=>?_;refine aZ OI rfl _ _ rfl (vals:=#[ae x,ae y,.int .u8 f]) rfl (r.o _) ?_;rintro e w2 ⟨rfl,l⟩;have d:Below w1.heap.size w1 w2:=(aJ _ _).drew.trans l;refine⟨_,rfl,?_⟩;refine g _ _ (fun _ _=>⟨⟨_,d⟩,rfl⟩) ?_;clear g K;have s:=ag (j.o w2 d);clear j l E;refine aH 8 rfl fun K g=>?_;refine aZ Gs rfl _ _ rfl (vals:=#[aj tb,.agg #[ae z,ae A,ae B,ae D,ak 0]]) rfl s.o ?_;rintro e w3 ⟨v,c,rfl,m,k⟩;have i:=d.trans (m.mono d.size);have u:=ag k;have t:=ag d;clear k d m;refine⟨_,rfl,?_⟩;refine g _ _ (fun _ _=>⟨⟨_,i⟩,rfl⟩) ?_;clear g K;refine bq [(9,false),(10,false)] ⟨⟨_,i⟩,rfl⟩ rfl ?_;refine aI [11,12] ?_
 go_wp2_with fail
 go_ret2;exact⟨v,c,rfl,w2,t.o,u.o⟩
theorem Fb {w:World} (p:Option Addr) (hp:p=none\/∃cb tb,p=some (af cb 0)/\w.cell? (af cb 0)=some (aj tb)) (x y b:Int) (d:p=none\/3<b):
  aK 40 #[.pointer p,ae x,ae y,.int .u8 b] w fun e w'=>e=.returned (.tuple #[aL,ae 0])/\w'=w:=by
 rcases hp with rfl|⟨cb,tb,rfl,c⟩
 .have a:=ag (Gr w);go_enter func40,ntmps40
  go_wp2_with (go_at_call 106;refine a.o.mono ?_;rintro e w1 ⟨rfl,rfl⟩)
  go_ret2;exact⟨rfl,rfl⟩
 .have a:=ag (Fa cb tb w c);have d3:decide (3<b)=true:=by rcases d with h|h;cases h;simpa using h
  go_enter func40,ntmps40
  go_wp2_with (go_at_call 106;refine a.o.mono ?_;rintro e w1 ⟨rfl,rfl⟩)
  go_ret2;exact⟨rfl,rfl⟩
end
section
variable {w:World} {cb tb:Nat}
theorem QR {R:World->Bool->World->Prop} (t:cb<w.heap.size) (s:w.cell? (af cb 0)=some (aj tb)) (c d a:Int)
  (C:∀W,Below w.heap.size w W->aK 128 #[aj tb,iV c d a] W fun e W'=>∃b,e=.returned (.bool b)/\R W b W'):
  aK 125 #[aj cb,iV c d a] w fun e w'=>∃b,e=.returned (.bool b)/\∃W,Below w.heap.size w W/\R W b w':=by
 have j:=ag C;clear C;go_enter func125,ntmps125
 go_wp2_with fail
 obtain⟨w1,g⟩:∃w1,w1=w.alloc (.cells #[ae c,ae d,ak a] 29):=⟨_,rfl⟩;have h:w1.heap[w.heap.size]? =some (.cells #[ae c,ae d,ak a] 29 (0,0)):=by rw[g];exact df _ _
 have f:Below w.heap.size w w1:=by rw[g];exact(aJ _ _).alloc (aB _) _
 rw[<-g];clear g;have i:w1.cell? (af cb 0)=some (aj tb):=(f.cell (p:=(af cb 0)) t).trans s;have m:=ag (Fa cb tb w1.drew i);have u:=ah i;have v:=ah (show w1.cell? (af w.heap.size 0)=some (ae c) from aD h);have x:=ah (show w1.cell? (af w.heap.size 1)=some (ae d) from aD h);have y:=ah (show w1.cell? (af w.heap.size 2)=some (ak a) from aD h);have n:=ag (j.o w1.drew f.drew);have q:=ag (show Below w.heap.size w w1.drew from f.drew);clear j h f i;refine au (fun W=>∃p:aR w1,W=p.W) [9,10,11] [(0,false)] ⟨⟨_,(aJ _ _).drew⟩,rfl⟩ 11 ?_;refine aH 1 rfl fun K k=>?_;refine aZ Mf rfl _ _ rfl (vals:=#[aj cb]) rfl m.o ?_;rintro e w2 ⟨rfl,rfl⟩;refine⟨_,rfl,?_⟩;refine k _ _ (fun _ _=>⟨⟨_,(aJ _ _).drew⟩,rfl⟩) ?_;clear k K;refine bq [(2,false),(3,false),(4,false),(5,false),(6,false),(7,true),(8,true)] ⟨⟨_,(aJ _ _).drew⟩,rfl⟩ rfl ?_;refine aI [9,10,11] ?_
 go_wp2_with fail
 refine n.o.mono ?_;rintro e w3 ⟨b,rfl,l⟩;have r:=ag l;clear l
 go_wp2_with fail
 go_ret;exact⟨b,rfl,_,q.o,r.o⟩
theorem OJ {a:Option Addr} {n c:Nat} {R:Nat->World->Prop} (C:aK 35 #[.slice a n c] w fun e W'=>∃tb,e=.returned (.tuple #[aj tb,ae 0])/\Below w.heap.size w W'/\R tb W'):
  aK 36 #[.slice a n c] w fun e w'=>∃tb W,e=.returned (.tuple #[aj W.heap.size,ae 0])/\R tb W/\Below w.heap.size w W/\w'=W.alloc (.cells #[aj tb] 153):=by
 have d:=ag C;go_enter func36,ntmps36
 go_wp2_with (go_at_call 35;refine d.o.mono ?_;rintro e w1 ⟨tb,rfl,g,b⟩;have f:=ag b;clear b)
 go_ret2;exact⟨tb,w1,rfl,f.o,g,rfl⟩
end
end
section
open Go.RowKit Go.Sort Go.Shelf Go.Lib Go.Maps
def uw (w:World) (lo hi cb n0:Nat) (l:List Pt):Prop:=
 ∃tb h2,iH w lo h2 tb n0 l/\h2<=cb/\cb<hi/\hi<=w.heap.size/\w.heap[cb]? =some (.cells #[aj tb] 153 (0,0))
section
variable {w w':World} {lo hi cb n0:Nat} {l:List Pt}
theorem iH.Fe {w:World} {lo hi tb n0:Nat} {l:List Pt} (h:iH w lo hi tb n0 l):l.length<=n0/\n0<=20000:=by
 have⟨fb,R,gone,YS,V,c,a,b,d,e⟩:=h;have:=a.Qy;have:=b.len a;omega
theorem iH.lo_le {w:World} {lo hi tb n0:Nat} {l:List Pt} (h:iH w lo hi tb n0 l):lo<=hi:=by
 have⟨fb,R,gone,YS,V,a,b⟩:=h;have:=a.fu;omega
theorem uw.kept {S:Nat->Prop} (h:uw w lo hi cb n0 l) (K:ay S w w') (hS:∀k,lo<=k->k<hi->¬S k):uw w' lo hi cb n0 l:=by
 have⟨tb,c,b,d,a,e,f⟩:=h;have:=b.lo_le;exact⟨tb,c,b.kept K (fun k g i=>hS k g aa),d,a,bA e K.size,(K.block cb aa (hS cb aa a)).trans f⟩
theorem BG {w:World} {cb tb:Nat} (h:w.heap[cb]? =some (.cells #[aj tb] 153 (0,0))):w.cell? (af cb 0)=some (aj tb):=aD h
theorem QS (a:Option Addr) (c:Nat) (l:List Pt) (w:World) (h:bV dw 3 w a l) (i:l.length<=20000) (j:HZ l) (hu:lF l=true):
  aK 36 #[.slice a l.length c] w fun e w'=>∃cb,e=.returned (.tuple #[aj cb,ae 0])/\uw w' w.heap.size w'.heap.size cb l.length l/\Below w.heap.size w w':=by
 refine(OJ (R:=fun tb W=>iH W w.heap.size W.heap.size tb l.length l) ((OD a c l w h i j hu).mono fun e w1 ⟨tb,g,d,b⟩=>⟨tb,g,b,d⟩)).mono ?_;rintro e w' ⟨tb,W,rfl,d,b,rfl⟩;have f:Below W.heap.size W (W.alloc (.cells #[aj tb] 153)):=(aJ _ _).alloc (aB _) _;exact⟨_,rfl,⟨tb,W.heap.size,d.below f (aB _),aB _,aA,aB _,df _ _⟩,b.trans (f.mono b.size)⟩
theorem OL (h:uw w lo hi cb n0 l) (n:T9 l) (x y:Int) (a b:Bool) (j:Int) (o:j=(if a then 1 else 0)+(if b then 2 else 0)):
  aK 40 #[aj cb,ae x,ae y,.int .u8 j] w fun e w'=>∃v,∃c:Nat,e=.returned (.tuple #[v,ae ((c+(BD l (BF x y a b)).length:Nat):Int)])/\c<=8*Lib.bitLen n0+1/\w'.ownsRow w.heap.size 27 1 v (BD l (BF x y a b)).length ((BD l (BF x y a b)).map (Value.int .u32))/\Below w.heap.size w w':=by
 have⟨tb,p,m,r,s,t,k⟩:=h;refine(Mg (R:=fun W v q w'=>∃c:Nat,q=.int .i64 ((c+(BD l (BF x y a b)).length:Nat):Int)/\c<=8*Lib.bitLen n0+1/\w'.ownsRow W.heap.size 27 1 v (BD l (BF x y a b)).length ((BD l (BF x y a b)).map (Value.int .u32))/\Below W.heap.size W w') aa (BG k) x y a b j o ?_).mono ?_
 .intro W d;refine(Ky (m.below d aa) (bx1 x a) (Dz x a) (bx1 y b) (Dz y b) 0).mono ?_;rintro e w' ⟨v,c,rfl,g,i,f⟩;rw[OH n]at*;exact⟨v,_,rfl,f,c,rfl,g,i,f⟩
 .rintro e w' ⟨v,q,rfl,W,d,c,rfl,g,i,f⟩;exact⟨v,c,rfl,g,bJ i d.size,d.trans (f.mono d.size)⟩
theorem Gt (h:uw w lo hi cb n0 l) (x y a:Int) (c:3<a):
  aK 40 #[aj cb,ae x,ae y,.int .u8 a] w fun e w'=>e=.returned (.tuple #[aL,ae 0])/\w'=w:=by
 have⟨tb,d,j,f,g,i,b⟩:=h;exact Fb _ (.inr ⟨cb,tb,rfl,BG b⟩) x y a (.inr c)
end
end
end Go.Proofs.YtkjdbndekceffaaGreat
namespace Go.Proofs
open Go.Shelf
def Tryz.Ff:Go.Shelf.Ren:=⟨fun|6=>98|15=>86|14=>167|28=>160|29=>161|20=>242|21=>243|22=>244|23=>245|24=>246|25=>247|26=>248|27=>249|46=>296|47=>286|48=>287|49=>297|50=>298|57=>322|n=>n,fun|22=>148|24=>3|25=>157|3=>3|39=>135|0=>0|53=>27|55=>229|4=>4|46=>308|45=>307|50=>30|5=>5|9=>9|66=>364|70=>368|76=>391|77=>60|n=>n,fun|n=>n⟩
theorem Tryz.Gu:Go.Proofs.SlLaysF.n6 Tryz.prog Tryz.Ff:={
 mixed:=aN
 f6:=gy Tryz.func98
 f14:=gy Tryz.func167
 f15:=Tryz.func86.trans (congrArg some aN)
 f20:=gy Tryz.func242
 f21:=gy Tryz.func243
 f22:=gy Tryz.func244
 f23:=gy Tryz.func245
 f24:=gy Tryz.func246
 f25:=gy Tryz.func247
 f26:=gy Tryz.func248
 f27:=gy Tryz.func249
 f28:=Tryz.func160.trans (congrArg some aN)
 f29:=Tryz.func161.trans (congrArg some aN)
 f46:=gy Tryz.func296
 f47:=Tryz.func286.trans (congrArg some aN)
 f48:=Tryz.func287.trans (congrArg some aN)
 f49:=gy Tryz.func297
 f50:=gy Tryz.func298
 f57:=gy Tryz.func322
 t0:=uP
 a0:=vw
 z0:=uZ
 v0:=uT
 t3:=rE
 a3:=nW
 z3:=nU
 v3:=rG
 t4:=pK
 a4:=rQ
 z4:=rO
 v4:=rH
 t5:=Tryz.underlying5
 a5:=Tryz.isAgg5
 z5:=Tryz.sizeOf5
 v5:=Tryz.zeroValue5
 t9:=Tryz.underlying9
 a9:=Tryz.isAgg9
 z9:=Tryz.sizeOf9
 v9:=Tryz.zeroValue9
 t22:=Tryz.underlying148
 a22:=Tryz.isAgg148
 z22:=Tryz.sizeOf148
 v22:=Tryz.zeroValue148
 a24:=nW
 z24:=nU
 t25:=Tryz.underlying157
 a25:=Tryz.isAgg157
 z25:=Tryz.sizeOf157
 v25:=Tryz.zeroValue157
 t39:=Ad
 a39:=Tryz.isAgg135
 z39:=Az
 v39:=Ai
 t45:=Tryz.underlying307
 a45:=Tryz.isAgg307
 z45:=Tryz.sizeOf307
 v45:=Tryz.zeroValue307
 t46:=Tryz.underlying308
 a46:=Tryz.isAgg308
 z46:=Tryz.sizeOf308
 v46:=Tryz.zeroValue308
 t50:=Tryz.underlying30
 a50:=Tryz.isAgg30
 z50:=Tryz.sizeOf30
 v50:=Tryz.zeroValue30
 t53:=Aj
 a53:=xU
 z53:=xR
 v53:=Ap
 t55:=Ae
 a55:=Tryz.isAgg229
 z55:=AA
 v55:=Ak
 t66:=Tryz.underlying364
 a66:=Tryz.isAgg364
 z66:=Tryz.sizeOf364
 v66:=Tryz.zeroValue364
 t70:=Tryz.underlying368
 a70:=Tryz.isAgg368
 z70:=Tryz.sizeOf368
 v70:=Tryz.zeroValue368
 t76:=Tryz.underlying391
 a76:=Tryz.isAgg391
 z76:=Tryz.sizeOf391
 v76:=Tryz.zeroValue391
 t77:=Tryz.underlying60
 a77:=Tryz.isAgg60
 z77:=Tryz.sizeOf60
 v77:=Tryz.zeroValue60}
end Go.Proofs
