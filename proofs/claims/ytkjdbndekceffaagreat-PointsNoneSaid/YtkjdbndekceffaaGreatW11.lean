/- Made small by a program. -/
import Derived.Test.YtkjdbndekceffaaGreatW09
import Derived.Test.YtkjdbndekceffaaGreatW10
set_option linter.unusedSimpArgs false
set_option linter.unusedVariables false
set_option maxRecDepth 100000
set_option maxHeartbeats 16000000
namespace Go.Proofs.YtkjdbndekceffaaGreat
open Tryz
section
open Go.RowKit Go.Maps
attribute [local irreducible] wpQuiet
def Uq (l:List Pt) (p:Pt) (w:World) (e:Ending) (w':World):Prop:=
 ∃k:Nat,e=.returned (.tuple #[aa k,.bool (decide (∃h:k<l.length,il l[k] p=0))])/\k<=l.length/\(∀t (h:t<l.length),t<k->il l[t] p<0)/\(∀t (h:t<l.length),k<=t->¬il l[t] p<0)/\Below w.heap.size w w'
theorem Ur (a:Option Addr) (l:List Pt) (n an:Nat) (p:Pt) (W:World) (ar:l.length=n) (aA:n<=1000000) (ab:cz dx 3 W a l) (ac:l.Pairwise jV):
  aH 191 #[.slice a n an,iD p.1 p.2.1 p.2.2,.func (.func 94) #[] #[]] W (Uq l p W):=by
 subst ar;obtain⟨d,f,c⟩:=p;have X:=af ab;have al:=af ac;have V:=af (fun(q:Pt) W=>(Rj q (d,f,c) W).mono (fun e w' (h:e=.returned (aa (il q (d,f,c)))/\wF W w')=>(⟨h.1,h.2.below (ay _)⟩:e=.returned (aa (il q (d,f,c)))/\Below W.heap.size W w')));have ah:Hid (∀t i (Y:t<l.length) (g:i<l.length),t<=i->il l[i] (d,f,c)<0->il l[t] (d,f,c)<0):=fun t i Y g L M=>by
  by_cases e:t=i
  .subst e;exact M
  .have ao:=gH.1 al.o t i Y g (by omega);rw[pz]at M |-;exact nR ao M
 clear ab ac;go_enter func191,ntmps191
 go_wp2_with fail
 have Z:Below W.heap.size W (W.alloc (.cells #[aa d,aa f,ai c] 29)):=(aB _ _).alloc (ay _) _;have am:Hid ((W.alloc (.cells #[aa d,aa f,ai c] 29)).heap[W.heap.size]? =some (.cells #[aa d,aa f,ai c] 29 (0,0))):=di W _;have au:W.heap.size<(W.alloc (.cells #[aa d,aa f,ai c] 29)).heap.size:=by simp
 generalize(W.alloc (.cells #[aa d,aa f,ai c] 29))=J at*;have U:=af Z;clear Z
 go_loopw [9,10] (fun O P wr=>∃i j:Nat,O=.int .i64 i/\P=.int .i64 j/\i<=j/\j<=l.length/\Hid (∀t (h:t<l.length),t<i->il l[t] (d,f,c)<0)/\Hid (∀t (h:t<l.length),j<=t->¬il l[t] (d,f,c)<0)/\Hid (Below J.heap.size J wr))
  (fun O P _=>(intOf P).toNat-(intOf O).toNat)
 case atStart=>exact⟨0,l.length,rfl,rfl,bf _,ay _,fun t h g=>absurd g (jR _),fun t h g=>absurd h (by omega),aB _ _⟩
 case round=>
  obtain⟨i,j,rfl,rfl,az,ap,K,T,F⟩:=hrel;have A:Below W.heap.size W wr:=U.o.trans (F.o.mono U.o.size);have D:=(F.o.block _ au).trans am.o;have Q:=ag (w:=wr) (ad:=(ae W.heap.size 0)) (v:=.int .i64 d) (by simp[World.cell?,D]);have R:=ag (w:=wr) (ad:=(ae W.heap.size 1)) (v:=.int .i64 f) (by simp[World.cell?,D]);have S:=ag (w:=wr) (ad:=(ae W.heap.size 2)) (v:=.int .u32 c) (by simp[World.cell?,D]);by_cases aC:i<j
  .obtain⟨m,aq⟩:∃m,m=(i+j)/2:=⟨_,rfl⟩;have aD:((i:Int)+(j:Int))/2=(m:Int):=by omega
   have C:m<l.length:=by omega
   have aE:i<=m/\m<j:=by omega
   clear aq;obtain⟨b,off,y,N,u⟩:=(X.o.below A).get (by omega);have r:=u (m) C 0 (by omega);have x1:=u (m) C 1 (by omega);have x2:=u (m) C 2 (by omega);simp only[dx,aM,aN,dM]at r x1 x2;have r:=ag r;have x1:=ag x1;have x2:=ag x2;have I:Hid (il l[m] (d,f,c)<0->∀t (h:t<l.length),t<m+1->il l[t] (d,f,c)<0):=fun h t ht g=>ah.o t _ ht C (by omega) h;have H:Hid (¬il l[m] (d,f,c)<0->∀t (h:t<l.length),m<=t->¬il l[t] (d,f,c)<0):=fun h t ht g L=>h (ah.o _ t C ht g L);have s:Hid (∀p:aT wr,aH 94 #[iD l[m].1 l[m].2.1 l[m].2.2,iD d f c] p.W fun e w'=>e=.returned (aa (il l[m] (d,f,c)))/\Below p.W.heap.size p.W w'):=fun p=>V.o l[m] p.W;have x:=af y;obtain⟨o,k⟩:∃o,o=il l[m] (d,f,c):=⟨_,rfl⟩;rw[<-k]at I H s;clear u y k D;generalize l[m]=q at*;obtain⟨aw,ax,av⟩:=q;simp only at r x1 x2 s;obtain rfl:=x.o;clear x
   go_upto_region 5 with fail
   refine bI (by kernel_rfl) (by kernel_rfl) ?_
   repeat(quiet_step ((go_at_call 94;exact dC (s.o _))))
   refine jb ?_;intro w2 E;have z:Below wr.heap.size wr w2:=by obtain⟨p,rfl⟩:=E;exact p.h
   have G:Hid (Below J.heap.size J w2):=F.o.trans (z.mono F.o.size);clear E Q R S r x1 x2 z s;by_cases k:o<0
   .have ak:=af (I.o k);have d1:decide (o<0)=true:=by simpa using k
    clear I H;go_wp2;go_roundw
    case rel=>exact⟨m+1,j,by go_num,rfl,by omega,ap,ak,T,G⟩
    case measure=>simp[intOf];omega
   .have aj:=af (H.o k);have d1:decide (o<0)=false:=by simpa using k
    clear I H;go_wp2;go_roundw
    case rel=>exact⟨i,m,rfl,rfl,by omega,by omega,K,aj,G⟩
    case measure=>simp[intOf];omega
  .obtain rfl:i=j:=by omega
   by_cases B:i<l.length
   .obtain⟨b,off,y,N,u⟩:=(X.o.below A).get (by omega);have r:=u i B 0 (by omega);have x1:=u i B 1 (by omega);have x2:=u i B 2 (by omega);simp only[dx,aM,aN,dM]at r x1 x2;have r:=ag r;have x1:=ag x1;have x2:=ag x2;have s:Hid (∀p:aT wr,aH 94 #[iD l[i].1 l[i].2.1 l[i].2.2,iD d f c] p.W fun e w'=>e=.returned (aa (il l[i] (d,f,c)))/\Below p.W.heap.size p.W w'):=fun p=>V.o l[i] p.W;have x:=af y;obtain⟨o,k⟩:∃o,o=il l[i] (d,f,c):=⟨_,rfl⟩;have HO:Hid (decide (∃h:i<l.length,il l[i] (d,f,c)=0)=(o==0)):=by
     show _=_;rw[k,ni];simp[B]
    rw[<-k]at s;have hd:decide (i<l.length)=true:=by simpa using B
    clear u y k D;generalize l[i]=q at*;obtain⟨aw,ax,av⟩:=q;simp only at r x1 x2 s;obtain rfl:=x.o;clear x
    go_upto_region 8 with fail
    refine bI (by kernel_rfl) (by kernel_rfl) ?_
    repeat(quiet_step ((go_at_call 94;exact dC (s.o _))))
    refine jb ?_;intro w2 E;have z:Below wr.heap.size wr w2:=by obtain⟨p,rfl⟩:=E;exact p.h
    have G:Hid (Below W.heap.size W w2):=A.trans (z.mono A.size);clear E Q R S r x1 x2 z s;go_wp2;go_ret2;exact⟨i,by rw[HO.o];rfl,by omega,K.o,(fun t h g L=>absurd (T.o t h g) (by omega)),G.o⟩
   .obtain rfl:i=l.length:=by omega
    have N:=af A;clear Q R S
    go_upto_region 8 with fail
    go_quiet (fail)
    go_wp2;go_ret2;exact⟨l.length,by simp,ay _,K.o,fun t h g=>absurd h (by omega),N.o.trans (Below.bC _ _)⟩
end
section
open Go.RowKit Go.Sort Go.Shelf Go.Lib Go.Maps
theorem Eg {α:Type} [Inhabited α] {enc:α->Value} {w:World} {base g d:Nat} {e:TypeId} {l:List α} {i:Nat} {zr:α} (h:w.ownsRow base e 1 (aj g l.length d) l.length (l.map enc)) (hi:i<l.length) (q:Nat):
  (putRow enc (Sort.ahead w q) g 0 (l.toArray.toList.take i++l.toArray.toList.drop (i+1)++List.replicate (i+1-i) zr).toArray).ownsRow base e 1 (aj g (l.length-1) d) (l.length-1) ((l.eraseIdx i).map enc)/\
  au (fun k=>k=g) w (putRow enc (Sort.ahead w q) g 0 (l.toArray.toList.take i++l.toArray.toList.drop (i+1)++List.replicate (i+1-i) zr).toArray):=by
 rcases h.2 with⟨b,B⟩|⟨A,v,x,b,r,s,C,t,E,ht⟩
 .cases b
 .injection b with a z n;injection a with a;injection a with a _ _;subst a n;have j:(l.take i++l.drop (i+1)++[zr]).length=l.length:=by simp;omega
  obtain⟨y,-,-,-,c⟩:=qR (l:=l) (l':=l.take i++l.drop (i+1)++[zr]) r s (by omega) t (by omega) j q #[];rw[Sort.grow_empty]at c;have p:(l.toArray.toList.take i++l.toArray.toList.drop (i+1)++List.replicate (i+1-i) zr)=l.take i++l.drop (i+1)++[zr]:=by
   rw[show i+1-i=1 by omega];simp
  rw[p];constructor
  .rw[j]at c;have f:=lH (m:=l.length-1) c (by omega);have o:((l.take i++l.drop (i+1)++[zr]).map enc).take ((l.length-1)*1)=(l.eraseIdx i).map enc:=by
    rw[iF,<-List.map_take,CV (by simp;omega),jQ (by simp;omega),wH]
   rw[o]at f;exact f
  .refine⟨rfl,rfl,rfl,?_,fun k D u=>?_⟩
   .show w.heap.size<=(w.heap.modify g _).size;simp
   .show(w.heap.modify g _)[k]? =_;rw[wM,aI (iG u)]
theorem Ih {w:World} {base g b:Nat} {l:List Int} {i:Nat} (h:w.ownsRow base 27 1 (aj g l.length b) l.length (l.map (Value.int .u32))) (hi:i<l.length):
  aH 198 #[aj g l.length b,aa i,aa (i+1:Nat)] w fun e w'=>e=.returned (aj g (l.length-1) b)/\w'.ownsRow base 27 1 (aj g (l.length-1) b) (l.length-1) ((l.eraseIdx i).map (Value.int .u32))/\au (fun k=>k=g) w w':=by
 obtain⟨j,B,D⟩:∃j,Tryz.prog.info? 27=some j/\j.size=1:=by
  have a:(Tryz.prog.info? 27).map (fun i=>i.size)=some 1:=by kernel_rfl
  cases p:Tryz.prog.info? 27 with
  |none=>rw[p]at a;cases a
  |some i=>rw[p]at a;injection a with a;exact⟨i,rfl,a⟩
 have n:l.length<=b/\b<=9223372036854775807:=by
  rcases h.2 with⟨c,v⟩|⟨u,r,s,c,A,a,f,o,C,ht⟩
  .cases c
  .injection c with d t m;subst m;unfold maxLen at o;omega
 have z:Holds (Value.int .u32) w g 0 l.toArray:=by
  rcases h.2 with⟨c,v⟩|⟨u,r,s,c,A,a,f,o,C,ht⟩
  .cases c
  .injection c with d t m;injection d with d;injection d with d _ _;subst d;rw[iF]at ht;exact holds_of_block a ht
 have f:=AnyE.slices_Delete Tryz.Ih (Value.int .u32) (fun _=>rfl) 0 (fun w=>zeroValue27 w) j B D g 0 b i (i+1) l.toArray w z (by simpa using n.1) n.2 (by omega) (by simp;omega);change aH 198 _ _ _ at f;rw[show l.toArray.size=l.length by simp]at f;refine f.mono ?_;rintro e w' ⟨rfl,q,rfl⟩;have⟨x,y⟩:=Eg (zr:=(0:Int)) h hi q;exact⟨by rw[show i+1-i=1 by omega],x,y⟩
theorem Ij {w:World} {base g b:Nat} {l:List Int} {i:Nat} (h:w.ownsRow base 2 1 (aj g l.length b) l.length (l.map (Value.int .i64))) (hi:i<l.length):
  aH 197 #[aj g l.length b,aa i,aa (i+1:Nat)] w fun e w'=>e=.returned (aj g (l.length-1) b)/\w'.ownsRow base 2 1 (aj g (l.length-1) b) (l.length-1) ((l.eraseIdx i).map (Value.int .i64))/\au (fun k=>k=g) w w':=by
 obtain⟨j,B,D⟩:∃j,Tryz.prog.info? 2=some j/\j.size=1:=by
  have a:(Tryz.prog.info? 2).map (fun i=>i.size)=some 1:=by kernel_rfl
  cases p:Tryz.prog.info? 2 with
  |none=>rw[p]at a;cases a
  |some i=>rw[p]at a;injection a with a;exact⟨i,rfl,a⟩
 have n:l.length<=b/\b<=9223372036854775807:=by
  rcases h.2 with⟨c,v⟩|⟨u,r,s,c,A,a,f,o,C,ht⟩
  .cases c
  .injection c with d t m;subst m;unfold maxLen at o;omega
 have z:Holds (Value.int .i64) w g 0 l.toArray:=by
  rcases h.2 with⟨c,v⟩|⟨u,r,s,c,A,a,f,o,C,ht⟩
  .cases c
  .injection c with d t m;injection d with d;injection d with d _ _;subst d;rw[iF]at ht;exact holds_of_block a ht
 have f:=AnyE.slices_Delete Tryz.Ij (Value.int .i64) (fun _=>rfl) 0 (fun w=>zeroValue2 w) j B D g 0 b i (i+1) l.toArray w z (by simpa using n.1) n.2 (by omega) (by simp;omega);change aH 197 _ _ _ at f;rw[show l.toArray.size=l.length by simp]at f;refine f.mono ?_;rintro e w' ⟨rfl,q,rfl⟩;have⟨x,y⟩:=Eg (zr:=(0:Int)) h hi q;exact⟨by rw[show i+1-i=1 by omega],x,y⟩
theorem Ee {w:World} {base g b:Nat} {l:List Int} {i:Nat} (h:w.ownsRow base 3 1 (aj g l.length b) l.length (l.map (Value.int .i64))) (hi:i<l.length):
  aH 199 #[aj g l.length b,aa i,aa (i+1:Nat)] w fun e w'=>e=.returned (aj g (l.length-1) b)/\w'.ownsRow base 3 1 (aj g (l.length-1) b) (l.length-1) ((l.eraseIdx i).map (Value.int .i64))/\au (fun k=>k=g) w w':=by
 obtain⟨j,B,D⟩:∃j,Tryz.prog.info? 3=some j/\j.size=1:=by
  have a:(Tryz.prog.info? 3).map (fun i=>i.size)=some 1:=by kernel_rfl
  cases p:Tryz.prog.info? 3 with
  |none=>rw[p]at a;cases a
  |some i=>rw[p]at a;injection a with a;exact⟨i,rfl,a⟩
 have n:l.length<=b/\b<=9223372036854775807:=by
  rcases h.2 with⟨c,v⟩|⟨u,r,s,c,A,a,f,o,C,ht⟩
  .cases c
  .injection c with d t m;subst m;unfold maxLen at o;omega
 have z:Holds (Value.int .i64) w g 0 l.toArray:=by
  rcases h.2 with⟨c,v⟩|⟨u,r,s,c,A,a,f,o,C,ht⟩
  .cases c
  .injection c with d t m;injection d with d;injection d with d _ _;subst d;rw[iF]at ht;exact holds_of_block a ht
 have f:=AnyE.slices_Delete Tryz.Ee (Value.int .i64) (fun _=>rfl) 0 (fun w=>zeroValue3 w) j B D g 0 b i (i+1) l.toArray w z (by simpa using n.1) n.2 (by omega) (by simp;omega);change aH 199 _ _ _ at f;rw[show l.toArray.size=l.length by simp]at f;refine f.mono ?_;rintro e w' ⟨rfl,q,rfl⟩;have⟨x,y⟩:=Eg (zr:=(0:Int)) h hi q;exact⟨by rw[show i+1-i=1 by omega],x,y⟩
theorem PI (a:Option Addr) (l:List Int) (n c:Nat) (x:Int) (w:World) (C:l.length=n) (h:Rd (.int .u32) w a l) (J:n<=1000000) (u:x∈l):
  aH 196 #[.slice a n c,ai x] w fun e w'=>(∃i:Nat,e=.returned (aa i)/\∃h:i<l.length,l[i]=x)/\w'=w:=by
 subst C;have z:=af h;have A:=af u;clear h u;go_enter func196,ntmps196;go_wp2
 go_loopg [8] l.length (fun D E wr=>∃j:Nat,E=.int .i64 j/\j<=l.length/\l.length-j<=D/\wr=w/\Hid (∀t (h:t<l.length),t<j->l[t]≠x))
 case atStart=>exact⟨0,rfl,bf _,by omega,rfl,fun t h q=>absurd q (jR _)⟩
 case round=>
  obtain⟨j,rfl,H,I,rfl,k⟩:=hrel;by_cases s:j<l.length
  .obtain⟨b,off,p,G,r⟩:=z.o.get (by omega);have F:=r j s;have g:=af p;obtain⟨y,f⟩:∃y,y=l[j]:=⟨_,rfl⟩;rw[<-f]at F;have m:=af f;clear r p f;obtain rfl:=g.o;clear g;by_cases d:x=y
   .have d1:(x==y)=true:=by simp[d]
    have d2:decide (x=y)=true:=by simp[d]
    have B:=af d;clear d;go_wp2;go_ret;exact⟨⟨j,rfl,s,by rw[<-m.o,B.o]⟩,rfl⟩
   .have d1:(x==y)=false:=by simp[d]
    have d2:decide (x=y)=false:=by simp[d]
    have v:Hid (∀t (h:t<l.length),t<j+1->l[t]≠x):=fun t h q=>by
     by_cases e:t=j
     .subst e;rw[<-m.o];exact fun e=>d e.symm
     .exact k.o t h (by omega)
    clear d;go_wp2
    go_roundg (l.length-(j+1))
    case measure=>omega
    case rel=>exact⟨j+1,by go_num,by omega,ay _,rfl,v⟩
  .obtain⟨t,ht,e⟩:=jk A.o;exact absurd e (k.o t ht (by omega))
end
section
open Go.RowKit Go.Sort Go.Shelf Go.Lib Go.Maps
attribute [local irreducible] wpQuiet
attribute [local go_sem] Oper.fo
def Im (R:List Pt) (p:Pt):Nat:=R.countP fun q=>decide (il q p<0)
def RD (R:List Pt) (p:Pt):Bool:=decide (∃h:Im R p<R.length,il R[Im R p] p=0)
theorem Nn (a:Option Addr) (l:List Pt) (n c:Nat) (p:Pt) (W:World) (q:l.length=n) (o:n<=1000000) (r:cz dx 3 W a l) (s:l.Pairwise jV):
  aH 191 #[.slice a n c,iD p.1 p.2.1 p.2.2,.func (.func 94) #[] #[]] W (eY W (.tuple #[aa (Im l p),.bool (RD l p)])):=
 (Ur a l n c p W q o r s).mono fun e w' ⟨k,j,m,f,g,i⟩=>by
  have d:k=Im l p:=nY l k m (fun t h b=>by simpa using f t h b) (fun t h b=>by simpa using g t h b);subst d;exact⟨j,i⟩
theorem Eh {R:List Pt} (d:R.Pairwise jV) {x:Nat} (a:x<R.length):Im R R[x]=x/\RD R R[x]=true:=by
 have b:x=Im R R[x]:=nY R x (um a) (fun t h c=>by
  have:=gH.1 d t x h a c;simpa[pz]using this) (fun t h c=>by
  simp only[iA,pz];by_cases e:t=x
  .subst e;exact rQ _
  .intro f;have:=gH.1 d x t a h (by omega);exact rQ _ (nR this f))
 refine⟨b.symm,?_⟩;unfold RD;rw[bW];refine⟨by omega,?_⟩;have e:R[Im R R[x]]'(by omega)=R[x]:=by congr 1;exact b.symm
 rw[e,O9];exact⟨rfl,rfl⟩
end
section
open Go.RowKit Go.Sort Go.Shelf Go.Lib Go.Maps
def Ei (n k:Nat):FT:=(((dK 0 n).subs 0).getD k (.leaf 0,0)).1
theorem lT {n:Nat} {t:FT} {s:Nat} (h:FT.At (aU n) t s):Ei n (t.root s)=t:=by
 have a:=ky h;have c:=h.lt;rw[dh]at c;have b:t.root s<((dK 0 n).subs 0).length:=by rw[FT.fu,eZ 0 n a];exact c
 have e:=FT.nZ (dK 0 n) 0 _ b;have f:=FT.kg (dK 0 n) 0 (fG a▸jF n a) _ (bN b);have⟨d,g⟩:=FT.At.unique (fG a▸h) f (by rw[e];omega);unfold Ei;rw[iO,dw b];exact d.symm
def mo (n:Nat) (YS:List Nat) (k:Nat):List Nat:=nl YS (Ei n k)
def vY (n:Nat) (YS:List Nat) (k:Nat):List Int:=match Ei n k with
 |.leaf _=>[]
 |.node l r=>lf l.hi (nl YS (.node l r))
theorem y8 {n:Nat} {l r:FT} {s:Nat} (h:FT.At (aU n) (.node l r) s) (YS:List Nat):vY n YS ((FT.node l r).root s)=lf l.hi (nl YS (.node l r)):=by
 unfold vY;rw[lT h]
section
variable {w w':World} {lo hi tb fb:Nat} {R:List Pt} {gone:List Bool} {YS:List Nat} {V:xG}
theorem jl.UU (h:jl w lo hi tb fb R gone YS V):gz w lo hi tb fb R gone YS.length YS (mo R.length YS) (vY R.length YS) V:=
 ⟨h.blk,h.fq,h.row,h.xs,h.Cs,h.ig,h.iP,h.DR,h.ys,fun k b=>by
  obtain⟨t,s,a,rfl⟩:=rZ b;unfold mo;rw[lT a];exact h.EU t s a,fun l r s a=>by rw[y8 a];exact h.zW l r s a,h.Cn,h.top,h.nX,h.Mj,h.Gx,h.Fj⟩
theorem gz.toAt {nc:Nat->List Nat} {lc:Nat->List Int} (h:gz w lo hi tb fb R gone YS.length YS nc lc V) (c:∀k,k<(aU R.length).length->nc k=mo R.length YS k) (d:∀l r s,FT.At (aU R.length) (.node l r) s->lc ((FT.node l r).root s)=vY R.length YS ((FT.node l r).root s)):jl w lo hi tb fb R gone YS V:=
 ⟨h.blk,h.fq,h.row,h.xs,h.Cs,h.ig,h.iP,h.DR,h.ys,fun t s a=>by
  have b:=h.EU _ a.lt;rw[c _ a.lt,mo,lT a]at b;exact b,fun l r s a=>by
  have b:=h.zW l r s a;rw[d l r s a,y8 a]at b;exact b,h.Cn,h.top,h.nX,h.Mj,h.Gx,h.Fj⟩
end
def lF (YS:List Nat) (x:Nat) (P:List Nat) (k:Nat):List Nat:=if k∈P then dV YS x else YS
theorem Cw (YS:List Nat) (x k:Nat):lF YS x [] k=YS:=by simp[lF]
theorem Az {n x:Nat} (h:x<n) (YS:List Nat) {k:Nat} (g:k<(aU n).length):mo n (lF YS x ((dK 0 n).path 0 x) k) k=mo n (dV YS x) k/\vY n (lF YS x ((dK 0 n).path 0 x) k) k=vY n (dV YS x) k:=by
 have e:0<n:=by omega
 obtain⟨t,s,d,rfl⟩:=rZ g;unfold lF;by_cases c:t.root s∈(dK 0 n).path 0 x
 .rw[aK c];exact⟨rfl,rfl⟩
 .rw[aI c];have f:¬(t.lo<=x/\x<t.hi):=fun⟨a,b⟩=>c (FT.vH _ 0 x (bO 0 n e).1 _ (FT.at_mem (fG e▸d)) a b);unfold mo vY;rw[lT d];refine⟨(vF f).symm,?_⟩;cases t with
  |leaf a=>rfl
  |node l r=>
   show lf _ _=lf _ _;rw[vF f]
end
section
open Go.RowKit Go.Sort Go.Shelf Go.Lib Go.Maps
attribute [local irreducible] wpQuiet
attribute [local go_sem] Oper.fo
def Tk (w:World) (lo hi tb fb:Nat) (R:List Pt) (gone:List Bool) (YS:List Nat) (x:Nat) (e:Ending) (w':World):Prop:=
 e=.returned (.bool true)/\∃V',jl w' lo hi tb fb R (gone.set x true) (dV YS x) V'/\au (fun k=>lo<=k/\k<hi) w w'
theorem nD {α b:Type} (f:α->b):∀(l:List α) (i:Nat),(l.map f).eraseIdx i=(l.eraseIdx i).map f
 |[],i=>by simp
 |a::l,0=>by simp
 |a::l,i+1=>by simp[nD f l i]
theorem Np {m:Nat} {L:List Nat} {y:Int} (h:y∈lf m L):0<=y/\y<=L.length:=by
 unfold lf at h;obtain⟨j,b,rfl⟩:=dI.1 h;have a:=GR (p:=fun i=>decide (i<m)) (l:=L.take j);rw[eB]at a;omega
theorem RF {m:Nat} {L:List Nat} {i:Nat} (hi:i<L.length) {j:Nat} (a:j<L.length):0<=(yN m L i j)[j]'(by rw[pI hi (by omega)];exact a)/\(yN m L i j)[j]'(by rw[pI hi (by omega)];exact a)<=L.length:=by
 rw[Jw hi a];exact Np (List.mem_of_mem_eraseIdx (bN _))
theorem K3 {α:Type} (f:Nat->α) (k:Nat) (v a:α):mE (mE f k v) k a=mE f k a:=by
 funext j;simp only[mE];split<;>rfl
theorem Nq {YS:List Nat} (a:YS.Nodup) {x:Nat} (b:x∈YS):(dV YS x).length=YS.length-1:=by
 have⟨i,hi,e⟩:=jk b;unfold dV;rw[<-erase_filter a hi e,zi,aK hi]
theorem BJ {w:World} {lo hi tb fb:Nat} {R:List Pt} {gone:List Bool} {YS:List Nat} {V:xG} (an:jl w lo hi tb fb R gone YS V) (b1:cB R gone YS) (d7:R.length<=20000) {x:Nat} (ar:x<R.length) (eg:gone[x]? =some false) (p:Pt) (hp:R[x]=p):
  aH 128 #[ah tb,iD p.1 p.2.1 p.2.2] w (Tk w lo hi tb fb R gone YS x):=by
 have a0:=an.blk;have fL:tb<w.heap.size:=bB an.fq.2.1 an.fq.2.2.2.2;obtain⟨co,cp,cG,-,-,c3⟩:=cz.aC bu (by decide) an.row;obtain⟨gs,fc,cC⟩:=fD an.Cs;have aY:=an.UU;rw[cG,cC]at a0;have CB:=af (fun W (a0:Below w.heap.size w W)=>Nn co R R.length cp p W rfl (by omega) (c3.below a0) b1.zT);have b5:=Eh b1.zT ar;rw[hp]at b5;have eU:=af c3;have a9:=af cC;have eJ:=af cG;obtain⟨av,aw,F⟩:=p;obtain⟨n,c2⟩:∃n,n=R.length:=⟨_,rfl⟩;rw[<-c2]at d7 a0 CB ar;have f:=af c2;have eH:=af a0;have dL:=af aY;have dO:=af hp;have dD:=af eg;have X:=af b1;have aP:=an.fq;rw[b5.1,b5.2]at CB;clear an c3 a0 cG cC c2 aY hp eg b1 b5;go_enter func128,ntmps128
 go_wp2_with fail
 obtain⟨z,bn⟩:∃z,z=w.heap.size:=⟨_,rfl⟩;obtain⟨w1,bS⟩:∃w1,w1=w.alloc (.cells #[aa av,aa aw,ai F] 29):=⟨_,rfl⟩;have a1:Below w.heap.size w w1:=by rw[bS];exact(aB _ _).alloc (ay _) _
 have a5:w1.heap[z]? =some (.cells #[aa av,aa aw,ai F] 29 (0,0)):=by rw[bS,bn];exact di w _
 have c6:=(a1.block tb fL).trans eH.o;rw[<-bS];clear bS;have bP:w1.cell? (ae tb 3)=some (ah fb):=by simp[World.cell?,c6]
 refine(xH tb fb w1 bP).mono ?_;rintro e w' ⟨rfl,fa⟩;subst w'
 go_upto_region 3 with fail
 rw[<-bn];have gQ:hi<=z:=by rw[bn];exact aP.2.2.2.2
 have gn:=af bn;clear bn;have fO:=ag (w:=w1) (ad:=(ae tb 0)) (v:=.slice co n cp) (by simp[World.cell?,c6]);have dd:=ag (w:=w1) (ad:=(ae z 0)) (v:=.int .i64 av) (by simp[World.cell?,a5]);have de:=ag (w:=w1) (ad:=(ae z 1)) (v:=.int .i64 aw) (by simp[World.cell?,a5]);have fP:=ag (w:=w1) (ad:=(ae z 2)) (v:=.int .u32 F) (by simp[World.cell?,a5]);have dv:Hid (∀p:aT w1,aH 191 #[.slice co n cp,iD av aw F,.func (.func 94) #[] #[]] p.W fun e w'=>e=.returned (.tuple #[aa x,.bool true])/\Below p.W.heap.size p.W w'):=fun p=>CB.o p.W (a1.trans (p.h.mono a1.size));refine bI (by kernel_rfl) (by kernel_rfl) ?_
 repeat(quiet_step ((go_at_call 191;exact dC (dv.o _))))
 refine jb ?_;intro w2 bq;have cN:Below w1.heap.size w1 w2:=by obtain⟨p,rfl⟩:=bq;exact p.h
 clear bq dv fO dd de fP CB bP;have br:=(cN.block z (aZ.1 a5).1).trans a5;have bX:Below w.heap.size w w2:=a1.trans (cN.mono a1.size);have aD:Hid (gz w2 lo hi tb fb R gone YS.length YS (mo R.length YS) (vY R.length YS) V):=dL.o.below bX aP.2.2.2.2;have dt:=af bX;have dR:=af br;have c7:=aD.o.blk;have e0:w2.cell? (ae tb 0)=some (.slice co n cp):=by simp[World.cell?,c7];rw[eJ.o,f.o]
 have bk:=aD.o.Cs;rw[a9.o]at bk;obtain⟨am,gt,cD,_,_⟩:=aQ bk (by have:=f.o;omega);injection cD with cD e6 e7;subst cD;clear e6 e7;have e1:w2.cell? (ae tb 2)=some (aj am n fc):=by simp[World.cell?,c7];rw[a9.o,f.o]
 have gh:w2.cell? (ae z 0)=some (aa av):=by simp[World.cell?,br]
 have x1:w2.cell? (ae z 1)=some (aa aw):=by simp[World.cell?,br]
 have x2:w2.cell? (ae z 2)=some (ai F):=by simp[World.cell?,br]
 have ac:x<R.length:=by rw[<-f.o];exact ar
 obtain⟨b,off,e3,fm,b4⟩:=(eU.o.below bX).get (by omega);have dl:=b4 x ac 0 (by omega);have dm:=b4 x ac 1 (by omega);have dn:=b4 x ac 2 (by omega);rw[dO.o]at dl dm dn;simp only[dx,aM,aN,dM]at dl dm dn;have cH:=bk.cellAt x (by omega);have gi:=bk.frozenAt x;rw[gY,dD.o]at cH;simp only[aO]at cH;subst e3;clear b4 bk bX a1 cN c6 a5 c7 br dL
 go_upto_region 4 with fail
 go_quiet (fail)
 go_upto_region 7 with fail
 obtain⟨w3,be⟩:∃w3,w3=(w2.drewN nq).setCell (ae am x) (.bool true):=⟨_,rfl⟩;have cv:Hid (gz w3 lo hi tb fb R (gone.set x true) YS.length YS (mo R.length YS) (vY R.length YS) V):=by
  rw[be];exact gz.PH (aD.o.below (Below.bC w2.heap.size nq) aD.o.fq.2.2.2.2) a9.o x
 have ed:lo<=am/\am<hi:=⟨(aD.o.Cs.lt am (by rw[a9.o];rfl)).1,aD.o.top V.gv (by simp) am (by rw[a9.o];rfl)⟩;have dF:Hid (au (fun k=>lo<=k/\k<hi) w w3):=by
  rw[be];exact(((au.refl _ w).below dt.o).below (Below.bC w2.heap.size nq)).set (a:=(ae am x)) _ (.inl ed)
 have dS:Hid (w3.heap[z]? =some (.cells #[aa av,aa aw,ai F] 29 (0,0))):=by
  rw[be];exact(az (show am≠z by omega)).trans dR.o
 rw[<-be];clear be e0 e1 gh x1 x2 dl dm dn cH gi dt dR aD ed fm;have ch:x∈YS:=(X.o.live x).2 dD.o;have fl:=X.o.len;have gB:0<YS.length:=List.length_pos_of_mem ch;have c8:=cv.o.blk;have e2:w3.cell? (ae tb 7)=some (aa YS.length):=by simp[World.cell?,c8]
 have eD:w3.frozen? (ae tb 7)=false:=by simp[World.frozen?,c8]
 obtain⟨m,em⟩:∃m,m=YS.length-1:=⟨_,rfl⟩;have gO:(YS.length:Int)-1=(m:Int):=by omega
 have eS:Hid (m=(dV YS x).length):=by rw[em];exact(Nq X.o.nodup ch).symm
 have gC:YS.length<=20000:=by rw[f.o]at d7;omega
 have eZ:=af ch;clear em fl c8 ch
 go_upto_region 8 with fail
 obtain⟨w4,bg⟩:∃w4,w4=w3.setCell (ae tb 7) (.int .i64 m):=⟨_,rfl⟩;have bc:Hid (gz w4 lo hi tb fb R (gone.set x true) m YS (mo R.length YS) (vY R.length YS) V):=by rw[bg];exact cv.o.Ay m
 have dG:Hid (au (fun k=>lo<=k/\k<hi) w w4):=by rw[bg];exact dF.o.set (a:=(ae tb 7)) _ (.inl ⟨aP.1,aP.2.1⟩)
 have bM:Hid (w4.heap[z]? =some (.cells #[aa av,aa aw,ai F] 29 (0,0))):=by rw[bg];exact(az (show tb≠z by omega)).trans dS.o
 rw[<-bg];clear bg e2 eD cv dF dS;have et:=bc.o.blk;have bP:w4.cell? (ae tb 3)=some (ah fb):=by simp[World.cell?,et]
 have dr:=af (uD lo fb n x V.fv (by omega) ar w4 (by rw[f.o];exact bc.o.ig));clear et
 go_wp2_with fail
 refine dr.o.mono ?_;rintro e aA ⟨pv,rfl,cc,bj⟩;have fK:=bc.o.fq.2.2.2.2;have eQ:Hid (gz aA lo hi tb fb R (gone.set x true) m YS (mo R.length YS) (vY R.length YS) V):=bc.o.below bj fK;have eL:Hid (au (fun k=>lo<=k/\k<hi) w aA):=dG.o.below bj;have eW:=af ((bj.block z (aZ.1 bM.o).1).trans bM.o);have gP:w4.heap.size<=aA.heap.size:=bj.size;have cx:=af cc;have gR:z<w4.heap.size:=(aZ.1 bM.o).1;clear bP dr bc dG bM bj;obtain⟨P,b0⟩:∃P,P=(dK 0 n).path 0 x:=⟨_,rfl⟩;rw[<-b0]at cc cx;have gy:P.length<=n+1:=by
  have J:=FT.nP (dK 0 n) 0 x;have aG:=uz 0 n n (um (Dh));rw[b0];omega
 have aE:=af b0;obtain⟨gV,gX,rfl⟩:=fD cc;clear cc b0
 go_wp2_with fail
 go_loopg [72] P.length (fun df ge wr=>∃(j:Nat) (yy:List Nat) (nc:Nat->List Nat) (lc:Nat->List Int) (V:xG),ge=.int .i64 j/\j<=P.length/\P.length-j<=df/\
  Hid (gz wr lo hi tb fb R (gone.set x true) m yy nc lc V)/\Hid (yy=if 0<j then dV YS x else YS)/\Hid (∀k,k<(aU R.length).length->nc k=mo n (lF YS x (P.take j) k) k)/\Hid (∀l r s,FT.At (aU R.length) (.node l r) s->lc ((FT.node l r).root s)=vY n (lF YS x (P.take j) ((FT.node l r).root s)) ((FT.node l r).root s))/\
  Hid (au (fun k=>lo<=k/\k<hi) aA wr))
 case atStart=>
  refine⟨0,YS,_,_,V,rfl,bf _,by omega,eQ,rfl,?_,?_,au.refl _ _⟩
  .intro k Z;rw[f.o,zM,Cw]
  .intro l r s ap;rw[f.o,zM,Cw]
 case round=>
  obtain⟨j,yy,nc,lc,V,rfl,gJ,gM,ak,cy,cw,bJ,bb⟩:=hrel;by_cases a3:j<P.length
  .have T:0<n:=by omega
   obtain⟨cg,fC,fw⟩:=bO 0 n T;obtain⟨k,Z⟩:∃k,k=P[j]:=⟨_,rfl⟩;have el:k∈(dK 0 n).path 0 x:=by rw[<-aE.o,Z];exact bN _
   obtain⟨⟨t,s⟩,da,bp,cj,ci⟩:=FT.mg (dK 0 n) 0 x cg (by omega) (by omega) k el;simp only at bp cj ci;have cM:=jF n T;rw[fG T]at cM;have ap:FT.At (aU n) t s:=by rw[fG T];exact FT.kg _ 0 cM _ da
   have ev:t.wf:=FT.pG _ 0 cg _ da;have cY:k<(aU n).length:=bp▸ap.lt;have cb:P.Pairwise (·>·):=by rw[aE.o];exact FT.rW _ 0 x cg (by omega) (by omega)
   have cZ:k∉P.take j:=fun h=>by
    obtain⟨q,fH,e⟩:=jk h;rw[wT]at e;rw[eB]at fH;have:=gH.1 cb q j (by omega) a3 (by omega);omega
   have c5:(k=2*n-2)↔j=0:=by
    obtain⟨Q,aL⟩:=FT.rO (dK 0 n) 0 x;rw[kL T]at aL;have fe:P[0]'(by omega)=2*n-2:=by
     have:P=(2*n-2)::Q:=by rw[aE.o,aL]
     simp only[this,qC]
    constructor
    .intro h;by_cases e:j=0
     .exact e
     .have:=gH.1 cb 0 j (by omega) a3 (by omega);omega
    .intro h;subst h;rw[Z,fe]
   have ca:nc k=nl YS t:=by
    rw[cw.o k (by rw[<-f.o];exact cY),lF,aI cZ,mo,<-bp,lT ap]
   obtain⟨L,ao⟩:∃L,L=nl YS t:=⟨_,rfl⟩;rw[<-ao]at ca;have bY:L.Nodup:=by rw[ao];exact lg _ X.o.nodup
   have db:x∈L:=by rw[ao];exact bK.2 ⟨eZ.o,by simpa using⟨cj,ci⟩⟩
   obtain⟨i,C,aq⟩:=jk db;have gw:L.length<=20000:=by
    have J:L.length<=YS.length:=by rw[ao];exact gK _ _
    omega
   have en:nl (dV YS x) t=L.eraseIdx i:=by
    subst ao;exact KL X.o.nodup C aq
   have B:Hid (FT.At (aU n) t s/\t.root s=k/\t.wf/\t.lo<=x/\x<t.hi/\L=nl YS t/\nc k=L/\L.Nodup/\nl (dV YS x) t=L.eraseIdx i/\k∉P.take j/\k=P[j]/\k<(aU n).length/\P.Pairwise (·>·)/\∃h:i<L.length,L[i]=x):=⟨ap,bp,ev,cj,ci,ao,ca,bY,en,cZ,Z,cY,cb,C,aq⟩;have cR:=ak.o.blk;have cK:(aU R.length).length=(aU n).length:=by rw[f.o]
   obtain⟨gl,cl,bR,_,_⟩:=aQ ak.o.DR (by omega);have I:cO wr lo gl (aU R.length).length cl V.LN V.LL:=by have h:=ak.o.DR;rw[bR]at h;exact h
   have E:=ak.o.EU k (by omega);rw[ca]at E;obtain⟨g,c,bQ,_,_⟩:=aQ E (by omega);rw[bQ]at E;have fE:(aU n).length<=40000:=by rw[dh];omega
   obtain⟨al,bZ⟩:∃al,al=(aU n).length:=⟨_,rfl⟩;have gL:k<al:=by omega
   have gx:al<=40000:=by omega
   have ga:wr.cell? (ae tb 5)=some (aj gl al cl):=by simp[World.cell?,cR];rw[bR,bZ,cK]
   have dg:wr.cell? (ae tb 3)=some (ah fb):=by simp[World.cell?,cR]
   have bv:wr.cell? ⟨gl,k*2,none⟩=some (.slice (some ⟨g,0,none⟩) L.length c):=(I.get (by omega)).1.trans (congrArg some bQ);have d8:wr.heap[z]? =some (.cells #[aa av,aa aw,ai F] 29 (0,0)):=bF bb.o eW.o (fun h=>by omega);have ey:wr.cell? (ae z 2)=some (ai F):=by simp[World.cell?,d8]
   have cL:=aS cx.o bb.o (fun g h aG=>by have:=(cx.o.lt g h).1;have:=aP.2.2.2.2;omega);obtain⟨gu,gr,cE,_,_⟩:=aQ cL (by omega);injection cE with cE e8 e9;subst cE;have dj:=cL.cellAt j (by omega);rw[gY,dw a3,<-Z]at dj;simp only[aO]at dj;have dq:Hid (∀W,Below wr.heap.size wr W->aH 196 #[aj g L.length c,ai F] W (eY W (aa i))):=fun W cQ=>by
    have fI:=ax E cQ;obtain⟨go,gp,D,-,-,er⟩:=Rd.aC fI;injection D with D H dY;rw[<-D]at er;have eo:F=jw R x:=by
     unfold jw bV;have ac:x<R.length:=by rw[<-f.o];exact ar
     rw[iO,dw ac];simp[dO.o]
    have S:F∈L.map (jw R):=by rw[eo];exact dI.2 ⟨x,db,rfl⟩
    refine(PI (some (ae g 0)) (L.map (jw R)) L.length c F W (by simp) er (by omega) S).mono ?_;rintro e w' ⟨⟨aV,fn,fx,a2⟩,rfl⟩;rw[fJ,eo]at a2;have cT:aV<L.length:=by simpa using fx
    have fh:∀y∈L,y<R.length:=fun y a6=>X.o.lt (by rw[ao]at a6;exact(bK.1 a6).1);have ew:L[aV]=x:=by
     have J:=fh _ (bN cT);have ac:x<R.length:=by rw[<-f.o];exact ar
     unfold jw bV at a2;rw[iO,iO,dw J,dw ac]at a2;simp only[gq]at a2;by_cases e:L[aV]=x
     .exact e
     .exfalso;have hid:=dE.1 X.o.ids;rcases Nat.lt_or_gt_of_ne e with h9|h9
      .exact gH.1 hid _ _ J ac h9 a2
      .exact gH.1 hid _ _ ac J h9 a2.symm
    have fy:aV=i:=by
     by_cases e:aV=i
     .exact e
     .exfalso;rcases Nat.lt_or_gt_of_ne e with h9|h9
      .exact gH.1 bY aV i cT C h9 (by rw[ew,aq])
      .exact gH.1 bY i aV C cT h9 (by rw[ew,aq])
    subst fy;exact⟨fn,aB _ _⟩
   have ds:Hid (∀W,Below wr.heap.size wr W->aH 95 #[ah fb] W fun e w'=>e=.returned (aa ((2*n-2:Nat):Int))/\w'=W):=fun W cQ=>by
    have eb:=ak.o.ig.blk;have cS:=(cQ.block fb (aZ.1 eb).1).trans eb;rw[<-f.o]at cS;exact jd fb n T (by omega) W (by simp[World.cell?,cS]) (by simp[World.cell?,cS])
   have K:=af (And.intro bR bQ);have dN:Hid (al=(aU n).length/\(aU R.length).length=al):=⟨bZ,by rw[cK,bZ]⟩;clear ap bp da ev cj ci ao ca bY en cZ Z cb aq db cM el cR I E d8 cL e8 e9 bZ cK cY fE bR bQ cg fC fw
   go_upto_region 13 with fail
   have dd:=ag bv;have de:=ag ey;have du:Hid (∀p:aT wr,aH 196 #[aj g L.length c,ai F] p.W fun e w'=>e=.returned (aa i)/\Below p.W.heap.size p.W w'):=fun p=>dq.o p.W p.h;refine bI (by kernel_rfl) (by kernel_rfl) ?_
   repeat(quiet_step ((go_at_call 196;exact dC (du.o _))))
   refine jb ?_;intro w6 bq;have cP:Below wr.heap.size wr w6:=by obtain⟨p,rfl⟩:=bq;exact p.h
   have bH:=af cP;have fM:tb<wr.heap.size:=gW wr _ dg;have fZ:=(cP.cell (p:=(ae tb 3)) fM).trans dg;clear bq dd de du cP dq dg ga bv ey dj;obtain⟨bs,b8⟩:∃bs,bs=decide (j=0):=⟨_,rfl⟩;have fQ:((k:Int)==((2*n-2:Nat):Int))=bs:=by
    rw[b8,ni,beq_iff_eq,bW,<-c5];omega
   have fR:(k==2*n-2)=bs:=by
    rw[b8,ni,beq_iff_eq,bW,<-c5]
   have dH:=af b8;clear b8 c5
   go_wp2_with fail
   refine(ds.o w6 bH.o).mono ?_;rintro e w' ⟨rfl,fa⟩;subst w'
   go_upto_if 95 with fail
   have aW:Hid (gz w6 lo hi tb fb R (gone.set x true) m yy nc lc V):=ak.o.below bH.o ak.o.fq.2.2.2.2;have gS:=bH.o.size;clear ds fZ fQ fR
   go_cut []from 73 to 175 (fun eC=>∃a7:Value,Hid (gz eC lo hi tb fb R (gone.set x true) m (dV YS x) nc lc {V with yv:=a7})/\Hid (au (fun k=>lo<=k/\k<hi) w6 eC))
   case first=>
    cases bs with
    |false=>
     have b7:0<j:=by
      have h:=dH.o;by_cases e:j=0
      .simp[e]at h
      .omega
     have D:=cy.o;rw[aK b7]at D;have eG:Hid (gz w6 lo hi tb fb R (gone.set x true) m (dV YS x) nc lc {V with yv:=V.yv}):=by
      have h:=aW.o;rw[D]at h;exact h
     clear D;go_wp2;go_meet;exact⟨V.yv,eG.o,au.refl _ _⟩
    |true=>
     have b7:j=0:=by
      have h:=dH.o;simpa using h.symm
     have D:=cy.o;rw[aI (by omega)]at D;have cI:L=YS:=by
      obtain⟨f1,f2,f3,f4,f5,f6,f7,f8,f9,f10,f11,f12,f13,f14⟩:=B.o;have fA:k=2*n-2:=by
       obtain⟨Q,aL⟩:=FT.rO (dK 0 n) 0 x;rw[kL T]at aL;have fk:P=(2*n-2)::Q:=by rw[aE.o,aL]
       rw[f11];simp only[b7,fk,qC]
      obtain⟨ht,-⟩:=FT.At.unique f1 (jF n T) (by rw[f2,fA,kL T]);rw[f6,ht,f.o];exact X.o.top (by rw[<-f.o];exact T)
     have aR:=aW.o.ys;rw[D]at aR;obtain⟨Y,cA,bh,_,_⟩:=aQ aR (by omega);rw[bh]at aR;have dc:(iW R YS).length=YS.length:=by simp[iW]
     have b6:i<YS.length:=by rw[<-cI];exact C
     have eh:YS[i]'b6=x:=by
      obtain⟨f1,f2,f3,f4,f5,f6,f7,f8,f9,f10,f11,f12,f13,f14,f15⟩:=B.o;subst cI;exact f15
     have d9:YS.eraseIdx i=dV YS x:=erase_filter X.o.nodup b6 eh;have bG:=Ij (l:=iW R YS) (i:=i) (by rw[dc];exact aR) (by rw[dc];exact b6);rw[dc]at bG;have bG:=af bG;have cd:=aW.o.blk;have gZ:w6.cell? (ae tb 6)=some (aj Y YS.length cA):=by simp[World.cell?,cd];rw[bh]
     have fu:tb≠Y:=fun h=>bz aR cd (by decide) Y rfl h;have dz:=af bh;have dT:=af d9;have eI:=af D;have gT:tb<w6.heap.size:=(aZ.1 cd).1;have ft:lo<=Y/\Y<hi:=⟨(aR.lt Y rfl).1,aW.o.top V.yv (by simp) Y (by rw[bh];rfl)⟩;clear aR cd cI d9 D bh eh b7
     go_wp2_with (go_at_call 197;refine bG.o.mono ?_;rintro e eA ⟨rfl,bo,cW⟩;have c9:=bF cW aW.o.blk fu;have g0:eA.cell? (ae tb 6)=some (aj Y YS.length cA):=(by simp[World.cell?,c9];rw[dz.o]);have eD:eA.frozen? (ae tb 6)=false:=(by simp[World.frozen?,c9]);have eT:=af bo;have ba:=af cW;clear bo cW c9)
     go_meet;have bo:=eT.o;refine⟨aj Y (YS.length-1) cA,?_,?_⟩
     .have h:=aW.o;rw[eI.o]at h;refine gz.Tj h dz.o ba.o (yy':=dV YS x) ?_;have H:(iW R YS).eraseIdx i=iW R (dV YS x):=by
       rw[<-dT.o];unfold iW;rw[nD]
      have dY:(dV YS x).length=YS.length-1:=by rw[<-dT.o,zi,aK b6]
      rw[H]at bo;rw[dY];exact bo
     .exact(ba.o.mono (fun k h=>by subst h;exact ft)).set (a:=(ae tb 6)) _ (.inl ⟨aP.1,aP.2.1⟩)
   case rest=>
    obtain⟨a7,aX,ba⟩:=hcut;have aJ:k<(aU R.length).length:=by have:=dN.o;omega
    have E:=aX.o.EU k aJ;obtain⟨f1,f2,f3,f4,f5,f6,f7,f8,f9,f10,f11,f12,f13,f14,f15⟩:=B.o;rw[f7]at E;have E:wc.ownsRow lo 27 1 (V.LN k) L.length ((L.map (jw R)).map (Value.int .u32)):=E;rw[K.o.2]at E;have I:cO wc lo gl (aU R.length).length cl V.LN V.LL:=by have h:=aX.o.DR;have h:World.ownsRow _ _ _ _ V.lv _ _:=h;rw[K.o.1]at h;exact h
    have bv:wc.cell? ⟨gl,k*2,none⟩=some (.slice (some ⟨g,0,none⟩) L.length c):=(I.get aJ).1.trans (congrArg some K.o.2);have fp:gl≠g:=fun h=>bD I E (by decide) gl rfl (by rw[h];rfl);have c1:(L.map (jw R)).length=L.length:=by simp
    have a8:=Ih (l:=L.map (jw R)) (i:=i) (by rw[c1];exact E) (by rw[c1];exact C);rw[c1]at a8;have a8:=af a8;have fo:lo<=g/\g<hi:=⟨(E.lt g rfl).1,(aX.o.nX k aJ).1 g (by show(V.LN k).ownBlock=some g;rw[K.o.2];rfl)⟩;have ef:lo<=gl/\gl<hi:=⟨(I.lt gl rfl).1,aX.o.top V.lv (by simp) gl (by rw[K.o.1];rfl)⟩;have fs:gl<wc.heap.size:=(I.lt gl rfl).2;have eF:=I.frozenAt (k*2);clear f1 f2 f3 f4 f5 f6 f7 f8 f9 f10 f11 f12 f13 f15 E I
    go_upto_region 17 with(go_at_call 198;refine a8.o.mono ?_;rintro e gg ⟨rfl,eq,cX⟩;obtain⟨dX,d3⟩:=cu cX fs fp;have gb:=(dX (k*2)).trans bv;have gm:=(d3 (k*2)).trans eF;have dQ:=af eq;have cs:=af cX;clear eq cX dX d3)
    obtain⟨A,bU⟩:∃A,A=gg.setCell (ae gl (k*2)) (aj g (L.length-1) c):=⟨_,rfl⟩;have fg:(L.eraseIdx i).length=L.length-1:=by rw[zi,aK C]
    have U:Hid (gz A lo hi tb fb R (gone.set x true) m (dV YS x) (mE nc k (L.eraseIdx i)) lc {V with yv:=a7,LN:=upd V.LN k (aj g (L.length-1) c)}):=by
     rw[bU];refine gz.Rz aX.o aJ K.o.2 K.o.1 cs.o (L':=L.eraseIdx i) ?_;have h:=dQ.o;rw[nD]at h;rw[fg];exact h
    have ct:Hid (au (fun k=>lo<=k/\k<hi) aA A):=by
     rw[bU];exact((((bb.o.below bH.o).trans ba.o).trans (cs.o.mono (fun k h=>by subst h;exact fo))).set (a:=(ae gl (k*2))) _ (.inl ef))
    rw[<-bU];clear bU gb gm dQ cs aX ba bv eF a8;have eu:=U.o.blk;have bm:=U.o.iP;have bm:A.ownsRow lo 163 7 V.nv (aU R.length).length ((aU R.length).flatMap nU):=bm;obtain⟨fd,cn,cF,_,_⟩:=aQ bm (by omega);obtain⟨_,_,d0,-,-,c4⟩:=cz.aC iZ (by decide) bm;rw[cF]at d0;injection d0 with d1 e4 e5;rw[<-d1,<-f.o]at c4;clear d1 e4 e5;have f0:A.cell? (ae tb 4)=some (aj fd al cn):=by
     simp[World.cell?,eu];rw[cF,<-dN.o.2]
    obtain⟨gF,n0,fS,fT,fU,fV,fW,fX⟩:=l9 c4 (by have h:=B.o.1.get;rw[B.o.2.1]at h;exact h);rw[jU]at n0;have d5:∀k',k'<(aU R.length).length->mE nc k (L.eraseIdx i) k'=mo n (lF YS x (P.take (j+1)) k') k':=fun k' fz=>by
     obtain⟨f1,f2,f3,f4,f5,f6,f7,f8,f9,f10,f11,f12,f13,f14,f15⟩:=B.o;have S:k'∈P.take (j+1)↔k'∈P.take j\/k'=k:=by rw[dZ a3,<-f11];simp
     by_cases e:k'=k
     .subst e;rw[jm,lF,aK (S.2 (.inr rfl)),mo,<-f2,lT f1,f9]
     .rw[vX e,cw.o k' fz];unfold lF;by_cases H:k'∈P.take j
      .rw[aK H,aK (S.2 (.inl H))]
      .rw[aI H,aI (fun h=>(S.1 h).elim H e)]
    have dA:=af d5;have d6:∀k',k'≠k->∀v,lc k'=vY n (lF YS x (P.take j) k') k'->mE lc k v k'=vY n (lF YS x (P.take (j+1)) k') k':=fun k' e v h=>by
     obtain⟨f1,f2,f3,f4,f5,f6,f7,f8,f9,f10,f11,f12,f13,f14,f15⟩:=B.o;have S:k'∈P.take (j+1)↔k'∈P.take j\/k'=k:=by rw[dZ a3,<-f11];simp
     rw[vX e,h];unfold lF;by_cases H:k'∈P.take j
     .rw[aK H,aK (S.2 (.inl H))]
     .rw[aI H,aI (fun h=>(S.1 h).elim H e)]
    have dB:=af d6;clear d5 d6 c4 bm eu cF fS fT fU fV fW fX;have ex:dV YS x=if 0<j+1 then dV YS x else YS:=by rw[aK (by omega)]
    have dU:=af ex;clear ex;cases ht:t with
    |leaf q=>
     rw[ht]at n0;simp only[FT.top]at n0;have aF:=af ht;clear ht;have ek:mE lc k (lc k)=lc:=by
      funext k';unfold mE;split
      .rename_i e;rw[e]
      .rfl
     have eM:=af ek;clear ek;go_wp2
     go_roundg (P.length-(j+1))
     case measure=>omega
     case rel=>
      refine⟨j+1,dV YS x,_,lc,_,by go_num,by omega,ay _,U,dU.o,dA.o,?_,ct⟩;intro l r bw b3;have fF:(FT.node l r).root bw≠k:=fun e=>by
       have J:=B.o.1;rw[aF.o,f.o]at J;have:=(FT.At.unique b3 J (by rw[e,<-B.o.2.1,aF.o])).1;cases this
      have h9:=dB.o _ fF (lc k) (bJ.o l r bw b3);rw[eM.o]at h9;exact h9
    |node l r=>
     rw[ht]at n0;simp only[FT.top]at n0;have aF:=af ht;clear ht;obtain⟨M,aY⟩:∃M,M=l.hi:=⟨_,rfl⟩;have bi:FT.At (aU R.length) (.node l r) s:=by rw[<-f.o,<-aF.o];exact B.o.1
     have a4:(FT.node l r).root s=k:=by rw[<-aF.o];exact B.o.2.1
     have cJ:L=nl YS (.node l r):=by rw[<-aF.o];exact B.o.2.2.2.2.2.1
     have c0:lc k=lf M L:=by
      rw[<-a4,bJ.o l r s bi,a4,lF,aI B.o.2.2.2.2.2.2.2.2.2.1];have h9:=y8 (n:=n) (by rw[f.o];exact bi) YS;rw[a4]at h9;rw[h9,aY,<-cJ]
     have O:A.ownsRow lo 3 1 (V.LL k) (lc k).length ((lc k).map (Value.int .i64)):=by have h9:=U.o.zW l r s bi;rw[a4]at h9;exact h9
     rw[c0]at O;have ab:=qW M L;obtain⟨u,G,bd,_,_⟩:=aQ O (by omega);rw[bd]at O;have aq:=B.o.2.2.2.2.2.2.2.2.2.2.2.2.2;have bl:cO A lo gl (aU R.length).length cl (upd V.LN k (aj g (L.length-1) c)) V.LL:=by have h:=U.o.DR;have h:World.ownsRow _ _ _ _ V.lv _ _:=h;rw[K.o.1]at h;exact h
     have bt:A.cell? ⟨gl,k*2+1,none⟩=some (.slice (some ⟨u,0,none⟩) (L.length+1) G):=by
      exact(bl.get aJ).2.trans (congrArg some (bd.trans (by rw[ab])))
     have ck:=O.cellAt (i+1) (by omega);have cm:=O.cellAt i (by omega);rw[gY,dw (show i+1<(lf M L).length by omega)]at ck;rw[gY,dw (show i<(lf M L).length by omega)]at cm;simp only[aO]at ck cm;obtain⟨bx,ce⟩:∃bx,bx=(lf M L)[i+1]'(by omega):=⟨_,rfl⟩;obtain⟨bA,cf⟩:∃bA,bA=(lf M L)[i]'(by omega):=⟨_,rfl⟩;rw[<-ce]at ck;rw[<-cf]at cm;have fN:bx-bA=if x<M then 1 else 0:=by rw[ce,cf];exact Pk C aq.2 _ _
     have gU:0<=bx/\bx<=20000/\0<=bA/\bA<=20000:=by
      have J:=Np (m:=M) (L:=L) (ce▸bN _);have aG:=Np (m:=M) (L:=L) (cf▸bN _);omega
     obtain⟨W,b2⟩:∃W,W=(if x<M then(1:Int)else 0):=⟨_,rfl⟩;rw[<-b2]at fN;have gA:0<=W/\W<=1:=by rw[b2];split<;>omega
     have eV:=af b2;have eO:=af c0;have bE:=Ee (l:=lf M L) (i:=i+1) (by rw[ab];rw[ab]at O;exact O) (by omega);rw[ab]at bE;have bE:=af bE;have fr:gl≠u:=fun h=>bD bl O (by decide) gl rfl (by rw[h];rfl);have ec:lo<=u/\u<hi:=⟨(O.lt u rfl).1,(U.o.nX k aJ).2 u (by show(V.LL k).ownBlock=some u;rw[bd];rfl)⟩;have ee:gl<A.heap.size:=(bl.lt gl rfl).2;have eE:=bl.frozenAt (k*2+1);have dy:=af bd;have N:=af (And.intro bi a4);have eR:=af (And.intro aY cJ);have gG:i+1<L.length+1:=by omega
     clear O bl ce cf b2 c0 bd bi a4 aY cJ ab aq
     go_upto_region 18 with fail
     go_quiet (fail)
     have gc:(A.drewN nq).cell? (ae gl (k*2+1))=some (aj u (L.length+1) G):=bt;have dp:Hid (∀q,aH 199 #[aj u (L.length+1) G,aa (i+1:Nat),aa (i+1+1:Nat)] (A.drewN q) fun e w'=>e=.returned (aj u L.length G)/\w'.ownsRow lo 3 1 (aj u L.length G) L.length (((lf M L).eraseIdx (i+1)).map (Value.int .i64))/\au (fun k=>k=u) A w'):=fun q=>by
      have ab:=qW M L;have h9:=U.o.zW l r s N.o.1;rw[N.o.2]at h9;have h9:A.ownsRow lo 3 1 (V.LL k) (lc k).length ((lc k).map (Value.int .i64)):=h9;rw[eO.o,dy.o,ab]at h9;have d4:=Ee (w:=A.drewN q) (l:=lf M L) (i:=i+1) (by rw[ab];exact h9) (by omega);rw[ab]at d4;refine d4.mono ?_;rintro e w' ⟨J,aG,ff⟩;exact⟨J,aG,((au.refl (fun k=>k=u) A).below (Below.bC A.heap.size q)).trans ff⟩
     clear bE
     go_upto_region 20 with(go_at_call 199;refine(dp.o _).mono ?_;rintro e gf ⟨rfl,ep,cV⟩;obtain⟨dW,d2⟩:=cu cV ee fr;have fY:=(dW (k*2+1)).trans bt;have gj:=(d2 (k*2+1)).trans eE;have dP:=af ep;have cr:=af cV;clear ep cV dW d2)
     have fi:∃h:i<L.length,L[i]=x:=B.o.2.2.2.2.2.2.2.2.2.2.2.2.2;obtain⟨cq,bT⟩:∃cq,cq=gf.setCell (ae gl (k*2+1)) (aj u L.length G):=⟨_,rfl⟩;have fB:=rV (m:=M) C;have eP:Hid (gz cq lo hi tb fb R (gone.set x true) m (dV YS x) (mE nc k (L.eraseIdx i)) (mE lc k (yN M L i (i+1))) {V with yv:=a7,LN:=upd V.LN k (aj g (L.length-1) c),LL:=upd V.LL k (aj u L.length G)}):=by
      rw[bT];refine gz.RA U.o N.o.1 N.o.2 dy.o K.o.1 cr.o (L':=yN M L i (i+1)) ?_;rw[KM C,fB];exact dP.o
     have eK:Hid (au (fun k=>lo<=k/\k<hi) aA cq):=by
      rw[bT];exact(ct.o.trans (cr.o.mono (fun k h=>by subst h;exact ec))).set (a:=(ae gl (k*2+1))) _ (.inl ef)
     rw[<-bT];clear bT fY gj dP cr U ct bt gc ck cm eE dp f0 n0 ee
     go_wp2_with fail
     go_loopg [14] L.length (fun df gd wr=>∃d:Nat,gd=.int .i64 d/\i+1<=d/\d<=L.length/\L.length-d<=df/\Hid (gz wr lo hi tb fb R (gone.set x true) m (dV YS x) (mE nc k (L.eraseIdx i)) (mE lc k (yN M L i d)) {V with yv:=a7,LN:=upd V.LN k (aj g (L.length-1) c),LL:=upd V.LL k (aj u L.length G)})/\Hid (au (fun k=>lo<=k/\k<hi) aA wr))
     case atStart=>exact⟨i+1,rfl,ay _,by omega,by omega,eP,eK⟩
     case round=>
      obtain⟨d,rfl,gI,ei,gN,bL,dJ⟩:=hrel;have I:cO wr lo gl (aU R.length).length cl (upd V.LN k (aj g (L.length-1) c)) (upd V.LL k (aj u L.length G)):=by have h:=bL.o.DR;have h:World.ownsRow _ _ _ _ V.lv _ _:=h;rw[K.o.1]at h;exact h
      have bt:=(I.get aJ).2;rw[upd_same]at bt;have b9:wr.ownsRow lo 3 1 (aj u L.length G) L.length ((yN M L i d).map (Value.int .i64)):=by
       have h:=bL.o.zW l r s N.o.1;rw[N.o.2,jm]at h;have h:wr.ownsRow lo 3 1 (upd V.LL k (aj u L.length G) k) (yN M L i d).length ((yN M L i d).map (Value.int .i64)):=h;rw[upd_same,pI C ei]at h;exact h
      clear I;by_cases cU:d<L.length
      .have dk:=b9.cellAt d (by omega);have g1:=b9.frozenAt d;have ej:d<(yN M L i d).length:=by rw[pI C (by omega)];exact cU
       rw[gY,dw ej]at dk;simp only[aO]at dk;have ea:=RF (m:=M) C cU;obtain⟨y,a6⟩:∃y,y=(yN M L i d)[d]'ej:=⟨_,rfl⟩;rw[<-a6]at dk ea;have es:(yN M L i d).set d (y-W)=yN M L i (d+1):=by
        rw[a6,eV.o];exact MX C fi.2 (by omega) cU
       have gE:0<=y/\y<=20000:=by omega
       have eX:Hid (gz (wr.setCell (ae u d) (.int .i64 (y-W))) lo hi tb fb R (gone.set x true) m (dV YS x) (mE nc k (L.eraseIdx i)) (mE lc k (yN M L i (d+1))) {V with yv:=a7,LN:=upd V.LN k (aj g (L.length-1) c),LL:=upd V.LL k (aj u L.length G)}):=by
        have h:=gz.RB bL.o N.o.1 N.o.2 (c:=G) (g:=u) (by rw[jm,pI C ei];exact upd_same _ _ _) (j:=d) (y-W);rw[jm,K3,es]at h;exact h
       have eN:Hid (au (fun k=>lo<=k/\k<hi) aA (wr.setCell (ae u d) (.int .i64 (y-W)))):=dJ.o.set (a:=(ae u d)) _ (.inl ec);clear a6 es b9 ea;go_wp2
       go_roundg (L.length-(d+1))
       case measure=>omega
       case rel=>exact⟨d+1,by go_num,by omega,by omega,ay _,eX,eN⟩
      .obtain rfl:d=L.length:=by omega
       clear b9;go_wp2
       go_roundg (P.length-(j+1))
       case measure=>omega
       case rel=>
        refine⟨j+1,dV YS x,_,_,_,by go_num,by omega,ay _,bL,dU.o,dA.o,?_,dJ⟩;intro l' ez bw b3;by_cases e:(FT.node l' ez).root bw=k
        .obtain⟨f1,f2,f3,f4,f5,f6,f7,f8,f9,f10,f11,f12,f13,f14⟩:=B.o;have S:k∈P.take (j+1):=by rw[dZ a3,<-f11];simp
         have h9:=y8 (n:=n) (by rw[f.o];exact N.o.1) (dV YS x);rw[N.o.2]at h9;rw[e,jm,MW C,lF,aK S,h9,eR.o.1];rw[aF.o]at f9;rw[f9]
        .exact dB.o _ e _ (bJ.o l' ez bw b3)
  .obtain rfl:j=P.length:=by omega
   have gD:=bb.o.size;go_wp2;go_ret;have D:=cy.o;have fj:0<P.length:=by
    rw[aE.o];obtain⟨Q,aL⟩:=FT.rO (dK 0 n) 0 x;rw[aL];simp
   rw[aK fj]at D;subst D;have aG:=ak.o;rw[eS.o]at aG;refine⟨rfl,V,aG.toAt (fun k Z=>?_) (fun l r s ap=>?_),eL.o.trans bb.o⟩
   .rw[cw.o k Z,jy,<-f.o,aE.o];exact(Az ar YS (by rw[f.o];exact Z)).1
   .rw[bJ.o l r s ap,jy,<-f.o,aE.o];exact(Az ar YS (by rw[f.o];exact ap.lt)).2
end
section
open Go.RowKit Go.Sort Go.Shelf Go.Lib Go.Maps
def iw (w:World) (lo hi tb n0:Nat) (l:List Pt):Prop:=
 ∃fb R gone YS V,jl w lo hi tb fb R gone YS V/\cB R gone YS/\ru R YS l/\R.length=n0/\n0<=20000
section
variable {w w':World} {lo hi tb n0:Nat} {l:List Pt}
theorem iw.kept {S:Nat->Prop} (h:iw w lo hi tb n0 l) (K:au S w w') (hS:∀k,lo<=k->k<hi->¬S k):iw w' lo hi tb n0 l:=by
 have⟨fb,R,gone,YS,V,a,b⟩:=h;exact⟨fb,R,gone,YS,V,a.kept K hS,b⟩
theorem iw.below {B:Nat} (h:iw w lo hi tb n0 l) (d:Below B w w') (c:hi<=B):iw w' lo hi tb n0 l:=by
 have⟨fb,R,gone,YS,V,a,b⟩:=h;exact⟨fb,R,gone,YS,V,a.below d c,b⟩
theorem Nr (a:Option Addr) (c:Nat) (l:List Pt) (w:World) (j:cz dx 3 w a l) (m:l.length<=20000) (o:Gz l) (hu:kQ l=true):
  aH 35 #[.slice a l.length c] w fun e w'=>∃tb,e=.returned (.tuple #[ah tb,aa 0])/\iw w' w.heap.size w'.heap.size tb l.length l/\Below w.heap.size w w':=
 (Il a c l w j m o hu).mono fun e w' ⟨tb,fb,V,h,f,g⟩=>by
  have b:(ids l).Nodup:=by unfold kQ at hu;simpa using hu
  have n:=fM b;have hid:(ids (eO l)).Nodup:=((dL l).map _).nodup_iff.2 b;have d:=pM n hid;have k:(eO l).length=l.length:=(dL l).length_eq;refine⟨tb,h,⟨fb,_,_,_,V,f,d,yB b _ (fun i=>?_),k,by omega⟩,g⟩;rw[d.live,qB];split<;>simp_all
theorem JH (h:iw w lo hi tb n0 l) (x1 x2 y1 y2 b:Int):
  aH 39 #[ah tb,.agg #[aa x1,aa x2,aa y1,aa y2,ai b]] w fun e w'=>∃v,∃c:Nat,e=.returned (.tuple #[v,aa ((c+(hasB l x1 x2 y1 y2).length:Nat):Int)])/\c<=8*Lib.bitLen n0+1/\w'.ownsRow w.heap.size 27 1 v (hasB l x1 x2 y1 y2).length ((hasB l x1 x2 y1 y2).map (Value.int .u32))/\Below w.heap.size w w':=by
 have⟨fb,R,gone,YS,V,k,a,m,n,p⟩:=h;refine(Fp k a (by omega) x1 x2 y1 y2 b).mono ?_;rintro e w' ⟨v,f,g,o⟩;have⟨i,j⟩:=H8 a m x1 x2 y1 y2;have d:(kV R YS x1 x2 y1 y2).1.length=(hasB l x1 x2 y1 y2).length:=by
  rw[j];unfold hasB;rw[jC];simp[ids]
 rw[i,d]at g;rw[d]at f;exact⟨v,_,f,n▸KN a (by omega) x1 x2 y1 y2,g,o⟩
end
end
section
open Go.RowKit Go.ChangeShapes Go.WideShapes Go.Deep
theorem Io {H:Type} {enc:TypeId×Value->H} {w:World} {base:Nat} {spare:Nat->Bool} {held:Bool} {r:Reach} {e:Nat} {v:Value} {d:DataW H} {j:List MemPlace} (i:Value.okWide prog w r e 29 v) (hd:DataW.Trod enc prog w base spare held 29 v d j):
  ∃p:Pt,v=iD p.1 p.2.1 p.2.2/\(Lit.int .i64 p.1).wf=true/\(Lit.int .i64 p.2.1).wf=true/\(Lit.int .u32 p.2.2).wf=true:=by
 obtain⟨o,v1,q,s,y1,y2,n,rfl,_,_,t0,t1,t2⟩:=Go.Joins.open_agg3 underlying29 (by kernel_rfl) (by kernel_rfl) i hd;obtain⟨k,a,_,f⟩:=qM underlying2 t0;obtain⟨l,b,_,g⟩:=qM underlying2 t1;obtain⟨m,c,_,h⟩:=qM underlying27 t2;simp at a b c;subst a b c;exact⟨(k,l,m),rfl,f,g,h⟩
abbrev Bx:=Int×Int×Int×Int×Int
abbrev UM (p:Bx):Value:=.agg #[aa p.1,aa p.2.1,aa p.2.2.1,aa p.2.2.2.1,ai p.2.2.2.2]
abbrev Bx.wf (p:Bx):Prop:=(Lit.int .i64 p.1).wf=true/\(Lit.int .i64 p.2.1).wf=true/\(Lit.int .i64 p.2.2.1).wf=true/\(Lit.int .i64 p.2.2.2.1).wf=true/\(Lit.int .u32 p.2.2.2.2).wf=true
theorem RG {α:Type} {cs:Array α} (h:cs.size=5):∃a b c d e,cs=#[a,b,c,d,e]:=by
 obtain⟨l⟩:=cs
 match l,h with
 |[a,b,c,d,e],_=>exact⟨a,b,c,d,e,rfl⟩
section
variable {H:Type} {enc:TypeId×Value->H} {P:Program} {w:World} {base:Nat} {spare:Nat->Bool} {held:Bool}
theorem FE {r:Reach} {j:Nat} {t:TypeId} {a:Array Field} {v:Value} {d:DataW H} {p:List MemPlace} (g:P.underlying t=some (.struct a)) (q:oneCellFields P a=true) (l:P.cellsOf t=a.size)
  (x:Value.okWide P w r j t v) (h:DataW.Trod enc P w base spare held t v d p):
  ∃cs:Array Value,v=.agg cs/\cs.size=a.size/\∃n,∀(i:Nat) (f:Field),a[i]? =some f->∃(u:Value) (y:DataW H×List MemPlace),cs[i]? =some u/\DataW.trod enc P w base spare held n f.type [u]=some y:=by
 obtain⟨cs,rfl,s⟩:=okWide_struct g x;obtain⟨fuel,c⟩:=h;obtain⟨xs,n,_,_,B,C,c⟩:=DataW.trod_struct g c;refine⟨cs,rfl,s.trans l,n,fun i f hi=>?_⟩;obtain⟨o,m⟩:=hone_of q i f hi;have A:i<a.size:=(aZ.1 hi).1;have b:=c i f hi;have e:i<cs.size:=by omega
 rw[o,m]at b;have k:((Value.agg cs).cells.toList.drop i).take 1=[cs[i]]:=by
  show(cs.toList.drop i).take 1=_;rw[kZ (by simpa using e)];simp
 rw[k]at b;have z:xs[i]? =some (xs[i]'(by omega)):=dw (by omega);exact⟨cs[i],_,by simp[e],b.trans z⟩
end
theorem Ns {H:Type} {enc:TypeId×Value->H} {w:World} {base:Nat} {spare:Nat->Bool} {held:Bool} {r:Reach} {h:Nat} {v:Value} {d:DataW H} {z:List MemPlace} (y:Value.okWide prog w r h 38 v) (hd:DataW.Trod enc prog w base spare held 38 v d z):
  ∃p:Bx,v=UM p/\p.wf:=by
 obtain⟨cs,rfl,x,n,a⟩:=FE underlying38 (by kernel_rfl) (by kernel_rfl) y hd;obtain⟨i,j,k,l,m,rfl⟩:=RG (x.trans rfl);obtain⟨u0,L,F,t0⟩:=a 0 _ rfl;obtain rfl:i=u0:=by simpa using F
 obtain⟨A,b,_,o⟩:=qM underlying2 t0;simp at b;subst b;obtain⟨u1,y1,G,t1⟩:=a 1 _ rfl;obtain rfl:j=u1:=by simpa using G
 obtain⟨B,c,_,q⟩:=qM underlying2 t1;simp at c;subst c;obtain⟨u2,y2,I,t2⟩:=a 2 _ rfl;obtain rfl:k=u2:=by simpa using I
 obtain⟨C,e,_,s⟩:=qM underlying2 t2;simp at e;subst e;obtain⟨u3,M,J,t3⟩:=a 3 _ rfl;obtain rfl:l=u3:=by simpa using J
 obtain⟨D,f,_,t⟩:=qM underlying2 t3;simp at f;subst f;obtain⟨u4,N,K,t4⟩:=a 4 _ rfl;obtain rfl:m=u4:=by simpa using K
 obtain⟨E,g,_,u⟩:=qM underlying27 t4;simp at g;subst g;exact⟨(A,B,C,D,E),rfl,o,q,s,t,u⟩
end
section
open Go.RowKit
def JI (p:Bx):Obj:=.cells #[aa p.1,aa p.2.1,aa p.2.2.1,aa p.2.2.2.1,ai p.2.2.2.2] 38 (0,0)
theorem mU {W:World} {b:Nat} {p:Bx} (h:W.heap[b]? =some (JI p)):W.cell? (ae b 0)=some (aa p.1)/\W.cell? (ae b 1)=some (aa p.2.1)/\W.cell? (ae b 2)=some (aa p.2.2.1)/\W.cell? (ae b 3)=some (aa p.2.2.2.1)/\W.cell? (ae b 4)=some (ai p.2.2.2.2):=by simp[World.cell?,h,JI]
def wG (p:Pt):Obj:=.cells #[aa p.1,aa p.2.1,ai p.2.2] 29 (0,0)
theorem gp {W:World} {b:Nat} {p:Pt} (h:W.heap[b]? =some (wG p)):W.cell? (ae b 0)=some (aa p.1)/\W.cell? (ae b 1)=some (aa p.2.1)/\W.cell? (ae b 2)=some (ai p.2.2):=by simp[World.cell?,h,wG]
end
section
open Go.RowKit
attribute [local irreducible] wpQuiet
theorem Nt:eH prog 22 29 3 24:=.mk' (z:=.agg #[aa 0,aa 0,ai 0]) underlying22 (by kernel_rfl) rfl (by decide)
end
section
open Go Go.RowKit
abbrev Ej:Int:=-9223372036854775808
abbrev JJ:Int:=9223372036854775807
def SA (l:List Pt):Prop:=∀p∈l,(Lit.int .i64 p.1).wf=true/\(Lit.int .i64 p.2.1).wf=true/\(Lit.int .u32 p.2.2).wf=true
theorem Tm {x:Int} (h:(Lit.int .i64 x).wf=true):Ej<=x/\x<=JJ:=by
 simp[Lit.wf,IntKind.min,IntKind.max,IntKind.signed,IntKind.bits]at h;exact h
def AA (l:List Pt) (f:Pt->Bool):List Int:=eD (ids (l.filter f))
theorem Ip {l:List Pt} {f g:Pt->Bool} (h:∀p∈l,f p=g p):AA l f=AA l g:=by
 unfold AA;rw[lZ h]
theorem Nu:eD []=[]:=gJ (jC [])
def Ut (n x:Int) (up:Bool):Bool:=if up then decide (x<=n)else decide (n<=x)
def AB (x y:Int) (wx wy:Bool) (p:Pt):Bool:=Ut p.1 x wx&&Ut p.2.1 y wy
def bx1 (x:Int) (up:Bool):Int:=if up then x else Ej
def Cx (x:Int) (up:Bool):Int:=if up then JJ else x
theorem RH {p:Pt} (e:(Lit.int .i64 p.1).wf=true) (f:(Lit.int .i64 p.2.1).wf=true) (x y:Int) (c d:Bool):Jy (bx1 x c) (Cx x c) (bx1 y d) (Cx y d) p=AB x y c d p:=by
 have a:=Tm e;have b:=Tm f;unfold Ej JJ at a b;cases c<;>cases d<;>simp only[Jy,AB,Ut,bx1,Cx,Ej,JJ,gD,jA,qg,<-Bool.decide_and]<;>refine tV.2 ?_<;>omega
theorem Nv {l:List Pt} (c:SA l) (x y:Int) (a b:Bool):hasB l (bx1 x a) (Cx x a) (bx1 y b) (Cx y b)=AA l (AB x y a b):=
 Ip fun p hp=>RH (c p hp).1 (c p hp).2.1 x y a b
end
section
open Go.RowKit Go.Maps
attribute [local irreducible] wpQuiet
theorem Tn (x:Int) (a:Bool) (w:World):
  aH 173 #[aa x,.bool a] w fun e w'=>e=.returned (.tuple #[aa (bx1 x a),aa (Cx x a)])/\w'=w:=by
 cases a
 all_goals
  go_enter func173,ntmps173;go_wp2;go_ret2;exact⟨rfl,rfl⟩
theorem PK (x y:Int) (a b:Bool) (d:Int) (c:d=(if a then 1 else 0)+(if b then 2 else 0)) (w:World):
  aH 107 #[aa x,aa y,.int .u8 d] w fun e w'=>e=.returned (.agg #[aa (bx1 x a),aa (Cx x a),aa (bx1 y b),aa (Cx y b),ai 0])/\w'=(w.alloc (.cells #[aa (bx1 x a),aa (Cx x a),aa (bx1 y b),aa (Cx y b),ai 0] 38)).alloc (.cells #[aa (bx1 x a),aa (Cx x a),aa (bx1 y b),aa (Cx y b),ai 0] 38):=by
 have C:=af (fun x f w=>Tn x f w);cases a<;>cases b<;>simp only[gD,jA,qg,Int.add_zero,Int.zero_add,Int.reduceAdd]at c<;>subst c
 all_goals
  go_enter func107,ntmps107
  go_wp2_with (go_at_call 173;refine(C.o _ _ _).mono ?_;rintro e w1 ⟨rfl,rfl⟩)
  (try simp only[Exit.inBlock,Exit.then])
  refine jT (results_cell_row rfl _ _ w.heap.size _ _ _ _ rfl (Dz _ _ _) underlying38 rfl (by kernel_rfl)) rfl ?_
  first
   |exact⟨rfl,rfl⟩
   |(simp only[show(bits .and .u8 0 1==1)=false by decide,show(bits .and .u8 0 2==2)=false by decide,show(bits .and .u8 1 1==1)=true by decide,show(bits .and .u8 1 2==2)=false by decide,show(bits .and .u8 2 1==1)=false by decide,show(bits .and .u8 2 2==2)=true by decide,show(bits .and .u8 3 1==1)=true by decide,show(bits .and .u8 3 2==2)=true by decide];exact⟨rfl,rfl⟩)
theorem RI (x y:Int) (a b:Bool) (c:Int) (g:c=(if a then 1 else 0)+(if b then 2 else 0)) (w:World):
  aH 107 #[aa x,aa y,.int .u8 c] w (eY w (.agg #[aa (bx1 x a),aa (Cx x a),aa (bx1 y b),aa (Cx y b),ai 0])):=
 (PK x y a b c g w).mono fun e w' ⟨d,f⟩=>⟨d,by rw[f];exact((aB _ _).alloc (ay _) _).alloc (by simp) _⟩
theorem FH (w:World):
  aH 106 #[.pointer none] w fun e w'=>e=.returned (.bool true)/\w'=w:=by
 go_enter func106,ntmps106;go_wp2;go_ret;exact⟨rfl,rfl⟩
theorem El (cb:Nat) (tb:Nat) (w:World) (h:w.cell? (ae cb 0)=some (ah tb)):
  aH 106 #[ah cb] w fun e w'=>e=.returned (.bool false)/\w'=w:=by
 go_enter func106,ntmps106;go_wp2;go_ret;exact⟨rfl,rfl⟩
end
section
open Go.RowKit Go.Maps
attribute [local irreducible] wpQuiet
attribute [local go_sem] Oper.fo
theorem Ny:∀args w,(callFunc 107 args).run prog w=.ok (.enter 107 args) w:=cK func107 (by kernel_rfl) rfl
theorem FI:∀args w,(callFunc 39 args).run prog w=.ok (.enter 39 args) w:=cK func39 (by kernel_rfl) rfl
theorem K4:∀args w,(callFunc 106 args).run prog w=.ok (.enter 106 args) w:=cK func106 (by kernel_rfl) rfl
section
variable {w:World} {cb tb:Nat}
theorem K5 {R:World->Value->Value->World->Prop} (F:cb<w.heap.size) (n:w.cell? (ae cb 0)=some (ah tb)) (x y:Int) (b d:Bool) (g:Int) (h:g=(if b then 1 else 0)+(if d then 2 else 0))
  (C:∀W,Below w.heap.size w W->aH 39 #[ah tb,.agg #[aa (bx1 x b),aa (Cx x b),aa (bx1 y d),aa (Cx y d),ai 0]] W fun e W'=>∃v c,e=.returned (.tuple #[v,c])/\Below W.heap.size W W'/\R W v c W'):
  aH 40 #[ah cb,aa x,aa y,.int .u8 g] w fun e w'=>∃v c,e=.returned (.tuple #[v,c])/\∃W,Below w.heap.size w W/\R W v c w':=by
 have q:=af (El cb tb w n);have r:=af (fun W=>RI x y b d g h W);have j:=af C;have d3:decide (3<g)=false:=by simp only[iA];cases b<;>cases d<;>simp at h<;>omega
 have H:decide (g>3)=false:=d3;have G:=af F;clear C h;generalize bx1 x b=z at*;generalize Cx x b=A at*;generalize bx1 y d=B at*;generalize Cx y d=D at*;go_enter func40,ntmps40
 go_wp2_with fail
 refine q.o.mono ?_;rintro e w1 ⟨rfl,rfl⟩
 go_wp2_with fail
 have E:∀p:aT w1,p.W.cell? (ae cb 0)=some (ah tb):=ag n;refine ak (fun W=>∃p:aT w1,W=p.W) [8,9,10,11,12] [(0,false),(1,false),(2,false),(3,true),(4,false),(5,false),(6,false)] ⟨⟨_,(aB _ _).drew⟩,rfl⟩ 6 ?_;simp only[bn,aX,aY,aW,aN,aM,aO]
 repeat(refine aD (fun K a=>?_);go_simp;first|(refine a _ ?_;clear a K)|(apply Exists.intro;refine⟨fun _=>?_,a _ ?_⟩;rfl;clear a K))
 refine aJ ?_;refine aA 7 rfl fun K a=>?_;refine bg Ny rfl _ _ rfl (vals:=#[aa x,aa y,.int .u8 g]) rfl (r.o _) ?_;rintro e w2 ⟨rfl,l⟩;have f:Below w1.heap.size w1 w2:=(aB _ _).drew.trans l;refine⟨_,rfl,?_⟩;refine a _ _ (fun _ _=>⟨⟨_,f⟩,rfl⟩) ?_;clear a K;have s:=af (j.o w2 f);clear j l E;refine aA 8 rfl fun K a=>?_;refine bg FI rfl _ _ rfl (vals:=#[ah tb,.agg #[aa z,aa A,aa B,aa D,ai 0]]) rfl s.o ?_;rintro e w3 ⟨v,c,rfl,m,k⟩;have i:=f.trans (m.mono f.size);have u:=af k;have t:=af f;clear k f m;refine⟨_,rfl,?_⟩;refine a _ _ (fun _ _=>⟨⟨_,i⟩,rfl⟩) ?_;clear a K;refine bG [(9,false),(10,false)] ⟨⟨_,i⟩,rfl⟩ rfl ?_;simp only[bn,aX,aY,aW,aN,aM,aO]
 repeat(refine aD (fun K a=>?_);go_simp;first|(refine a _ ?_;clear a K)|(apply Exists.intro;refine⟨fun _=>?_,a _ ?_⟩;rfl;clear a K))
 refine aJ ?_;refine aF [11,12] _ _ _ (by kernel_rfl) ?_;simp only[pick,aX,aY,aW,aN,aM]
 go_wp2_with fail
 go_ret2;exact⟨v,c,rfl,w2,t.o,u.o⟩
theorem Em {w:World} (p:Option Addr) (hp:p=none\/∃cb tb,p=some (ae cb 0)/\w.cell? (ae cb 0)=some (ah tb)) (x y b:Int) (d:p=none\/3<b):
  aH 40 #[.pointer p,aa x,aa y,.int .u8 b] w fun e w'=>e=.returned (.tuple #[aG,aa 0])/\w'=w:=by
 rcases hp with rfl|⟨cb,tb,rfl,c⟩
 .have a:=af (FH w);go_enter func40,ntmps40
  go_wp2_with (go_at_call 106;refine a.o.mono ?_;rintro e w1 ⟨rfl,rfl⟩)
  go_ret2;exact⟨rfl,rfl⟩
 .have a:=af (El cb tb w c);have d3:decide (3<b)=true:=by rcases d with h|h;cases h;simpa using h
  go_enter func40,ntmps40
  go_wp2_with (go_at_call 106;refine a.o.mono ?_;rintro e w1 ⟨rfl,rfl⟩)
  go_ret2;exact⟨rfl,rfl⟩
end
section
variable {w:World} {cb tb:Nat}
theorem PL {R:World->Bool->World->Prop} (t:cb<w.heap.size) (s:w.cell? (ae cb 0)=some (ah tb)) (d f c:Int)
  (C:∀W,Below w.heap.size w W->aH 128 #[ah tb,iD d f c] W fun e W'=>∃b,e=.returned (.bool b)/\R W b W'):
  aH 125 #[ah cb,iD d f c] w fun e w'=>∃b,e=.returned (.bool b)/\∃W,Below w.heap.size w W/\R W b w':=by
 have k:=af C;clear C;go_enter func125,ntmps125
 go_wp2_with fail
 obtain⟨w1,h⟩:∃w1,w1=w.alloc (.cells #[aa d,aa f,ai c] 29):=⟨_,rfl⟩;have i:w1.heap[w.heap.size]? =some (.cells #[aa d,aa f,ai c] 29 (0,0)):=by rw[h];exact di _ _
 have g:Below w.heap.size w w1:=by rw[h];exact(aB _ _).alloc (ay _) _
 rw[<-h];clear h;have j:w1.cell? (ae cb 0)=some (ah tb):=(g.cell (p:=(ae cb 0)) t).trans s;have m:=af (El cb tb w1.drew j);have u:=ag j;have v:=ag (show w1.cell? (ae w.heap.size 0)=some (aa d) by simp[World.cell?,i]);have x:=ag (show w1.cell? (ae w.heap.size 1)=some (aa f) by simp[World.cell?,i]);have y:=ag (show w1.cell? (ae w.heap.size 2)=some (ai c) by simp[World.cell?,i]);have n:=af (k.o w1.drew g.drew);have q:=af (show Below w.heap.size w w1.drew from g.drew);clear k i g j;refine ak (fun W=>∃p:aT w1,W=p.W) [9,10,11] [(0,false)] ⟨⟨_,(aB _ _).drew⟩,rfl⟩ 11 ?_;simp only[bn,aX,aY,aW,aN,aM,aO]
 repeat(refine aD (fun K a=>?_);go_simp;first|(refine a _ ?_;clear a K)|(apply Exists.intro;refine⟨fun _=>?_,a _ ?_⟩;rfl;clear a K))
 refine aJ ?_;refine aA 1 rfl fun K a=>?_;refine bg K4 rfl _ _ rfl (vals:=#[ah cb]) rfl m.o ?_;rintro e w2 ⟨rfl,rfl⟩;refine⟨_,rfl,?_⟩;refine a _ _ (fun _ _=>⟨⟨_,(aB _ _).drew⟩,rfl⟩) ?_;clear a K;refine bG [(2,false),(3,false),(4,false),(5,false),(6,false),(7,true),(8,true)] ⟨⟨_,(aB _ _).drew⟩,rfl⟩ rfl ?_;simp only[bn,aX,aY,aW,aN,aM,aO]
 repeat(refine aD (fun K a=>?_);go_simp;first|(refine a _ ?_;clear a K)|(apply Exists.intro;refine⟨fun _=>?_,a _ ?_⟩;rfl;clear a K))
 refine aJ ?_;refine aF [9,10,11] _ _ _ (by kernel_rfl) ?_;simp only[pick,aX,aY,aW,aN,aM]
 go_wp2_with fail
 refine n.o.mono ?_;rintro e w3 ⟨b,rfl,l⟩;have r:=af l;clear l
 go_wp2_with fail
 go_ret;exact⟨b,rfl,_,q.o,r.o⟩
theorem Nz {a:Option Addr} {n c:Nat} {R:Nat->World->Prop} (C:aH 35 #[.slice a n c] w fun e W'=>∃tb,e=.returned (.tuple #[ah tb,aa 0])/\Below w.heap.size w W'/\R tb W'):
  aH 36 #[.slice a n c] w fun e w'=>∃tb W,e=.returned (.tuple #[ah W.heap.size,aa 0])/\R tb W/\Below w.heap.size w W/\w'=W.alloc (.cells #[ah tb] 153):=by
 have d:=af C;go_enter func36,ntmps36
 go_wp2_with (go_at_call 35;refine d.o.mono ?_;rintro e w1 ⟨tb,rfl,g,b⟩;have f:=af b;clear b)
 go_ret2;exact⟨tb,w1,rfl,f.o,g,rfl⟩
end
end
section
open Go.RowKit Go.Sort Go.Shelf Go.Lib Go.Maps
def sU (w:World) (lo hi cb n0:Nat) (l:List Pt):Prop:=
 ∃tb h2,iw w lo h2 tb n0 l/\h2<=cb/\cb<hi/\hi<=w.heap.size/\w.heap[cb]? =some (.cells #[ah tb] 153 (0,0))
section
variable {w w':World} {lo hi cb n0:Nat} {l:List Pt}
theorem iw.En {w:World} {lo hi tb n0:Nat} {l:List Pt} (h:iw w lo hi tb n0 l):l.length<=n0/\n0<=20000:=by
 have⟨fb,R,gone,YS,V,c,a,b,d,e⟩:=h;have:=a.Pm;have:=b.len a;omega
theorem iw.lo_le {w:World} {lo hi tb n0:Nat} {l:List Pt} (h:iw w lo hi tb n0 l):lo<=hi:=by
 have⟨fb,R,gone,YS,V,a,b⟩:=h;have:=a.fq;omega
theorem sU.kept {S:Nat->Prop} (h:sU w lo hi cb n0 l) (K:au S w w') (hS:∀k,lo<=k->k<hi->¬S k):sU w' lo hi cb n0 l:=by
 have⟨tb,c,b,d,a,e,f⟩:=h;have:=b.lo_le;exact⟨tb,c,b.kept K (fun k g i=>hS k g (by omega)),d,a,bJ e K.size,(K.block cb (by omega) (hS cb (by omega) a)).trans f⟩
theorem AJ {w:World} {cb tb:Nat} (h:w.heap[cb]? =some (.cells #[ah tb] 153 (0,0))):w.cell? (ae cb 0)=some (ah tb):=Ua h _ rfl
theorem PM (a:Option Addr) (c:Nat) (l:List Pt) (w:World) (h:cz dx 3 w a l) (i:l.length<=20000) (j:Gz l) (hu:kQ l=true):
  aH 36 #[.slice a l.length c] w fun e w'=>∃cb,e=.returned (.tuple #[ah cb,aa 0])/\sU w' w.heap.size w'.heap.size cb l.length l/\Below w.heap.size w w':=by
 refine(Nz (R:=fun tb W=>iw W w.heap.size W.heap.size tb l.length l) ((Nr a c l w h i j hu).mono fun e w1 ⟨tb,g,d,b⟩=>⟨tb,g,b,d⟩)).mono ?_;rintro e w' ⟨tb,W,rfl,d,b,rfl⟩;have f:Below W.heap.size W (W.alloc (.cells #[ah tb] 153)):=(aB _ _).alloc (ay _) _;exact⟨_,rfl,⟨tb,W.heap.size,d.below f (ay _),ay _,by simp,ay _,di _ _⟩,b.trans (f.mono b.size)⟩
theorem NA (h:sU w lo hi cb n0 l) (n:SA l) (x y:Int) (a b:Bool) (j:Int) (o:j=(if a then 1 else 0)+(if b then 2 else 0)):
  aH 40 #[ah cb,aa x,aa y,.int .u8 j] w fun e w'=>∃v,∃c:Nat,e=.returned (.tuple #[v,aa ((c+(AA l (AB x y a b)).length:Nat):Int)])/\c<=8*Lib.bitLen n0+1/\w'.ownsRow w.heap.size 27 1 v (AA l (AB x y a b)).length ((AA l (AB x y a b)).map (Value.int .u32))/\Below w.heap.size w w':=by
 have⟨tb,p,m,r,s,t,k⟩:=h;refine(K5 (R:=fun W v q w'=>∃c:Nat,q=.int .i64 ((c+(AA l (AB x y a b)).length:Nat):Int)/\c<=8*Lib.bitLen n0+1/\w'.ownsRow W.heap.size 27 1 v (AA l (AB x y a b)).length ((AA l (AB x y a b)).map (Value.int .u32))/\Below W.heap.size W w') (by omega) (AJ k) x y a b j o ?_).mono ?_
 .intro W d;refine(JH (m.below d (by omega)) (bx1 x a) (Cx x a) (bx1 y b) (Cx y b) 0).mono ?_;rintro e w' ⟨v,c,rfl,g,i,f⟩;rw[Nv n]at*;exact⟨v,_,rfl,f,c,rfl,g,i,f⟩
 .rintro e w' ⟨v,q,rfl,W,d,c,rfl,g,i,f⟩;exact⟨v,c,rfl,g,bL i d.size,d.trans (f.mono d.size)⟩
theorem FJ (h:sU w lo hi cb n0 l) (x y a:Int) (c:3<a):
  aH 40 #[ah cb,aa x,aa y,.int .u8 a] w fun e w'=>e=.returned (.tuple #[aG,aa 0])/\w'=w:=by
 have⟨tb,d,j,f,g,i,b⟩:=h;exact Em _ (.inr ⟨cb,tb,rfl,AJ b⟩) x y a (.inr c)
end
end
end Go.Proofs.YtkjdbndekceffaaGreat
namespace Go.Proofs
open Go.Shelf
def Tryz.Eo:Go.Shelf.Ren:=⟨fun|6=>98|15=>86|14=>167|28=>160|29=>161|20=>242|21=>243|22=>244|23=>245|24=>246|25=>247|26=>248|27=>249|46=>296|47=>286|48=>287|49=>297|50=>298|57=>322|n=>n,fun|22=>148|24=>3|25=>157|3=>3|39=>135|0=>0|53=>27|55=>229|4=>4|46=>308|45=>307|50=>30|5=>5|9=>9|66=>364|70=>368|76=>391|77=>60|n=>n,fun|n=>n⟩
theorem Tryz.FK:Go.Proofs.SlLaysF.n6 Tryz.prog Tryz.Eo:={
 mixed:=by kernel_rfl
 f6:=⟨Tryz.f98.name,by decide,Tryz.func98.trans (congrArg some (by kernel_rfl))⟩
 f14:=⟨Tryz.f167.name,by decide,Tryz.func167.trans (congrArg some (by kernel_rfl))⟩
 f15:=Tryz.func86.trans (congrArg some (by kernel_rfl))
 f20:=⟨Tryz.f242.name,by decide,Tryz.func242.trans (congrArg some (by kernel_rfl))⟩
 f21:=⟨Tryz.f243.name,by decide,Tryz.func243.trans (congrArg some (by kernel_rfl))⟩
 f22:=⟨Tryz.f244.name,by decide,Tryz.func244.trans (congrArg some (by kernel_rfl))⟩
 f23:=⟨Tryz.f245.name,by decide,Tryz.func245.trans (congrArg some (by kernel_rfl))⟩
 f24:=⟨Tryz.f246.name,by decide,Tryz.func246.trans (congrArg some (by kernel_rfl))⟩
 f25:=⟨Tryz.f247.name,by decide,Tryz.func247.trans (congrArg some (by kernel_rfl))⟩
 f26:=⟨Tryz.f248.name,by decide,Tryz.func248.trans (congrArg some (by kernel_rfl))⟩
 f27:=⟨Tryz.f249.name,by decide,Tryz.func249.trans (congrArg some (by kernel_rfl))⟩
 f28:=Tryz.func160.trans (congrArg some (by kernel_rfl))
 f29:=Tryz.func161.trans (congrArg some (by kernel_rfl))
 f46:=⟨Tryz.f296.name,by decide,Tryz.func296.trans (congrArg some (by kernel_rfl))⟩
 f47:=Tryz.func286.trans (congrArg some (by kernel_rfl))
 f48:=Tryz.func287.trans (congrArg some (by kernel_rfl))
 f49:=⟨Tryz.f297.name,by decide,Tryz.func297.trans (congrArg some (by kernel_rfl))⟩
 f50:=⟨Tryz.f298.name,by decide,Tryz.func298.trans (congrArg some (by kernel_rfl))⟩
 f57:=⟨Tryz.f322.name,by decide,Tryz.func322.trans (congrArg some (by kernel_rfl))⟩
 t0:=tT
 a0:=uu
 z0:=uj
 v0:=tZ
 t3:=qH
 a3:=ny
 z3:=nu
 v3:=qJ
 t4:=oG
 a4:=qP
 z4:=qN
 v4:=qK
 t5:=Tryz.underlying5
 a5:=Tryz.isAgg5
 z5:=Tryz.sizeOf5
 v5:=Tryz.zeroValue5
 t9:=Tryz.underlying9
 a9:=Tryz.isAgg9
 z9:=Tryz.sizeOf9
 v9:=Tryz.zeroValue9
 t22:=Tryz.underlying148
 a22:=Tryz.isAgg148
 z22:=Tryz.sizeOf148
 v22:=Tryz.zeroValue148
 a24:=ny
 z24:=nu
 t25:=Tryz.underlying157
 a25:=Tryz.isAgg157
 z25:=Tryz.sizeOf157
 v25:=Tryz.zeroValue157
 t39:=zm
 a39:=Tryz.isAgg135
 z39:=zJ
 v39:=zu
 t45:=Tryz.underlying307
 a45:=Tryz.isAgg307
 z45:=Tryz.sizeOf307
 v45:=Tryz.zeroValue307
 t46:=Tryz.underlying308
 a46:=Tryz.isAgg308
 z46:=Tryz.sizeOf308
 v46:=Tryz.zeroValue308
 t50:=Tryz.underlying30
 a50:=Tryz.isAgg30
 z50:=Tryz.sizeOf30
 v50:=Tryz.zeroValue30
 t53:=zw
 a53:=w9
 z53:=wX
 v53:=zB
 t55:=zn
 a55:=Tryz.isAgg229
 z55:=zK
 v55:=zx
 t66:=Tryz.underlying364
 a66:=Tryz.isAgg364
 z66:=Tryz.sizeOf364
 v66:=Tryz.zeroValue364
 t70:=Tryz.underlying368
 a70:=Tryz.isAgg368
 z70:=Tryz.sizeOf368
 v70:=Tryz.zeroValue368
 t76:=Tryz.underlying391
 a76:=Tryz.isAgg391
 z76:=Tryz.sizeOf391
 v76:=Tryz.zeroValue391
 t77:=Tryz.underlying60
 a77:=Tryz.isAgg60
 z77:=Tryz.sizeOf60
 v77:=Tryz.zeroValue60}
end Go.Proofs
