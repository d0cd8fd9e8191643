/- Made small by a program. -/
import Derived.Test.YtkjdbndekceffaaGreatX09
import Derived.Test.YtkjdbndekceffaaGreatX10
set_option linter.unusedSimpArgs false
set_option linter.unusedVariables false
set_option maxRecDepth 100000
set_option maxHeartbeats 16000000
namespace Go.Proofs.YtkjdbndekceffaaGreat
open Tryz
section
open Go.RowKit Go.Maps
attribute [local irreducible] wpQuiet
def VR (l:List Pt) (p:Pt) (w:World) (e:Ending) (w':World):Prop:=
 ∃k:Nat,e=.returned (.tuple #[ae k,.bool (decide (∃h:k<l.length,iK l[k] p=0))])/\k<=l.length/\(∀t (h:t<l.length),t<k->iK l[t] p<0)/\(∀t (h:t<l.length),k<=t->¬iK l[t] p<0)/\Below w.heap.size w w'
theorem VS (a:Option Addr) (l:List Pt) (n ao:Nat) (p:Pt) (W:World) (au:l.length=n) (aC:n<=1000000) (ab:bY dw 3 W a l) (ac:l.Pairwise kI):
  aK 191 #[.slice a n ao,jc p.1 p.2.1 p.2.2,.func (.func 94) #[] #[]] W (VR l p W):=by
 subst au;obtain⟨d,f,c⟩:=p;have X:=ag ab;have am:=ag ac;have V:=ag (fun(q:Pt) W=>(Ti q (d,f,c) W).mono (fun e w' (h:e=.returned (ae (iK q (d,f,c)))/\xK W w')=>(⟨h.1,h.2.below (aB _)⟩:e=.returned (ae (iK q (d,f,c)))/\Below W.heap.size W w')));have ai:Hid (∀t i (Y:t<l.length) (g:i<l.length),t<=i->iK l[i] (d,f,c)<0->iK l[t] (d,f,c)<0):=fun t i Y g L M=>by
  by_cases e:t=i
  .subst e;exact M
  .have ap:=gQ.1 am.o t i Y g aa;rw[qm]at M |-;exact oJ ap M
 clear ab ac;go_enter func191,ntmps191
 go_wp2_with fail
 have Z:Below W.heap.size W (W.alloc (.cells #[ae d,ae f,ak c] 29)):=(aI _ _).alloc (aB _) _;have an:Hid ((W.alloc (.cells #[ae d,ae f,ak c] 29)).heap[W.heap.size]? =some (.cells #[ae d,ae f,ak c] 29 (0,0))):=bW W _;have av:W.heap.size<(W.alloc (.cells #[ae d,ae f,ak c] 29)).heap.size:=ay;generalize(W.alloc (.cells #[ae d,ae f,ak c] 29))=J at*;have U:=ag Z;clear Z
 go_loopw [9,10] (fun O P wr=>∃i j:Nat,O=.int .i64 i/\P=.int .i64 j/\i<=j/\j<=l.length/\Hid (∀t (h:t<l.length),t<i->iK l[t] (d,f,c)<0)/\Hid (∀t (h:t<l.length),j<=t->¬iK l[t] (d,f,c)<0)/\Hid (Below J.heap.size J wr))
  (fun O P _=>(intOf P).toNat-(intOf O).toNat)
 case atStart=>exact⟨0,l.length,rfl,rfl,bD _,aB _,fun t h g=>absurd g (kE _),fun t h g=>absurd h aa,aI _ _⟩
 case round=>
  obtain⟨i,j,rfl,rfl,aA,aq,K,T,F⟩:=hrel;have A:Below W.heap.size W wr:=U.o.trans (F.o.mono U.o.size);have D:=(F.o.block _ av).trans an.o;have Q:=ah (w:=wr) (ad:=(af W.heap.size 0)) (v:=.int .i64 d) (aD D);have R:=ah (w:=wr) (ad:=(af W.heap.size 1)) (v:=.int .i64 f) (aD D);have S:=ah (w:=wr) (ad:=(af W.heap.size 2)) (v:=.int .u32 c) (aD D);by_cases aE:i<j
  .obtain⟨m,ar⟩:∃m,m=(i+j)/2:=⟨_,rfl⟩;have aF:((i:Int)+(j:Int))/2=(m:Int):=aa;have C:m<l.length:=aa;have aG:i<=m/\m<j:=aa;clear ar;obtain⟨b,off,y,N,u⟩:=(X.o.below A).get aa;have r:=u (m) C 0 aa;have x1:=u (m) C 1 aa;have x2:=u (m) C 2 aa;simp only[dw,fZ,dC,dK]at r x1 x2;have r:=ah r;have x1:=ah x1;have x2:=ah x2;have I:Hid (iK l[m] (d,f,c)<0->∀t (h:t<l.length),t<m+1->iK l[t] (d,f,c)<0):=fun h t ht g=>ai.o t _ ht C aa h;have H:Hid (¬iK l[m] (d,f,c)<0->∀t (h:t<l.length),m<=t->¬iK l[t] (d,f,c)<0):=fun h t ht g L=>h (ai.o _ t C ht g L);have s:Hid (∀p:aS wr,aK 94 #[jc l[m].1 l[m].2.1 l[m].2.2,jc d f c] p.W fun e w'=>e=.returned (ae (iK l[m] (d,f,c)))/\Below p.W.heap.size p.W w'):=fun p=>V.o l[m] p.W;have x:=ag y;obtain⟨o,k⟩:∃o,o=iK l[m] (d,f,c):=⟨_,rfl⟩;rw[<-k]at I H s;clear u y k D;generalize l[m]=q at*;obtain⟨ax,az,aw⟩:=q;simp only at r x1 x2 s;obtain rfl:=x.o;clear x
   go_upto_region 5 with fail
   refine bH aM aM ?_
   repeat(quiet_step ((go_at_call 94;exact dL (s.o _))))
   refine jP ?_;intro w2 E;have z:Below wr.heap.size wr w2:=by obtain⟨p,rfl⟩:=E;exact p.h
   have G:Hid (Below J.heap.size J w2):=F.o.trans (z.mono F.o.size);clear E Q R S r x1 x2 z s;by_cases k:o<0
   .have al:=ag (I.o k);have d1:decide (o<0)=true:=aQ k;clear I H;go_wp2;go_roundw
    case rel=>exact⟨m+1,j,by go_num,rfl,aa,aq,al,T,G⟩
    case measure=>exact eT
   .have aj:=ag (H.o k);have d1:decide (o<0)=false:=aQ k;clear I H;go_wp2;go_roundw
    case rel=>exact⟨i,m,rfl,rfl,aa,aa,K,aj,G⟩
    case measure=>exact eT
  .obtain rfl:i=j:=aa;by_cases B:i<l.length
   .obtain⟨b,off,y,N,u⟩:=(X.o.below A).get aa;have r:=u i B 0 aa;have x1:=u i B 1 aa;have x2:=u i B 2 aa;simp only[dw,fZ,dC,dK]at r x1 x2;have r:=ah r;have x1:=ah x1;have x2:=ah x2;have s:Hid (∀p:aS wr,aK 94 #[jc l[i].1 l[i].2.1 l[i].2.2,jc d f c] p.W fun e w'=>e=.returned (ae (iK l[i] (d,f,c)))/\Below p.W.heap.size p.W w'):=fun p=>V.o l[i] p.W;have x:=ag y;obtain⟨o,k⟩:∃o,o=iK l[i] (d,f,c):=⟨_,rfl⟩;have HO:Hid (decide (∃h:i<l.length,iK l[i] (d,f,c)=0)=(o==0)):=by
     show _=_;rw[k,mU];simp[B]
    rw[<-k]at s;have hd:decide (i<l.length)=true:=aQ B;clear u y k D;generalize l[i]=q at*;obtain⟨ax,az,aw⟩:=q;simp only at r x1 x2 s;obtain rfl:=x.o;clear x
    go_upto_region 8 with fail
    refine bH aM aM ?_
    repeat(quiet_step ((go_at_call 94;exact dL (s.o _))))
    refine jP ?_;intro w2 E;have z:Below wr.heap.size wr w2:=by obtain⟨p,rfl⟩:=E;exact p.h
    have G:Hid (Below W.heap.size W w2):=A.trans (z.mono A.size);clear E Q R S r x1 x2 z s;go_wp2;go_ret2;exact⟨i,by rw[HO.o];rfl,aa,K.o,(fun t h g L=>absurd (T.o t h g) aa),G.o⟩
   .obtain rfl:i=l.length:=aa;have N:=ag A;clear Q R S
    go_upto_region 8 with fail
    go_quiet (fail)
    go_wp2;go_ret2;exact⟨l.length,ay,aB _,K.o,fun t h g=>absurd h aa,N.o.trans (Below.bu _ _)⟩
end
section
open Go.RowKit Go.Sort Go.Shelf Go.Lib Go.Maps
theorem Fp {α:Type} [Inhabited α] {enc:α->Value} {w:World} {base g d:Nat} {e:TypeId} {l:List α} {i:Nat} {zr:α} (h:w.ownsRow base e 1 (aA g l.length d) l.length (l.map enc)) (hi:i<l.length) (q:Nat):
  (putRow enc (Sort.ahead w q) g 0 (l.toArray.toList.take i++l.toArray.toList.drop (i+1)++List.replicate (i+1-i) zr).toArray).ownsRow base e 1 (aA g (l.length-1) d) (l.length-1) ((l.eraseIdx i).map enc)/\
  ax (fun k=>k=g) w (putRow enc (Sort.ahead w q) g 0 (l.toArray.toList.take i++l.toArray.toList.drop (i+1)++List.replicate (i+1-i) zr).toArray):=by
 rcases h.2 with⟨b,B⟩|⟨A,v,x,b,r,s,C,t,E,ht⟩
 .cases b
 .injection b with a z n;injection a with a;injection a with a _ _;subst a n;have j:(l.take i++l.drop (i+1)++[zr]).length=l.length:=aH;obtain⟨y,-,-,-,c⟩:=rW (l:=l) (l':=l.take i++l.drop (i+1)++[zr]) r s aa t aa j q #[];rw[Sort.grow_empty]at c;have p:(l.toArray.toList.take i++l.toArray.toList.drop (i+1)++List.replicate (i+1-i) zr)=l.take i++l.drop (i+1)++[zr]:=by
   rw[show i+1-i=1 by omega];simp
  rw[p];constructor
  .rw[j]at c;have f:=mg (m:=l.length-1) c aa;have o:((l.take i++l.drop (i+1)++[zr]).map enc).take ((l.length-1)*1)=(l.eraseIdx i).map enc:=by
    rw[iJ,<-List.map_take,Ef aH,kD aH,xL]
   rw[o]at f;exact f
  .refine⟨rfl,rfl,rfl,?_,fun k D u=>?_⟩
   .show w.heap.size<=(w.heap.modify g _).size;simp
   .show(w.heap.modify g _)[k]? =_;rw[xQ,aN (iT u)]
theorem JA {w:World} {base g b:Nat} {l:List Int} {i:Nat} (h:w.ownsRow base 27 1 (aA g l.length b) l.length (l.map (Value.int .u32))) (hi:i<l.length):
  aK 198 #[aA g l.length b,ae i,ae (i+1:Nat)] w fun e w'=>e=.returned (aA g (l.length-1) b)/\w'.ownsRow base 27 1 (aA g (l.length-1) b) (l.length-1) ((l.eraseIdx i).map (Value.int .u32))/\ax (fun k=>k=g) w w':=by
 obtain⟨j,B,D⟩:∃j,Tryz.prog.info? 27=some j/\j.size=1:=by
  have a:(Tryz.prog.info? 27).map (fun i=>i.size)=some 1:=aM;cases p:Tryz.prog.info? 27 with
  |none=>rw[p]at a;cases a
  |some i=>rw[p]at a;injection a with a;exact⟨i,rfl,a⟩
 have n:l.length<=b/\b<=9223372036854775807:=by
  rcases h.2 with⟨c,v⟩|⟨u,r,s,c,A,a,f,o,C,ht⟩
  .cases c
  .injection c with d t m;subst m;unfold maxLen at o;omega
 have z:Holds (Value.int .u32) w g 0 l.toArray:=by
  rcases h.2 with⟨c,v⟩|⟨u,r,s,c,A,a,f,o,C,ht⟩
  .cases c
  .injection c with d t m;injection d with d;injection d with d _ _;subst d;rw[iJ]at ht;exact holds_of_block a ht
 have f:=AnyE.slices_Delete Tryz.JA (Value.int .u32) (fun _=>rfl) 0 (fun w=>zeroValue27 w) j B D g 0 b i (i+1) l.toArray w z (aQ n.1) n.2 aa aH;change aK 198 _ _ _ at f;rw[show l.toArray.size=l.length by simp]at f;refine f.mono ?_;rintro e w' ⟨rfl,q,rfl⟩;have⟨x,y⟩:=Fp (zr:=(0:Int)) h hi q;exact⟨by rw[show i+1-i=1 by omega],x,y⟩
theorem JC {w:World} {base g b:Nat} {l:List Int} {i:Nat} (h:w.ownsRow base 2 1 (aA g l.length b) l.length (l.map (Value.int .i64))) (hi:i<l.length):
  aK 197 #[aA g l.length b,ae i,ae (i+1:Nat)] w fun e w'=>e=.returned (aA g (l.length-1) b)/\w'.ownsRow base 2 1 (aA g (l.length-1) b) (l.length-1) ((l.eraseIdx i).map (Value.int .i64))/\ax (fun k=>k=g) w w':=by
 obtain⟨j,B,D⟩:∃j,Tryz.prog.info? 2=some j/\j.size=1:=by
  have a:(Tryz.prog.info? 2).map (fun i=>i.size)=some 1:=aM;cases p:Tryz.prog.info? 2 with
  |none=>rw[p]at a;cases a
  |some i=>rw[p]at a;injection a with a;exact⟨i,rfl,a⟩
 have n:l.length<=b/\b<=9223372036854775807:=by
  rcases h.2 with⟨c,v⟩|⟨u,r,s,c,A,a,f,o,C,ht⟩
  .cases c
  .injection c with d t m;subst m;unfold maxLen at o;omega
 have z:Holds (Value.int .i64) w g 0 l.toArray:=by
  rcases h.2 with⟨c,v⟩|⟨u,r,s,c,A,a,f,o,C,ht⟩
  .cases c
  .injection c with d t m;injection d with d;injection d with d _ _;subst d;rw[iJ]at ht;exact holds_of_block a ht
 have f:=AnyE.slices_Delete Tryz.JC (Value.int .i64) (fun _=>rfl) 0 (fun w=>zeroValue2 w) j B D g 0 b i (i+1) l.toArray w z (aQ n.1) n.2 aa aH;change aK 197 _ _ _ at f;rw[show l.toArray.size=l.length by simp]at f;refine f.mono ?_;rintro e w' ⟨rfl,q,rfl⟩;have⟨x,y⟩:=Fp (zr:=(0:Int)) h hi q;exact⟨by rw[show i+1-i=1 by omega],x,y⟩
theorem Fh {w:World} {base g b:Nat} {l:List Int} {i:Nat} (h:w.ownsRow base 3 1 (aA g l.length b) l.length (l.map (Value.int .i64))) (hi:i<l.length):
  aK 199 #[aA g l.length b,ae i,ae (i+1:Nat)] w fun e w'=>e=.returned (aA g (l.length-1) b)/\w'.ownsRow base 3 1 (aA g (l.length-1) b) (l.length-1) ((l.eraseIdx i).map (Value.int .i64))/\ax (fun k=>k=g) w w':=by
 obtain⟨j,B,D⟩:∃j,Tryz.prog.info? 3=some j/\j.size=1:=by
  have a:(Tryz.prog.info? 3).map (fun i=>i.size)=some 1:=aM;cases p:Tryz.prog.info? 3 with
  |none=>rw[p]at a;cases a
  |some i=>rw[p]at a;injection a with a;exact⟨i,rfl,a⟩
 have n:l.length<=b/\b<=9223372036854775807:=by
  rcases h.2 with⟨c,v⟩|⟨u,r,s,c,A,a,f,o,C,ht⟩
  .cases c
  .injection c with d t m;subst m;unfold maxLen at o;omega
 have z:Holds (Value.int .i64) w g 0 l.toArray:=by
  rcases h.2 with⟨c,v⟩|⟨u,r,s,c,A,a,f,o,C,ht⟩
  .cases c
  .injection c with d t m;injection d with d;injection d with d _ _;subst d;rw[iJ]at ht;exact holds_of_block a ht
 have f:=AnyE.slices_Delete Tryz.Fh (Value.int .i64) (fun _=>rfl) 0 (fun w=>zeroValue3 w) j B D g 0 b i (i+1) l.toArray w z (aQ n.1) n.2 aa aH;change aK 199 _ _ _ at f;rw[show l.toArray.size=l.length by simp]at f;refine f.mono ?_;rintro e w' ⟨rfl,q,rfl⟩;have⟨x,y⟩:=Fp (zr:=(0:Int)) h hi q;exact⟨by rw[show i+1-i=1 by omega],x,y⟩
theorem Rb (a:Option Addr) (l:List Int) (n c:Nat) (x:Int) (w:World) (C:l.length=n) (h:Rd (.int .u32) w a l) (J:n<=1000000) (u:x∈l):
  aK 196 #[.slice a n c,ak x] w fun e w'=>(∃i:Nat,e=.returned (ae i)/\∃h:i<l.length,l[i]=x)/\w'=w:=by
 subst C;have z:=ag h;have A:=ag u;clear h u;go_enter func196,ntmps196;go_wp2
 go_loopg [8] l.length (fun D E wr=>∃j:Nat,E=.int .i64 j/\j<=l.length/\l.length-j<=D/\wr=w/\Hid (∀t (h:t<l.length),t<j->l[t]≠x))
 case atStart=>exact⟨0,rfl,bD _,aa,rfl,fun t h q=>absurd q (kE _)⟩
 case round=>
  obtain⟨j,rfl,H,I,rfl,k⟩:=hrel;by_cases s:j<l.length
  .obtain⟨b,off,p,G,r⟩:=z.o.get aa;have F:=r j s;have g:=ag p;obtain⟨y,f⟩:∃y,y=l[j]:=⟨_,rfl⟩;rw[<-f]at F;have m:=ag f;clear r p f;obtain rfl:=g.o;clear g;by_cases d:x=y
   .have d1:(x==y)=true:=by simp[d]
    have d2:decide (x=y)=true:=by simp[d]
    have B:=ag d;clear d;go_wp2;go_ret;exact⟨⟨j,rfl,s,by rw[<-m.o,B.o]⟩,rfl⟩
   .have d1:(x==y)=false:=by simp[d]
    have d2:decide (x=y)=false:=by simp[d]
    have v:Hid (∀t (h:t<l.length),t<j+1->l[t]≠x):=fun t h q=>by
     by_cases e:t=j
     .subst e;rw[<-m.o];exact fun e=>d e.symm
     .exact k.o t h aa
    clear d;go_wp2
    go_roundg (l.length-(j+1))
    case measure=>omega
    case rel=>exact⟨j+1,by go_num,aa,aB _,rfl,v⟩
  .obtain⟨t,ht,e⟩:=jo A.o;exact absurd e (k.o t ht aa)
end
section
open Go.RowKit Go.Sort Go.Shelf Go.Lib Go.Maps
attribute [local irreducible] wpQuiet
attribute [local go_sem] Oper.fB
def JF (R:List Pt) (p:Pt):Nat:=R.countP fun q=>decide (iK q p<0)
def TG (R:List Pt) (p:Pt):Bool:=decide (∃h:JF R p<R.length,iK R[JF R p] p=0)
theorem OP (a:Option Addr) (l:List Pt) (n c:Nat) (p:Pt) (W:World) (q:l.length=n) (o:n<=1000000) (r:bY dw 3 W a l) (s:l.Pairwise kI):
  aK 191 #[.slice a n c,jc p.1 p.2.1 p.2.2,.func (.func 94) #[] #[]] W (fw W (.tuple #[ae (JF l p),.bool (TG l p)])):=
 (VS a l n c p W q o r s).mono fun e w' ⟨k,j,m,f,g,i⟩=>by
  have d:k=JF l p:=oU l k m (fun t h b=>by simpa using f t h b) (fun t h b=>by simpa using g t h b);subst d;exact⟨j,i⟩
theorem Fq {R:List Pt} (d:R.Pairwise kI) {x:Nat} (a:x<R.length):JF R R[x]=x/\TG R R[x]=true:=by
 have b:x=JF R R[x]:=oU R x (vv a) (fun t h c=>by
  have:=gQ.1 d t x h a c;simpa[qm]using this) (fun t h c=>by
  simp only[gT,qm];by_cases e:t=x
  .subst e;exact tC _
  .intro f;have:=gQ.1 d x t a h aa;exact tC _ (oJ this f))
 refine⟨b.symm,?_⟩;unfold TG;rw[bQ];refine⟨aa,?_⟩;have e:R[JF R R[x]]'aa=R[x]:=by congr 1;exact b.symm
 rw[e,QM];exact⟨rfl,rfl⟩
end
section
open Go.RowKit Go.Sort Go.Shelf Go.Lib Go.Maps
def Fs (n k:Nat):FT:=(((dP 0 n).subs 0).getD k (.leaf 0,0)).1
theorem mG {n:Nat} {t:FT} {s:Nat} (h:FT.At (aX n) t s):Fs n (t.root s)=t:=by
 have a:=kZ h;have c:=h.lt;rw[dh]at c;have b:t.root s<((dP 0 n).subs 0).length:=by rw[FT.fD,fA 0 n a];exact c
 have e:=FT.oV (dP 0 n) 0 _ b;have f:=FT.kW (dP 0 n) 0 (fM a▸jU n a) _ (bF b);have⟨d,g⟩:=FT.At.unique (fM a▸h) f (by rw[e];omega);unfold Fs;rw[jb,cB b];exact d.symm
def nu (n:Nat) (YS:List Nat) (k:Nat):List Nat:=nl YS (Fs n k)
def xn (n:Nat) (YS:List Nat) (k:Nat):List Int:=match Fs n k with
 |.leaf _=>[]
 |.node l r=>lf l.hi (nl YS (.node l r))
theorem Ah {n:Nat} {l r:FT} {s:Nat} (h:FT.At (aX n) (.node l r) s) (YS:List Nat):xn n YS ((FT.node l r).root s)=lf l.hi (nl YS (.node l r)):=by
 unfold xn;rw[mG h]
section
variable {w w':World} {lo hi tb fb:Nat} {R:List Pt} {gone:List Bool} {YS:List Nat} {V:wN}
theorem jw.Wx (h:jw w lo hi tb fb R gone YS V):gK w lo hi tb fb R gone YS.length YS (nu R.length YS) (xn R.length YS) V:=
 ⟨h.blk,h.fC,h.row,h.xs,h.DR,h.iH,h.jg,h.EO,h.ys,fun k b=>by
  obtain⟨t,s,a,rfl⟩:=tV b;unfold nu;rw[mG a];exact h.Gg t s a,fun l r s a=>by rw[Ah a];exact h.Br l r s a,h.DJ,h.top,h.oQ,h.NI,h.Iz,h.Gw⟩
theorem gK.toAt {nc:Nat->List Nat} {lc:Nat->List Int} (h:gK w lo hi tb fb R gone YS.length YS nc lc V) (c:∀k,k<(aX R.length).length->nc k=nu R.length YS k) (d:∀l r s,FT.At (aX R.length) (.node l r) s->lc ((FT.node l r).root s)=xn R.length YS ((FT.node l r).root s)):jw w lo hi tb fb R gone YS V:=
 ⟨h.blk,h.fC,h.row,h.xs,h.DR,h.iH,h.jg,h.EO,h.ys,fun t s a=>by
  have b:=h.Gg _ a.lt;rw[c _ a.lt,nu,mG a]at b;exact b,fun l r s a=>by
  have b:=h.Br l r s a;rw[d l r s a,Ah a]at b;exact b,h.DJ,h.top,h.oQ,h.NI,h.Iz,h.Gw⟩
end
def ma (YS:List Nat) (x:Nat) (P:List Nat) (k:Nat):List Nat:=if k∈P then dZ YS x else YS
theorem DX (YS:List Nat) (x k:Nat):ma YS x [] k=YS:=by simp[ma]
theorem BX {n x:Nat} (h:x<n) (YS:List Nat) {k:Nat} (g:k<(aX n).length):nu n (ma YS x ((dP 0 n).path 0 x) k) k=nu n (dZ YS x) k/\xn n (ma YS x ((dP 0 n).path 0 x) k) k=xn n (dZ YS x) k:=by
 have e:0<n:=aa;obtain⟨t,s,d,rfl⟩:=tV g;unfold ma;by_cases c:t.root s∈(dP 0 n).path 0 x
 .rw[aO c];exact⟨rfl,rfl⟩
 .rw[aN c];have f:¬(t.lo<=x/\x<t.hi):=fun⟨a,b⟩=>c (FT.wS _ 0 x (bJ 0 n e).1 _ (FT.at_mem (fM e▸d)) a b);unfold nu xn;rw[mG d];refine⟨(wQ f).symm,?_⟩;cases t with
  |leaf a=>rfl
  |node l r=>
   show lf _ _=lf _ _;rw[wQ f]
end
section
open Go.RowKit Go.Sort Go.Shelf Go.Lib Go.Maps
attribute [local irreducible] wpQuiet
attribute [local go_sem] Oper.fB
def U1 (w:World) (lo hi tb fb:Nat) (R:List Pt) (gone:List Bool) (YS:List Nat) (x:Nat) (e:Ending) (w':World):Prop:=
 e=.returned (.bool true)/\∃V',jw w' lo hi tb fb R (gone.set x true) (dZ YS x) V'/\ax (fun k=>lo<=k/\k<hi) w w'
theorem om {α b:Type} (f:α->b):∀(l:List α) (i:Nat),(l.map f).eraseIdx i=(l.eraseIdx i).map f
 |[],i=>ay
 |a::l,0=>ay
 |a::l,i+1=>by simp[om f l i]
theorem OQ {m:Nat} {L:List Nat} {y:Int} (h:y∈lf m L):0<=y/\y<=L.length:=by
 unfold lf at h;obtain⟨j,b,rfl⟩:=dA.1 h;have a:=IQ (p:=fun i=>decide (i<m)) (l:=L.take j);rw[eH]at a;omega
theorem TH {m:Nat} {L:List Nat} {i:Nat} (hi:i<L.length) {j:Nat} (a:j<L.length):0<=(zR m L i j)[j]'(by rw[qx hi aa];exact a)/\(zR m L i j)[j]'(by rw[qx hi aa];exact a)<=L.length:=by
 rw[KQ hi a];exact OQ (List.mem_of_mem_eraseIdx (bF _))
theorem Mw {α:Type} (f:Nat->α) (k:Nat) (v a:α):nC (nC f k v) k a=nC f k a:=by
 funext j;simp only[nC];split<;>rfl
theorem OT {YS:List Nat} (a:YS.Nodup) {x:Nat} (b:x∈YS):(dZ YS x).length=YS.length-1:=by
 have⟨i,hi,e⟩:=jo b;unfold dZ;rw[<-erase_filter a hi e,Ar,aO hi]
theorem Dg {w:World} {lo hi tb fb:Nat} {R:List Pt} {gone:List Bool} {YS:List Nat} {V:wN} (ao:jw w lo hi tb fb R gone YS V) (b6:cz R gone YS) (ea:R.length<=20000) {x:Nat} (au:x<R.length) (ej:gone[x]? =some false) (p:Pt) (hp:R[x]=p):
  aK 128 #[aj tb,jc p.1 p.2.1 p.2.2] w (U1 w lo hi tb fb R gone YS x):=by
 have a3:=ao.blk;have fN:tb<w.heap.size:=bX ao.fC.2.1 ao.fC.2.2.2.2;obtain⟨ct,cv,cM,-,-,c8⟩:=bY.aJ bg ai ao.row;obtain⟨gy,fe,cH⟩:=fI ao.DR;have a2:=ao.Wx;rw[cM,cH]at a3;have CB:=ag (fun W (a3:Below w.heap.size w W)=>OP ct R R.length cv p W rfl aa (c8.below a3) b6.Bo);have ca:=Fq b6.Bo au;rw[hp]at ca;have eX:=ag c8;have bc:=ag cH;have eM:=ag cM;obtain⟨av,aw,F⟩:=p;obtain⟨n,c7⟩:∃n,n=R.length:=⟨_,rfl⟩;rw[<-c7]at ea a3 CB au;have f:=ag c7;have eK:=ag a3;have dQ:=ag a2;have dS:=ag hp;have dI:=ag ej;have X:=ag b6;have aU:=ao.fC;rw[ca.1,ca.2]at CB;clear ao c8 a3 cM cH c7 a2 hp ej b6 ca;go_enter func128,ntmps128
 go_wp2_with fail
 obtain⟨z,bs⟩:∃z,z=w.heap.size:=⟨_,rfl⟩;obtain⟨w1,bZ⟩:∃w1,w1=w.alloc (.cells #[ae av,ae aw,ak F] 29):=⟨_,rfl⟩;have a4:Below w.heap.size w w1:=by rw[bZ];exact(aI _ _).alloc (aB _) _
 have a8:w1.heap[z]? =some (.cells #[ae av,ae aw,ak F] 29 (0,0)):=by rw[bZ,bs];exact bW w _
 have db:=(a4.block tb fN).trans eK.o;rw[<-bZ];clear bZ;have bS:w1.cell? (af tb 3)=some (aj fb):=aD db;refine(yG tb fb w1 bS).mono ?_;rintro e w' ⟨rfl,fd⟩;subst w'
 go_upto_region 3 with fail
 rw[<-bs];have gV:hi<=z:=by rw[bs];exact aU.2.2.2.2
 have gt:=ag bs;clear bs;have fS:=ah (w:=w1) (ad:=(af tb 0)) (v:=.slice ct n cv) (aD db);have dj:=ah (w:=w1) (ad:=(af z 0)) (v:=.int .i64 av) (aD a8);have dk:=ah (w:=w1) (ad:=(af z 1)) (v:=.int .i64 aw) (aD a8);have fU:=ah (w:=w1) (ad:=(af z 2)) (v:=.int .u32 F) (aD a8);have dD:Hid (∀p:aS w1,aK 191 #[.slice ct n cv,jc av aw F,.func (.func 94) #[] #[]] p.W fun e w'=>e=.returned (.tuple #[ae x,.bool true])/\Below p.W.heap.size p.W w'):=fun p=>CB.o p.W (a4.trans (p.h.mono a4.size));refine bH aM aM ?_
 repeat(quiet_step ((go_at_call 191;exact dL (dD.o _))))
 refine jP ?_;intro w2 bw;have cT:Below w1.heap.size w1 w2:=by obtain⟨p,rfl⟩:=bw;exact p.h
 clear bw dD fS dj dk fU CB bS;have bx:=(cT.block z (aY.1 a8).1).trans a8;have b2:Below w.heap.size w w2:=a4.trans (cT.mono a4.size);have aE:Hid (gK w2 lo hi tb fb R gone YS.length YS (nu R.length YS) (xn R.length YS) V):=dQ.o.below b2 aU.2.2.2.2;have dy:=ag b2;have dV:=ag bx;have dc:=aE.o.blk;have e2:w2.cell? (af tb 0)=some (.slice ct n cv):=by simp[World.cell?,dc];rw[eM.o,f.o]
 have bo:=aE.o.DR;rw[bc.o]at bo;obtain⟨an,gz,cI,_,_⟩:=aV bo (by have:=f.o;omega);injection cI with cI e8 e9;subst cI;clear e8 e9;have e3:w2.cell? (af tb 2)=some (aA an n fe):=by simp[World.cell?,dc];rw[bc.o,f.o]
 have gp:w2.cell? (af z 0)=some (ae av):=aD bx;have x1:w2.cell? (af z 1)=some (ae aw):=aD bx;have x2:w2.cell? (af z 2)=some (ak F):=aD bx;have ac:x<R.length:=by rw[<-f.o];exact au
 obtain⟨b,off,e5,fo,b9⟩:=(eX.o.below b2).get aa;have dq:=b9 x ac 0 aa;have dr:=b9 x ac 1 aa;have ds:=b9 x ac 2 aa;rw[dS.o]at dq dr ds;simp only[dw,fZ,dC,dK]at dq dr ds;have cN:=bo.cellAt x aa;have gq:=bo.frozenAt x;rw[iB,dI.o]at cN;simp only[fT]at cN;subst e5;clear b9 bo b2 a4 cT db a8 dc bx dQ
 go_upto_region 4 with fail
 go_quiet (fail)
 go_upto_region 7 with fail
 obtain⟨w3,bi⟩:∃w3,w3=(w2.drewN nq).setCell (af an x) (.bool true):=⟨_,rfl⟩;have cC:Hid (gK w3 lo hi tb fb R (gone.set x true) YS.length YS (nu R.length YS) (xn R.length YS) V):=by
  rw[bi];exact gK.Ra (aE.o.below (Below.bu w2.heap.size nq) aE.o.fC.2.2.2.2) bc.o x
 have eg:lo<=an/\an<hi:=⟨(aE.o.DR.lt an (by rw[bc.o];rfl)).1,aE.o.top V.gv ay an (by rw[bc.o];rfl)⟩;have dJ:Hid (ax (fun k=>lo<=k/\k<hi) w w3):=by
  rw[bi];exact(((ax.refl _ w).below dy.o).below (Below.bu w2.heap.size nq)).set (a:=(af an x)) _ (.inl eg)
 have dW:Hid (w3.heap[z]? =some (.cells #[ae av,ae aw,ak F] 29 (0,0))):=by
  rw[bi];exact(aF (show an≠z by omega)).trans dV.o
 rw[<-bi];clear bi e2 e3 gp x1 x2 dq dr ds cN gq dy dV aE eg fo;have co:x∈YS:=(X.o.live x).2 dI.o;have fn:=X.o.len;have gF:0<YS.length:=List.length_pos_of_mem co;have dd:=cC.o.blk;have e4:w3.cell? (af tb 7)=some (ae YS.length):=aD dd;have eF:w3.frozen? (af tb 7)=false:=aD dd;obtain⟨m,ep⟩:∃m,m=YS.length-1:=⟨_,rfl⟩;have gT:(YS.length:Int)-1=(m:Int):=aa;have eV:Hid (m=(dZ YS x).length):=by rw[ep];exact(OT X.o.nodup co).symm
 have gG:YS.length<=20000:=by rw[f.o]at ea;omega
 have e1:=ag co;clear ep fn dd co
 go_upto_region 8 with fail
 obtain⟨w4,bj⟩:∃w4,w4=w3.setCell (af tb 7) (.int .i64 m):=⟨_,rfl⟩;have bf:Hid (gK w4 lo hi tb fb R (gone.set x true) m YS (nu R.length YS) (xn R.length YS) V):=by rw[bj];exact cC.o.BV m
 have dM:Hid (ax (fun k=>lo<=k/\k<hi) w w4):=by rw[bj];exact dJ.o.set (a:=(af tb 7)) _ (.inl ⟨aU.1,aU.2.1⟩)
 have bR:Hid (w4.heap[z]? =some (.cells #[ae av,ae aw,ak F] 29 (0,0))):=by rw[bj];exact(aF (show tb≠z by omega)).trans dW.o
 rw[<-bj];clear bj e4 eF cC dJ dW;have ew:=bf.o.blk;have bS:w4.cell? (af tb 3)=some (aj fb):=aD ew;have dv:=ag (vI lo fb n x V.fv aa au w4 (by rw[f.o];exact bf.o.iH));clear ew
 go_wp2_with fail
 refine dv.o.mono ?_;rintro e aC ⟨pv,rfl,ch,bm⟩;have fL:=bf.o.fC.2.2.2.2;have eT:Hid (gK aC lo hi tb fb R (gone.set x true) m YS (nu R.length YS) (xn R.length YS) V):=bf.o.below bm fL;have eO:Hid (ax (fun k=>lo<=k/\k<hi) w aC):=dM.o.below bm;have eZ:=ag ((bm.block z (aY.1 bR.o).1).trans bR.o);have gU:w4.heap.size<=aC.heap.size:=bm.size;have cE:=ag ch;have gX:z<w4.heap.size:=(aY.1 bR.o).1;clear bS dv bf dM bR bm;obtain⟨P,b5⟩:∃P,P=(dP 0 n).path 0 x:=⟨_,rfl⟩;rw[<-b5]at ch cE;have gD:P.length<=n+1:=by
  have J:=FT.oH (dP 0 n) 0 x;have aL:=vE 0 n n (vv (Es));rw[b5];omega
 have aG:=ag b5;obtain⟨g1,g2,rfl⟩:=fI ch;clear ch b5
 go_wp2_with fail
 go_loopg [72] P.length (fun dl gm wr=>∃(j:Nat) (yy:List Nat) (nc:Nat->List Nat) (lc:Nat->List Int) (V:wN),gm=.int .i64 j/\j<=P.length/\P.length-j<=dl/\
  Hid (gK wr lo hi tb fb R (gone.set x true) m yy nc lc V)/\Hid (yy=if 0<j then dZ YS x else YS)/\Hid (∀k,k<(aX R.length).length->nc k=nu n (ma YS x (P.take j) k) k)/\Hid (∀l r s,FT.At (aX R.length) (.node l r) s->lc ((FT.node l r).root s)=xn n (ma YS x (P.take j) ((FT.node l r).root s)) ((FT.node l r).root s))/\
  Hid (ax (fun k=>lo<=k/\k<hi) aC wr))
 case atStart=>
  refine⟨0,YS,_,_,V,rfl,bD _,aa,eT,rfl,?_,?_,ax.refl _ _⟩
  .intro k Z;rw[f.o,lQ,DX]
  .intro l r s aq;rw[f.o,lQ,DX]
 case round=>
  obtain⟨j,yy,nc,lc,V,rfl,gO,gR,al,cF,cD,bO,be⟩:=hrel;by_cases a6:j<P.length
  .have T:0<n:=aa;obtain⟨cm,fF,fy⟩:=bJ 0 n T;obtain⟨k,Z⟩:∃k,k=P[j]:=⟨_,rfl⟩;have eo:k∈(dP 0 n).path 0 x:=by rw[<-aG.o,Z];exact bF _
   obtain⟨⟨t,s⟩,df,bv,cq,cp⟩:=FT.ng (dP 0 n) 0 x cm aa aa k eo;simp only at bv cq cp;have cS:=jU n T;rw[fM T]at cS;have aq:FT.At (aX n) t s:=by rw[fM T];exact FT.kW _ 0 cS _ df
   have ey:t.wf:=FT.qw _ 0 cm _ df;have c3:k<(aX n).length:=bv▸aq.lt;have cg:P.Pairwise (·>·):=by rw[aG.o];exact FT.tO _ 0 x cm aa aa
   have c4:k∉P.take j:=fun h=>by
    obtain⟨q,fJ,e⟩:=jo h;rw[xZ]at e;rw[eH]at fJ;have:=gQ.1 cg q j aa a6 aa;omega
   have da:(k=2*n-2)↔j=0:=by
    obtain⟨Q,aT⟩:=FT.sZ (dP 0 n) 0 x;rw[lH T]at aT;have fg:P[0]'aa=2*n-2:=by
     have:P=(2*n-2)::Q:=by rw[aG.o,aT]
     simp only[this,nE]
    constructor
    .intro h;by_cases e:j=0
     .exact e
     .have:=gQ.1 cg 0 j aa a6 aa;omega
    .intro h;subst h;rw[Z,fg]
   have cf:nc k=nl YS t:=by
    rw[cD.o k (by rw[<-f.o];exact c3),ma,aN c4,nu,<-bv,mG aq]
   obtain⟨L,ap⟩:∃L,L=nl YS t:=⟨_,rfl⟩;rw[<-ap]at cf;have b3:L.Nodup:=by rw[ap];exact lX _ X.o.nodup
   have dg:x∈L:=by rw[ap];exact bG.2 ⟨e1.o,by simpa using⟨cq,cp⟩⟩
   obtain⟨i,C,ar⟩:=jo dg;have gB:L.length<=20000:=by
    have J:L.length<=YS.length:=by rw[ap];exact fO _ _
    omega
   have eq:nl (dZ YS x) t=L.eraseIdx i:=by
    subst ap;exact Mf X.o.nodup C ar
   have B:Hid (FT.At (aX n) t s/\t.root s=k/\t.wf/\t.lo<=x/\x<t.hi/\L=nl YS t/\nc k=L/\L.Nodup/\nl (dZ YS x) t=L.eraseIdx i/\k∉P.take j/\k=P[j]/\k<(aX n).length/\P.Pairwise (·>·)/\∃h:i<L.length,L[i]=x):=⟨aq,bv,ey,cq,cp,ap,cf,b3,eq,c4,Z,c3,cg,C,ar⟩;have cW:=al.o.blk;have cQ:(aX R.length).length=(aX n).length:=by rw[f.o]
   obtain⟨gl,cl,bV,_,_⟩:=aV al.o.EO aa;have I:cK wr lo gl (aX R.length).length cl V.LN V.LL:=by have h:=al.o.EO;rw[bV]at h;exact h
   have E:=al.o.Gg k aa;rw[cf]at E;obtain⟨g,c,bT,_,_⟩:=aV E aa;rw[bT]at E;have fG:(aX n).length<=40000:=by rw[dh];omega
   obtain⟨am,b4⟩:∃am,am=(aX n).length:=⟨_,rfl⟩;have gP:k<am:=aa;have gC:am<=40000:=aa;have gg:wr.cell? (af tb 5)=some (aA gl am cl):=by simp[World.cell?,cW];rw[bV,b4,cQ]
   have dm:wr.cell? (af tb 3)=some (aj fb):=aD cW;have bC:wr.cell? ⟨gl,k*2,none⟩=some (.slice (some ⟨g,0,none⟩) L.length c):=(I.get aa).1.trans (congrArg some bT);have eb:wr.heap[z]? =some (.cells #[ae av,ae aw,ak F] 29 (0,0)):=bq be.o eZ.o (fun h=>aa);have eB:wr.cell? (af z 2)=some (ak F):=aD eb;have cR:=aR cE.o be.o (fun g h aL=>by have:=(cE.o.lt g h).1;have:=aU.2.2.2.2;omega);obtain⟨gA,gx,cJ,_,_⟩:=aV cR aa;injection cJ with cJ fa fc;subst cJ;have dn:=cR.cellAt j aa;rw[iB,cB a6,<-Z]at dn;simp only[fT]at dn;have du:Hid (∀W,Below wr.heap.size wr W->aK 196 #[aA g L.length c,ak F] W (fw W (ae i))):=fun W cV=>by
    have fK:=az E cV;obtain⟨gu,gw,D,-,-,eu⟩:=Rd.aJ fK;injection D with D H d2;rw[<-D]at eu;have er:F=jN R x:=by
     unfold jN bU;have ac:x<R.length:=by rw[<-f.o];exact au
     rw[jb,cB ac];simp[dS.o]
    have S:F∈L.map (jN R):=by rw[er];exact dA.2 ⟨x,dg,rfl⟩
    refine(Rb (some (af g 0)) (L.map (jN R)) L.length c F W ay eu aa S).mono ?_;rintro e w' ⟨⟨aZ,fp,fz,a5⟩,rfl⟩;rw[fP,er]at a5;have cY:aZ<L.length:=aQ fz;have fj:∀y∈L,y<R.length:=fun y a9=>X.o.lt (by rw[ap]at a9;exact(bG.1 a9).1);have ez:L[aZ]=x:=by
     have J:=fj _ (bF cY);have ac:x<R.length:=by rw[<-f.o];exact au
     unfold jN bU at a5;rw[jb,jb,cB J,cB ac]at a5;simp only[gH]at a5;by_cases e:L[aZ]=x
     .exact e
     .exfalso;have hid:=dz.1 X.o.ids;rcases Nat.lt_or_gt_of_ne e with h9|h9
      .exact gQ.1 hid _ _ J ac h9 a5
      .exact gQ.1 hid _ _ ac J h9 a5.symm
    have fA:aZ=i:=by
     by_cases e:aZ=i
     .exact e
     .exfalso;rcases Nat.lt_or_gt_of_ne e with h9|h9
      .exact gQ.1 b3 aZ i cY C h9 (by rw[ez,ar])
      .exact gQ.1 b3 i aZ C cY h9 (by rw[ez,ar])
    subst fA;exact⟨fp,aI _ _⟩
   have dx:Hid (∀W,Below wr.heap.size wr W->aK 95 #[aj fb] W fun e w'=>e=.returned (ae ((2*n-2:Nat):Int))/\w'=W):=fun W cV=>by
    have ee:=al.o.iH.blk;have cX:=(cV.block fb (aY.1 ee).1).trans ee;rw[<-f.o]at cX;exact jF fb n T aa W (aD cX) (aD cX)
   have K:=ag (And.intro bV bT);have dR:Hid (am=(aX n).length/\(aX R.length).length=am):=⟨b4,by rw[cQ,b4]⟩;clear aq bv df ey cq cp ap cf b3 eq c4 Z cg ar dg cS eo cW I E eb cR fa fc b4 cQ c3 fG bV bT cm fF fy
   go_upto_region 13 with fail
   have dj:=ah bC;have dk:=ah eB;have dB:Hid (∀p:aS wr,aK 196 #[aA g L.length c,ak F] p.W fun e w'=>e=.returned (ae i)/\Below p.W.heap.size p.W w'):=fun p=>du.o p.W p.h;refine bH aM aM ?_
   repeat(quiet_step ((go_at_call 196;exact dL (dB.o _))))
   refine jP ?_;intro w6 bw;have cU:Below wr.heap.size wr w6:=by obtain⟨p,rfl⟩:=bw;exact p.h
   have bN:=ag cU;have fQ:tb<wr.heap.size:=gW wr _ dm;have ge:=(cU.cell (p:=(af tb 3)) fQ).trans dm;clear bw dj dk dB cU du dm gg bC eB dn;obtain⟨bz,cd⟩:∃bz,bz=decide (j=0):=⟨_,rfl⟩;have fV:((k:Int)==((2*n-2:Nat):Int))=bz:=by
    rw[cd,mU,beq_iff_eq,bQ,<-da];omega
   have fW:(k==2*n-2)=bz:=by
    rw[cd,mU,beq_iff_eq,bQ,<-da]
   have dN:=ag cd;clear cd da
   go_wp2_with fail
   refine(dx.o w6 bN.o).mono ?_;rintro e w' ⟨rfl,fd⟩;subst w'
   go_upto_if 95 with fail
   have a0:Hid (gK w6 lo hi tb fb R (gone.set x true) m yy nc lc V):=al.o.below bN.o al.o.fC.2.2.2.2;have gY:=bN.o.size;clear dx ge fV fW
   go_cut []from 73 to 175 (fun eE=>∃ba:Value,Hid (gK eE lo hi tb fb R (gone.set x true) m (dZ YS x) nc lc {V with yv:=ba})/\Hid (ax (fun k=>lo<=k/\k<hi) w6 eE))
   case first=>
    cases bz with
    |false=>
     have cc:0<j:=by
      have h:=dN.o;by_cases e:j=0
      .simp[e]at h
      .omega
     have D:=cF.o;rw[aO cc]at D;have eJ:Hid (gK w6 lo hi tb fb R (gone.set x true) m (dZ YS x) nc lc {V with yv:=V.yv}):=by
      have h:=a0.o;rw[D]at h;exact h
     clear D;go_wp2;go_meet;exact⟨V.yv,eJ.o,ax.refl _ _⟩
    |true=>
     have cc:j=0:=by
      have h:=dN.o;simpa using h.symm
     have D:=cF.o;rw[aN aa]at D;have cO:L=YS:=by
      obtain⟨f1,f2,f3,f4,f5,f6,f7,f8,f9,f10,f11,f12,f13,f14⟩:=B.o;have fD:k=2*n-2:=by
       obtain⟨Q,aT⟩:=FT.sZ (dP 0 n) 0 x;rw[lH T]at aT;have fm:P=(2*n-2)::Q:=by rw[aG.o,aT]
       rw[f11];simp only[cc,fm,nE]
      obtain⟨ht,-⟩:=FT.At.unique f1 (jU n T) (by rw[f2,fD,lH T]);rw[f6,ht,f.o];exact X.o.top (by rw[<-f.o];exact T)
     have aW:=a0.o.ys;rw[D]at aW;obtain⟨Y,cG,bk,_,_⟩:=aV aW aa;rw[bk]at aW;have di:(jv R YS).length=YS.length:=by simp[jv]
     have cb:i<YS.length:=by rw[<-cO];exact C
     have ek:YS[i]'cb=x:=by
      obtain⟨f1,f2,f3,f4,f5,f6,f7,f8,f9,f10,f11,f12,f13,f14,f15⟩:=B.o;subst cO;exact f15
     have ec:YS.eraseIdx i=dZ YS x:=erase_filter X.o.nodup cb ek;have bM:=JC (l:=jv R YS) (i:=i) (by rw[di];exact aW) (by rw[di];exact cb);rw[di]at bM;have bM:=ag bM;have ci:=a0.o.blk;have g3:w6.cell? (af tb 6)=some (aA Y YS.length cG):=by simp[World.cell?,ci];rw[bk]
     have fx:tb≠Y:=fun h=>bn aW ci ai Y rfl h;have dF:=ag bk;have dX:=ag ec;have eL:=ag D;have gZ:tb<w6.heap.size:=(aY.1 ci).1;have fu:lo<=Y/\Y<hi:=⟨(aW.lt Y rfl).1,a0.o.top V.yv ay Y (by rw[bk];rfl)⟩;clear aW ci cO ec D bk ek cc
     go_wp2_with (go_at_call 197;refine bM.o.mono ?_;rintro e eD ⟨rfl,bt,c1⟩;have de:=bq c1 a0.o.blk fx;have g4:eD.cell? (af tb 6)=some (aA Y YS.length cG):=(by simp[World.cell?,de];rw[dF.o]);have eF:eD.frozen? (af tb 6)=false:=(aD de);have eW:=ag bt;have bd:=ag c1;clear bt c1 de)
     go_meet;have bt:=eW.o;refine⟨aA Y (YS.length-1) cG,?_,?_⟩
     .have h:=a0.o;rw[eL.o]at h;refine gK.U0 h dF.o bd.o (yy':=dZ YS x) ?_;have H:(jv R YS).eraseIdx i=jv R (dZ YS x):=by
       rw[<-dX.o];unfold jv;rw[om]
      have d2:(dZ YS x).length=YS.length-1:=by rw[<-dX.o,Ar,aO cb]
      rw[H]at bt;rw[d2];exact bt
     .exact(bd.o.mono (fun k h=>by subst h;exact fu)).set (a:=(af tb 6)) _ (.inl ⟨aU.1,aU.2.1⟩)
   case rest=>
    obtain⟨ba,a1,bd⟩:=hcut;have aP:k<(aX R.length).length:=by have:=dR.o;omega
    have E:=a1.o.Gg k aP;obtain⟨f1,f2,f3,f4,f5,f6,f7,f8,f9,f10,f11,f12,f13,f14,f15⟩:=B.o;rw[f7]at E;have E:wc.ownsRow lo 27 1 (V.LN k) L.length ((L.map (jN R)).map (Value.int .u32)):=E;rw[K.o.2]at E;have I:cK wc lo gl (aX R.length).length cl V.LN V.LL:=by have h:=a1.o.EO;have h:World.ownsRow _ _ _ _ V.lv _ _:=h;rw[K.o.1]at h;exact h
    have bC:wc.cell? ⟨gl,k*2,none⟩=some (.slice (some ⟨g,0,none⟩) L.length c):=(I.get aP).1.trans (congrArg some K.o.2);have fr:gl≠g:=fun h=>bB I E ai gl rfl (by rw[h];rfl);have c6:(L.map (jN R)).length=L.length:=ay;have bb:=JA (l:=L.map (jN R)) (i:=i) (by rw[c6];exact E) (by rw[c6];exact C);rw[c6]at bb;have bb:=ag bb;have fq:lo<=g/\g<hi:=⟨(E.lt g rfl).1,(a1.o.oQ k aP).1 g (by show(V.LN k).ownBlock=some g;rw[K.o.2];rfl)⟩;have ei:lo<=gl/\gl<hi:=⟨(I.lt gl rfl).1,a1.o.top V.lv ay gl (by rw[K.o.1];rfl)⟩;have ft:gl<wc.heap.size:=(I.lt gl rfl).2;have eI:=I.frozenAt (k*2);clear f1 f2 f3 f4 f5 f6 f7 f8 f9 f10 f11 f12 f13 f15 E I
    go_upto_region 17 with(go_at_call 198;refine bb.o.mono ?_;rintro e go ⟨rfl,et,c2⟩;obtain⟨d1,d6⟩:=cu c2 ft fr;have gh:=(d1 (k*2)).trans bC;have gs:=(d6 (k*2)).trans eI;have dU:=ag et;have cy:=ag c2;clear et c2 d1 d6)
    obtain⟨A,b1⟩:∃A,A=go.setCell (af gl (k*2)) (aA g (L.length-1) c):=⟨_,rfl⟩;have fi:(L.eraseIdx i).length=L.length-1:=by rw[Ar,aO C]
    have U:Hid (gK A lo hi tb fb R (gone.set x true) m (dZ YS x) (nC nc k (L.eraseIdx i)) lc {V with yv:=ba,LN:=upd V.LN k (aA g (L.length-1) c)}):=by
     rw[b1];refine gK.TD a1.o aP K.o.2 K.o.1 cy.o (L':=L.eraseIdx i) ?_;have h:=dU.o;rw[om]at h;rw[fi];exact h
    have cA:Hid (ax (fun k=>lo<=k/\k<hi) aC A):=by
     rw[b1];exact((((be.o.below bN.o).trans bd.o).trans (cy.o.mono (fun k h=>by subst h;exact fq))).set (a:=(af gl (k*2))) _ (.inl ei))
    rw[<-b1];clear b1 gh gs dU cy a1 bd bC eI bb;have ex:=U.o.blk;have br:=U.o.jg;have br:A.ownsRow lo 163 7 V.nv (aX R.length).length ((aX R.length).flatMap oM):=br;obtain⟨ff,cn,cL,_,_⟩:=aV br aa;obtain⟨_,_,d3,-,-,c9⟩:=bY.aJ jA ai br;rw[cL]at d3;injection d3 with d4 e6 e7;rw[<-d4,<-f.o]at c9;clear d4 e6 e7;have gf:A.cell? (af tb 4)=some (aA ff am cn):=by
     simp[World.cell?,ex];rw[cL,<-dR.o.2]
    obtain⟨gL,n0,fX,fY,f0,ga,gb,gc⟩:=mY c9 (by have h:=B.o.1.get;rw[B.o.2.1]at h;exact h);rw[kH]at n0;have d8:∀k',k'<(aX R.length).length->nC nc k (L.eraseIdx i) k'=nu n (ma YS x (P.take (j+1)) k') k':=fun k' fB=>by
     obtain⟨f1,f2,f3,f4,f5,f6,f7,f8,f9,f10,f11,f12,f13,f14,f15⟩:=B.o;have S:k'∈P.take (j+1)↔k'∈P.take j\/k'=k:=by rw[ic a6,<-f11];simp
     by_cases e:k'=k
     .subst e;rw[jK,ma,aO (S.2 (.inr rfl)),nu,<-f2,mG f1,f9]
     .rw[xm e,cD.o k' fB];unfold ma;by_cases H:k'∈P.take j
      .rw[aO H,aO (S.2 (.inl H))]
      .rw[aN H,aN (fun h=>(S.1 h).elim H e)]
    have dG:=ag d8;have d9:∀k',k'≠k->∀v,lc k'=xn n (ma YS x (P.take j) k') k'->nC lc k v k'=xn n (ma YS x (P.take (j+1)) k') k':=fun k' e v h=>by
     obtain⟨f1,f2,f3,f4,f5,f6,f7,f8,f9,f10,f11,f12,f13,f14,f15⟩:=B.o;have S:k'∈P.take (j+1)↔k'∈P.take j\/k'=k:=by rw[ic a6,<-f11];simp
     rw[xm e,h];unfold ma;by_cases H:k'∈P.take j
     .rw[aO H,aO (S.2 (.inl H))]
     .rw[aN H,aN (fun h=>(S.1 h).elim H e)]
    have dH:=ag d9;clear d8 d9 c9 br ex cL fX fY f0 ga gb gc;have eA:dZ YS x=if 0<j+1 then dZ YS x else YS:=by rw[aO aa]
    have dY:=ag eA;clear eA;cases ht:t with
    |leaf q=>
     rw[ht]at n0;simp only[FT.top]at n0;have aH:=ag ht;clear ht;have en:nC lc k (lc k)=lc:=by
      funext k';unfold nC;split
      .rename_i e;rw[e]
      .rfl
     have eP:=ag en;clear en;go_wp2
     go_roundg (P.length-(j+1))
     case measure=>omega
     case rel=>
      refine⟨j+1,dZ YS x,_,lc,_,by go_num,aa,aB _,U,dY.o,dG.o,?_,cA⟩;intro l r bE b8;have fH:(FT.node l r).root bE≠k:=fun e=>by
       have J:=B.o.1;rw[aH.o,f.o]at J;have:=(FT.At.unique b8 J (by rw[e,<-B.o.2.1,aH.o])).1;cases this
      have h9:=dH.o _ fH (lc k) (bO.o l r bE b8);rw[eP.o]at h9;exact h9
    |node l r=>
     rw[ht]at n0;simp only[FT.top]at n0;have aH:=ag ht;clear ht;obtain⟨M,a2⟩:∃M,M=l.hi:=⟨_,rfl⟩;have bl:FT.At (aX R.length) (.node l r) s:=by rw[<-f.o,<-aH.o];exact B.o.1
     have a7:(FT.node l r).root s=k:=by rw[<-aH.o];exact B.o.2.1
     have cP:L=nl YS (.node l r):=by rw[<-aH.o];exact B.o.2.2.2.2.2.1
     have c5:lc k=lf M L:=by
      rw[<-a7,bO.o l r s bl,a7,ma,aN B.o.2.2.2.2.2.2.2.2.2.1];have h9:=Ah (n:=n) (by rw[f.o];exact bl) YS;rw[a7]at h9;rw[h9,a2,<-cP]
     have O:A.ownsRow lo 3 1 (V.LL k) (lc k).length ((lc k).map (Value.int .i64)):=by have h9:=U.o.Br l r s bl;rw[a7]at h9;exact h9
     rw[c5]at O;have ab:=rZ M L;obtain⟨u,G,bh,_,_⟩:=aV O aa;rw[bh]at O;have ar:=B.o.2.2.2.2.2.2.2.2.2.2.2.2.2;have bp:cK A lo gl (aX R.length).length cl (upd V.LN k (aA g (L.length-1) c)) V.LL:=by have h:=U.o.EO;have h:World.ownsRow _ _ _ _ V.lv _ _:=h;rw[K.o.1]at h;exact h
     have bA:A.cell? ⟨gl,k*2+1,none⟩=some (.slice (some ⟨u,0,none⟩) (L.length+1) G):=by
      exact(bp.get aP).2.trans (congrArg some (bh.trans (by rw[ab])))
     have cr:=O.cellAt (i+1) aa;have cs:=O.cellAt i aa;rw[iB,cB (show i+1<(lf M L).length by omega)]at cr;rw[iB,cB (show i<(lf M L).length by omega)]at cs;simp only[fT]at cr cs;obtain⟨bI,cj⟩:∃bI,bI=(lf M L)[i+1]'aa:=⟨_,rfl⟩;obtain⟨bK,ck⟩:∃bK,bK=(lf M L)[i]'aa:=⟨_,rfl⟩;rw[<-cj]at cr;rw[<-ck]at cs;have fR:bI-bK=if x<M then 1 else 0:=by rw[cj,ck];exact QT C ar.2 _ _
     have g0:0<=bI/\bI<=20000/\0<=bK/\bK<=20000:=by
      have J:=OQ (m:=M) (L:=L) (cj▸bF _);have aL:=OQ (m:=M) (L:=L) (ck▸bF _);omega
     obtain⟨W,b7⟩:∃W,W=(if x<M then(1:Int)else 0):=⟨_,rfl⟩;rw[<-b7]at fR;have gE:0<=W/\W<=1:=by rw[b7];split<;>omega
     have eY:=ag b7;have eR:=ag c5;have bL:=Fh (l:=lf M L) (i:=i+1) (by rw[ab];rw[ab]at O;exact O) aa;rw[ab]at bL;have bL:=ag bL;have fs:gl≠u:=fun h=>bB bp O ai gl rfl (by rw[h];rfl);have ef:lo<=u/\u<hi:=⟨(O.lt u rfl).1,(U.o.oQ k aP).2 u (by show(V.LL k).ownBlock=some u;rw[bh];rfl)⟩;have eh:gl<A.heap.size:=(bp.lt gl rfl).2;have eG:=bp.frozenAt (k*2+1);have dE:=ag bh;have N:=ag (And.intro bl a7);have eU:=ag (And.intro a2 cP);have gM:i+1<L.length+1:=aa;clear O bp cj ck b7 c5 bh bl a7 a2 cP ab ar
     go_upto_region 18 with fail
     go_quiet (fail)
     have gi:(A.drewN nq).cell? (af gl (k*2+1))=some (aA u (L.length+1) G):=bA;have dt:Hid (∀q,aK 199 #[aA u (L.length+1) G,ae (i+1:Nat),ae (i+1+1:Nat)] (A.drewN q) fun e w'=>e=.returned (aA u L.length G)/\w'.ownsRow lo 3 1 (aA u L.length G) L.length (((lf M L).eraseIdx (i+1)).map (Value.int .i64))/\ax (fun k=>k=u) A w'):=fun q=>by
      have ab:=rZ M L;have h9:=U.o.Br l r s N.o.1;rw[N.o.2]at h9;have h9:A.ownsRow lo 3 1 (V.LL k) (lc k).length ((lc k).map (Value.int .i64)):=h9;rw[eR.o,dE.o,ab]at h9;have d7:=Fh (w:=A.drewN q) (l:=lf M L) (i:=i+1) (by rw[ab];exact h9) aa;rw[ab]at d7;refine d7.mono ?_;rintro e w' ⟨J,aL,fh⟩;exact⟨J,aL,((ax.refl (fun k=>k=u) A).below (Below.bu A.heap.size q)).trans fh⟩
     clear bL
     go_upto_region 20 with(go_at_call 199;refine(dt.o _).mono ?_;rintro e gn ⟨rfl,es,c0⟩;obtain⟨d0,d5⟩:=cu c0 eh fs;have gd:=(d0 (k*2+1)).trans bA;have gr:=(d5 (k*2+1)).trans eG;have dT:=ag es;have cx:=ag c0;clear es c0 d0 d5)
     have fk:∃h:i<L.length,L[i]=x:=B.o.2.2.2.2.2.2.2.2.2.2.2.2.2;obtain⟨cw,b0⟩:∃cw,cw=gn.setCell (af gl (k*2+1)) (aA u L.length G):=⟨_,rfl⟩;have fE:=tN (m:=M) C;have eS:Hid (gK cw lo hi tb fb R (gone.set x true) m (dZ YS x) (nC nc k (L.eraseIdx i)) (nC lc k (zR M L i (i+1))) {V with yv:=ba,LN:=upd V.LN k (aA g (L.length-1) c),LL:=upd V.LL k (aA u L.length G)}):=by
      rw[b0];refine gK.TE U.o N.o.1 N.o.2 dE.o K.o.1 cx.o (L':=zR M L i (i+1)) ?_;rw[Mg C,fE];exact dT.o
     have eN:Hid (ax (fun k=>lo<=k/\k<hi) aC cw):=by
      rw[b0];exact(cA.o.trans (cx.o.mono (fun k h=>by subst h;exact ef))).set (a:=(af gl (k*2+1))) _ (.inl ei)
     rw[<-b0];clear b0 gd gr dT cx U cA bA gi cr cs eG dt gf n0 eh
     go_wp2_with fail
     go_loopg [14] L.length (fun dl gj wr=>∃d:Nat,gj=.int .i64 d/\i+1<=d/\d<=L.length/\L.length-d<=dl/\Hid (gK wr lo hi tb fb R (gone.set x true) m (dZ YS x) (nC nc k (L.eraseIdx i)) (nC lc k (zR M L i d)) {V with yv:=ba,LN:=upd V.LN k (aA g (L.length-1) c),LL:=upd V.LL k (aA u L.length G)})/\Hid (ax (fun k=>lo<=k/\k<hi) aC wr))
     case atStart=>exact⟨i+1,rfl,aB _,aa,aa,eS,eN⟩
     case round=>
      obtain⟨d,rfl,gN,el,gS,bP,dO⟩:=hrel;have I:cK wr lo gl (aX R.length).length cl (upd V.LN k (aA g (L.length-1) c)) (upd V.LL k (aA u L.length G)):=by have h:=bP.o.EO;have h:World.ownsRow _ _ _ _ V.lv _ _:=h;rw[K.o.1]at h;exact h
      have bA:=(I.get aP).2;rw[upd_same]at bA;have ce:wr.ownsRow lo 3 1 (aA u L.length G) L.length ((zR M L i d).map (Value.int .i64)):=by
       have h:=bP.o.Br l r s N.o.1;rw[N.o.2,jK]at h;have h:wr.ownsRow lo 3 1 (upd V.LL k (aA u L.length G) k) (zR M L i d).length ((zR M L i d).map (Value.int .i64)):=h;rw[upd_same,qx C el]at h;exact h
      clear I;by_cases cZ:d<L.length
      .have dp:=ce.cellAt d aa;have g5:=ce.frozenAt d;have em:d<(zR M L i d).length:=by rw[qx C aa];exact cZ
       rw[iB,cB em]at dp;simp only[fT]at dp;have ed:=TH (m:=M) C cZ;obtain⟨y,a9⟩:∃y,y=(zR M L i d)[d]'em:=⟨_,rfl⟩;rw[<-a9]at dp ed;have ev:(zR M L i d).set d (y-W)=zR M L i (d+1):=by
        rw[a9,eY.o];exact Oq C fk.2 aa cZ
       have gJ:0<=y/\y<=20000:=aa;have e0:Hid (gK (wr.setCell (af u d) (.int .i64 (y-W))) lo hi tb fb R (gone.set x true) m (dZ YS x) (nC nc k (L.eraseIdx i)) (nC lc k (zR M L i (d+1))) {V with yv:=ba,LN:=upd V.LN k (aA g (L.length-1) c),LL:=upd V.LL k (aA u L.length G)}):=by
        have h:=gK.TF bP.o N.o.1 N.o.2 (c:=G) (g:=u) (by rw[jK,qx C el];exact upd_same _ _ _) (j:=d) (y-W);rw[jK,Mw,ev]at h;exact h
       have eQ:Hid (ax (fun k=>lo<=k/\k<hi) aC (wr.setCell (af u d) (.int .i64 (y-W)))):=dO.o.set (a:=(af u d)) _ (.inl ef);clear a9 ev ce ed;go_wp2
       go_roundg (L.length-(d+1))
       case measure=>omega
       case rel=>exact⟨d+1,by go_num,aa,aa,aB _,e0,eQ⟩
      .obtain rfl:d=L.length:=aa;clear ce;go_wp2
       go_roundg (P.length-(j+1))
       case measure=>omega
       case rel=>
        refine⟨j+1,dZ YS x,_,_,_,by go_num,aa,aB _,bP,dY.o,dG.o,?_,dO⟩;intro l' eC bE b8;by_cases e:(FT.node l' eC).root bE=k
        .obtain⟨f1,f2,f3,f4,f5,f6,f7,f8,f9,f10,f11,f12,f13,f14⟩:=B.o;have S:k∈P.take (j+1):=by rw[ic a6,<-f11];simp
         have h9:=Ah (n:=n) (by rw[f.o];exact N.o.1) (dZ YS x);rw[N.o.2]at h9;rw[e,jK,Oo C,ma,aO S,h9,eU.o.1];rw[aH.o]at f9;rw[f9]
        .exact dH.o _ e _ (bO.o l' eC bE b8)
  .obtain rfl:j=P.length:=aa;have gI:=be.o.size;go_wp2;go_ret;have D:=cF.o;have fl:0<P.length:=by
    rw[aG.o];obtain⟨Q,aT⟩:=FT.sZ (dP 0 n) 0 x;rw[aT];simp
   rw[aO fl]at D;subst D;have aL:=al.o;rw[eV.o]at aL;refine⟨rfl,V,aL.toAt (fun k Z=>?_) (fun l r s aq=>?_),eO.o.trans be.o⟩
   .rw[cD.o k Z,jO,<-f.o,aG.o];exact(BX au YS (by rw[f.o];exact Z)).1
   .rw[bO.o l r s aq,jO,<-f.o,aG.o];exact(BX au YS (by rw[f.o];exact aq.lt)).2
end
section
open Go.RowKit Go.Sort Go.Shelf Go.Lib Go.Maps
def iq (w:World) (lo hi tb n0:Nat) (l:List Pt):Prop:=
 ∃fb R gone YS V,jw w lo hi tb fb R gone YS V/\cz R gone YS/\sF R YS l/\R.length=n0/\n0<=20000
section
variable {w w':World} {lo hi tb n0:Nat} {l:List Pt}
theorem iq.kept {S:Nat->Prop} (h:iq w lo hi tb n0 l) (K:ax S w w') (hS:∀k,lo<=k->k<hi->¬S k):iq w' lo hi tb n0 l:=by
 have⟨fb,R,gone,YS,V,a,b⟩:=h;exact⟨fb,R,gone,YS,V,a.kept K hS,b⟩
theorem iq.below {B:Nat} (h:iq w lo hi tb n0 l) (d:Below B w w') (c:hi<=B):iq w' lo hi tb n0 l:=by
 have⟨fb,R,gone,YS,V,a,b⟩:=h;exact⟨fb,R,gone,YS,V,a.below d c,b⟩
theorem OU (a:Option Addr) (c:Nat) (l:List Pt) (w:World) (j:bY dw 3 w a l) (m:l.length<=20000) (o:IA l) (hu:lK l=true):
  aK 35 #[.slice a l.length c] w fun e w'=>∃tb,e=.returned (.tuple #[aj tb,ae 0])/\iq w' w.heap.size w'.heap.size tb l.length l/\Below w.heap.size w w':=
 (JE a c l w j m o hu).mono fun e w' ⟨tb,fb,V,h,f,g⟩=>by
  have b:(ids l).Nodup:=by unfold lK at hu;simpa using hu
  have n:=fU b;have hid:(ids (eZ l)).Nodup:=((dQ l).map _).nodup_iff.2 b;have d:=qA n hid;have k:(eZ l).length=l.length:=(dQ l).length_eq;refine⟨tb,h,⟨fb,_,_,_,V,f,d,zz b _ (fun i=>?_),k,aa⟩,g⟩;rw[d.live,rz];split<;>simp_all
theorem KY (h:iq w lo hi tb n0 l) (x1 x2 y1 y2 b:Int):
  aK 39 #[aj tb,.agg #[ae x1,ae x2,ae y1,ae y2,ak b]] w fun e w'=>∃v,∃c:Nat,e=.returned (.tuple #[v,ae ((c+(hasB l x1 x2 y1 y2).length:Nat):Int)])/\c<=8*Lib.bitLen n0+1/\w'.ownsRow w.heap.size 27 1 v (hasB l x1 x2 y1 y2).length ((hasB l x1 x2 y1 y2).map (Value.int .u32))/\Below w.heap.size w w':=by
 have⟨fb,R,gone,YS,V,k,a,m,n,p⟩:=h;refine(Gz k a aa x1 x2 y1 y2 b).mono ?_;rintro e w' ⟨v,f,g,o⟩;have⟨i,j⟩:=BG a m x1 x2 y1 y2;have d:(ky R YS x1 x2 y1 y2).1.length=(hasB l x1 x2 y1 y2).length:=by
  rw[j];unfold hasB;rw[gV];simp[ids]
 rw[i,d]at g;rw[d]at f;exact⟨v,_,f,n▸DU a aa x1 x2 y1 y2,g,o⟩
theorem OV (x1 x2 y1 y2:Int):(hasB l x1 x2 y1 y2).length=(l.filter (Dc x1 x2 y1 y2)).length:=by unfold hasB;rw[gV];simp[ids]
theorem OW (h:iq w lo hi tb n0 l) (x1 x2 y1 y2 b:Int):
  aK 82 #[aj tb,.agg #[ae x1,ae x2,ae y1,ae y2,ak b]] w fun e w'=>(∃c:Nat,e=.returned (.tuple #[ae ((l.filter (Dc x1 x2 y1 y2)).length:Nat),ae c])/\c<=8*Lib.bitLen n0+1)/\Below w.heap.size w w':=by
 have⟨fb,R,gone,YS,V,g,a,i,j,n⟩:=h;refine(Jn g a aa x1 x2 y1 y2 b).mono ?_;rintro e w' ⟨d,k⟩;have⟨m,f⟩:=BG a i x1 x2 y1 y2;rw[f]at d;exact⟨⟨_,d,j▸DU a aa x1 x2 y1 y2⟩,k⟩
end
end
section
open Go.RowKit Go.ChangeShapes Go.WideShapes Go.Deep
theorem Rc {α:Type} [Inhabited α] (n:Nat) (p:Nat->α->Prop) (h:∀i,i<n->∃x,p i x):∃l:List α,l.length=n/\∀i (h:i<l.length),p i l[i]:=by
 have a:∀i,∃x,i<n->p i x:=fun i=>by
  by_cases hi:i<n
  .obtain⟨x,c⟩:=h i hi;exact⟨x,fun _=>c⟩
  .exact⟨default,fun h=>absurd h hi⟩
 refine⟨(List.range n).map fun i=>Classical.choose (a i),ay,fun i hi=>?_⟩;have b:i<n:=aQ hi;simpa using Classical.choose_spec (a i) b
abbrev Bx:=Int×Int×Int×Int×Int
abbrev Bx.wf (p:Bx):Prop:=(Lit.int .i64 p.1).wf=true/\(Lit.int .i64 p.2.1).wf=true/\(Lit.int .i64 p.2.2.1).wf=true/\(Lit.int .i64 p.2.2.2.1).wf=true/\(Lit.int .u32 p.2.2.2.2).wf=true
end
section
open Go.RowKit
def OX (p:Bx):Obj:=.cells #[ae p.1,ae p.2.1,ae p.2.2.1,ae p.2.2.2.1,ak p.2.2.2.2] 38 (0,0)
theorem iX {W:World} {b:Nat} {p:Bx} (h:W.heap[b]? =some (OX p)):W.cell? (af b 0)=some (ae p.1)/\W.cell? (af b 1)=some (ae p.2.1)/\W.cell? (af b 2)=some (ae p.2.2.1)/\W.cell? (af b 3)=some (ae p.2.2.2.1)/\W.cell? (af b 4)=some (ak p.2.2.2.2):=by simp[World.cell?,h,OX]
def Ai (p:Pt):Obj:=.cells #[ae p.1,ae p.2.1,ak p.2.2] 29 (0,0)
theorem kS {W:World} {b:Nat} {p:Pt} (h:W.heap[b]? =some (Ai p)):W.cell? (af b 0)=some (ae p.1)/\W.cell? (af b 1)=some (ae p.2.1)/\W.cell? (af b 2)=some (ak p.2.2):=by simp[World.cell?,h,Ai]
end
section
open Go.RowKit
attribute [local irreducible] wpQuiet
theorem OY:eP prog 22 29 3 24:=.mk' (z:=.agg #[ae 0,ae 0,ak 0]) underlying22 aM rfl ai
end
section
open Go Go.RowKit
abbrev Fu:Int:=-9223372036854775808
abbrev KZ:Int:=9223372036854775807
def Qv (l:List Pt):Prop:=∀p∈l,(Lit.int .i64 p.1).wf=true/\(Lit.int .i64 p.2.1).wf=true/\(Lit.int .u32 p.2.2).wf=true
theorem U2 {x:Int} (h:(Lit.int .i64 x).wf=true):Fu<=x/\x<=KZ:=by
 simp[Lit.wf,IntKind.min,IntKind.max,IntKind.signed,IntKind.bits]at h;exact h
def yR (l:List Pt) (f:Pt->Bool):List Int:=eD (ids (l.filter f))
theorem JG {l:List Pt} {f g:Pt->Bool} (h:∀p∈l,f p=g p):yR l f=yR l g:=by
 unfold yR;rw[qQ h]
theorem OZ:eD []=[]:=gU (gV [])
def VU (n x:Int) (up:Bool):Bool:=if up then decide (x<=n)else decide (n<=x)
def yS (x y:Int) (wx wy:Bool) (p:Pt):Bool:=VU p.1 x wx&&VU p.2.1 y wy
def bx1 (x:Int) (up:Bool):Int:=if up then x else Fu
def zF (x:Int) (up:Bool):Int:=if up then KZ else x
theorem TI {p:Pt} (e:(Lit.int .i64 p.1).wf=true) (f:(Lit.int .i64 p.2.1).wf=true) (x y:Int) (c d:Bool):Dc (bx1 x c) (zF x c) (bx1 y d) (zF y d) p=yS x y c d p:=by
 have a:=U2 e;have b:=U2 f;unfold Fu KZ at a b;cases c<;>cases d<;>simp only[Dc,yS,VU,bx1,zF,Fu,KZ,gF,jC,qP,<-Bool.decide_and]<;>refine mQ.2 ?_<;>omega
theorem GV {l:List Pt} (c:Qv l) (x y:Int) (a b:Bool):hasB l (bx1 x a) (zF x a) (bx1 y b) (zF y b)=yR l (yS x y a b):=
 JG fun p hp=>TI (c p hp).1 (c p hp).2.1 x y a b
end
section
open Go.RowKit Go.Maps
attribute [local irreducible] wpQuiet
theorem U3 (x:Int) (a:Bool) (w:World):
  aK 173 #[ae x,.bool a] w fun e w'=>e=.returned (.tuple #[ae (bx1 x a),ae (zF x a)])/\w'=w:=by
 cases a
 all_goals
  go_enter func173,ntmps173;go_wp2;go_ret2;exact⟨rfl,rfl⟩
theorem Re (x y:Int) (a b:Bool) (d:Int) (c:d=(if a then 1 else 0)+(if b then 2 else 0)) (w:World):
  aK 107 #[ae x,ae y,.int .u8 d] w fun e w'=>e=.returned (.agg #[ae (bx1 x a),ae (zF x a),ae (bx1 y b),ae (zF y b),ak 0])/\w'=(w.alloc (.cells #[ae (bx1 x a),ae (zF x a),ae (bx1 y b),ae (zF y b),ak 0] 38)).alloc (.cells #[ae (bx1 x a),ae (zF x a),ae (bx1 y b),ae (zF y b),ak 0] 38):=by
 have C:=ag (fun x f w=>U3 x f w);cases a<;>cases b<;>simp only[gF,jC,qP,Int.add_zero,Int.zero_add,Int.reduceAdd]at c<;>subst c
 all_goals
  go_enter func107,ntmps107
  go_wp2_with (go_at_call 173;refine(C.o _ _ _).mono ?_;rintro e w1 ⟨rfl,rfl⟩)
  (try simp only[Exit.inBlock,Exit.then])
  refine lq (results_cell_row rfl _ _ w.heap.size _ _ _ _ rfl (EG _ _ _) underlying38 rfl aM) rfl ?_
  first
   |exact⟨rfl,rfl⟩
   |(simp only[show(bits .and .u8 0 1==1)=false by decide,show(bits .and .u8 0 2==2)=false by decide,show(bits .and .u8 1 1==1)=true by decide,show(bits .and .u8 1 2==2)=false by decide,show(bits .and .u8 2 1==1)=false by decide,show(bits .and .u8 2 2==2)=true by decide,show(bits .and .u8 3 1==1)=true by decide,show(bits .and .u8 3 2==2)=true by decide];exact⟨rfl,rfl⟩)
theorem O0 (x y:Int) (a b:Bool) (c:Int) (g:c=(if a then 1 else 0)+(if b then 2 else 0)) (w:World):
  aK 107 #[ae x,ae y,.int .u8 c] w (fw w (.agg #[ae (bx1 x a),ae (zF x a),ae (bx1 y b),ae (zF y b),ak 0])):=
 (Re x y a b c g w).mono fun e w' ⟨d,f⟩=>⟨d,by rw[f];exact((aI _ _).alloc (aB _) _).alloc ay _⟩
theorem zG (w:World):
  aK 106 #[.pointer none] w fun e w'=>e=.returned (.bool true)/\w'=w:=by
 go_enter func106,ntmps106;go_wp2;go_ret;exact⟨rfl,rfl⟩
theorem xq (cb:Nat) (tb:Nat) (w:World) (h:w.cell? (af cb 0)=some (aj tb)):
  aK 106 #[aj cb] w fun e w'=>e=.returned (.bool false)/\w'=w:=by
 go_enter func106,ntmps106;go_wp2;go_ret;exact⟨rfl,rfl⟩
end
section
open Go.RowKit Go.Maps
attribute [local irreducible] wpQuiet
attribute [local go_sem] Oper.fB
theorem GX:eY 107:=bO func107 aM rfl
theorem GY:eY 39:=bO func39 aM rfl
theorem JH:eY 82:=bO func82 aM rfl
theorem Mx:eY 106:=bO func106 aM rfl
section
variable {w:World} {cb tb:Nat}
theorem MB {R:World->Value->Value->World->Prop} (F:cb<w.heap.size) (n:w.cell? (af cb 0)=some (aj tb)) (x y:Int) (a b:Bool) (f:Int) (h:f=(if a then 1 else 0)+(if b then 2 else 0))
  (C:∀W,Below w.heap.size w W->aK 39 #[aj tb,.agg #[ae (bx1 x a),ae (zF x a),ae (bx1 y b),ae (zF y b),ak 0]] W fun e W'=>∃v c,e=.returned (.tuple #[v,c])/\Below W.heap.size W W'/\R W v c W'):
  aK 40 #[aj cb,ae x,ae y,.int .u8 f] w fun e w'=>∃v c,e=.returned (.tuple #[v,c])/\∃W,Below w.heap.size w W/\R W v c w':=by
 have q:=ag (xq cb tb w n);have r:=ag (fun W=>O0 x y a b f h W);have j:=ag C;have d3:decide (3<f)=false:=by simp only[gT];cases a<;>cases b<;>simp at h<;>omega
 have H:decide (f>3)=false:=d3;have G:=ag F;clear C h;generalize bx1 x a=z at*;generalize zF x a=A at*;generalize bx1 y b=B at*;generalize zF y b=D at*;go_enter func40,ntmps40
 go_wp2_with fail
 refine q.o.mono ?_;rintro e w1 ⟨rfl,rfl⟩
 go_wp2_with fail
 have E:∀p:aS w1,p.W.cell? (af cb 0)=some (aj tb):=ah n;refine au (fun W=>∃p:aS w1,W=p.W) [8,9,10,11,12] [(0,false),(1,false),(2,false),(3,true),(4,false),(5,false),(6,false)] ⟨⟨_,(aI _ _).drew⟩,rfl⟩ 6 ?_;refine aC 7 rfl fun K g=>?_;refine aT GX rfl _ _ rfl (vals:=#[ae x,ae y,.int .u8 f]) rfl (r.o _) ?_;rintro e w2 ⟨rfl,l⟩;have d:Below w1.heap.size w1 w2:=(aI _ _).drew.trans l;refine⟨_,rfl,?_⟩;refine g _ _ (fun _ _=>⟨⟨_,d⟩,rfl⟩) ?_;clear g K;have s:=ag (j.o w2 d);clear j l E;refine aC 8 rfl fun K g=>?_;refine aT GY rfl _ _ rfl (vals:=#[aj tb,.agg #[ae z,ae A,ae B,ae D,ak 0]]) rfl s.o ?_;rintro e w3 ⟨v,c,rfl,m,k⟩;have i:=d.trans (m.mono d.size);have u:=ag k;have t:=ag d;clear k d m;refine⟨_,rfl,?_⟩;refine g _ _ (fun _ _=>⟨⟨_,i⟩,rfl⟩) ?_;clear g K;refine bf [(9,false),(10,false)] ⟨⟨_,i⟩,rfl⟩ rfl ?_;refine aG [11,12] ?_
 go_wp2_with fail
 go_ret2;exact⟨v,c,rfl,w2,t.o,u.o⟩
theorem Fv {w:World} (p:Option Addr) (hp:p=none\/∃cb tb,p=some (af cb 0)/\w.cell? (af cb 0)=some (aj tb)) (x y b:Int) (d:p=none\/3<b):
  aK 40 #[.pointer p,ae x,ae y,.int .u8 b] w fun e w'=>e=.returned (.tuple #[aL,ae 0])/\w'=w:=by
 rcases hp with rfl|⟨cb,tb,rfl,c⟩
 .have a:=ag (zG w);go_enter func40,ntmps40
  go_wp2_with (go_at_call 106;refine a.o.mono ?_;rintro e w1 ⟨rfl,rfl⟩)
  go_ret2;exact⟨rfl,rfl⟩
 .have a:=ag (xq cb tb w c);have d3:decide (3<b)=true:=by rcases d with h|h;cases h;simpa using h
  go_enter func40,ntmps40
  go_wp2_with (go_at_call 106;refine a.o.mono ?_;rintro e w1 ⟨rfl,rfl⟩)
  go_ret2;exact⟨rfl,rfl⟩
theorem O1 {R:World->Value->Value->World->Prop} (F:cb<w.heap.size) (n:w.cell? (af cb 0)=some (aj tb)) (x y:Int) (a b:Bool) (f:Int) (h:f=(if a then 1 else 0)+(if b then 2 else 0))
  (C:∀W,Below w.heap.size w W->aK 82 #[aj tb,.agg #[ae (bx1 x a),ae (zF x a),ae (bx1 y b),ae (zF y b),ak 0]] W fun e W'=>∃v c,e=.returned (.tuple #[v,c])/\Below W.heap.size W W'/\R W v c W'):
  aK 84 #[aj cb,ae x,ae y,.int .u8 f] w fun e w'=>∃v c,e=.returned (.tuple #[v,c])/\∃W,Below w.heap.size w W/\R W v c w':=by
 have q:=ag (xq cb tb w n);have r:=ag (fun W=>O0 x y a b f h W);have j:=ag C;have d3:decide (3<f)=false:=by simp only[gT];cases a<;>cases b<;>simp at h<;>omega
 have H:decide (f>3)=false:=d3;have G:=ag F;clear C h;generalize bx1 x a=z at*;generalize zF x a=A at*;generalize bx1 y b=B at*;generalize zF y b=D at*;go_enter func84,ntmps84
 go_wp2_with fail
 refine q.o.mono ?_;rintro e w1 ⟨rfl,rfl⟩
 go_wp2_with fail
 have E:∀p:aS w1,p.W.cell? (af cb 0)=some (aj tb):=ah n;refine au (fun W=>∃p:aS w1,W=p.W) [8,9,10,11,12] [(0,false),(1,false),(2,false),(3,true),(4,false),(5,false),(6,false)] ⟨⟨_,(aI _ _).drew⟩,rfl⟩ 6 ?_;refine aC 7 rfl fun K g=>?_;refine aT GX rfl _ _ rfl (vals:=#[ae x,ae y,.int .u8 f]) rfl (r.o _) ?_;rintro e w2 ⟨rfl,l⟩;have d:Below w1.heap.size w1 w2:=(aI _ _).drew.trans l;refine⟨_,rfl,?_⟩;refine g _ _ (fun _ _=>⟨⟨_,d⟩,rfl⟩) ?_;clear g K;have s:=ag (j.o w2 d);clear j l E;refine aC 8 rfl fun K g=>?_;refine aT JH rfl _ _ rfl (vals:=#[aj tb,.agg #[ae z,ae A,ae B,ae D,ak 0]]) rfl s.o ?_;rintro e w3 ⟨v,c,rfl,m,k⟩;have i:=d.trans (m.mono d.size);have u:=ag k;have t:=ag d;clear k d m;refine⟨_,rfl,?_⟩;refine g _ _ (fun _ _=>⟨⟨_,i⟩,rfl⟩) ?_;clear g K;refine bf [(9,false),(10,false)] ⟨⟨_,i⟩,rfl⟩ rfl ?_;refine aG [11,12] ?_
 go_wp2_with fail
 go_ret2;exact⟨v,c,rfl,w2,t.o,u.o⟩
theorem GZ {w:World} (p:Option Addr) (hp:p=none\/∃cb tb,p=some (af cb 0)/\w.cell? (af cb 0)=some (aj tb)) (x y b:Int) (d:p=none\/3<b):
  aK 84 #[.pointer p,ae x,ae y,.int .u8 b] w fun e w'=>e=.returned (.tuple #[ae 0,ae 0])/\w'=w:=by
 rcases hp with rfl|⟨cb,tb,rfl,c⟩
 .have a:=ag (zG w);go_enter func84,ntmps84
  go_wp2_with (go_at_call 106;refine a.o.mono ?_;rintro e w1 ⟨rfl,rfl⟩)
  go_ret2;exact⟨rfl,rfl⟩
 .have a:=ag (xq cb tb w c);have d3:decide (3<b)=true:=by rcases d with h|h;cases h;simpa using h
  go_enter func84,ntmps84
  go_wp2_with (go_at_call 106;refine a.o.mono ?_;rintro e w1 ⟨rfl,rfl⟩)
  go_ret2;exact⟨rfl,rfl⟩
end
section
variable {w:World} {cb tb:Nat}
theorem Rf {R:World->Bool->World->Prop} (t:cb<w.heap.size) (s:w.cell? (af cb 0)=some (aj tb)) (c d a:Int)
  (C:∀W,Below w.heap.size w W->aK 128 #[aj tb,jc c d a] W fun e W'=>∃b,e=.returned (.bool b)/\R W b W'):
  aK 125 #[aj cb,jc c d a] w fun e w'=>∃b,e=.returned (.bool b)/\∃W,Below w.heap.size w W/\R W b w':=by
 have j:=ag C;clear C;go_enter func125,ntmps125
 go_wp2_with fail
 obtain⟨w1,g⟩:∃w1,w1=w.alloc (.cells #[ae c,ae d,ak a] 29):=⟨_,rfl⟩;have h:w1.heap[w.heap.size]? =some (.cells #[ae c,ae d,ak a] 29 (0,0)):=by rw[g];exact bW _ _
 have f:Below w.heap.size w w1:=by rw[g];exact(aI _ _).alloc (aB _) _
 rw[<-g];clear g;have i:w1.cell? (af cb 0)=some (aj tb):=(f.cell (p:=(af cb 0)) t).trans s;have m:=ag (xq cb tb w1.drew i);have u:=ah i;have v:=ah (show w1.cell? (af w.heap.size 0)=some (ae c) from aD h);have x:=ah (show w1.cell? (af w.heap.size 1)=some (ae d) from aD h);have y:=ah (show w1.cell? (af w.heap.size 2)=some (ak a) from aD h);have n:=ag (j.o w1.drew f.drew);have q:=ag (show Below w.heap.size w w1.drew from f.drew);clear j h f i;refine au (fun W=>∃p:aS w1,W=p.W) [9,10,11] [(0,false)] ⟨⟨_,(aI _ _).drew⟩,rfl⟩ 11 ?_;refine aC 1 rfl fun K k=>?_;refine aT Mx rfl _ _ rfl (vals:=#[aj cb]) rfl m.o ?_;rintro e w2 ⟨rfl,rfl⟩;refine⟨_,rfl,?_⟩;refine k _ _ (fun _ _=>⟨⟨_,(aI _ _).drew⟩,rfl⟩) ?_;clear k K;refine bf [(2,false),(3,false),(4,false),(5,false),(6,false),(7,true),(8,true)] ⟨⟨_,(aI _ _).drew⟩,rfl⟩ rfl ?_;refine aG [9,10,11] ?_
 go_wp2_with fail
 refine n.o.mono ?_;rintro e w3 ⟨b,rfl,l⟩;have r:=ag l;clear l
 go_wp2_with fail
 go_ret;exact⟨b,rfl,_,q.o,r.o⟩
theorem O3 {a:Option Addr} {n c:Nat} {R:Nat->World->Prop} (C:aK 35 #[.slice a n c] w fun e W'=>∃tb,e=.returned (.tuple #[aj tb,ae 0])/\Below w.heap.size w W'/\R tb W'):
  aK 36 #[.slice a n c] w fun e w'=>∃tb W,e=.returned (.tuple #[aj W.heap.size,ae 0])/\R tb W/\Below w.heap.size w W/\w'=W.alloc (.cells #[aj tb] 153):=by
 have d:=ag C;go_enter func36,ntmps36
 go_wp2_with (go_at_call 35;refine d.o.mono ?_;rintro e w1 ⟨tb,rfl,g,b⟩;have f:=ag b;clear b)
 go_ret2;exact⟨tb,w1,rfl,f.o,g,rfl⟩
end
end
section
open Go.RowKit Go.Sort Go.Shelf Go.Lib Go.Maps
def o7 (w:World) (lo hi cb n0:Nat) (l:List Pt):Prop:=
 ∃tb h2,iq w lo h2 tb n0 l/\h2<=cb/\cb<hi/\hi<=w.heap.size/\w.heap[cb]? =some (.cells #[aj tb] 153 (0,0))
section
variable {w w':World} {lo hi cb n0:Nat} {l:List Pt}
theorem iq.Fw {w:World} {lo hi tb n0:Nat} {l:List Pt} (h:iq w lo hi tb n0 l):l.length<=n0/\n0<=20000:=by
 have⟨fb,R,gone,YS,V,c,a,b,d,e⟩:=h;have:=a.QU;have:=b.len a;omega
theorem iq.lo_le {w:World} {lo hi tb n0:Nat} {l:List Pt} (h:iq w lo hi tb n0 l):lo<=hi:=by
 have⟨fb,R,gone,YS,V,a,b⟩:=h;have:=a.fC;omega
theorem o7.kept {S:Nat->Prop} (h:o7 w lo hi cb n0 l) (K:ax S w w') (hS:∀k,lo<=k->k<hi->¬S k):o7 w' lo hi cb n0 l:=by
 have⟨tb,c,b,d,a,e,f⟩:=h;have:=b.lo_le;exact⟨tb,c,b.kept K (fun k g i=>hS k g aa),d,a,bA e K.size,(K.block cb aa (hS cb aa a)).trans f⟩
theorem sN {w:World} {cb tb:Nat} (h:w.heap[cb]? =some (.cells #[aj tb] 153 (0,0))):w.cell? (af cb 0)=some (aj tb):=aD h
theorem Rh (a:Option Addr) (c:Nat) (l:List Pt) (w:World) (h:bY dw 3 w a l) (i:l.length<=20000) (j:IA l) (hu:lK l=true):
  aK 36 #[.slice a l.length c] w fun e w'=>∃cb,e=.returned (.tuple #[aj cb,ae 0])/\o7 w' w.heap.size w'.heap.size cb l.length l/\Below w.heap.size w w':=by
 refine(O3 (R:=fun tb W=>iq W w.heap.size W.heap.size tb l.length l) ((OU a c l w h i j hu).mono fun e w1 ⟨tb,g,d,b⟩=>⟨tb,g,b,d⟩)).mono ?_;rintro e w' ⟨tb,W,rfl,d,b,rfl⟩;have f:Below W.heap.size W (W.alloc (.cells #[aj tb] 153)):=(aI _ _).alloc (aB _) _;exact⟨_,rfl,⟨tb,W.heap.size,d.below f (aB _),aB _,ay,aB _,bW _ _⟩,b.trans (f.mono b.size)⟩
theorem O4 (h:o7 w lo hi cb n0 l) (n:Qv l) (x y:Int) (a b:Bool) (j:Int) (o:j=(if a then 1 else 0)+(if b then 2 else 0)):
  aK 40 #[aj cb,ae x,ae y,.int .u8 j] w fun e w'=>∃v,∃c:Nat,e=.returned (.tuple #[v,ae ((c+(yR l (yS x y a b)).length:Nat):Int)])/\c<=8*Lib.bitLen n0+1/\w'.ownsRow w.heap.size 27 1 v (yR l (yS x y a b)).length ((yR l (yS x y a b)).map (Value.int .u32))/\Below w.heap.size w w':=by
 have⟨tb,p,m,r,s,t,k⟩:=h;refine(MB (R:=fun W v q w'=>∃c:Nat,q=.int .i64 ((c+(yR l (yS x y a b)).length:Nat):Int)/\c<=8*Lib.bitLen n0+1/\w'.ownsRow W.heap.size 27 1 v (yR l (yS x y a b)).length ((yR l (yS x y a b)).map (Value.int .u32))/\Below W.heap.size W w') aa (sN k) x y a b j o ?_).mono ?_
 .intro W d;refine(KY (m.below d aa) (bx1 x a) (zF x a) (bx1 y b) (zF y b) 0).mono ?_;rintro e w' ⟨v,c,rfl,g,i,f⟩;rw[GV n]at*;exact⟨v,_,rfl,f,c,rfl,g,i,f⟩
 .rintro e w' ⟨v,q,rfl,W,d,c,rfl,g,i,f⟩;exact⟨v,c,rfl,g,bI i d.size,d.trans (f.mono d.size)⟩
theorem Ri (h:o7 w lo hi cb n0 l) (m:Qv l) (x y:Int) (a b:Bool) (i:Int) (n:i=(if a then 1 else 0)+(if b then 2 else 0)):
  aK 84 #[aj cb,ae x,ae y,.int .u8 i] w fun e w'=>(∃c:Nat,e=.returned (.tuple #[ae ((yR l (yS x y a b)).length:Nat),ae c])/\c<=8*Lib.bitLen n0+1)/\Below w.heap.size w w':=by
 have⟨tb,o,k,p,r,s,j⟩:=h;refine(O1 (R:=fun W v q w'=>∃c:Nat,v=.int .i64 ((yR l (yS x y a b)).length:Nat)/\q=.int .i64 c/\c<=8*Lib.bitLen n0+1/\Below W.heap.size W w') aa (sN j) x y a b i n ?_).mono ?_
 .intro W d;refine(OW (k.below d aa) (bx1 x a) (zF x a) (bx1 y b) (zF y b) 0).mono ?_;rintro e w' ⟨⟨c,rfl,g⟩,f⟩;rw[<-OV,GV m];exact⟨_,_,rfl,f,c,rfl,rfl,g,f⟩
 .rintro e w' ⟨v,q,rfl,W,d,c,rfl,rfl,g,f⟩;exact⟨⟨c,rfl,g⟩,d.trans (f.mono d.size)⟩
theorem G5 (h:o7 w lo hi cb n0 l) (x y a:Int) (c:3<a):
  aK 40 #[aj cb,ae x,ae y,.int .u8 a] w fun e w'=>e=.returned (.tuple #[aL,ae 0])/\w'=w:=by
 have⟨tb,d,j,f,g,i,b⟩:=h;exact Fv _ (.inr ⟨cb,tb,rfl,sN b⟩) x y a (.inr c)
theorem JI (h:o7 w lo hi cb n0 l) (x y a:Int) (c:3<a):
  aK 84 #[aj cb,ae x,ae y,.int .u8 a] w fun e w'=>e=.returned (.tuple #[ae 0,ae 0])/\w'=w:=by
 have⟨tb,d,j,f,g,i,b⟩:=h;exact GZ _ (.inr ⟨cb,tb,rfl,sN b⟩) x y a (.inr c)
end
end
end Go.Proofs.YtkjdbndekceffaaGreat
namespace Go.Proofs
open Go.Shelf
def Tryz.Fx:Go.Shelf.Ren:=⟨fun|6=>98|15=>86|14=>167|28=>160|29=>161|20=>242|21=>243|22=>244|23=>245|24=>246|25=>247|26=>248|27=>249|46=>296|47=>286|48=>287|49=>297|50=>298|57=>322|n=>n,fun|22=>148|24=>3|25=>157|3=>3|39=>135|0=>0|53=>27|55=>229|4=>4|46=>308|45=>307|50=>30|5=>5|9=>9|66=>364|70=>368|76=>391|77=>60|n=>n,fun|n=>n⟩
theorem Tryz.G6:Go.Proofs.SlLaysF.n6 Tryz.prog Tryz.Fx:={
 mixed:=aM
 f6:=gz Tryz.func98
 f14:=gz Tryz.func167
 f15:=Tryz.func86.trans (congrArg some aM)
 f20:=gz Tryz.func242
 f21:=gz Tryz.func243
 f22:=gz Tryz.func244
 f23:=gz Tryz.func245
 f24:=gz Tryz.func246
 f25:=gz Tryz.func247
 f26:=gz Tryz.func248
 f27:=gz Tryz.func249
 f28:=Tryz.func160.trans (congrArg some aM)
 f29:=Tryz.func161.trans (congrArg some aM)
 f46:=gz Tryz.func296
 f47:=Tryz.func286.trans (congrArg some aM)
 f48:=Tryz.func287.trans (congrArg some aM)
 f49:=gz Tryz.func297
 f50:=gz Tryz.func298
 f57:=gz Tryz.func322
 t0:=uS
 a0:=vB
 z0:=ve
 v0:=uV
 t3:=rG
 a3:=nZ
 z3:=nW
 v3:=rJ
 t4:=pI
 a4:=rU
 z4:=rR
 v4:=rM
 t5:=Tryz.underlying5
 a5:=Tryz.isAgg5
 z5:=Tryz.sizeOf5
 v5:=Tryz.zeroValue5
 t9:=Tryz.underlying9
 a9:=Tryz.isAgg9
 z9:=Tryz.sizeOf9
 v9:=Tryz.zeroValue9
 t22:=Tryz.underlying148
 a22:=Tryz.isAgg148
 z22:=Tryz.sizeOf148
 v22:=Tryz.zeroValue148
 a24:=nZ
 z24:=nW
 t25:=Tryz.underlying157
 a25:=Tryz.isAgg157
 z25:=Tryz.sizeOf157
 v25:=Tryz.zeroValue157
 t39:=AA
 a39:=Tryz.isAgg135
 z39:=Bb
 v39:=AP
 t45:=Tryz.underlying307
 a45:=Tryz.isAgg307
 z45:=Tryz.sizeOf307
 v45:=Tryz.zeroValue307
 t46:=Tryz.underlying308
 a46:=Tryz.isAgg308
 z46:=Tryz.sizeOf308
 v46:=Tryz.zeroValue308
 t50:=Tryz.underlying30
 a50:=Tryz.isAgg30
 z50:=Tryz.sizeOf30
 v50:=Tryz.zeroValue30
 t53:=AQ
 a53:=yh
 z53:=yf
 v53:=AY
 t55:=AB
 a55:=Tryz.isAgg229
 z55:=Bc
 v55:=AR
 t66:=Tryz.underlying364
 a66:=Tryz.isAgg364
 z66:=Tryz.sizeOf364
 v66:=Tryz.zeroValue364
 t70:=Tryz.underlying368
 a70:=Tryz.isAgg368
 z70:=Tryz.sizeOf368
 v70:=Tryz.zeroValue368
 t76:=Tryz.underlying391
 a76:=Tryz.isAgg391
 z76:=Tryz.sizeOf391
 v76:=Tryz.zeroValue391
 t77:=Tryz.underlying60
 a77:=Tryz.isAgg60
 z77:=Tryz.sizeOf60
 v77:=Tryz.zeroValue60}
end Go.Proofs
