/- Made small by a program. -/
import Derived.Test.YtkjdbndekceffaaGreatZ13
set_option linter.unusedSimpArgs false
set_option linter.unusedVariables false
set_option maxRecDepth 100000
set_option maxHeartbeats 16000000
namespace Go.Proofs.YtkjdbndekceffaaGreat
open Tryz
section
open Go.RowKit Go.Maps
def MJ (W:World) (X:Nat) (LS:List (Option Addr×List Pt×Nat)):Prop:=
 ∀(j:Nat) (h:j<LS.length),W.cell? (ae X j)=some (.slice LS[j].1 LS[j].2.1.length LS[j].2.2)/\bQ bX 3 W LS[j].1 LS[j].2.1
theorem MJ.below {W W':World} {X B:Nat} {a:List (Option Addr×List Pt×Nat)} (h:MJ W X a) (e:X<B) (b:Below B W W') (d:W.heap.size<=B):MJ W' X a:=fun j c=>
 ⟨(b.cell (p:=(ae X j)) e).trans (h j c).1,(h j c).2.below (b.mono d)⟩
def mh (LS:List (Option Addr×List Pt×Nat)):List Pt:=LS.flatMap (·.2.1)
def KT (l:List Pt):Prop:=∀p∈l,(Lit.int .u32 p.2.2).wf=true
theorem MK (a:List (Option Addr×List Pt×Nat)) (j:Nat) (h:j<a.length):mh (a.take (j+1))=mh (a.take j)++a[j].2.1:=by
 unfold mh;rw[gW h,gZ,xE]
theorem Pj (a:List (Option Addr×List Pt×Nat)) (j:Nat):(mh (a.take j)).length<=(mh a).length:=by
 have h:mh a=mh (a.take j)++mh (a.drop j):=by
  unfold mh;rw[<-gZ,jB]
 rw[h,bS];omega
def jY {H:Type} (D:DataW H) (L:List Int):Prop:=∃f s,IsM .u32 .i64 D f s/\∀x,(f x).isSome=true↔x∈L
theorem jY.nil {H:Type}:jY (H:=H) (.map []) []:=⟨_,_,IsM.empty _ _,aA⟩
theorem jY.put {H:Type} {D:DataW H} {L:List Int} (h:jY D L) (x v:Int):jY (D.put (.int .u32 x) (.lit (.int .i64 v))) (L++[x]):=by
 have⟨f,s,b,c⟩:=h;refine⟨_,_,b.put x v,fun y=>?_⟩;unfold Gi;by_cases a:y=x
 .simp[a]
 .simp[a,c]
theorem jY.size {H:Type} {D:DataW H} {L:List Int} (h:jY D L):(((Maps.size D:Nat):Int)==((L.length:Nat):Int))=decide L.Nodup:=by
 have⟨f,s,a,b⟩:=h;rw[a.2.1,<-wQ L s a.2.2.1 (fun x=>(a.2.2.2.1 x).trans (b x))];rw[mO];simp only[beq_iff_eq,bO];omega
theorem qD (X c:Nat) (d:List (Option Addr×List Pt×Nat)) (w:World) (ac:X<w.heap.size) (I:MJ w X d) (aC:(mh d).length<=1000000) (ax:d.length<=1000000) (Q:KT (mh d)):
  aK 144 #[au X d.length c] w (fV w (.bool (lH (mh d)))):=by
 have F:=ag I;have Y:=ag Q;clear I Q;have az:=@vv prog;go_enter func144,ntmps144;go_wp2
 go_loopw [4,12] (fun ah y wr=>∃j:Nat,y=.int .i64 j/\j<=d.length/\ah=.int .i64 ((mh (d.take j)).length:Nat)/\Below w.heap.size w wr/\
   Hid (∃(D:DataW Unit),wr.ownsMap prog 27 (plainElem prog 3) w.heap.size (mh (d.take j)).length D/\jY D (ids (mh (d.take j))))) (fun _ y _=>d.length-(intOf y).toNat)
 case atStart=>exact⟨0,rfl,aX _,rfl,(aJ _ _).alloc (aB _) _,⟨.map [],uK _ _ _ _,jY.nil⟩⟩
 case round=>
  obtain⟨j,rfl,av,rfl,g,HO⟩:=hrel;by_cases r:j<d.length
  .have ad:=((F.o.below ac g (aB _)) j r).1;have u:=(F.o j r).2;have L:=Pj d (j+1);have e:=MK d j r;rw[e,bS]at L;have G:Hid (KT d[j].2.1):=fun p hp=>Y.o p (by unfold mh;exact xQ.2 ⟨_,bB r,hp⟩);have B:=ag e;clear e;generalize d[j]=q at*;obtain⟨a,l,an⟩:=q;simp only at ad u L G;have aE:((mh (d.take j)).length:Int)+(l.length:Int)<=1000000:=aa;generalize hP:mh (d.take j)=P at*;have am:=ag hP;have V:=ag u;have C:=ag g;have ap:=g.size;clear hP u g;have ao:P.length<=1000000:=aa;have aw:l.length<=1000000:=aa;generalize J:P.length=N at*;obtain⟨z,ab⟩:∃z:World,z=wr:=⟨_,rfl⟩;subst ab;go_wp2
   go_loopw [22] (fun x R=>∃i:Nat,x=.int .i64 i/\i<=l.length/\Below w.heap.size z R/\
     Hid (∃(D:DataW Unit),R.ownsMap prog 27 (plainElem prog 3) w.heap.size (N+i) D/\jY D (ids (P++l.take i)))) (fun x _=>l.length-(intOf x).toNat)
   case atStart=>exact⟨0,rfl,aX _,aJ _ _,aP HO⟩
   case round=>
    obtain⟨i,rfl,hi,k,h⟩:=hrel;by_cases n:i<l.length
    .obtain⟨b,off,H,ar,m⟩:=(V.o.below (C.o.trans k)).get aa;have al:=m i n 0 aa;have x1:=m i n 1 aa;have x2:=m i n 2 aa;simp only[bX,fw,fD,dx]at al x1 x2;have e:l.take (i+1)=l.take i++[l[i]]:=gW n;have ae:Hid (keyOf prog 27 (.int .u32 l[i].2.2)=some (.int .u32 l[i].2.2)):=rR underlying27 (G.o _ (bB _));obtain⟨D,M,f⟩:=h.o;have t:=f.put l[i].2.2 i;rw[show ids (P++l.take i)++[l[i].2.2]=ids (P++l.take (i+1)) by rw[e];unfold ids;rw[<-dX,bL (l₁:=P++l.take i)];rfl]at t;have E:=ag t;have aq:=k.size;have A:=ag H;clear h e m f t H;generalize l[i]=p at*;obtain⟨aj,ak,ai⟩:=p;obtain rfl:=A.o;clear A;have s:=M.kept (qI wr (.cells #[af aj,af ak,ay ai] 29) none) aA
     go_wp2_with (at_mapUpdate;refine uF _ rfl _ _ _ 26 rfl 27 3 (rU underlying27) underlying26 _ w.heap.size (N+i) _ rfl s dD _ _ _ rfl rfl ae.o _ [] (rO underlying3 (by simp[Lit.wf,IntKind.min,IntKind.max,IntKind.bits,IntKind.signed];omega)) ?_;intro w3 O K)
     have S:Below w.heap.size wr w3:=(((aJ _ wr).alloc aa _)).grown K aD (fun j Z=>by cases Z;omega);have U:Hid (∃(D:DataW Unit),w3.ownsMap prog 27 (plainElem prog 3) w.heap.size (N+(i+1)) D/\jY D (ids (P++l.take (i+1)))):=⟨_,O,E.o⟩;have T:=k.trans S;clear O K s M E;go_wp2;go_roundw
     case rel=>exact⟨i+1,by go_num,aa,T,U⟩
     case measure=>exact dU
    .obtain rfl:i=l.length:=aa;go_wp2;go_roundw
     case rel=>
      refine⟨j+1,by go_num,aa,?_,C.o.trans k,?_⟩
      .rw[B.o,bS,J];go_num
      .rw[B.o,bS,J];rw[jk]at h;exact h
     case measure=>exact dU
  .obtain rfl:j=d.length:=aa;rw[jk]at HO |-;obtain⟨D,s,f⟩:=HO.o;have v:=f.size;rw[show((ids (mh d)).length:Int)=((mh d).length:Int) by simp[ids]]at v;have W:=ag v;clear v f HO
   go_wp2_with (at_len;refine wpList_len_own _ rfl _ 26 rfl 27 3 underlying26 _ w.heap.size _ _ rfl s ?_)
   go_ret;exact⟨by rw[W.o];rfl,g⟩
def jZ (l:List Pt):Bool:=qb l&&lH l
theorem Pk {l:List Pt} {m:Nat} (h:m+1<l.length) (b:¬CF l[m] l[m+1]):jZ l=false:=by
 unfold jZ;rw[Bool.and_eq_false_iff];left;cases a:qb l
 .rfl
 .exact absurd ((nE l).1 a m h) b
theorem GY {W:World} {a:Option Addr} {l:List Pt} (c:Nat) (t:TypeId) (h:bQ bX 3 W a l):MJ (W.alloc (.cells #[.slice a l.length c] t)) W.heap.size [(a,l,c)]:=by
 intro j b;obtain rfl:j=0:=aP b;exact⟨by rw[ek _ _ _ _ rfl];rfl,h.below ((aJ _ _).alloc (aB _) _)⟩
theorem o7 (a:Option Addr) (l:List Pt) (c:Nat):mh [(a,l,c)]=l:=by simp[mh]
theorem zx (a:Option Addr) (l:List Pt) (n c:Nat) (w:World) (U:l.length=n) (h:bQ bX 3 w a l) (S:n<=1000000) (K:KT l):
  aK 143 #[.slice a n c] w (fV w (.bool (jZ l))):=by
 subst U;have E:=ag h;have O:=ag K;clear h K;go_enter func143,ntmps143;go_wp2
 go_loopw [3] (fun F wr=>∃m:Nat,F=.int .i64 ((m:Int)+1)/\m<=l.length/\Below w.heap.size w wr/\Hid (∀i (_:i+1<l.length),i<m->CF l[i] l[i+1])) (fun F _=>l.length+1-(intOf F).toNat)
 case atStart=>exact⟨0,rfl,aX _,aJ _ _,fun i _ h=>absurd h (kC _)⟩
 case round=>
  obtain⟨m,rfl,ah,v,j⟩:=hrel;by_cases C:m+1<l.length
  .obtain⟨b,off,H,ac,t⟩:=(E.o.below v).get aa;have L:=t m aa 0 aa;have x1:=t m aa 1 aa;have x2:=t m aa 2 aa;have M:=t (m+1) C 0 aa;have y1:=t (m+1) C 1 aa;have y2:=t (m+1) C 2 aa;simp only[bX,fw,fD,dx]at L x1 x2 M y1 y2;have hS:=v.size;have d:¬CF l[m] l[m+1]->jZ l=false:=Pk C;have f:CF l[m] l[m+1]->Hid (∀i (_:i+1<l.length),i<m+1->CF l[i] l[i+1]):=fun X i hi R=>by
    rcases D8.1 R with h|rfl
    .exact j.o i hi h
    .exact X
   have G:=ag H;clear t H;generalize hp:l[m]'aa=p at*;generalize V:l[m+1]=q at*;clear hp V;obtain⟨k,y,A⟩:=p;obtain⟨r,z,B⟩:=q;unfold CF at d f;simp only at d f L x1 x2 M y1 y2;obtain rfl:=G.o;clear G;have ad:b<wr.heap.size:=aa;have ae:(m:Int)+1<(l.length:Int):=aa;have af:(m:Int)<(l.length:Int):=aa;have u:∀Z ab,Below w.heap.size w (((wr.alloc Z).alloc ab).drew):=fun _ _=>(((v.alloc hS _).alloc aD _).drew);by_cases g:k=r
   .have d1:(k==r)=true:=by simp[g]
    by_cases x:y=z
    .have d2:(y==z)=true:=by simp[x]
     by_cases hi:A<B
     .have d3:decide (B<=A)=false:=aD;have D:=f (.inl ⟨g,x,hi⟩);have Y:¬B<=A:=aa;clear g x d f j;go_wp2;go_region
      all_goals
       go_wp2;go_roundw
       case rel=>exact⟨m+1,by go_num,aa,u _ _,D⟩
       case measure=>exact dU
     .have d3:decide (B<=A)=true:=aD;have Y:B<=A:=aa;have s:=ag (d aa);clear g x hi d f j;go_wp2;go_region
      all_goals
       go_wp2;go_ret;exact⟨by rw[s.o];rfl,u _ _⟩
    .have d2:(y==z)=false:=by simp[x]
     have d4:decide (r<=k)=true:=by simp[g]
     have ai:r<=k:=aa;have s:=ag (d aa);clear g x d f j;go_wp2;go_region
     all_goals
      go_wp2;go_ret;exact⟨by rw[s.o];rfl,u _ _⟩
   .have d1:(k==r)=false:=by simp[g]
    by_cases Q:r<=k
    .have d4:decide (r<=k)=true:=by simp[Q]
     have s:=ag (d aa);clear g d f j;go_wp2;go_region
     all_goals
      go_wp2;go_ret;exact⟨by rw[s.o];rfl,u _ _⟩
    .have d4:decide (r<=k)=false:=aD;by_cases T:y<=z
     .have d5:decide (y<=z)=true:=by simp[T]
      have s:=ag (d aa);clear g d f j;go_wp2;go_region
      all_goals
       go_wp2;go_ret;exact⟨by rw[s.o];rfl,u _ _⟩
     .have d5:decide (y<=z)=false:=aD;have D:=f aa;clear g d f j;go_wp2;go_region
      all_goals
       go_wp2;go_roundw
       case rel=>exact⟨m+1,by go_num,aa,u _ _,D⟩
       case measure=>exact dU
  .have I:qb l=true:=(nE l).2 fun i hi=>j.o i hi aa;have J:jZ l=lH l:=by unfold jZ;rw[I,Bool.true_and]
   have N:=ag J;have W:=E.o.below v;have hS:=v.size;clear E j I J
   go_wp2_with fail
   refine(qD wr.heap.size 1 [(a,l,c)] _ aA (GY c 22 W) (by rw[o7];exact S) aA (by rw[o7];exact O.o)).mono ?_;rw[o7];rintro e w1 ⟨rfl,P⟩;go_wp2;go_ret;exact⟨by rw[N.o];rfl,(v.alloc hS _).trans (P.mono aD)⟩
end
section
open Go.RowKit Go.Shelf
attribute [local go_sem] Oper.semAt_some
def NA (n₀ Bs:Nat) (W W':World):Prop:=Below n₀ W W'/\W'.heap[Bs]? =W.heap[Bs]?
theorem NA.refl (b a:Nat) (W:World):NA b a W W:=⟨aJ _ _,rfl⟩
theorem NA.trans {b a:Nat} {A B C:World} (h:NA b a A B) (c:NA b a B C):NA b a A C:=⟨h.1.trans c.1,c.2.trans h.2⟩
def bk (zs:List Pt) (k:Nat):List (Nat×Pt):=(List.range k).map fun j=>(zs.length-1-j,zs.getD (zs.length-1-j) (0,0,0))
theorem Pm (a:List Pt) (k:Nat):(bk a k).length=k:=by simp[bk]
theorem KU (a:List Pt) (k:Nat):bk a (k+1)=bk a k++[(a.length-1-k,a.getD (a.length-1-k) (0,0,0))]:=by simp[bk,uU]
theorem Pn (a:List Pt):∀k,k<=a.length->((bk a k).map (·.2)).reverse=a.drop (a.length-k)
 |0,_=>by simp[bk]
 |k+1,h=>by
  rw[KU,bL,Ah,Pn a k aa];have e:a.drop (a.length-(k+1))=a[a.length-(k+1)]::a.drop (a.length-(k+1)+1):=jJ aa;rw[e,show a.length-(k+1)+1=a.length-k by omega];simp[show a.length-1-k=a.length-(k+1) by omega,show a.length-(k+1)<a.length by omega]
theorem Po (n:Nat) (ad:1<=n) (l g u b off c H:Nat) (d:List Pt) (S:d.length=c) (ab:c<=1000000) (s:b<u) (h z:List (Nat×Pt)->World->Prop)
  (P:∀f x W,h f W->f.length<c->YieldAt Fence.wide (n-1) prog l #[af (x.1:Int),iT x.2.1 x.2.2.1 x.2.2.2] W fun e W'=>
    (e=.returned (.bool true)/\h (f++[x]) W'/\NA u g W W')\/(e=.returned (.bool false)/\z (f++[x]) W'))
  (W:World) (M:W.cell? (ae g 0)=some (.slice (some (ae b off)) c H)) (Q:bQ bX 3 W (some (ae b off)) d) (L:h [] W):
  CallsIn Fence.wide n prog 280 #[.func (.yield l) #[] #[],aj g] W fun e W'=>(∃v,e=.returned v)/\
   ((∃F,F=bk d c/\h F W')\/(∃f,(∃k,k<=c/\f=bk d k)/\z f W')):=by
 have G:=ag Q;have y:=ag S;refine AV func280 rfl trivial ?_ rfl;simp only[ntmps280,qN,dY,eZ,Nat.reduceAdd,Nat.reduceSub,qG,qH,qO,qK,fO,mH]
 gi_wp2
 gi_loopw [3] (fun i wr=>∃m:Nat,m<=c/\i=.int .i64 ((m:Int)-1)/\h (bk d (c-m)) wr/\NA u g W wr)
  (fun i _=>(intOf i+1).toNat)
 case atStart=>exact⟨c,aB _,rfl,by rw[kZ];exact L,NA.refl _ _ _⟩
 case round=>
  obtain⟨m,ac,rfl,A,j⟩:=hrel;have Z:=(dz (w:=W) (w':=wr) (a:=(ae g 0)) j.2).trans M;cases m with
  |zero=>
   gi_wp2
   go_end0
   exact⟨⟨_,rfl⟩,.inl (aP A)⟩
  |succ m=>
   have q:m<d.length:=by rw[y.o];omega
   have ah:0<c:=aa;have⟨X,ai,r,Y,t⟩:=G.o.get aa;have T:=t m q 0 aa;have x1:=t m q 1 aa;have x2:=t m q 2 aa;injection r with r;injection r with J K _;subst J K;have E:=(j.1.cell (p:=(ae b (off+m*3+0))) s).trans T;have y1:=(j.1.cell (p:=(ae b (off+m*3+1))) s).trans x1;have y2:=(j.1.cell (p:=(ae b (off+m*3+2))) s).trans x2;simp only[bX,fw,fD,dx]at E y1 y2;have C:bk d (c-m)=bk d (c-(m+1))++[(m,d[m])]:=by
    have:=KU d (c-(m+1));rw[show c-(m+1)+1=c-m by omega]at this;rw[this,show d.length-1-(c-(m+1))=m by rw[y.o];omega];simp[q]
   have⟨fn,an,assign,body,D,B⟩:=P _ (m,d[m]) wr A (by rw[Pm];omega);dsimp only at D;rw[<-C]at B;have U:=Lib.hid C;generalize d[m]=p at*;have⟨al,am,ak⟩:=p;simp only at E y1 y2 D;have I:((m+1:Nat):Int)-1=(m:Int):=aa;rw[I]
   gi_wp2
   refine B.mono ?_;rintro e V (⟨rfl,N,R⟩|⟨rfl,O⟩)
   .gi_wp2
    go_roundw
    case rel=>exact⟨m,aa,aA,N,j.trans R⟩
    case measure=>simp[intOf]
   .gi_wp2
    refine kY (kJ rfl _ _ _) rfl ?_;exact⟨⟨_,rfl⟩,.inr ⟨_,⟨c-m,aa,rfl⟩,O⟩⟩
theorem xm (n:Nat) (l c:Nat) (a:Option Addr) (f:Nat) (b:List (Nat×Pt)->World->Prop) (W:World) (h:W.cell? (ae c 0)=some (.slice a 0 f)) (g:b [] W):
  CallsIn Fence.wide n prog 280 #[.func (.yield l) #[] #[],aj c] W fun e W'=>(∃v,e=.returned v)/\b [] W':=by
 refine AV func280 rfl trivial ?_ rfl;simp only[ntmps280,qN,dY,eZ,Nat.reduceAdd,Nat.reduceSub,qG,qH,qO,qK,fO,mH]
 gi_wp2
 gi_loopw [3] (fun i wr=>i=.int .i64 (-1)/\b [] wr) (fun _ _=>0)
 case atStart=>exact⟨rfl,g⟩
 case round=>
  obtain⟨rfl,d⟩:=hrel
  gi_wp2
  go_end0
  first|exact d|exact⟨⟨_,rfl⟩,d⟩
theorem Rj (n:Nat) (a:Option Addr) (c b:Nat) (w:World):
  CallsIn Fence.wide n prog 214 #[.slice a c b] w fun e w'=>e=.returned (.func (.func 280) #[] #[aj w.heap.size])/\w'=w.alloc (.cells #[.slice a c b] 22):=by
 refine AV func214 rfl trivial ?_ rfl;simp only[ntmps214,qN,dY,eZ,Nat.reduceAdd,Nat.reduceSub,qG,qH,qO,qK,fO,mH]
 gi_wp2
 go_ret;exact⟨rfl,rfl⟩
theorem JJ (n:Nat) (F:1<=n) (d r:Nat) (a:Option Addr) (c g:Nat) (f:List Pt) (q:f.length=c) (D:c<=1000000) (w:World) (u:d<w.heap.size)
  (B:w.cell? (ae d 0)=some (.slice a c g)) (v:bQ bX 3 w a f) (A:f≠[]->∀b off,a=some (ae b off)->b<r):
  SeqStopsK Fence.wide n prog 280 #[aj d] (fun x:Nat×Pt=>#[af (x.1:Int),iT x.2.1 x.2.2.1 x.2.2.2]) (NA r d) (fun H=>H=bk f c)
   (fun G=>∃k,k<=c/\G=bk f k) c w:=fun l h t W s _ _ z i=>by
 have j:=(s.cell (p:=(ae d 0)) u).trans B;have y:=v.below s;rcases y with rfl|⟨b,off,rfl,E,C⟩
 .obtain rfl:c=0:=aP q.symm;exact(xm n l d a g h W j i).mono fun e W' ⟨m,o⟩=>⟨m,.inl ⟨_,by simp[bk],o⟩⟩
 .by_cases e:f=[]
  .subst e;obtain rfl:c=0:=aP q.symm;exact(xm n l d _ g h W j i).mono fun e W' ⟨m,o⟩=>⟨m,.inl ⟨_,by simp[bk],o⟩⟩
  .exact Po n F l d r b off c g f q D (A e b off rfl) h t z W j (.inr ⟨b,off,rfl,E,C⟩) i
end
section
def KV (l:List Oper):Bool:=l.all fun o=>match o.op with|.defer _=>false|_=>true
theorem JK {l:List Oper} (h:KV l=true) {o:Oper} (a:o∈l):∀c,o.op≠.defer c:=fun c e=>by
 have:=uR.1 h o a;rw[e]at this;cases this
section
variable {F:Fence} {n:Nat} {P:Program} {ops:Array Oper} {C:World->Prop} {md:Region.Mode}
theorem CY {o:Oper} (hd:∀c,o.op≠.defer c) {a:Act} {K:Act->Prop} {l:Act->World->Prop} {Q':Exit->Act->World->Prop} {w:World} (g:C w) (h:∀a w',C w'->K a->l a w')
  (p:o.askedIn F P a C) (t:o.quietIn F n P a C K):o.wpIn F n P a w l Q':=by
 have⟨v,m,j⟩:=t;refine⟨p w g,?_⟩;rw[Oper.semAt_plain F _ _ hd];have b:Oper.quietUponIn F n P C w v ((execOp a.eval o).run P w):=m w g;revert b;generalize(execOp a.eval o).run P w=r;intro b;rcases r with⟨x,w'⟩|⟨x,w'⟩
 .cases x with
  |value u=>obtain⟨d,i⟩:=b;subst d i;exact h _ _ g j
  |skip=>obtain⟨d,i⟩:=b;subst d i;exact h _ _ g j
  |enter f args=>obtain⟨d,y,q⟩:=b;subst d;exact⟨y,q.mono fun e z k=>by obtain⟨s,k⟩:=k;subst s;exact h _ _ k j⟩
  |_=>exact b.elim
 .exact b.elim
theorem xn (hd:∀o∈ops,∀c,o.op≠.defer c) {Q:Act->Prop} {Q':Exit->Act->World->Prop} (g:∀a w,C w->Q a->Q' .normal a w):∀(fuel:Nat) (f:Array Bool) (a:Act) (w:World),C w->
  wpAnyQIn F n P md ops C Q fuel f a->wpAnyIn F n P md ops Q' fuel f a w
 |0,_,_,_,d,h=>⟨h.1,g _ _ d h.2⟩
 |fuel+1,f,a,w,d,h=>by
  refine⟨fun l=>g _ _ d (h.1 l),fun i hi=>?_⟩;have b:=h.2 i hi;have next:∀(a':Act) (w':World),C w'->wpAnyQIn F n P md ops C Q fuel (f.setIfInBounds i true) a'->wpAnyIn F n P md ops Q' fuel (f.setIfInBounds i true) a' w':=fun a' w' m=>xn hd g fuel _ a' w' m;unfold qOpIn at b;unfold wpOpIn;split
  .rename_i e;rw[e]at b;exact next _ _ d b
  .rename_i o e;rw[e]at b;have⟨k,b⟩:=b;split
   .rename_i j;rw[aN j]at b;exact CY (hd o (Array.mem_of_getElem? e)) d next k b
   .rename_i j;rw[aM j]at b;exact⟨k w d,next _ _ d b⟩
theorem kQ {id:Nat} {Q:Exit->Act->World->Prop} {a:Act} {w:World} {l:List Oper} (e:P.follows .mixedOrders=true) (b:Region.lexB .any l.toArray=true) (hd:KV l=true)
  (h:wpQuietIn F n P l.toArray (fun w'=>∃n,w'=w.drewN n) (fun a'=>∀w',(∃n,w'=w.drewN n)->Q .normal a' w') l a):(Code.region id l.toArray true).wpIn F n P Q a w:=by
 obtain⟨c,d⟩:=by simpa only[Region.lexB,mJ]using b
 refine wpIn_region_any e (xn (C:=fun w'=>∃n,w'=w.drewN n) (Q:=fun a'=>∀w',(∃n,w'=w.drewN n)->Q .normal a' w') (fun o f=>JK hd (aP f)) (fun _ w' g h=>h w' g) _ _ _ _ ⟨1,rfl⟩ ?_);have:=wpAnyQIn_lex (F:=F) (n:=n) (P:=P) (md:=.any) (C:=fun w'=>∃n,w'=w.drewN n) c l 0 (Array.replicate l.toArray.size false) a aA (aP d) h;simpa using this
end
end
section
open Go.RowKit Go.Shelf
attribute [local go_sem] Oper.semAt_some
def GZ (O:List Pt) (p:Pt):List Pt:=(stp p O.reverse).reverse
def JL (pre:List (Nat×Pt)):List Pt:=pre.foldl (fun O x=>GZ O x.2) []
theorem Pp (a:List (Nat×Pt)) (x:Nat×Pt):JL (a++[x])=GZ (JL a) x.2:=by simp[JL]
theorem G5:∀(a:List (Nat×Pt)) (O:List Pt),a.foldl (fun O x=>GZ O x.2) O=(a.foldl (fun T x=>stp x.2 T) O.reverse).reverse
 |[],O=>aA
 |x::a,O=>by
  rw[uT,uT,G5 a];simp[GZ]
theorem Tw (a:List (Nat×Pt)):JL a=(rZ (a.map (·.2)).reverse).reverse:=by
 unfold JL rZ;rw[G5,List.foldr_reverse,List.foldl_map];rfl
theorem Tx (a:List Pt):JL (bk a a.length)=(rZ a).reverse:=by
 rw[Tw,Pn a _ (aB _),kZ,lK]
theorem Rk (p:Pt) (T:List Pt):(stp p T).length<=T.length+1:=by
 cases T with
 |nil=>simp[stp]
 |cons t T=>
  simp only[stp];split
  .simp
  .split
   .have:=(List.dropWhile_sublist (fun q:Pt=>decide (q.1=p.1)) (l:=t::T)).length_le;simp at this |-;omega
   .simp
theorem Rl (O:List Pt) (p:Pt):(GZ O p).length<=O.length+1:=by
 unfold GZ;have:=Rk p O.reverse;simpa using this
theorem KW:∀(a:List (Nat×Pt)) (O:List Pt),(a.foldl (fun O x=>GZ O x.2) O).length<=O.length+a.length
 |[],O=>aA
 |x::a,O=>by
  rw[uT];have b:=KW a (GZ O x.2);have c:=Rl O x.2;simp;omega
theorem Pq (a:List (Nat×Pt)):(JL a).length<=a.length:=by have:=KW a [];simpa[JL]using this
theorem Rm (p:Pt):GZ [] p=[p]:=rfl
theorem Ps (O:List Pt) (t p:Pt) (h:p.2.1<t.2.1\/p.2.1=t.2.1/\p.1<t.1):GZ (O++[t]) p=O++[t]:=by
 unfold GZ;simp only[Ah,Aw,List.reverse_nil,fO,D9,stp,aN h];simp
theorem ML (O:List Pt) (t p:Pt) (h:¬(p.2.1<t.2.1\/p.2.1=t.2.1/\p.1<t.1)) (a:¬(p.1=t.1/\t.2.1<p.2.1)):GZ (O++[t]) p=(O++[t])++[p]:=by
 unfold GZ;simp only[Ah,Aw,List.reverse_nil,fO,D9,stp,aM h,aM a];simp
theorem Pv (O:List Pt) (t p:Pt) (m:Nat) (h:¬(p.2.1<t.2.1\/p.2.1=t.2.1/\p.1<t.1)) (g:p.1=t.1/\t.2.1<p.2.1) (j:m<=(O++[t]).length) (i:∀q∈(O++[t]).drop m,q.1=p.1) (a:m=0\/∃b:m-1<(O++[t]).length,(O++[t])[m-1].1≠p.1):
  GZ (O++[t]) p=(O++[t]).take m++[p]:=by
 have e:(O++[t]).reverse=t::O.reverse:=aA;unfold GZ;rw[e];simp only[stp,aM h,aN g];rw[<-e];generalize O++[t]=L at*;have c:L.reverse=(L.drop m).reverse++(L.take m).reverse:=by rw[<-Ah,jB]
 rw[c,List.dropWhile_append_of_pos (aP i)];have d:(L.take m).reverse.dropWhile (fun q=>decide (q.1=p.1))=(L.take m).reverse:=by
  rcases a with rfl|⟨b,a⟩
  .simp
  .rcases qL m with rfl|zG
   .simp
   .have f:L.take m=L.take (m-1)++[L[m-1]]:=by
     have:=gW b;rw[show m-1+1=m by omega]at this;exact this
    rw[f,Ah,List.reverse_singleton,D9,List.dropWhile_cons_of_neg (aP a)]
 rw[d];simp
theorem Rn {g:Type} (B:Nat) (t:TypeId) (cs:g->Array Value):Own (fun s W=>W.heap[B]? =some (.cells (cs s) t (0,0))):=fun s X h i a e f=>
 (e.block B (aZ.1 a).1 (fun c=>by obtain⟨o,b,d⟩:=f B c.symm;rw[a]at b;cases b;cases d)).trans a
def Cg (n₀:Nat) (T:List Pt) (W:World):Prop:=∃v,Boxed W n₀ 22 v/\W.ownsRow n₀ 29 3 v T.length (T.flatMap bX)
theorem MM (d:Nat):Own (fun(c:List (Nat×Pt)) W=>Cg d (JL c) W):=fun s X e k j h i=>by
 have⟨v,f,g⟩:=j;have⟨l,a,b,_⟩:=holdsRow_own d d 22 29 3 (fun c=>(JL c).length) (fun c=>(JL c).flatMap bX) (fun _ _=>True) s X e k ⟨v,f,g,trivial⟩ h i;exact⟨l,a,b⟩
theorem Cg.alloc {a:Nat} {T:List Pt} {W:World} (h:Cg a T W) (o:Obj):Cg a T (W.alloc o):=by
 have⟨v,b,c⟩:=h;exact⟨v,b.alloc _,c.alloc _⟩
theorem jF {W:World} {o:Obj} {n:Nat} (h:n=W.heap.size):(W.alloc o).heap[n]? =some o:=by subst h;exact heap_alloc_new W o
theorem Ty:(Tryz.prog.info? 29).map (fun i=>(i.zero,i.size,i.bytes))=some (some (.agg #[af 0,af 0,ay 0]),3,24):=aO
theorem UE {d b:Nat} {w:World} (h:d<=w.heap.size) (j:b<w.heap.size):∀(W:World) (l:Nat) (o a:Obj),w.heap.size<=l->W.heap[l]? =some o->o.isCells=false->o.isWalk=false->NA d b W (W.putObj l a):=fun W l o a g c f i=>
 ⟨belowK_b (w:=w) h W l o a g c f i,(AJ W l a).block b (by have:=(aZ.1 c).1;omega) (by intro e;cases e;omega)⟩
def CJ (B Bx g cap:Nat) (O':List Pt) (px py pi tx ty ti:Int) (a:Option Addr) (n c:Nat) (W wr:World):Prop:=
 Boxed wr B 22 (au g (O'.length+1) cap)/\wr.ownsRow B 29 3 (au g (O'.length+1) cap) (O'.length+1) ((O'++[(tx,ty,ti)]).flatMap bX)/\
 Boxed wr (B+1) 22 (.slice a n c)/\wr.heap[Bx]? =some (.cells #[af px,af py,ay pi] 29 (0,0))/\Below B W wr/\KeepsOthers W wr
theorem CJ.bq {B Bx g d:Nat} {b:List Pt} {f i e k ty j:Int} {a:Option Addr} {n c:Nat} {W wr:World} (h:CJ B Bx g d b f i e k ty j a n c W wr) (q:Nat):CJ B Bx g d b f i e k ty j a n c W (wr.drewN q):=
 ⟨h.1,h.2.1,h.2.2.1,h.2.2.2.1,h.2.2.2.2.1.trans (Below.bq _ _),⟨h.2.2.2.2.2.1,h.2.2.2.2.2.2⟩⟩
theorem scanIn (N:Nat) (cv:3<=N) (a:Option Addr) (l:List Pt) (n c:Nat) (w:World) (bE:l.length=n) (h:bQ bX 3 w a l) (cb:n<=1000000):
  CallsIn Fence.wide N prog 145 #[.slice a n c] w fun e w'=>∃v m,e=.returned v/\w'.ownsRow w.heap.size 29 3 v m ((rZ l).flatMap bX)/\m=(rZ l).length/\Below w.heap.size w w':=by
 have aR:1<=N:=aa;obtain⟨aH,hi,ar,aE,aF⟩:=info_parts Ty;have av:(Value.agg #[af 0,af 0,ay 0]).cells.size=3:=rfl;obtain⟨aI,bJ⟩:∃z:Value,z=.agg #[af 0,af 0,ay 0]:=⟨_,rfl⟩;rw[<-bJ]at ar av;clear bJ;refine Ag func145 rfl trivial ?_ rfl;simp only[ntmps145,qN,dY,eZ,Nat.reduceAdd,Nat.reduceSub,qG,qH,qO,qK,fO,mH]
 gi_wp2_with (refine⟨trivial,?_⟩;gi_at_call 214;refine(Rj (N-1) _ _ _ _).mono ?_;rintro e w' ⟨rfl,rfl⟩)
 have bx:=(Boxed.new w 22 (aL)).alloc (.cells #[.slice a n c] 22);have a7:=Boxed.new (w.alloc (.cells #[aL] 22)) 22 (.slice a n c);rw[World.size_alloc]at a7;have bj:Below w.heap.size w ((w.alloc (.cells #[aL] 22)).alloc (.cells #[.slice a n c] 22)):=((aJ _ w).alloc (aB _) _).alloc aA _;have cg:((w.alloc (.cells #[aL] 22)).alloc (.cells #[.slice a n c] 22)).heap.size=w.heap.size+2:=aA;obtain⟨bc,bA⟩:∃bc,(w.alloc (.cells #[aL] 22)).alloc (.cells #[.slice a n c] 22)=bc:=⟨_,rfl⟩;rw[bA]at bx a7 bj cg |-;clear bA;refine wpIn_rangeFunc_ownH (F:=Fence.wide) rfl aR (gf:=280) (lb:=#[aj (w.heap.size+1)]) rfl trivial (di func280 aO rfl)
  (JJ (N-1) aa (w.heap.size+1) w.heap.size a n c l bE cb bc aa a7.cell (h.below bj) (fun ah b off e=>by
    subst e;rcases h with rfl|⟨co,cK,e,bD,_⟩
    .exact absurd rfl ah
    .cases e;exact bD)) NA.trans (UE aa aa) (aJ _ _) (fun _=>rfl)
  (fun ak W=>(Cg w.heap.size (JL ak) W/\Boxed W (w.heap.size+1) 22 (.slice a n c))/\Below w.heap.size w W)
  (fun _ _ _=>False)
  (OwnFrom.and (OwnFrom.and (Own.from (MM w.heap.size) _) (Own.from (boxed_own _ _ _) _)) (ownFrom_below (aB _) aa))
  (fun _ _ _ _ _ bs _ _=>bs)
  ⟨⟨⟨_,bx,dw _ _ _ _⟩,a7⟩,bj⟩
  (fun x a' W=>∃Bx,w.heap.size+1<Bx/\W.heap[Bx]? =some (.cells #[af x.2.1,af x.2.2.1,ay x.2.2.2] 29 (0,0))/\a'={tmps:=#[.slice a n c,undef,aL,aj w.heap.size,undef,aj Bx,undef,undef,.slice a n c,.func (.func 280) #[] #[aj (w.heap.size+1)],af (x.1:Int),iT x.2.1 x.2.2.1 x.2.2.2,undef,undef,undef,undef,undef,undef,undef,undef,undef,undef,undef,undef,undef,undef,undef,undef,undef,undef,undef,undef,undef,undef,undef,undef,undef,undef,undef,undef,undef,undef,undef,undef,undef,undef,undef,undef,undef,undef,undef,undef,undef,undef,undef,undef,undef,undef,undef,undef,undef,undef,undef,undef,undef,undef,undef,undef,undef,undef,undef,undef,undef,undef,undef,undef,undef,undef,undef],defers:=[]})
  (fun x a' _ X bR cm bs ad bF=>by obtain⟨Bx,aR,bh,bi⟩:=bs;exact⟨Bx,aR,Rn Bx 29 (fun(_:Unit)=>#[af x.2.1,af x.2.2.1,ay x.2.2.2]) () X bR cm bh ad (fun r e=>(bF r e).2),bi⟩)
  ?assign ?body ?done ?stop
 case assign=>
  rintro cl ak x W K ⟨⟨b3,G⟩,bl⟩ aw
  gi_wp2
  exact aw _ _ ((uN _ _).from _) ⟨(aJ _ W).alloc bl.size _,bY W _ _ G.lt⟩ ⟨⟨b3.alloc _,G.alloc _⟩,bl.alloc bl.size _⟩ ⟨W.heap.size,G.lt,uE W _,rfl⟩
 case body=>
  rintro cl ak ⟨cn,f,s,B⟩ a' W cE ⟨r,bF⟩ ⟨⟨⟨v,S,C⟩,G⟩,E⟩ ⟨Bx,ct,aM,rfl⟩ bD;have b5:=Pq ak;have bz:∀W',Cg w.heap.size (GZ (JL ak) (f,s,B)) W'->Cg w.heap.size (JL (ak++[(cn,f,s,B)])) W':=fun W' h=>by
   rw[Pp];exact h
  have Q:=ag bz;clear bz;generalize b4:JL ak=O at*;clear b4;have b6:=S.cell;have cy:=S.frozen;have cH:W.cell? (ae Bx 0)=some (af f):=aG aM;have cI:W.cell? (ae Bx 1)=some (af s):=aG aM;have cJ:W.cell? (ae Bx 2)=some (ay B):=aG aM;have cC:=G.lt;have cD:w.heap.size<W.heap.size:=aa;have cG:w.heap.size≠W.heap.size:=aa;have bZ:=(aZ.1 aM).1;rcases List.eq_nil_or_concat O with rfl|⟨i,t,rfl⟩
  .simp only[eZ,List.flatMap_nil]at C;have ce:=C;rw[Rm]at Q;have:v=aL\/∃g A,v=au g 0 A:=by
    rcases ce.2 with⟨rfl,_⟩|⟨g,A,bd,rfl,_⟩
    .exact .inl rfl
    .exact .inr ⟨g,A,rfl⟩
   rcases this with rfl|⟨cq,cp,rfl⟩
   all_goals
    gi_wp2_with (gi_at_builtin;refine xJ _ rfl _ _ 22 rfl w.heap.size 29 aH aI 3 24 underlying22 hi ar aE aF av ai _ _ _ rfl (C.alloc _) (ae W.heap.size 0) 1 1 [.int .i64 f,.int .i64 s,.int .u32 B] rfl rfl (uG (cs:=#[af f,af s,ay B]) (t:=29) (fr:=(0,0)) (jF aA)) (by simp[Value.oneCell']) dD aa aD ?_;intro a6 w1 J I _;obtain⟨aQ,aN,rfl⟩:=yc J;obtain⟨L,V,U,T,R⟩:=S.appended ai C E.size (aB _) J I;have aX:=L.cell;have a2:=L.frozen;have Y:=(G.alloc _).kept I (G.not_row ai C);have H:=fun u=>Y.other (B':=w.heap.size) aa u)
    simp only[jL]at V U T R;exact⟨T.from _,⟨R,(H _).trans G.symm⟩,⟨Q.o _ ⟨_,V,U⟩,H _⟩,E.trans R⟩
  .rw[List.concat_eq_append]at*;have ad:∃g A,v=au g (i.length+1) A/\g<W.heap.size/\w.heap.size<=g:=by
    rcases C.2 with⟨_,bV⟩|⟨g,A,bd,rfl,ad,b8,_⟩
    .simp at bV
    .exact⟨g,A,aA,(aZ.1 b8).1,ad⟩
   obtain⟨g,A,rfl,cz,cA⟩:=ad;obtain⟨d,ty,y⟩:=t;have cw:i.length+1<=ak.length:=aP b5;have az:=C;rw[show(i++[(d,ty,y)]).length=i.length+1 by simp]at az;have bK:=az.cellAt (i.length*3) aa;have bL:=az.cellAt (i.length*3+1) aa;have bM:=az.cellAt (i.length*3+2) aa;have al:=fun j b9=>flat_get bg (i++[(d,ty,y)]) i.length aA j b9;rw[show(i++[(d,ty,y)])[i.length]'aA=(d,ty,y) by simp]at al;rw[show i.length*3=i.length*3+0 by omega,al 0 aa]at bK;rw[al 1 aa]at bL;rw[al 2 aa]at bM;simp only[bX,fw,fD,dx]at bK bL bM;clear al;have C:=az;clear az;by_cases ab:s<ty\/s=ty/\f<d
   .have ac:=Ps i (d,ty,y) (f,s,B) ab;rw[ac]at Q;rcases ab with ab|⟨bH,cf⟩
    .have d1:decide (s<ty)=true:=by simp[ab]
     gi_wp2
     exact⟨(uN _ _).from _,⟨(aJ _ W).alloc E.size _,bY W _ _ G.lt⟩,⟨Q.o _ ⟨_,S.alloc _,by simpa using C.alloc _⟩,G.alloc _⟩,E.alloc E.size _⟩
    .have d1:decide (s<ty)=false:=aD;have d2:(s==ty)=true:=by simp[bH]
     have d3:decide (f<d)=true:=by simp[cf]
     clear bH
     gi_wp2
     exact⟨(uN _ _).from _,⟨(aJ _ W).alloc E.size _,bY W _ _ G.lt⟩,⟨Q.o _ ⟨_,S.alloc _,by simpa using C.alloc _⟩,G.alloc _⟩,E.alloc E.size _⟩
   .by_cases am:f=d/\ty<s
    .have d1:decide (s<ty)=false:=aD;have d2:(s==ty)=false:=aD;have d4:(f==d)=true:=by simp[am.1]
     have d5:decide (ty<s)=true:=by simp[am.2]
     have bN:=ag (fun m aR bh bi=>Pv i (d,ty,y) (f,s,B) m ab am aR bh bi);have bB:∀q∈(i++[(d,ty,y)]).drop (i.length+1),q.1=f:=by rw[ou aA];simp
     have bO:=ag bB;have b0:CJ w.heap.size Bx g A i f s B d ty y a n c W (W.alloc (.cells #[af d,af ty,ay y] 29)):=
      ⟨by simpa using S.alloc (.cells #[af d,af ty,ay y] 29),C.alloc _,G.alloc _,(bY W _ _ bZ).trans aM,(aJ _ W).alloc E.size _,uN _ _⟩
     clear am ab bB
     gi_wp2
     gi_loopw [7] (fun bv wr=>∃m:Nat,bv=.int .i64 m/\m<=i.length+1/\Hid (∀q∈(i++[(d,ty,y)]).drop m,q.1=f)/\
       CJ w.heap.size Bx g A i f s B d ty y a n c W wr) (fun bv _=>(intOf bv).toNat)
     case atStart=>exact⟨i.length+1,by go_num,aB _,bO,b0⟩
     case round=>
      obtain⟨m,rfl,cF,a1,an⟩:=hrel;have ba:=an.1.cell;have bI:wr.cell? (ae Bx 0)=some (af f):=aG an.2.2.2.1;have aK:(m=0\/∃cB:m-1<(i++[(d,ty,y)]).length,(i++[(d,ty,y)])[m-1].1≠f)->GZ (i++[(d,ty,y)]) (f,s,B)=(i++[(d,ty,y)]).take m++[(f,s,B)]:=fun h=>bN.o m aD a1.o h;rcases qL m with zG|zG
      .have ac:=aK (.inl zG);rw[ac]at Q;clear aK ac a1;subst zG
       gi_wp2
       refine kQ aO aO aO ?_
       repeat(gi_big_quiet_step (fail))
       refine wpQuietIn_nil ?_;intro _ a4;obtain⟨nq,hw''⟩:=a4;subst hw'';clear ba bI;have a0:CJ w.heap.size Bx g A i f s B d ty y a n c W (wr.drewN nq):=an.bq nq;clear an;generalize wr.drewN nq=M at a0 |-;obtain⟨Z,aq,aW,ao,aT,bn⟩:=a0;have bp:i.length+1<=A:=by
        obtain⟨_,_,bf,_,_,bp,_⟩:=aU aq aa;injection bf with _ _ bS;omega
       have ba:=Z.cell;have iW:=Z.frozen;have ah:w.heap.size≠Bx:=aa;have bu:=Z.set (au g 0 A);have ap:(M.setCell (ae w.heap.size 0) (au g 0 A)).ownsRow w.heap.size 29 3 (au g 0 A) 0 (((i++[(d,ty,y)]).take 0).flatMap bX):=by
        refine aY (by rw[<-pW bg];exact l8 aq aa) (fun bU e=>aC (fun be=>Z.not_row ai aq ?_));simp only[Value.ownBlock]at e |-;rw[e,<-be]
       have ci:(M.setCell (ae w.heap.size 0) (au g 0 A)).cell? (ae Bx 0)=some (af f):=by rw[World.cell?,aC ah];simp[ao]
       have cj:(M.setCell (ae w.heap.size 0) (au g 0 A)).cell? (ae Bx 1)=some (af s):=by rw[World.cell?,aC ah];simp[ao]
       have ck:(M.setCell (ae w.heap.size 0) (au g 0 A)).cell? (ae Bx 2)=some (ay B):=by rw[World.cell?,aC ah];simp[ao]
       have aV:∀u,Boxed (M.setCell (ae w.heap.size 0) u) (w.heap.size+1) 22 (.slice a n c):=fun u=>aW.other (B':=w.heap.size) aa u;have cc:=aW.lt;have bt:w.heap.size<=(M.setCell (ae w.heap.size 0) (au g 0 A)).heap.size:=by have:=aT.size;have:=Z.lt;simp;omega
       gi_wp2_with (gi_at_builtin;refine xJ _ rfl _ _ 22 rfl w.heap.size 29 aH aI 3 24 underlying22 hi ar aE aF av ai _ _ _ rfl (ap.alloc _) (ae M.heap.size 0) 1 1 [.int .i64 f,.int .i64 s,.int .u32 B] rfl rfl (uG (cs:=#[af f,af s,ay B]) (t:=29) (fr:=(0,0)) (jF aA)) (by simp[Value.oneCell']) dD aa aD ?_;intro a6 w1 J I _;obtain⟨aQ,aN,rfl⟩:=yc J;obtain⟨L,V,U,T,R⟩:=bu.appended ai ap bt (aB _) J I;have aX:=L.cell;have a2:=L.frozen;have Y:=((aV _).alloc _).kept I ((aV _).not_row ai ap);have H:=fun u=>Y.other (B':=w.heap.size) aa u)
       have P:=(aT.setCell (p:=(ae w.heap.size 0)) (aB _) (au g 0 A)).trans R;exact⟨((bn.trans (xH _ _ _)).trans T).from _,⟨P,(H _).trans G.symm⟩,⟨Q.o _ ⟨_,V,by rw[show((i++[(d,ty,y)]).take 0++[(f,s,B)]).length=0+1 by simp,gZ,xE];exact U⟩,H _⟩,E.trans P⟩
      .obtain⟨k,rfl⟩:∃k,m=k+1:=⟨m-1,aa⟩;have a8:=an.2.1.cellAt (k*3) aa;have al:=flat_get bg (i++[(d,ty,y)]) k aD 0 aa;rw[show k*3=k*3+0 by omega,al]at a8;simp only[bX,fw,dx]at a8;clear al;have ca:k<(i++[(d,ty,y)]).length:=aD;simp only[Nat.add_sub_cancel]at aK;have bw:=ag aK;have bb:=Lj (i++[(d,ty,y)]) (k+1) aa aa;simp only[Nat.add_sub_cancel]at bb;clear aK;obtain⟨a5,a3⟩:∃a5,a5=(i++[(d,ty,y)])[k].1:=⟨_,rfl⟩;rw[<-a3]at a8;have cr:(decide ((0:Int)<((k+1:Nat):Int)))=true:=aA;by_cases ax:a5=f
       .have bT:(a5==f)=true:=by simp[ax]
        have bC:∀q∈(i++[(d,ty,y)]).drop k,q.1=f:=by
         rw[bb];intro q h;rcases gU.1 h with rfl|h
         .rw[<-a3];exact ax
         .exact a1.o q h
        have bP:=ag bC;clear bC bb a3 ax a1
        gi_wp2
        refine kQ aO aO aO ?_
        repeat(gi_big_quiet_step (fail))
        refine wpQuietIn_nil ?_;intro _ a4;obtain⟨nq,hw''⟩:=a4;subst hw''
        gi_wp2
        go_roundw
        case rel=>exact⟨k,by go_num,aa,bP,an.bq nq⟩
        case measure=>simp[intOf]
       .have bT:(a5==f)=false:=by simp[ax]
        have ac:=bw.o (.inr ⟨ca,by rw[<-a3];exact ax⟩);rw[ac]at Q;clear bb a3 ax bw ac a1
        gi_wp2
        refine kQ aO aO aO ?_
        repeat(gi_big_quiet_step (fail))
        refine wpQuietIn_nil ?_;intro _ a4;obtain⟨nq,hw''⟩:=a4;subst hw'';clear a8;clear ba bI;have a0:CJ w.heap.size Bx g A i f s B d ty y a n c W (wr.drewN nq):=an.bq nq;clear an;generalize wr.drewN nq=M at a0 |-;obtain⟨Z,aq,aW,ao,aT,bn⟩:=a0;have bp:i.length+1<=A:=by
         obtain⟨_,_,bf,_,_,bp,_⟩:=aU aq aa;injection bf with _ _ bS;omega
        have ba:=Z.cell;have iW:=Z.frozen;have ah:w.heap.size≠Bx:=aa;have bu:=Z.set (au g (k+1) A);have ap:(M.setCell (ae w.heap.size 0) (au g (k+1) A)).ownsRow w.heap.size 29 3 (au g (k+1) A) (k+1) (((i++[(d,ty,y)]).take (k+1)).flatMap bX):=by
         refine aY (by rw[<-pW bg];exact l8 aq aa) (fun bU e=>aC (fun be=>Z.not_row ai aq ?_));simp only[Value.ownBlock]at e |-;rw[e,<-be]
        have ci:(M.setCell (ae w.heap.size 0) (au g (k+1) A)).cell? (ae Bx 0)=some (af f):=by rw[World.cell?,aC ah];simp[ao]
        have cj:(M.setCell (ae w.heap.size 0) (au g (k+1) A)).cell? (ae Bx 1)=some (af s):=by rw[World.cell?,aC ah];simp[ao]
        have ck:(M.setCell (ae w.heap.size 0) (au g (k+1) A)).cell? (ae Bx 2)=some (ay B):=by rw[World.cell?,aC ah];simp[ao]
        have aV:∀u,Boxed (M.setCell (ae w.heap.size 0) u) (w.heap.size+1) 22 (.slice a n c):=fun u=>aW.other (B':=w.heap.size) aa u;have cc:=aW.lt;have bt:w.heap.size<=(M.setCell (ae w.heap.size 0) (au g (k+1) A)).heap.size:=by have:=aT.size;have:=Z.lt;simp;omega
        gi_wp2_with (gi_at_builtin;refine xJ _ rfl _ _ 22 rfl w.heap.size 29 aH aI 3 24 underlying22 hi ar aE aF av ai _ _ _ rfl (ap.alloc _) (ae M.heap.size 0) 1 1 [.int .i64 f,.int .i64 s,.int .u32 B] rfl rfl (uG (cs:=#[af f,af s,ay B]) (t:=29) (fr:=(0,0)) (jF aA)) (by simp[Value.oneCell']) dD aa aD ?_;intro a6 w1 J I _;obtain⟨aQ,aN,rfl⟩:=yc J;obtain⟨L,V,U,T,R⟩:=bu.appended ai ap bt (aB _) J I;have aX:=L.cell;have a2:=L.frozen;have Y:=((aV _).alloc _).kept I ((aV _).not_row ai ap);have H:=fun u=>Y.other (B':=w.heap.size) aa u)
        have P:=(aT.setCell (p:=(ae w.heap.size 0)) (aB _) (au g (k+1) A)).trans R;exact⟨((bn.trans (xH _ _ _)).trans T).from _,⟨P,(H _).trans G.symm⟩,⟨Q.o _ ⟨_,V,by rw[show((i++[(d,ty,y)]).take (k+1)++[(f,s,B)]).length=(k+1)+1 by simp;omega,gZ,xE];exact U⟩,H _⟩,E.trans P⟩
    .have ac:=ML i (d,ty,y) (f,s,B) ab am;rw[ac]at Q;have d1:decide (s<ty)=false:=aD;by_cases aS:s=ty
     .have d2:(s==ty)=true:=by simp[aS]
      have d3:decide (f<d)=false:=aD;have d5:decide (ty<s)=false:=aD;by_cases a9:f=d
      .have d4:(f==d)=true:=by simp[a9]
       clear aS a9 ab am
       gi_wp2_with (gi_at_builtin;refine xJ _ rfl _ _ 22 rfl w.heap.size 29 aH aI 3 24 underlying22 hi ar aE aF av ai _ _ _ rfl ((C.alloc _).alloc _) (ae (W.heap.size+1) 0) 1 1 [.int .i64 f,.int .i64 s,.int .u32 B] rfl rfl (uG (cs:=#[af f,af s,ay B]) (t:=29) (fr:=(0,0)) (jF aA)) (by simp[Value.oneCell']) dD aa aD ?_;intro a6 w1 J I _;obtain⟨aQ,aN,rfl⟩:=yc J;obtain⟨L,V,U,T,R⟩:=(S.alloc (.cells #[af d,af ty,ay y] 29)).appended ai (C.alloc _) (E.alloc E.size _).size (aB _) J I;have aX:=L.cell;have a2:=L.frozen;have Y:=((G.alloc (.cells #[af d,af ty,ay y] 29)).alloc _).kept I ((G.alloc (.cells #[af d,af ty,ay y] 29)).not_row ai (C.alloc _));have H:=fun u=>Y.other (B':=w.heap.size) aa u)
       have P:=((aJ w.heap.size W).alloc E.size _).trans R;exact⟨((uN _ _).trans T).from _,⟨P,(H _).trans G.symm⟩,⟨Q.o _ ⟨_,V,by rw[show((i++[(d,ty,y)])++[(f,s,B)]).length=i.length+1+1 by simp,gZ,xE];exact U⟩,H _⟩,E.trans P⟩
      .have d4:(f==d)=false:=by simp[a9]
       clear aS a9 ab am
       gi_wp2_with (gi_at_builtin;refine xJ _ rfl _ _ 22 rfl w.heap.size 29 aH aI 3 24 underlying22 hi ar aE aF av ai _ _ _ rfl ((C.alloc _).alloc _) (ae (W.heap.size+1) 0) 1 1 [.int .i64 f,.int .i64 s,.int .u32 B] rfl rfl (uG (cs:=#[af f,af s,ay B]) (t:=29) (fr:=(0,0)) (jF aA)) (by simp[Value.oneCell']) dD aa aD ?_;intro a6 w1 J I _;obtain⟨aQ,aN,rfl⟩:=yc J;obtain⟨L,V,U,T,R⟩:=(S.alloc (.cells #[af d,af ty,ay y] 29)).appended ai (C.alloc _) (E.alloc E.size _).size (aB _) J I;have aX:=L.cell;have a2:=L.frozen;have Y:=((G.alloc (.cells #[af d,af ty,ay y] 29)).alloc _).kept I ((G.alloc (.cells #[af d,af ty,ay y] 29)).not_row ai (C.alloc _));have H:=fun u=>Y.other (B':=w.heap.size) aa u)
       have P:=((aJ w.heap.size W).alloc E.size _).trans R;exact⟨((uN _ _).trans T).from _,⟨P,(H _).trans G.symm⟩,⟨Q.o _ ⟨_,V,by rw[show((i++[(d,ty,y)])++[(f,s,B)]).length=i.length+1+1 by simp,gZ,xE];exact U⟩,H _⟩,E.trans P⟩
     .have d2:(s==ty)=false:=by simp[aS]
      have d4:(f==d)=false:=aD;clear aS ab am
      gi_wp2_with (gi_at_builtin;refine xJ _ rfl _ _ 22 rfl w.heap.size 29 aH aI 3 24 underlying22 hi ar aE aF av ai _ _ _ rfl ((C.alloc _).alloc _) (ae (W.heap.size+1) 0) 1 1 [.int .i64 f,.int .i64 s,.int .u32 B] rfl rfl (uG (cs:=#[af f,af s,ay B]) (t:=29) (fr:=(0,0)) (jF aA)) (by simp[Value.oneCell']) dD aa aD ?_;intro a6 w1 J I _;obtain⟨aQ,aN,rfl⟩:=yc J;obtain⟨L,V,U,T,R⟩:=(S.alloc (.cells #[af d,af ty,ay y] 29)).appended ai (C.alloc _) (E.alloc E.size _).size (aB _) J I;have aX:=L.cell;have a2:=L.frozen;have Y:=((G.alloc (.cells #[af d,af ty,ay y] 29)).alloc _).kept I ((G.alloc (.cells #[af d,af ty,ay y] 29)).not_row ai (C.alloc _));have H:=fun u=>Y.other (B':=w.heap.size) aa u)
      have P:=((aJ w.heap.size W).alloc E.size _).trans R;exact⟨((uN _ _).trans T).from _,⟨P,(H _).trans G.symm⟩,⟨Q.o _ ⟨_,V,by rw[show((i++[(d,ty,y)])++[(f,s,B)]).length=i.length+1+1 by simp,gZ,xE];exact U⟩,H _⟩,E.trans P⟩
 case done=>
  rintro D xs W cu rfl ⟨⟨⟨v,S,C⟩,G⟩,E⟩ aw;subst bE;have br:=Pq (bk l l.length);rw[Pm]at br;rw[Tx]at C br;simp only[List.length_reverse]at C br;have b6:=S.cell;have cd:=S.not_row ai C;have b7:∀j,v.ownBlock=some j->w.heap.size<=j:=fun j e=>by
   rcases C.2 with⟨rfl,_⟩|⟨g,A,bd,rfl,bo,_⟩
   .cases e
   .cases e;exact bo
  have b2:some D≠v.ownBlock:=fun e=>by
   rcases C.2 with⟨rfl,_⟩|⟨g,A,bd,rfl,_,bo,_⟩
   .cases e
   .cases e;rw[bo]at aw;cases aw
  have b1:=(aZ.1 aw).1
  gi_wp2_with (refine⟨trivial,?_⟩;gi_at_call 215;refine(x9.2 (SF aA aa C)).mono ?_;rintro e w' ⟨rfl,bG,ad⟩;have ch:=S.kept ad cd;have cx:=ch.cell;have bm:=(ad.block D b1 b2).trans aw;have bW:=E.grown ad E.size b7)
  rw[List.reverse_reverse]at bG;refine⟨aA,.inl ⟨_,_,rfl,Az bm,?_⟩⟩;exact⟨_,results_tmp rfl _ _ _,_,_,rfl,ownsRow_putObj bG _ bm rfl,rfl,bW.trans (belowK_b (w:=w) (aB _) _ _ _ _ aa bm rfl rfl)⟩
 case stop=>
  rintro D c ak W _ _ h _;exact h.elim
theorem vR {a:Option Addr} {l:List Pt} {n c:Nat} {w:World} (i:l.length=n) (h:bQ bX 3 w a l) (f:n<=1000000):
  aK 145 #[.slice a n c] w fun e w'=>∃v,e=.returned v/\w'.ownsRow w.heap.size 29 3 v (rZ l).length ((rZ l).flatMap bX)/\Below w.heap.size w w':=
 (x9.1 (scanIn 3 aa a l n c w i h f)).mono fun e w' ⟨v,m,d,j,g,b⟩=>⟨v,d,g▸j,b⟩
end
section
open Go.RowKit Go.Maps
theorem eB {w:World} {base b:Nat} {e:TypeId} {size:Nat} {v:Value} {n:Nat} {xs:List Value} (h:w.ownsRow base e size v n xs) (i:b<=base):w.ownsRow b e size v n xs:=by
 have⟨f,a⟩:=h;refine⟨f,?_⟩;rcases a with a|⟨g,c,d,k,j,r⟩
 .exact .inl a
 .exact .inr ⟨g,c,d,k,bD i j,r⟩
theorem gV (l:List Pt):lH l=true↔(ids l).Nodup:=by simp[lH]
theorem Tz (a:Option Addr) (l:List Pt) (n c:Nat) (w:World) (E:l.length=n) (h:bQ bX 3 w a l) (f:n<=1000000) (J:KT l) (hu:lH l=true):
  aK 148 #[.slice a n c] w fun e w'=>∃v,e=.returned (.tuple #[v,af 0])/\w'.ownsRow w.heap.size 29 3 v (bM l).length ((bM l).flatMap bX)/\Below w.heap.size w w':=by
 subst E;have i:=ag h;have t:=ag J;have k:=(gV l).1 hu;have r:=ag k;have I:(eP l).length=l.length:=(dN l).length_eq;have H:rZ (eP l)=bM l:=Dq _ (fT k);have s:=ag H;go_enter func148,ntmps148
 go_wp2_with fail
 refine(qD w.heap.size 1 [(a,l,c)] _ aA (GY c 22 i.o) (by rw[o7];exact f) aA (by rw[o7];exact t.o)).mono ?_;rw[o7,hu];rintro e w1 ⟨rfl,B⟩;have b:Below w.heap.size w w1:=((aJ _ w).alloc (aB _) _).trans (B.mono aA)
 go_wp2_with fail
 refine(oN a l l.length c w1 rfl (i.o.below b) f).mono ?_;rintro e w2 ⟨v,rfl,m,j⟩;have p:=b.trans (j.mono b.size);have u:=b.size;have x:=j.size;obtain⟨y,L,rfl,_,_,_⟩:=bQ.aI bg ai m
 go_wp2_with fail
 refine(NS rfl aa m r.o x).mono ?_;rintro e w3 ⟨rfl,F,C⟩;have d:=p.trans (C.mono u);have g:bQ bX 3 w3 y (eP l):=by
  have⟨K,M,z,_,_,g⟩:=bQ.aI bg ai F;injection z with A _ _;exact A▸g
 go_wp2_with fail
 refine(vR I g f).mono ?_;rw[s.o];rintro e w4 ⟨N,rfl,G,D⟩;have q:=d.trans (D.mono d.size);go_wp2;go_ret2;exact⟨_,rfl,eB G d.size,q⟩
end
section
def mrgP:List Pt->List Pt->List Pt
 |[],B=>B
 |A,[]=>A
 |x::A,y::B=>if iE x y<0 then x::mrgP A (y::B)else y::mrgP (x::A) B
 termination_by A B=>A.length+B.length
theorem Ch (B:List Pt):mrgP [] B=B:=by simp[mrgP]
theorem yT (A:List Pt):mrgP A []=A:=by cases A<;>simp[mrgP]
theorem yU (x:Pt) (A:List Pt) (y:Pt) (B:List Pt):mrgP (x::A) (y::B)=if iE x y<0 then x::mrgP A (y::B)else y::mrgP (x::A) B:=by
 rw[mrgP]
theorem mG:∀(n:Nat) (A B:List Pt),A.length+B.length<=n->(mrgP A B).Perm (A++B)
 |_,[],B,_=>by rw[Ch,fO]
 |_,x::A,[],_=>by rw[yT,iJ]
 |0,_::_,_::_,h=>by simp at h
 |n+1,x::A,y::B,h=>by
  rw[yU];split
  .exact(mG n A (y::B) (by simp at h |-;omega)).cons x
  .refine((mG n (x::A) B (by simp at h |-;omega)).cons y).trans ?_;exact(List.perm_middle (l₁:=x::A)).symm
theorem MO {x y:Pt} (h:¬kE x y) (hi:x.2.2≠y.2.2):kE y x:=by unfold kE at*;omega
theorem sN:∀(n:Nat) (A B:List Pt),A.length+B.length<=n->A.Pairwise kE->B.Pairwise kE->(∀x∈A,∀y∈B,x.2.2≠y.2.2)->(mrgP A B).Pairwise kE
 |_,[],B,_,_,c,_=>by rw[Ch];exact c
 |_,x::A,[],_,b,_,_=>by rw[yT];exact b
 |0,_::_,_::_,h,_,_,_=>by simp at h
 |n+1,x::A,y::B,h,b,c,hd=>by
  have d:=lV.1 b;have e:=lV.1 c;rw[yU];split
  .rename_i a;rw[qf]at a;refine lV.2 ⟨fun z hz=>?_,sN n A (y::B) (by simp at h |-;omega) d.2 c (fun u hu v f=>hd u (by simp[hu]) v f)⟩;rcases bP.1 ((mG _ A (y::B) (aB _)).mem_iff.1 hz)with hz|hz
   .exact d.1 z hz
   .rcases gU.1 hz with rfl|hz
    .exact a
    .exact oH a (e.1 z hz)
  .rename_i a;rw[qf]at a;have g:=MO a (hd x aA y aA);refine lV.2 ⟨fun z hz=>?_,sN n (x::A) B (by simp at h |-;omega) b e.2 (fun u hu v f=>hd u hu v (by simp[f]))⟩;rcases bP.1 ((mG _ (x::A) B (aB _)).mem_iff.1 hz)with hz|hz
   .rcases gU.1 hz with rfl|hz
    .exact g
    .exact oH g (d.1 z hz)
   .exact e.1 z hz
theorem xq {l:List Pt} (h:jZ l=true):l.Pairwise kE:=by
 unfold jZ at h;rw[mJ]at h;refine(oJ h.1).imp fun{p q} a=>?_;unfold CF at a;unfold kE;omega
theorem MP {A B:List Pt} (a:jZ A=true) (b:jZ B=true) (hu:(ids (A++B)).Nodup):rZ (mrgP A B)=bM (A++B):=by
 have hd:∀x∈A,∀y∈B,x.2.2≠y.2.2:=by
  intro x d y f;unfold ids at hu;rw[bL,mI]at hu;exact hu.2.2 _ (nO d) _ (nO f)
 have c:=sN _ A B (aB _) (xq a) (xq b) hd;have e:mrgP A B=eP (A++B):=Kg hu c fun p=>(mG _ A B (aB _)).mem_iff;rw[e];exact Dq _ (fT hu)
end
section
open Go.RowKit Go.Maps
theorem zy {α:Type} {P:Program} {enc:α->List Value} {sz:Nat} {t ty e:TypeId} {bytes:Nat} (m:eD P t e sz bytes) (h:∀x,(enc x).length=sz) (q:∀x,∀u∈enc x,u.oneCell'=true) (base:Nat) {v:Value} {n:Nat} {xs:List Value} {W:World} (k:W.ownsRow base e sz v n xs) {ad:Option Addr} {l:List α} (F:bQ enc sz W ad l)
  (c:Nat) (s:n+l.length<=maxLen) (C:(n+l.length)*bytes<=140737488355328) (A:base<=W.heap.size):
  ∃g w',(Builtin.append_ #[t,t] ty #[v,.slice ad l.length c]).run P W=.ok g w'/\w'.ownsRow base e sz g (n+l.length) (xs++l.flatMap enc)/\W.grownBy w' v.ownBlock:=by
 rcases F with rfl|⟨b,off,rfl,K,D⟩
 .exact⟨v,W,jv m k ad c,aP k,⟨rfl,rfl,rfl,aB _,fun _ _ _=>rfl⟩⟩
 .obtain⟨ht,⟨i,z,hi,I,G,B,J⟩,f⟩:=m;have⟨g,w',a,d,r,_⟩:=run_append_own (P:=P) W base t ty e i z sz bytes ht hi I G B J f v n xs k (ae b off) l.length c (l.flatMap enc) (gm h l) (by
   intro j u hu;have w:((ae b off):Addr).add j=(ae b (off+j)):=by unfold Addr.add;split<;>simp_all
   rw[w];have E:j<l.length*sz:=by
    have:=(fE.1 hu).1;rw[gm h]at this;exact this
   have p:j/sz<l.length:=(Im f).2 E;have a:=D (j/sz) p (j%sz) (pU _ f);have d:=flat_get h l (j/sz) p (j%sz) (pU _ f);have o:j/sz*sz+j%sz=j:=by rw[x8];exact Nat.div_add_mod j sz
   rw[o]at d;rw[rJ,o]at a;rw[a,<-d];exact hu) (by
   intro u hu;have⟨y,_,H⟩:=xQ.1 hu;exact q y u H) s C A
  exact⟨g,w',a,d,r⟩
theorem MQ (p q:Pt) (W:World):aK 94 #[iT p.1 p.2.1 p.2.2,iT q.1 q.2.1 q.2.2] W (fV W (af (iE p q))):=
 (SE p q W).mono fun _ _ h=>⟨h.1,h.2.below (aB _)⟩
def lenOf:Value->Nat
 |.slice _ n _=>n
 |_=>0
theorem Pw {W:World} {a b:Option Addr} {c lb:List Pt} (d cb:Nat) (t:TypeId) (h:bQ bX 3 W a c) (e:bQ bX 3 W b lb):MJ (W.alloc (.cells #[.slice a c.length d,.slice b lb.length cb] t)) W.heap.size [(a,c,d),(b,lb,cb)]:=by
 intro j f;simp only[dY,eZ]at f;obtain rfl|rfl:j=0\/j=1:=aa
 .exact⟨by rw[ek _ _ _ _ rfl];rfl,h.below ((aJ _ _).alloc (aB _) _)⟩
 .exact⟨by rw[ek _ _ _ _ rfl];rfl,e.below ((aJ _ _).alloc (aB _) _)⟩
theorem Ci (a b:Option Addr) (c lb:List Pt) (d cb:Nat):mh [(a,c,d),(b,lb,cb)]=c++lb:=by simp[mh]
theorem JM {A B:List Pt} (h:KT A) (a:KT B):KT (A++B):=fun p hp=>by
 rcases bP.1 hp with hp|hp
 .exact h p hp
 .exact a p hp
theorem Cj {α:Type} {enc:α->List Value} {sz:Nat} {w:World} {a:Option Addr} {l:List α} (h:l.length=0):bQ enc sz w a l:=.inl (gX h)
theorem bQ.tail {α:Type} {enc:α->List Value} {sz:Nat} {w:World} {b off:Nat} {x:α} {l:List α} (h:bQ enc sz w (some (ae b off)) (x::l)):bQ enc sz w (some (ae b (off+sz))) l:=by
 have:=h.drop 1;simpa using this
theorem MR (a b:Option Addr) (z lb:List Pt) (aF aG S cb:Nat) (w:World) (bT:z.length=aF) (bU:lb.length=aG) (bL:aF<=S) (bN:aG<=cb) (a0:bQ bX 3 w a z) (r:bQ bX 3 w b lb) (bO:aF+aG<=1000000) (bx:KT z) (bz:KT lb) (bv:jZ z=true) (bw:jZ lb=true) (hu:lH (z++lb)=true):
  aK 62 #[.slice a aF S,.slice b aG cb] w fun e w'=>∃v,e=.returned (.tuple #[v,af 0])/\w'.ownsRow w.heap.size 29 3 v (bM (z++lb)).length ((bM (z++lb)).flatMap bX)/\Below w.heap.size w w':=by
 subst bT bU;have bP:=MP bv bw ((gV _).1 hu);have b6:(mrgP z lb).length=z.length+lb.length:=by have:=(mG _ z lb (aB _)).length_eq;simpa using this
 rw[<-bP];have br:=ag (zx a z z.length S w rfl a0 aa bx);have bs:=ag (fun W (h:Below w.heap.size w W)=>zx b lb lb.length cb W rfl (r.below h) aa bz);have bt:=ag (fun W (h:Below w.heap.size w W)=>qD W.heap.size 2 [(a,z,S),(b,lb,cb)] _ aA (Pw S cb 22 (a0.below h) (r.below h)) (by rw[Ci];simpa using bO) aA (by rw[Ci];exact JM bx bz));rw[bv]at br;rw[bw]at bs;rw[Ci,hu]at bt;have L:=ag a0;have N:=ag r;generalize bI:mrgP z lb=M at*;have bA:=ag bI;go_enter func62,ntmps62;go_wp2
 go_step3
 go_wp2_with fail
 refine br.o.mono ?_;rintro e w1 ⟨rfl,a1⟩
 go_wp2_with fail
 refine(bs.o w1 a1).mono ?_;rintro e w2 ⟨rfl,bJ⟩;have aw:=a1.trans (bJ.mono a1.size)
 go_wp2_with fail
 refine(bt.o w2 aw).mono ?_;rintro e w4 ⟨rfl,bK⟩;have V:=(aw.alloc aw.size (.cells #[.slice a z.length S,.slice b lb.length cb] 22)).trans (bK.mono (by have:=aw.size;simp;omega));have bB:=ag (L.o.below V);have bC:=ag (N.o.below V);go_wp2
 go_step3
 go_wp2
 go_loopw [0,1,6] (fun bm bn b4 wr=>∃(A B O:List Pt) (aY aZ aj:Option Addr) (E F au:Nat),bm=.slice aY A.length E/\bn=.slice aZ B.length F/\b4=.slice aj O.length au/\A.length<=E/\B.length<=F/\
   Hid (wr.ownsRow w4.heap.size 29 3 (.slice aj O.length au) O.length (O.flatMap bX))/\Hid (bQ bX 3 w4 aY A)/\Hid (bQ bX 3 w4 aZ B)/\Hid (O++mrgP A B=M)/\O.length+A.length+B.length=z.length+lb.length/\Below w4.heap.size w4 wr)
  (fun bm bn _ _=>lenOf bm+lenOf bn)
 case atStart=>exact⟨z,lb,[],a,b,none,S,cb,0,rfl,rfl,rfl,bL,bN,dw _ _ _ _,bB,bC,bA,aA,aJ _ _⟩
 case round=>
  obtain⟨A,B,O,aY,aZ,aj,E,F,au,rfl,rfl,rfl,ar,aE,HO,L,N,U,a8,r⟩:=hrel;cases A with
  |nil=>
   rw[Ch]at U;simp only[eZ]at ar a8 |-
   go_wp2_with (at_builtin;refine iO pV bg nG w4.heap.size HO.o (N.o.below r) rfl _ _ rfl rfl F rfl dD aa r.size ?_;intro b1 w6 ap a6)
   rw[<-gZ,U.o]at ap;obtain⟨bF,bH,rfl,bS,_,bc⟩:=bQ.aI bg ai ap;have u:Below w.heap.size w w6:=V.trans ((dB r HO.o a6 r.size (aB _)).mono V.size);refine(vR rfl bc aa).mono ?_;rintro e b5 ⟨b3,rfl,bb,a2⟩;go_wp2;rw[Exit.noGoto_ret];go_ret2;exact⟨_,rfl,eB bb u.size,u.trans (a2.mono u.size)⟩
  |cons x C=>
   cases B with
   |nil=>
    rw[yT]at U;simp only[eZ,dY]at ar aE a8 |-
    go_wp2_with (at_builtin;refine iO (l:=x::C) pV bg nG w4.heap.size HO.o (L.o.below r) rfl _ _ rfl rfl E rfl (by unfold maxLen;simp;omega) aD r.size ?_;intro b1 w6 ap a6)
    rw[<-gZ,U.o]at ap;obtain⟨bF,bH,rfl,bS,_,bc⟩:=bQ.aI bg ai ap;have u:Below w.heap.size w w6:=V.trans ((dB r HO.o a6 r.size (aB _)).mono V.size);refine(vR rfl bc aa).mono ?_;rintro e b5 ⟨b3,rfl,bb,a2⟩;go_wp2;rw[Exit.noGoto_ret];go_ret2;exact⟨_,rfl,eB bb u.size,u.trans (a2.mono u.size)⟩
   |cons y D=>
    simp only[dY]at a8;obtain⟨c,g,rfl,I,a3⟩:=L.o.get aA;obtain⟨d,ob,rfl,J,a4⟩:=N.o.get aA;have bD:=ag (bQ.tail L.o);have bE:=ag (bQ.tail N.o);have av:=ag (yU x C y D);have⟨j,k,i⟩:=x;have⟨n,q,m⟩:=y;have bo:=a3 0 aA 0 aa;have x1:=a3 0 aA 1 aa;have x2:=a3 0 aA 2 aa;have bp:=a4 0 aA 0 aa;have y1:=a4 0 aA 1 aa;have y2:=a4 0 aA 2 aa;simp only[rq,bX,fw,fD,dx,Nat.zero_mul]at bo x1 x2 bp y1 y2;have bf:=(r.cell (p:=(ae c g)) I).trans bo;have bh:=(r.cell (p:=(ae c (g+1))) I).trans x1;have bi:=(r.cell (p:=(ae c (g+2))) I).trans x2;have bj:=(r.cell (p:=(ae d ob)) J).trans bp;have bk:=(r.cell (p:=(ae d (ob+1))) J).trans y1;have bl:=(r.cell (p:=(ae d (ob+2))) J).trans y2;have aW:=ag (And.intro bo (And.intro x1 x2));have aX:=ag (And.intro bp (And.intro y1 y2));have b7:=ah bf;have b8:=ah bh;have b9:=ah bi;have ca:=ah bj;have cc:=ah bk;have cd:=ah bl;have bu:=ag (fun W=>MQ (j,k,i) (n,q,m) W);simp only[dY]at ar aE |-;by_cases a9:iE (j,k,i) (n,q,m)<0
    .rw[aN a9]at av;have hd:decide (iE (j,k,i) (n,q,m)<0)=true:=by simp[a9]
     generalize iE (j,k,i) (n,q,m)=b0 at*;go_wp2;refine bG aO aO ?_
     repeat(quiet_step ((go_at_call 94;exact dJ (bu.o _))))
     refine jM ?_;intro f be;have s:Below wr.heap.size wr f:=by obtain⟨p,rfl⟩:=be;exact p.h
     have G:c<wr.heap.size:=bR I r.size;have H:d<wr.heap.size:=bR J r.size;have aH:=(s.cell (p:=(ae c g)) G).trans bf;have aL:=(s.cell (p:=(ae c (g+1))) G).trans bh;have aQ:=(s.cell (p:=(ae c (g+2))) G).trans bi;have aR:=(s.cell (p:=(ae d ob)) H).trans bj;have aS:=(s.cell (p:=(ae d (ob+1))) H).trans bk;have aT:=(s.cell (p:=(ae d (ob+2))) H).trans bl;have ax:c<f.heap.size:=bR G s.size;have aC:d<f.heap.size:=bR H s.size;have aV:=az HO.o s;have ak:=r.trans (s.mono r.size);have bd:=ak.size;have ab:Hid ((O++[(j,k,i)])++mrgP C ((n,q,m)::D)=M):=by
      have:=U.o;rw[av.o,List.append_cons]at this;exact this
     have aU:(O++[(j,k,i)]).length+C.length+(D.length+1)=z.length+lb.length:=aD;have ad:((f.alloc (.cells #[af j,af k,ay i] 29)).drew).ownsRow w4.heap.size 29 3 (.slice aj O.length au) O.length (O.flatMap bX):=(aV.alloc _).bq 1;have⟨b2,w6,K,aq,a7⟩:=zy (ty:=22) (t:=22) (P:=prog) (l:=[(j,k,i)]) pV bg nG w4.heap.size ad ((bQ.lit bg f 29 [(j,k,i)] f.heap.size rfl).below (Below.bq _ 1)) 1 (by unfold maxLen;simp;omega) aD aD;have u:Below w4.heap.size w4 w6:=dB ((ak.alloc (aP bd) _).drew) ad a7 aD (aB _);obtain⟨Q,R,rfl,-,-,-⟩:=bQ.aI (l:=O++[(j,k,i)]) (enc:=bX) bg ai (aP aq);have ba:w6.ownsRow w4.heap.size 29 3 (.slice Q (O++[(j,k,i)]).length R) (O++[(j,k,i)]).length ((O++[(j,k,i)]).flatMap bX):=aP aq;have ac:=ag ba;have X:(O++[(j,k,i)]).length=O.length+1:=aA;rw[X]at K;have Y:=ag X;have al:f.cell? (ae c g)=some (af j)/\f.cell? (ae c (g+1))=some (af k)/\f.cell? (ae c (g+2))=some (ay i):=⟨aH,aL,aQ⟩;have am:f.drew.cell? (ae c g)=some (af j)/\f.drew.cell? (ae c (g+1))=some (af k)/\f.drew.cell? (ae c (g+2))=some (ay i):=⟨aH,aL,aQ⟩;have an:((f.alloc (.cells #[af j,af k,ay i] 29)).drew).cell? (ae c g)=some (af j)/\((f.alloc (.cells #[af j,af k,ay i] 29)).drew).cell? (ae c (g+1))=some (af k)/\((f.alloc (.cells #[af j,af k,ay i] 29)).drew).cell? (ae c (g+2))=some (ay i):=by
      have T:=(aJ f.heap.size f).alloc (aB _) (.cells #[af j,af k,ay i] 29);exact⟨(T.cell (p:=(ae c g)) ax).trans aH,(T.cell (p:=(ae c (g+1))) ax).trans aL,(T.cell (p:=(ae c (g+2))) ax).trans aQ⟩
     have ao:w6.cell? (ae c g)=some (af j)/\w6.cell? (ae c (g+1))=some (af k)/\w6.cell? (ae c (g+2))=some (ay i):=by
      exact⟨(u.cell (p:=(ae c g)) I).trans aW.o.1,(u.cell (p:=(ae c (g+1))) I).trans aW.o.2.1,(u.cell (p:=(ae c (g+2))) I).trans aW.o.2.2⟩
     have Z:=ag aU;by_cases a5:E=1
     .subst a5;obtain rfl:C=[]:=gX aa;go_wp2
      go_hide hQ
      go_region_held3 (fun w'=>w'.cell? (ae c g)=some (af j)/\w'.cell? (ae c (g+1))=some (af k)/\w'.cell? (ae c (g+2))=some (ay i))
       (first|(with_reducible exact al)|(with_reducible exact am)|(with_reducible exact an)|(with_reducible exact ao)|go_keep)
       ((refine gB rfl (.tmp 53) (.tmp 57) rfl K (by simp[Act.eval]) (by simp[Act.eval]) ?_;try simp only[Act.put,zb,oz,nQ]))
      all_goals
       subst hQ;go_wp2;go_roundw
       case rel=>exact⟨[],(n,q,m)::D,O++[(j,k,i)],_,_,Q,0,F,R,rfl,rfl,by rw[Y.o],aA,aP aE,ac,ag (Cj rfl),N,ab,aP Z.o,u⟩
       case measure=>simp[lenOf]
     .have bV:(1:Int)<=(C.length:Int)+1:=aa;have bW:(C.length:Int)+1<=(E:Int):=aa;have bY:¬E-1=0:=aa;have bZ:1<E:=aa;go_wp2
      go_hide hQ
      go_region_held3 (fun w'=>w'.cell? (ae c g)=some (af j)/\w'.cell? (ae c (g+1))=some (af k)/\w'.cell? (ae c (g+2))=some (ay i))
       (first|(with_reducible exact al)|(with_reducible exact am)|(with_reducible exact an)|(with_reducible exact ao)|go_keep)
       ((refine gB rfl (.tmp 53) (.tmp 57) rfl K (by simp[Act.eval]) (by simp[Act.eval]) ?_;try simp only[Act.put,zb,oz,nQ]))
      all_goals
       subst hQ;go_wp2;go_roundw
       case rel=>exact⟨C,(n,q,m)::D,O++[(j,k,i)],_,_,Q,E-1,F,R,rfl,rfl,by rw[Y.o],aa,aP aE,ac,bD,N,ab,aP Z.o,u⟩
       case measure=>simp[lenOf]
    .rw[aM a9]at av;have hd:decide (iE (j,k,i) (n,q,m)<0)=false:=aD;generalize iE (j,k,i) (n,q,m)=b0 at*;go_wp2;refine bG aO aO ?_
     repeat(quiet_step ((go_at_call 94;exact dJ (bu.o _))))
     refine jM ?_;intro f be;have s:Below wr.heap.size wr f:=by obtain⟨p,rfl⟩:=be;exact p.h
     have G:c<wr.heap.size:=bR I r.size;have H:d<wr.heap.size:=bR J r.size;have aH:=(s.cell (p:=(ae c g)) G).trans bf;have aL:=(s.cell (p:=(ae c (g+1))) G).trans bh;have aQ:=(s.cell (p:=(ae c (g+2))) G).trans bi;have aR:=(s.cell (p:=(ae d ob)) H).trans bj;have aS:=(s.cell (p:=(ae d (ob+1))) H).trans bk;have aT:=(s.cell (p:=(ae d (ob+2))) H).trans bl;have ax:c<f.heap.size:=bR G s.size;have aC:d<f.heap.size:=bR H s.size;have aV:=az HO.o s;have ak:=r.trans (s.mono r.size);have bd:=ak.size;have ab:Hid ((O++[(n,q,m)])++mrgP ((j,k,i)::C) D=M):=by
      have:=U.o;rw[av.o,List.append_cons]at this;exact this
     have aU:(O++[(n,q,m)]).length+(C.length+1)+D.length=z.length+lb.length:=aD;have ad:((f.alloc (.cells #[af n,af q,ay m] 29)).drew).ownsRow w4.heap.size 29 3 (.slice aj O.length au) O.length (O.flatMap bX):=(aV.alloc _).bq 1;have⟨b2,w6,K,aq,a7⟩:=zy (ty:=22) (t:=22) (P:=prog) (l:=[(n,q,m)]) pV bg nG w4.heap.size ad ((bQ.lit bg f 29 [(n,q,m)] f.heap.size rfl).below (Below.bq _ 1)) 1 (by unfold maxLen;simp;omega) aD aD;have u:Below w4.heap.size w4 w6:=dB ((ak.alloc (aP bd) _).drew) ad a7 aD (aB _);obtain⟨Q,R,rfl,-,-,-⟩:=bQ.aI (l:=O++[(n,q,m)]) (enc:=bX) bg ai (aP aq);have ba:w6.ownsRow w4.heap.size 29 3 (.slice Q (O++[(n,q,m)]).length R) (O++[(n,q,m)]).length ((O++[(n,q,m)]).flatMap bX):=aP aq;have ac:=ag ba;have X:(O++[(n,q,m)]).length=O.length+1:=aA;rw[X]at K;have Y:=ag X;have al:f.cell? (ae d ob)=some (af n)/\f.cell? (ae d (ob+1))=some (af q)/\f.cell? (ae d (ob+2))=some (ay m):=⟨aR,aS,aT⟩;have am:f.drew.cell? (ae d ob)=some (af n)/\f.drew.cell? (ae d (ob+1))=some (af q)/\f.drew.cell? (ae d (ob+2))=some (ay m):=⟨aR,aS,aT⟩;have an:((f.alloc (.cells #[af n,af q,ay m] 29)).drew).cell? (ae d ob)=some (af n)/\((f.alloc (.cells #[af n,af q,ay m] 29)).drew).cell? (ae d (ob+1))=some (af q)/\((f.alloc (.cells #[af n,af q,ay m] 29)).drew).cell? (ae d (ob+2))=some (ay m):=by
      have T:=(aJ f.heap.size f).alloc (aB _) (.cells #[af n,af q,ay m] 29);exact⟨(T.cell (p:=(ae d ob)) aC).trans aR,(T.cell (p:=(ae d (ob+1))) aC).trans aS,(T.cell (p:=(ae d (ob+2))) aC).trans aT⟩
     have ao:w6.cell? (ae d ob)=some (af n)/\w6.cell? (ae d (ob+1))=some (af q)/\w6.cell? (ae d (ob+2))=some (ay m):=by
      exact⟨(u.cell (p:=(ae d ob)) J).trans aX.o.1,(u.cell (p:=(ae d (ob+1))) J).trans aX.o.2.1,(u.cell (p:=(ae d (ob+2))) J).trans aX.o.2.2⟩
     have Z:=ag aU;by_cases a5:F=1
     .subst a5;obtain rfl:D=[]:=gX aa;go_wp2
      go_hide hQ
      go_region_held3 (fun w'=>w'.cell? (ae d ob)=some (af n)/\w'.cell? (ae d (ob+1))=some (af q)/\w'.cell? (ae d (ob+2))=some (ay m))
       (first|(with_reducible exact al)|(with_reducible exact am)|(with_reducible exact an)|(with_reducible exact ao)|go_keep)
       ((refine gB rfl (.tmp 22) (.tmp 26) rfl K (by simp[Act.eval]) (by simp[Act.eval]) ?_;try simp only[Act.put,zb,oz,nQ]))
      all_goals
       subst hQ;go_wp2;go_roundw
       case rel=>exact⟨(j,k,i)::C,[],O++[(n,q,m)],_,_,Q,E,0,R,rfl,rfl,by rw[Y.o],aP ar,aA,ac,L,ag (Cj rfl),ab,aP Z.o,u⟩
       case measure=>simp[lenOf]
     .have bV:(1:Int)<=(D.length:Int)+1:=aa;have bW:(D.length:Int)+1<=(F:Int):=aa;have bY:¬F-1=0:=aa;have bZ:1<F:=aa;go_wp2
      go_hide hQ
      go_region_held3 (fun w'=>w'.cell? (ae d ob)=some (af n)/\w'.cell? (ae d (ob+1))=some (af q)/\w'.cell? (ae d (ob+2))=some (ay m))
       (first|(with_reducible exact al)|(with_reducible exact am)|(with_reducible exact an)|(with_reducible exact ao)|go_keep)
       ((refine gB rfl (.tmp 22) (.tmp 26) rfl K (by simp[Act.eval]) (by simp[Act.eval]) ?_;try simp only[Act.put,zb,oz,nQ]))
      all_goals
       subst hQ;go_wp2;go_roundw
       case rel=>exact⟨(j,k,i)::C,D,O++[(n,q,m)],_,_,Q,E,F-1,R,rfl,rfl,by rw[Y.o],aP ar,aa,ac,L,bE,ab,aP Z.o,u⟩
       case measure=>simp[lenOf]
end
section
open Go.RowKit Go.Sort Go.Shelf Go.Lib Go.Maps
structure R3 (w:World) (ob:Nat) (dn:Bool):Prop where
 c0:w.cell? (ae ob 0)=some (ay (if dn then 1 else 0))
 c1:w.cell? (ae ob 1)=some (.int .i32 0)
 f0:w.frozen? (ae ob 0)=false
 f1:w.frozen? (ae ob 1)=false
structure l7 (w:World) (F:Nat->Prop) (tb n0:Nat) (l:List Pt) (lo m0 m1 m2 m3 m4 hi bx cn hp lw ob:Nat) (tl sv:Value) (dn:Bool):Prop where
 blk:w.heap[tb]? =some (Obj.cells #[tl,aj bx,aj cn,aj hp,aj lw,aj ob,sv] 120 (0,0))
 row:w.ownsRow lo 29 3 tl l.length (l.flatMap bX)
 R4:∀g,tl.ownBlock=some g->g<m0
 TA:m0<=tb/\tb<m1
 box:iG w m1 m2 bx n0 l
 UF:uy w m2 m3 cn n0 l
 UG:uA w m3 m4 hp n0 l
 low:uB w m4 hi lw n0 l
 ord:lo<=m0/\m1<=m2/\m2<=m3/\m3<=m4/\m4<=hi
 Ub:R3 w ob dn
 VE:ob≠tb/\(m0<=ob/\ob<m1\/hi<=ob)
 Dm:dn=true->∃a c,sv=.slice a (bM l).length c/\(bM l).length<=c/\bQ bX 3 w a (bM l)/\∀x,a=some x->hi<=x.block/\x.block≠ob/\F x.block
 fin:(∀k,lo<=k->k<hi->F k)/\F ob/\∀k,F k->k<w.heap.size
 und:(ids l).Nodup/\H9 l
section
variable {w w':World} {F S:Nat->Prop} {tb n0:Nat} {l:List Pt} {lo m0 m1 m2 m3 m4 hi bx cn hp lw ob:Nat} {tl sv:Value} {dn:Bool}
theorem l7.tF (h:l7 w F tb n0 l lo m0 m1 m2 m3 m4 hi bx cn hp lw ob tl sv dn):F tb:=h.fin.1 tb (by have:=h.ord;have:=h.TA;omega) (by have:=h.ord;have:=h.TA;omega)
theorem l7.kept (h:l7 w F tb n0 l lo m0 m1 m2 m3 m4 hi bx cn hp lw ob tl sv dn) (K:ax S w w') (hS:∀k,F k->¬S k):l7 w' F tb n0 l lo m0 m1 m2 m3 m4 hi bx cn hp lw ob tl sv dn:=by
 have u:=h.ord;have ht:=h.TA;have hF:=h.fin;have p:∀k,F k->w'.heap[k]? =w.heap[k]? :=fun k f=>K.block k (hF.2.2 k f) (hS k f);refine⟨(p tb h.tF).trans h.blk,aT h.row K fun d e=>hS d (hF.1 d (h.row.lt d e).1 (by have:=h.R4 d e;omega)),h.R4,ht,h.box.kept K fun k g m=>hS k (hF.1 k aa aa),h.UF.kept K fun k g m=>hS k (hF.1 k aa aa),h.UG.kept K fun k g m=>hS k (hF.1 k aa aa),h.low.kept K fun k g m=>hS k (hF.1 k aa aa),u,?_,h.VE,?_,⟨hF.1,hF.2.1,fun k f=>bR (hF.2.2 k f) K.size⟩,h.und⟩
 .have e:=p ob hF.2.1;exact⟨(dz (a:=(ae ob 0)) e).trans h.Ub.c0,(dz (a:=(ae ob 1)) e).trans h.Ub.c1,(vY (a:=(ae ob 0)) e).trans h.Ub.f0,(vY (a:=(ae ob 1)) e).trans h.Ub.f1⟩
 .intro hd;have⟨a,c,e,n,o,q⟩:=h.Dm hd;refine⟨a,c,e,n,?_,q⟩;rcases o with o|⟨b,off,rfl,s,n⟩
  .exact .inl o
  .have r:=p b (q _ rfl).2.2;exact .inr ⟨b,off,rfl,bR s K.size,fun i hi j t=>(dz r).trans (n i hi j t)⟩
end
theorem Px (a:Option Addr) (c:Nat) (l:List Pt) (w:World) (ap:bQ bX 3 w a l) (r:l.length<=20000) (au:H9 l) (hu:lH l=true):
  aK 52 #[.slice a l.length c] w fun e w'=>∃tb m0 m1 m2 m3 m4 bx cn hp lw ob tl,e=.returned (aj tb)/\
   l7 w' (fun k=>w.heap.size<=k/\k<w'.heap.size) tb l.length l w.heap.size m0 m1 m2 m3 m4 w'.heap.size bx cn hp lw ob tl (aL) false/\Below w.heap.size w w':=by
 have j:=ag ap;have n:=ag au;have m:=ag hu;go_enter func52,ntmps52
 go_wp2_with fail
 refine(oN a l l.length c w rfl j.o aa).mono ?_;rintro e w1 ⟨tl,rfl,M,ao⟩;obtain⟨d,tc,rfl,-,-,-⟩:=bQ.aI bg ai M;have HO:=ag M;have E:=ag ao;have ac:Hid (((w1.alloc (.cells #[ay 0,.int .i32 0,ay 0] 199)).alloc (.cells #[.slice d l.length tc,.pointer none,.pointer none,.pointer none,.pointer none,aj w1.heap.size,aL] 120)).heap[w1.heap.size]? =some (.cells #[ay 0,.int .i32 0,ay 0] 199 (0,0))):=(bY _ _ _ aA).trans (uE _ _);have ad:Hid (((w1.alloc (.cells #[ay 0,.int .i32 0,ay 0] 199)).alloc (.cells #[.slice d l.length tc,.pointer none,.pointer none,.pointer none,.pointer none,aj w1.heap.size,aL] 120)).heap[w1.heap.size+1]? =some (.cells #[.slice d l.length tc,.pointer none,.pointer none,.pointer none,.pointer none,aj w1.heap.size,aL] 120 (0,0))):=by
  have h:=uE (w1.alloc (.cells #[ay 0,.int .i32 0,ay 0] 199)) (.cells #[.slice d l.length tc,.pointer none,.pointer none,.pointer none,.pointer none,aj w1.heap.size,aL] 120);rw[show(w1.alloc (.cells #[ay 0,.int .i32 0,ay 0] 199)).heap.size=w1.heap.size+1 by simp]at h;exact h
 have z:Hid (Below w1.heap.size w1 ((w1.alloc (.cells #[ay 0,.int .i32 0,ay 0] 199)).alloc (.cells #[.slice d l.length tc,.pointer none,.pointer none,.pointer none,.pointer none,aj w1.heap.size,aL] 120))):=((aJ _ _).alloc (aB _) _).alloc aA _;have aN:((w1.alloc (.cells #[ay 0,.int .i32 0,ay 0] 199)).alloc (.cells #[.slice d l.length tc,.pointer none,.pointer none,.pointer none,.pointer none,aj w1.heap.size,aL] 120)).heap.size=w1.heap.size+2:=aA
 go_wp2_with fail
 generalize((w1.alloc (.cells #[ay 0,.int .i32 0,ay 0] 199)).alloc (.cells #[.slice d l.length tc,.pointer none,.pointer none,.pointer none,.pointer none,aj w1.heap.size,aL] 120))=w2 at*;have aq:=E.o.size;have A:Hid (Below w.heap.size w w2):=E.o.trans (z.o.mono aq);have X:=ag (j.o.below A.o);refine(OI a c l w2 X.o r n.o m.o).mono ?_;rintro e w3 ⟨bx,rfl,i,b⟩;have O:=ag i;have aS:=b.size;have t3:w3.heap[w1.heap.size+1]? =some (Obj.cells #[.slice d l.length tc,.pointer none,.pointer none,.pointer none,.pointer none,aj w1.heap.size,aL] 120 (0,0)):=(b.block _ aa).trans ad.o;have aO:w3.cell? (ae (w1.heap.size+1) 1)=some (.pointer none):=aG t3;have f3:w3.frozen? (ae (w1.heap.size+1) 1)=false:=aG t3;have af:Hid ((w3.setCell (ae (w1.heap.size+1) 1) (aj bx)).heap[w1.heap.size+1]? =some (Obj.cells #[.slice d l.length tc,aj bx,.pointer none,.pointer none,.pointer none,aj w1.heap.size,aL] 120 (0,0))):=by
  show _=_;rw[dC w3 (w1.heap.size+1) 1 _ _ _ t3];rfl
 have F:Hid (ax (fun k=>k=w1.heap.size+1) w2 (w3.setCell (ae (w1.heap.size+1) 1) (aj bx))):=((ax.refl _ _).below b).set _ (.inl rfl);have T:Hid (ax (fun k=>k=w1.heap.size+1) w3 (w3.setCell (ae (w1.heap.size+1) 1) (aj bx))):=(ax.refl _ _).set _ (.inl rfl);have aE:(w3.setCell (ae (w1.heap.size+1) 1) (aj bx)).heap.size=w3.heap.size:=aA
 go_wp2_with fail
 generalize w3.setCell (ae (w1.heap.size+1) 1) (aj bx)=v at*;have B:Hid (Below w.heap.size w v):=A.o.trans (F.o.toBelow aa (by rintro k rfl;omega));have Y:=ag (j.o.below B.o);refine(QV a c l v Y.o r n.o m.o).mono ?_;rintro e w4 ⟨cn,rfl,i,b⟩;have P:=ag i;have aU:=b.size;have t4:w4.heap[w1.heap.size+1]? =some (Obj.cells #[.slice d l.length tc,aj bx,.pointer none,.pointer none,.pointer none,aj w1.heap.size,aL] 120 (0,0)):=(b.block _ aa).trans af.o;have aP:w4.cell? (ae (w1.heap.size+1) 2)=some (.pointer none):=aG t4;have f4:w4.frozen? (ae (w1.heap.size+1) 2)=false:=aG t4;have ah:Hid ((w4.setCell (ae (w1.heap.size+1) 2) (aj cn)).heap[w1.heap.size+1]? =some (Obj.cells #[.slice d l.length tc,aj bx,aj cn,.pointer none,.pointer none,aj w1.heap.size,aL] 120 (0,0))):=by
  show _=_;rw[dC w4 (w1.heap.size+1) 2 _ _ _ t4];rfl
 have u:Hid (ax (fun k=>k=w1.heap.size+1) v (w4.setCell (ae (w1.heap.size+1) 2) (aj cn))):=((ax.refl _ _).below b).set _ (.inl rfl);have U:Hid (ax (fun k=>k=w1.heap.size+1) w4 (w4.setCell (ae (w1.heap.size+1) 2) (aj cn))):=(ax.refl _ _).set _ (.inl rfl);have aF:(w4.setCell (ae (w1.heap.size+1) 2) (aj cn)).heap.size=w4.heap.size:=aA
 go_wp2_with fail
 generalize w4.setCell (ae (w1.heap.size+1) 2) (aj cn)=x at*;have C:Hid (Below w.heap.size w x):=B.o.trans (u.o.toBelow aa (by rintro k rfl;omega));have Z:=ag (j.o.below C.o);refine(Tp a c l x Z.o r n.o m.o).mono ?_;rintro e f ⟨hp,rfl,i,b⟩;have Q:=ag i;have aV:=b.size;have t5:f.heap[w1.heap.size+1]? =some (Obj.cells #[.slice d l.length tc,aj bx,aj cn,.pointer none,.pointer none,aj w1.heap.size,aL] 120 (0,0)):=(b.block _ aa).trans ah.o;have aQ:f.cell? (ae (w1.heap.size+1) 3)=some (.pointer none):=aG t5;have f5:f.frozen? (ae (w1.heap.size+1) 3)=false:=aG t5;have ak:Hid ((f.setCell (ae (w1.heap.size+1) 3) (aj hp)).heap[w1.heap.size+1]? =some (Obj.cells #[.slice d l.length tc,aj bx,aj cn,aj hp,.pointer none,aj w1.heap.size,aL] 120 (0,0))):=by
  show _=_;rw[dC f (w1.heap.size+1) 3 _ _ _ t5];rfl
 have q:Hid (ax (fun k=>k=w1.heap.size+1) x (f.setCell (ae (w1.heap.size+1) 3) (aj hp))):=((ax.refl _ _).below b).set _ (.inl rfl);have V:Hid (ax (fun k=>k=w1.heap.size+1) f (f.setCell (ae (w1.heap.size+1) 3) (aj hp))):=(ax.refl _ _).set _ (.inl rfl);have aH:(f.setCell (ae (w1.heap.size+1) 3) (aj hp)).heap.size=f.heap.size:=aA
 go_wp2_with fail
 generalize f.setCell (ae (w1.heap.size+1) 3) (aj hp)=y at*;have D:Hid (Below w.heap.size w y):=C.o.trans (q.o.toBelow aa (by rintro k rfl;omega));have ab:=ag (j.o.below D.o);refine(Tv a c l y ab.o r n.o m.o).mono ?_;rintro e w6 ⟨lw,rfl,i,b⟩;have R:=ag i;have aW:=b.size;have t6:w6.heap[w1.heap.size+1]? =some (Obj.cells #[.slice d l.length tc,aj bx,aj cn,aj hp,.pointer none,aj w1.heap.size,aL] 120 (0,0)):=(b.block _ aa).trans ak.o;have aR:w6.cell? (ae (w1.heap.size+1) 4)=some (.pointer none):=aG t6;have f6:w6.frozen? (ae (w1.heap.size+1) 4)=false:=aG t6;have al:Hid ((w6.setCell (ae (w1.heap.size+1) 4) (aj lw)).heap[w1.heap.size+1]? =some (Obj.cells #[.slice d l.length tc,aj bx,aj cn,aj hp,aj lw,aj w1.heap.size,aL] 120 (0,0))):=by
  show _=_;rw[dC w6 (w1.heap.size+1) 4 _ _ _ t6];rfl
 have p:Hid (ax (fun k=>k=w1.heap.size+1) y (w6.setCell (ae (w1.heap.size+1) 4) (aj lw))):=((ax.refl _ _).below b).set _ (.inl rfl);have W:Hid (ax (fun k=>k=w1.heap.size+1) w6 (w6.setCell (ae (w1.heap.size+1) 4) (aj lw))):=(ax.refl _ _).set _ (.inl rfl);have aM:(w6.setCell (ae (w1.heap.size+1) 4) (aj lw)).heap.size=w6.heap.size:=aA;go_wp2;generalize w6.setCell (ae (w1.heap.size+1) 4) (aj lw)=aD at*;have S:Hid (Below w.heap.size w aD):=D.o.trans (p.o.toBelow aa (by rintro k rfl;omega));go_ret;have ar:(ids l).Nodup:=by have:=m.o;unfold lH at this;simpa using this
 have av:=((T.o.trans u.o).trans q.o).trans p.o;have aw:=(U.o.trans q.o).trans p.o;have aC:=V.o.trans p.o;have N:=F.o.trans (u.o.trans (q.o.trans p.o));have s:∀lo hi,w1.heap.size+2<=lo->∀k,lo<=k->k<hi->¬k=w1.heap.size+1:=fun lo hi h k J _ K=>aa;have am:=O.o.kept av (s _ _ aa);have G:=P.o.kept aw (s _ _ aa);have H:=Q.o.kept aC (s _ _ aa);have I:=R.o.kept W.o (s _ _ aa);rw[aE]at G;rw[aF]at H;rw[aH]at I;have L:=fun g e=>(HO.o.lt g e).2;have t:=bz N ac.o aa;refine⟨w1.heap.size+1,w1.heap.size,w2.heap.size,w3.heap.size,w4.heap.size,f.heap.size,bx,cn,hp,lw,w1.heap.size,_,rfl,⟨al.o,?_,L,?_,am,G,H,?_,?_,?_,?_,(fun h=>by cases h),⟨fun k J K=>⟨J,K⟩,?_,fun k h=>h.2⟩,ar,n.o⟩,S.o⟩
 .exact aT (az HO.o z.o) N fun an e h=>by have:=L an e;omega
 .omega
 .rw[aM];exact I
 .omega
 .exact⟨aG t,aG t,aG t,aG t⟩
 .omega
 .omega
end
section
open Go.RowKit Go.Maps
section
variable {w:World} {lo hi tb n0:Nat} {l:List Pt}
theorem Py (h:iG w lo hi tb n0 l) (p:Pt) (hp:p∈l):
  aK 128 #[aj tb,iT p.1 p.2.1 p.2.2] w fun e w'=>e=.returned (.bool true)/\iG w' lo hi tb n0 (l.filter fun q=>decide (q≠p))/\ax (fun k=>lo<=k/\k<hi) w w':=by
 have⟨fb,R,gone,YS,V,j,a,d,m,n⟩:=h;have⟨x,c,e⟩:=(d.mem p).1 hp;have b:=a.lt c;rw[dG b]at e;have g:=(a.live x).1 c;refine(CS j a aa b g p e).mono ?_;rintro s w' ⟨rfl,i,o,r⟩;have f:=d.drop a b c;rw[e]at f;exact⟨rfl,⟨fb,R,_,_,i,o,a.drop g,f,m,n⟩,r⟩
theorem Ro {cb:Nat} (h:uy w lo hi cb n0 l) (p:Pt) (hp:p∈l):
  aK 125 #[aj cb,iT p.1 p.2.1 p.2.2] w fun e w'=>e=.returned (.bool true)/\uy w' lo hi cb n0 (l.filter fun q=>decide (q≠p))/\ax (fun k=>lo<=k/\k<hi) w w':=by
 have⟨tb,a,n,i,j,m,g⟩:=h;refine(QU (R:=fun W b w'=>b=true/\iG w' lo a tb n0 (l.filter fun q=>decide (q≠p))/\ax (fun k=>lo<=k/\k<a) W w') aa (BK g) p.1 p.2.1 p.2.2 ?_).mono ?_
 .intro W f;refine(Py (n.below f aa) p hp).mono ?_;rintro e w' ⟨rfl,d,c⟩;exact⟨_,rfl,rfl,d,c⟩
 .rintro e w' ⟨b,rfl,W,f,rfl,d,c⟩;have K:ax (fun k=>lo<=k/\k<a) w w':=((ax.refl _ w).below f).trans c;exact⟨rfl,⟨tb,a,d,i,j,bD m K.size,(K.block cb aa aa).trans g⟩,K.mono fun k c=>aa⟩
theorem TB (h:uA w lo hi tb n0 l) (p:Pt) (hp:p∈l):
  aK 126 #[aj tb,iT p.1 p.2.1 p.2.2] w fun e w'=>e=.returned (.bool true)/\uA w' lo hi tb n0 (l.filter fun q=>decide (q≠p))/\ax (fun k=>lo<=k/\k<hi) w w':=by
 have C:=h.Ff;have⟨fb,R,h,V,j,a,c,m,n⟩:=h;have⟨x,b,e⟩:=(c.mem p).1 hp;have f:=a.lt b;rw[dG f]at e;refine(Fj j a aa aa aa f p e).mono ?_;rintro A w' (⟨t,g,B⟩|⟨-,g,o,r⟩)
 .exact absurd b t
 .have d:=c.drop a b;rw[dG f,e]at d;have⟨u,v⟩:=a.drop b;have s:((l.filter fun q=>decide (q≠p)).length:Int)=l.length-1:=by
   have y:=c.len;have z:=d.len;have i:=v.length_eq;simp only[dY]at i;omega
  refine⟨g,⟨fb,R,_,V,?_,u,d,m,n⟩,r⟩;rw[s];exact o
theorem TC (h:uB w lo hi tb n0 l) (p:Pt) (hp:p∈l):
  aK 127 #[aj tb,iT p.1 p.2.1 p.2.2] w fun e w'=>e=.returned (.bool true)/\uB w' lo hi tb n0 (l.filter fun q=>decide (q≠p))/\ax (fun k=>lo<=k/\k<hi) w w':=by
 have E:=h.Ff;have⟨fb,R,gone,YS,V,n,a,c,o,r⟩:=h;have⟨x,b,e⟩:=(c.mem p).1 hp;have f:=a.lt b;rw[dG f]at e;refine(GX n a aa aa aa f p e).mono ?_;rintro C w' (⟨y,j,D⟩|⟨-,j,s,u⟩)
 .exact absurd b y
 .have t:=(a.live x).1 b;have g:=a.drop t;have d:=c.drop a f b;rw[e]at d;have v:((l.filter fun q=>decide (q≠p)).length:Int)=l.length-1:=by
   have z:=c.len a;have A:=d.len g;have B:(dW YS x).length+1=YS.length:=by
    have:=(List.perm_cons_erase b).length_eq;have m:dW YS x=YS.erase x:=by unfold dW;rw[a.nodup.erase_eq_filter];congr 1;funext i;by_cases h:i=x<;>simp[h]
    rw[m];simpa using this.symm
   omega
  refine⟨j,⟨fb,R,_,_,V,?_,g,d,o,r⟩,u⟩;rw[v];exact s
end
end
end Go.Proofs.YtkjdbndekceffaaGreat
