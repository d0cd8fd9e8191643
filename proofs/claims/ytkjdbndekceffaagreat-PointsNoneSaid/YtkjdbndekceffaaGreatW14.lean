/- Made small by a program. -/
import Derived.Test.YtkjdbndekceffaaGreatW13
set_option linter.unusedSimpArgs false
set_option linter.unusedVariables false
set_option maxRecDepth 100000
set_option maxHeartbeats 16000000
namespace Go.Proofs.YtkjdbndekceffaaGreat
open Tryz
section
open Go.RowKit Go.Maps
def Lv (W:World) (X:Nat) (LS:List (Option Addr×List Pt×Nat)):Prop:=
 ∀(j:Nat) (h:j<LS.length),W.cell? (ae X j)=some (.slice LS[j].1 LS[j].2.1.length LS[j].2.2)/\cz dx 3 W LS[j].1 LS[j].2.1
theorem Lv.below {W W':World} {X B:Nat} {a:List (Option Addr×List Pt×Nat)} (h:Lv W X a) (e:X<B) (b:Below B W W') (d:W.heap.size<=B):Lv W' X a:=fun j c=>
 ⟨(b.cell (p:=(ae X j)) e).trans (h j c).1,(h j c).2.below (b.mono d)⟩
def lL (LS:List (Option Addr×List Pt×Nat)):List Pt:=LS.flatMap (·.2.1)
def JZ (l:List Pt):Prop:=∀p∈l,(Lit.int .u32 p.2.2).wf=true
theorem Lx (a:List (Option Addr×List Pt×Nat)) (j:Nat) (h:j<a.length):lL (a.take (j+1))=lL (a.take j)++a[j].2.1:=by
 unfold lL;rw[dZ h,gM,wL]
theorem NZ (a:List (Option Addr×List Pt×Nat)) (j:Nat):(lL (a.take j)).length<=(lL a).length:=by
 have h:lL a=lL (a.take j)++lL (a.drop j):=by
  unfold lL;rw[<-gM,ji]
 rw[h,bq];omega
def jK {H:Type} (D:DataW H) (L:List Int):Prop:=∃f s,IsM .u32 .i64 D f s/\∀x,(f x).isSome=true↔x∈L
theorem jK.nil {H:Type}:jK (H:=H) (.map []) []:=⟨_,_,IsM.empty _ _,by simp⟩
theorem jK.put {H:Type} {D:DataW H} {L:List Int} (h:jK D L) (x v:Int):jK (D.put (.int .u32 x) (.lit (.int .i64 v))) (L++[x]):=by
 have⟨f,s,b,c⟩:=h;refine⟨_,_,b.put x v,fun y=>?_⟩;unfold Fs;by_cases a:y=x
 .simp[a]
 .simp[a,c]
theorem jK.size {H:Type} {D:DataW H} {L:List Int} (h:jK D L):(((Maps.size D:Nat):Int)==((L.length:Nat):Int))=decide L.Nodup:=by
 have⟨f,s,a,b⟩:=h;rw[a.2.1,<-vL L s a.2.2.1 (fun x=>(a.2.2.2.1 x).trans (b x))];rw[ni];simp only[beq_iff_eq,bW];omega
theorem pY (X c:Nat) (d:List (Option Addr×List Pt×Nat)) (w:World) (ac:X<w.heap.size) (I:Lv w X d) (aA:(lL d).length<=1000000) (ax:d.length<=1000000) (Q:JZ (lL d)):
  aH 144 #[aj X d.length c] w (eY w (.bool (kQ (lL d)))):=by
 have F:=af I;have Y:=af Q;clear I Q;have az:=@run_makeMap prog;go_enter func144,ntmps144;go_wp2
 go_loopw [4,12] (fun ag y wr=>∃j:Nat,y=.int .i64 j/\j<=d.length/\ag=.int .i64 ((lL (d.take j)).length:Nat)/\Below w.heap.size w wr/\
   Hid (∃(D:DataW Unit),wr.ownsMap prog 27 (plainElem prog 3) w.heap.size (lL (d.take j)).length D/\jK D (ids (lL (d.take j))))) (fun _ y _=>d.length-(intOf y).toNat)
 case atStart=>exact⟨0,rfl,bf _,rfl,(aB _ _).alloc (ay _) _,⟨.map [],wR _ _ _ _,jK.nil⟩⟩
 case round=>
  obtain⟨j,rfl,av,rfl,g,HO⟩:=hrel;by_cases r:j<d.length
  .have ad:=((F.o.below ac g (ay _)) j r).1;have u:=(F.o j r).2;have L:=NZ d (j+1);have e:=Lx d j r;rw[e,bq]at L;have G:Hid (JZ d[j].2.1):=fun p hp=>Y.o p (by unfold lL;exact wV.2 ⟨_,bN r,hp⟩);have B:=af e;clear e;generalize d[j]=q at*;obtain⟨a,l,ao⟩:=q;simp only at ad u L G;have aC:((lL (d.take j)).length:Int)+(l.length:Int)<=1000000:=by omega
   generalize hP:lL (d.take j)=P at*;have an:=af hP;have V:=af u;have C:=af g;have aq:=g.size;clear hP u g;have ap:P.length<=1000000:=by omega
   have aw:l.length<=1000000:=by omega
   generalize J:P.length=N at*;obtain⟨z,ab⟩:∃z:World,z=wr:=⟨_,rfl⟩;subst ab;go_wp2
   go_loopw [22] (fun x R=>∃i:Nat,x=.int .i64 i/\i<=l.length/\Below w.heap.size z R/\
     Hid (∃(D:DataW Unit),R.ownsMap prog 27 (plainElem prog 3) w.heap.size (N+i) D/\jK D (ids (P++l.take i)))) (fun x _=>l.length-(intOf x).toNat)
   case atStart=>exact⟨0,rfl,bf _,aB _ _,by simpa using HO⟩
   case round=>
    obtain⟨i,rfl,hi,k,h⟩:=hrel;by_cases n:i<l.length
    .obtain⟨b,off,H,au,m⟩:=(V.o.below (C.o.trans k)).get (by omega);have am:=m i n 0 (by omega);have x1:=m i n 1 (by omega);have x2:=m i n 2 (by omega);simp only[dx,aM,aN,dM]at am x1 x2;have e:l.take (i+1)=l.take i++[l[i]]:=dZ n;have ae:Hid (keyOf prog 27 (.int .u32 l[i].2.2)=some (.int .u32 l[i].2.2)):=xn underlying27 (G.o _ (bN _));obtain⟨D,M,f⟩:=h.o;have t:=f.put l[i].2.2 i;rw[show ids (P++l.take i)++[l[i].2.2]=ids (P++l.take (i+1)) by rw[e];unfold ids;rw[<-dW,bS (l₁:=P++l.take i)];rfl]at t;have E:=af t;have ar:=k.size;have A:=af H;clear h e m f t H;generalize l[i]=p at*;obtain⟨ak,al,ah⟩:=p;obtain rfl:=A.o;clear A;have s:=M.kept (qc wr (.cells #[aa ak,aa al,ai ah] 29) none) (by simp)
     go_wp2_with (at_mapUpdate;refine wN _ rfl _ _ _ 26 rfl 27 3 (int_keyed underlying27) underlying26 _ w.heap.size (N+i) _ rfl s (by unfold maxLen;omega) _ _ _ rfl rfl ae.o _ [] (ui underlying3 (by simp[Lit.wf,IntKind.min,IntKind.max,IntKind.bits,IntKind.signed];omega)) ?_;intro w3 O K)
     have S:Below w.heap.size wr w3:=(((aB _ wr).alloc (by omega) _)).grown K (by simp;omega) (fun j Z=>by cases Z;omega);have U:Hid (∃(D:DataW Unit),w3.ownsMap prog 27 (plainElem prog 3) w.heap.size (N+(i+1)) D/\jK D (ids (P++l.take (i+1)))):=⟨_,O,E.o⟩;have T:=k.trans S;clear O K s M E;go_wp2;go_roundw
     case rel=>exact⟨i+1,by go_num,by omega,T,U⟩
     case measure=>simp[intOf];omega
    .obtain rfl:i=l.length:=by omega
     go_wp2;go_roundw
     case rel=>
      refine⟨j+1,by go_num,by omega,?_,C.o.trans k,?_⟩
      .rw[B.o,bq,J];go_num
      .rw[B.o,bq,J];rw[jy]at h;exact h
     case measure=>simp[intOf];omega
  .obtain rfl:j=d.length:=by omega
   rw[jy]at HO |-;obtain⟨D,s,f⟩:=HO.o;have v:=f.size;rw[show((ids (lL d)).length:Int)=((lL d).length:Int) by simp[ids]]at v;have W:=af v;clear v f HO
   go_wp2_with (at_len;refine wpList_len_own _ rfl _ 26 rfl 27 3 underlying26 _ w.heap.size _ _ rfl s ?_)
   go_ret;exact⟨by rw[W.o];rfl,g⟩
def jL (l:List Pt):Bool:=pg l&&kQ l
theorem N7 {l:List Pt} {m:Nat} (h:m+1<l.length) (b:¬BA l[m] l[m+1]):jL l=false:=by
 unfold jL;rw[Bool.and_eq_false_iff];left;cases a:pg l
 .rfl
 .exact absurd ((mM l).1 a m h) b
theorem F6 {W:World} {a:Option Addr} {l:List Pt} (c:Nat) (t:TypeId) (h:cz dx 3 W a l):Lv (W.alloc (.cells #[.slice a l.length c] t)) W.heap.size [(a,l,c)]:=by
 intro j b;obtain rfl:j=0:=by simpa using b
 exact⟨by rw[ed _ _ _ _ rfl];rfl,h.below ((aB _ _).alloc (ay _) _)⟩
theorem ow (a:Option Addr) (l:List Pt) (c:Nat):lL [(a,l,c)]=l:=by simp[lL]
theorem yI (a:Option Addr) (l:List Pt) (n c:Nat) (w:World) (U:l.length=n) (h:cz dx 3 w a l) (S:n<=1000000) (K:JZ l):
  aH 143 #[.slice a n c] w (eY w (.bool (jL l))):=by
 subst U;have E:=af h;have O:=af K;clear h K;go_enter func143,ntmps143;go_wp2
 go_loopw [3] (fun F wr=>∃m:Nat,F=.int .i64 ((m:Int)+1)/\m<=l.length/\Below w.heap.size w wr/\Hid (∀i (_:i+1<l.length),i<m->BA l[i] l[i+1])) (fun F _=>l.length+1-(intOf F).toNat)
 case atStart=>exact⟨0,rfl,bf _,aB _ _,fun i _ h=>absurd h (jR _)⟩
 case round=>
  obtain⟨m,rfl,ag,v,j⟩:=hrel;by_cases C:m+1<l.length
  .obtain⟨b,off,H,ab,t⟩:=(E.o.below v).get (by omega);have L:=t m (by omega) 0 (by omega);have x1:=t m (by omega) 1 (by omega);have x2:=t m (by omega) 2 (by omega);have M:=t (m+1) C 0 (by omega);have y1:=t (m+1) C 1 (by omega);have y2:=t (m+1) C 2 (by omega);simp only[dx,aM,aN,dM]at L x1 x2 M y1 y2;have hS:=v.size;have d:¬BA l[m] l[m+1]->jL l=false:=N7 C;have f:BA l[m] l[m+1]->Hid (∀i (_:i+1<l.length),i<m+1->BA l[i] l[i+1]):=fun X i hi R=>by
    rcases CZ.1 R with h|rfl
    .exact j.o i hi h
    .exact X
   have G:=af H;clear t H;generalize hp:l[m]'(by omega)=p at*;generalize V:l[m+1]=q at*;clear hp V;obtain⟨k,y,A⟩:=p;obtain⟨r,z,B⟩:=q;unfold BA at d f;simp only at d f L x1 x2 M y1 y2;obtain rfl:=G.o;clear G;have ac:b<wr.heap.size:=by omega
   have ad:(m:Int)+1<(l.length:Int):=by omega
   have ae:(m:Int)<(l.length:Int):=by omega
   have u:∀Z aa,Below w.heap.size w (((wr.alloc Z).alloc aa).drew):=fun _ _=>(((v.alloc hS _).alloc (by simp;omega) _).drew);by_cases g:k=r
   .have d1:(k==r)=true:=by simp[g]
    by_cases x:y=z
    .have d2:(y==z)=true:=by simp[x]
     by_cases hi:A<B
     .have d3:decide (B<=A)=false:=by simp;omega
      have D:=f (.inl ⟨g,x,hi⟩);have Y:¬B<=A:=by omega
      clear g x d f j;go_wp2;go_region
      all_goals
       go_wp2;go_roundw
       case rel=>exact⟨m+1,by go_num,by omega,u _ _,D⟩
       case measure=>simp[intOf];omega
     .have d3:decide (B<=A)=true:=by simp;omega
      have Y:B<=A:=by omega
      have s:=af (d (by omega));clear g x hi d f j;go_wp2;go_region
      all_goals
       go_wp2;go_ret;exact⟨by rw[s.o];rfl,u _ _⟩
    .have d2:(y==z)=false:=by simp[x]
     have d4:decide (r<=k)=true:=by simp[g]
     have ah:r<=k:=by omega
     have s:=af (d (by omega));clear g x d f j;go_wp2;go_region
     all_goals
      go_wp2;go_ret;exact⟨by rw[s.o];rfl,u _ _⟩
   .have d1:(k==r)=false:=by simp[g]
    by_cases Q:r<=k
    .have d4:decide (r<=k)=true:=by simp[Q]
     have s:=af (d (by omega));clear g d f j;go_wp2;go_region
     all_goals
      go_wp2;go_ret;exact⟨by rw[s.o];rfl,u _ _⟩
    .have d4:decide (r<=k)=false:=by simp;omega
     by_cases T:y<=z
     .have d5:decide (y<=z)=true:=by simp[T]
      have s:=af (d (by omega));clear g d f j;go_wp2;go_region
      all_goals
       go_wp2;go_ret;exact⟨by rw[s.o];rfl,u _ _⟩
     .have d5:decide (y<=z)=false:=by simp;omega
      have D:=f (by omega);clear g d f j;go_wp2;go_region
      all_goals
       go_wp2;go_roundw
       case rel=>exact⟨m+1,by go_num,by omega,u _ _,D⟩
       case measure=>simp[intOf];omega
  .have I:pg l=true:=(mM l).2 fun i hi=>j.o i hi (by omega);have J:jL l=kQ l:=by unfold jL;rw[I,Bool.true_and]
   have N:=af J;have W:=E.o.below v;have hS:=v.size;clear E j I J
   go_wp2_with fail
   refine(pY wr.heap.size 1 [(a,l,c)] _ (by simp) (F6 c 22 W) (by rw[ow];exact S) (by simp) (by rw[ow];exact O.o)).mono ?_;rw[ow];rintro e w1 ⟨rfl,P⟩;go_wp2;go_ret;exact⟨by rw[N.o];rfl,(v.alloc hS _).trans (P.mono (by simp;omega))⟩
end
section
open Go.RowKit Go.Shelf
attribute [local go_sem] Oper.semAt_some
def Mm (n₀ Bs:Nat) (W W':World):Prop:=Below n₀ W W'/\W'.heap[Bs]? =W.heap[Bs]?
theorem Mm.refl (b a:Nat) (W:World):Mm b a W W:=⟨aB _ _,rfl⟩
theorem Mm.trans {b a:Nat} {A B C:World} (h:Mm b a A B) (c:Mm b a B C):Mm b a A C:=⟨h.1.trans c.1,c.2.trans h.2⟩
def bk (zs:List Pt) (k:Nat):List (Nat×Pt):=(List.range k).map fun j=>(zs.length-1-j,zs.getD (zs.length-1-j) (0,0,0))
theorem N8 (a:List Pt) (k:Nat):(bk a k).length=k:=by simp[bk]
theorem J2 (a:List Pt) (k:Nat):bk a (k+1)=bk a k++[(a.length-1-k,a.getD (a.length-1-k) (0,0,0))]:=by simp[bk,uf]
theorem N9 (a:List Pt):∀k,k<=a.length->((bk a k).map (·.2)).reverse=a.drop (a.length-k)
 |0,_=>by simp[bk]
 |k+1,h=>by
  rw[J2,bS,zl,N9 a k (by omega)];have e:a.drop (a.length-(k+1))=a[a.length-(k+1)]::a.drop (a.length-(k+1)+1):=kZ (by omega);rw[e,show a.length-(k+1)+1=a.length-k by omega];simp[show a.length-1-k=a.length-(k+1) by omega,show a.length-(k+1)<a.length by omega]
theorem Oa (n:Nat) (ad:1<=n) (l g u b off c H:Nat) (d:List Pt) (S:d.length=c) (ab:c<=1000000) (s:b<u) (h z:List (Nat×Pt)->World->Prop)
  (P:∀f x W,h f W->f.length<c->YieldAt Fence.wide (n-1) prog l #[aa (x.1:Int),iD x.2.1 x.2.2.1 x.2.2.2] W fun e W'=>
    (e=.returned (.bool true)/\h (f++[x]) W'/\Mm u g W W')\/(e=.returned (.bool false)/\z (f++[x]) W'))
  (W:World) (M:W.cell? (ae g 0)=some (.slice (some (ae b off)) c H)) (Q:cz dx 3 W (some (ae b off)) d) (L:h [] W):
  CallsIn Fence.wide n prog 280 #[.func (.yield l) #[] #[],ah g] W fun e W'=>(∃v,e=.returned v)/\
   ((∃F,F=bk d c/\h F W')\/(∃f,(∃k,k<=c/\f=bk d k)/\z f W')):=by
 have G:=af Q;have y:=af S;refine zO func280 rfl trivial ?_ rfl;simp only[ntmps280,qh,dY,fB,Nat.reduceAdd,Nat.reduceSub,qa,qb,qi,qd,fK,lX]
 gi_wp2
 gi_loopw [3] (fun i wr=>∃m:Nat,m<=c/\i=.int .i64 ((m:Int)-1)/\h (bk d (c-m)) wr/\Mm u g W wr)
  (fun i _=>(intOf i+1).toNat)
 case atStart=>exact⟨c,ay _,rfl,by rw[kE];exact L,Mm.refl _ _ _⟩
 case round=>
  obtain⟨m,ac,rfl,A,j⟩:=hrel;have Z:=(dD (w:=W) (w':=wr) (a:=(ae g 0)) j.2).trans M;cases m with
  |zero=>
   gi_wp2
   go_end0
   exact⟨⟨_,rfl⟩,.inl (by simpa using A)⟩
  |succ m=>
   have q:m<d.length:=by rw[y.o];omega
   have ag:0<c:=by omega
   have⟨X,ai,r,Y,t⟩:=G.o.get (by omega);have T:=t m q 0 (by omega);have x1:=t m q 1 (by omega);have x2:=t m q 2 (by omega);injection r with r;injection r with J K _;subst J K;have E:=(j.1.cell (p:=(ae b (off+m*3+0))) s).trans T;have y1:=(j.1.cell (p:=(ae b (off+m*3+1))) s).trans x1;have y2:=(j.1.cell (p:=(ae b (off+m*3+2))) s).trans x2;simp only[dx,aM,aN,dM]at E y1 y2;have C:bk d (c-m)=bk d (c-(m+1))++[(m,d[m])]:=by
    have:=J2 d (c-(m+1));rw[show c-(m+1)+1=c-m by omega]at this;rw[this,show d.length-1-(c-(m+1))=m by rw[y.o];omega];simp[q]
   have⟨fn,am,assign,body,D,B⟩:=P _ (m,d[m]) wr A (by rw[N8];omega);dsimp only at D;rw[<-C]at B;have U:=Lib.hid C;generalize d[m]=p at*;have⟨ak,al,aj⟩:=p;simp only at E y1 y2 D;have I:((m+1:Nat):Int)-1=(m:Int):=by omega
   rw[I]
   gi_wp2
   refine B.mono ?_;rintro e V (⟨rfl,N,R⟩|⟨rfl,O⟩)
   .gi_wp2
    go_roundw
    case rel=>exact⟨m,by omega,by simp,N,j.trans R⟩
    case measure=>simp[intOf]
   .gi_wp2
    refine jT (jZ rfl _ _ _) rfl ?_;exact⟨⟨_,rfl⟩,.inr ⟨_,⟨c-m,by omega,rfl⟩,O⟩⟩
theorem wu (n:Nat) (l c:Nat) (a:Option Addr) (f:Nat) (b:List (Nat×Pt)->World->Prop) (W:World) (h:W.cell? (ae c 0)=some (.slice a 0 f)) (g:b [] W):
  CallsIn Fence.wide n prog 280 #[.func (.yield l) #[] #[],ah c] W fun e W'=>(∃v,e=.returned v)/\b [] W':=by
 refine zO func280 rfl trivial ?_ rfl;simp only[ntmps280,qh,dY,fB,Nat.reduceAdd,Nat.reduceSub,qa,qb,qi,qd,fK,lX]
 gi_wp2
 gi_loopw [3] (fun i wr=>i=.int .i64 (-1)/\b [] wr) (fun _ _=>0)
 case atStart=>exact⟨rfl,g⟩
 case round=>
  obtain⟨rfl,d⟩:=hrel
  gi_wp2
  go_end0
  first|exact d|exact⟨⟨_,rfl⟩,d⟩
theorem Qc (n:Nat) (a:Option Addr) (c b:Nat) (w:World):
  CallsIn Fence.wide n prog 214 #[.slice a c b] w fun e w'=>e=.returned (.func (.func 280) #[] #[ah w.heap.size])/\w'=w.alloc (.cells #[.slice a c b] 22):=by
 refine zO func214 rfl trivial ?_ rfl;simp only[ntmps214,qh,dY,fB,Nat.reduceAdd,Nat.reduceSub,qa,qb,qi,qd,fK,lX]
 gi_wp2
 go_ret;exact⟨rfl,rfl⟩
theorem IW (n:Nat) (F:1<=n) (d r:Nat) (a:Option Addr) (c g:Nat) (f:List Pt) (q:f.length=c) (D:c<=1000000) (w:World) (u:d<w.heap.size)
  (B:w.cell? (ae d 0)=some (.slice a c g)) (v:cz dx 3 w a f) (A:f≠[]->∀b off,a=some (ae b off)->b<r):
  SeqStopsK Fence.wide n prog 280 #[ah d] (fun x:Nat×Pt=>#[aa (x.1:Int),iD x.2.1 x.2.2.1 x.2.2.2]) (Mm r d) (fun H=>H=bk f c)
   (fun G=>∃k,k<=c/\G=bk f k) c w:=fun l h t W s _ _ z i=>by
 have j:=(s.cell (p:=(ae d 0)) u).trans B;have y:=v.below s;rcases y with rfl|⟨b,off,rfl,E,C⟩
 .obtain rfl:c=0:=by simpa using q.symm
  exact(wu n l d a g h W j i).mono fun e W' ⟨m,o⟩=>⟨m,.inl ⟨_,by simp[bk],o⟩⟩
 .by_cases e:f=[]
  .subst e;obtain rfl:c=0:=by simpa using q.symm
   exact(wu n l d _ g h W j i).mono fun e W' ⟨m,o⟩=>⟨m,.inl ⟨_,by simp[bk],o⟩⟩
  .exact Oa n F l d r b off c g f q D (A e b off rfl) h t z W j (.inr ⟨b,off,rfl,E,C⟩) i
end
section
def J3 (l:List Oper):Bool:=l.all fun o=>match o.op with|.defer _=>false|_=>true
theorem IX {l:List Oper} (h:J3 l=true) {o:Oper} (a:o∈l):∀c,o.op≠.defer c:=fun c e=>by
 have:=tY.1 h o a;rw[e]at this;cases this
section
variable {F:Fence} {n:Nat} {P:Program} {ops:Array Oper} {C:World->Prop} {md:Region.Mode}
theorem BO {o:Oper} (hd:∀c,o.op≠.defer c) {a:Act} {K:Act->Prop} {l:Act->World->Prop} {Q':Exit->Act->World->Prop} {w:World} (g:C w) (h:∀a w',C w'->K a->l a w')
  (p:o.askedIn F P a C) (t:o.quietIn F n P a C K):o.wpIn F n P a w l Q':=by
 have⟨v,m,j⟩:=t;refine⟨p w g,?_⟩;rw[Oper.semAt_plain F _ _ hd];have b:Oper.quietUponIn F n P C w v ((execOp a.eval o).run P w):=m w g;revert b;generalize(execOp a.eval o).run P w=r;intro b;rcases r with⟨x,w'⟩|⟨x,w'⟩
 .cases x with
  |value u=>obtain⟨d,i⟩:=b;subst d i;exact h _ _ g j
  |skip=>obtain⟨d,i⟩:=b;subst d i;exact h _ _ g j
  |enter f args=>obtain⟨d,y,q⟩:=b;subst d;exact⟨y,q.mono fun e z k=>by obtain⟨s,k⟩:=k;subst s;exact h _ _ k j⟩
  |_=>exact b.elim
 .exact b.elim
theorem wz (hd:∀o∈ops,∀c,o.op≠.defer c) {Q:Act->Prop} {Q':Exit->Act->World->Prop} (g:∀a w,C w->Q a->Q' .normal a w):∀(fuel:Nat) (f:Array Bool) (a:Act) (w:World),C w->
  wpAnyQIn F n P md ops C Q fuel f a->wpAnyIn F n P md ops Q' fuel f a w
 |0,_,_,_,d,h=>⟨h.1,g _ _ d h.2⟩
 |fuel+1,f,a,w,d,h=>by
  refine⟨fun l=>g _ _ d (h.1 l),fun i hi=>?_⟩;have b:=h.2 i hi;have next:∀(a':Act) (w':World),C w'->wpAnyQIn F n P md ops C Q fuel (f.setIfInBounds i true) a'->wpAnyIn F n P md ops Q' fuel (f.setIfInBounds i true) a' w':=fun a' w' m=>wz hd g fuel _ a' w' m;unfold qOpIn at b;unfold wpOpIn;split
  .rename_i e;rw[e]at b;exact next _ _ d b
  .rename_i o e;rw[e]at b;have⟨k,b⟩:=b;split
   .rename_i j;rw[aK j]at b;exact BO (hd o (Array.mem_of_getElem? e)) d next k b
   .rename_i j;rw[aI j]at b;exact⟨k w d,next _ _ d b⟩
theorem j6 {id:Nat} {Q:Exit->Act->World->Prop} {a:Act} {w:World} {l:List Oper} (e:P.follows .mixedOrders=true) (b:Region.lexB .any l.toArray=true) (hd:J3 l=true)
  (h:wpQuietIn F n P l.toArray (fun w'=>∃n,w'=w.drewN n) (fun a'=>∀w',(∃n,w'=w.drewN n)->Q .normal a' w') l a):(Code.region id l.toArray true).wpIn F n P Q a w:=by
 obtain⟨c,d⟩:=by simpa only[Region.lexB,l5]using b
 refine wpIn_region_any e (wz (C:=fun w'=>∃n,w'=w.drewN n) (Q:=fun a'=>∀w',(∃n,w'=w.drewN n)->Q .normal a' w') (fun o f=>IX hd (by simpa using f)) (fun _ w' g h=>h w' g) _ _ _ _ ⟨1,rfl⟩ ?_);have:=wpAnyQIn_lex (F:=F) (n:=n) (P:=P) (md:=.any) (C:=fun w'=>∃n,w'=w.drewN n) c l 0 (Array.replicate l.toArray.size false) a (by simp) (by simpa using d) h;simpa using this
end
end
section
open Go.RowKit Go.Shelf
attribute [local go_sem] Oper.semAt_some
def F7 (O:List Pt) (p:Pt):List Pt:=(stp p O.reverse).reverse
def IY (pre:List (Nat×Pt)):List Pt:=pre.foldl (fun O x=>F7 O x.2) []
theorem Ob (a:List (Nat×Pt)) (x:Nat×Pt):IY (a++[x])=F7 (IY a) x.2:=by simp[IY]
theorem F8:∀(a:List (Nat×Pt)) (O:List Pt),a.foldl (fun O x=>F7 O x.2) O=(a.foldl (fun T x=>stp x.2 T) O.reverse).reverse
 |[],O=>by simp
 |x::a,O=>by
  rw[zG,zG,F8 a];simp[F7]
theorem RU (a:List (Nat×Pt)):IY a=(qX (a.map (·.2)).reverse).reverse:=by
 unfold IY qX;rw[F8,List.foldr_reverse,List.foldl_map];rfl
theorem RV (a:List Pt):IY (bk a a.length)=(qX a).reverse:=by
 rw[RU,N9 a _ (ay _),kE,nk]
theorem Qd (p:Pt) (T:List Pt):(stp p T).length<=T.length+1:=by
 cases T with
 |nil=>simp[stp]
 |cons t T=>
  simp only[stp];split
  .simp
  .split
   .have:=(List.dropWhile_sublist (fun q:Pt=>decide (q.1=p.1)) (l:=t::T)).length_le;simp at this |-;omega
   .simp
theorem Qe (O:List Pt) (p:Pt):(F7 O p).length<=O.length+1:=by
 unfold F7;have:=Qd p O.reverse;simpa using this
theorem J4:∀(a:List (Nat×Pt)) (O:List Pt),(a.foldl (fun O x=>F7 O x.2) O).length<=O.length+a.length
 |[],O=>by simp
 |x::a,O=>by
  rw[zG];have b:=J4 a (F7 O x.2);have c:=Qe O x.2;simp;omega
theorem Oc (a:List (Nat×Pt)):(IY a).length<=a.length:=by have:=J4 a [];simpa[IY]using this
theorem Qg (p:Pt):F7 [] p=[p]:=rfl
theorem Od (O:List Pt) (t p:Pt) (h:p.2.1<t.2.1\/p.2.1=t.2.1/\p.1<t.1):F7 (O++[t]) p=O++[t]:=by
 unfold F7;simp only[zl,zA,List.reverse_nil,fK,C8,stp,aK h];simp
theorem LA (O:List Pt) (t p:Pt) (h:¬(p.2.1<t.2.1\/p.2.1=t.2.1/\p.1<t.1)) (a:¬(p.1=t.1/\t.2.1<p.2.1)):F7 (O++[t]) p=(O++[t])++[p]:=by
 unfold F7;simp only[zl,zA,List.reverse_nil,fK,C8,stp,aI h,aI a];simp
theorem Oe (O:List Pt) (t p:Pt) (m:Nat) (h:¬(p.2.1<t.2.1\/p.2.1=t.2.1/\p.1<t.1)) (g:p.1=t.1/\t.2.1<p.2.1) (j:m<=(O++[t]).length) (i:∀q∈(O++[t]).drop m,q.1=p.1) (a:m=0\/∃b:m-1<(O++[t]).length,(O++[t])[m-1].1≠p.1):
  F7 (O++[t]) p=(O++[t]).take m++[p]:=by
 have e:(O++[t]).reverse=t::O.reverse:=by simp
 unfold F7;rw[e];simp only[stp,aI h,aK g];rw[<-e];generalize O++[t]=L at*;have c:L.reverse=(L.drop m).reverse++(L.take m).reverse:=by rw[<-zl,ji]
 rw[c,List.dropWhile_append_of_pos (by simpa using i)];have d:(L.take m).reverse.dropWhile (fun q=>decide (q.1=p.1))=(L.take m).reverse:=by
  rcases a with rfl|⟨b,a⟩
  .simp
  .rcases qf m with rfl|yO
   .simp
   .have f:L.take m=L.take (m-1)++[L[m-1]]:=by
     have:=dZ b;rw[show m-1+1=m by omega]at this;exact this
    rw[f,zl,List.reverse_singleton,C8,List.dropWhile_cons_of_neg (by simpa using a)]
 rw[d];simp
theorem Qh {g:Type} (B:Nat) (t:TypeId) (cs:g->Array Value):Own (fun s W=>W.heap[B]? =some (.cells (cs s) t (0,0))):=fun s X h i a e f=>
 (e.block B (aZ.1 a).1 (fun c=>by obtain⟨o,b,d⟩:=f B c.symm;rw[a]at b;cases b;cases d)).trans a
def Bd (n₀:Nat) (T:List Pt) (W:World):Prop:=∃v,Boxed W n₀ 22 v/\W.ownsRow n₀ 29 3 v T.length (T.flatMap dx)
theorem LB (d:Nat):Own (fun(c:List (Nat×Pt)) W=>Bd d (IY c) W):=fun s X e k j h i=>by
 have⟨v,f,g⟩:=j;have⟨l,a,b,_⟩:=holdsRow_own d d 22 29 3 (fun c=>(IY c).length) (fun c=>(IY c).flatMap dx) (fun _ _=>True) s X e k ⟨v,f,g,trivial⟩ h i;exact⟨l,a,b⟩
theorem Bd.alloc {a:Nat} {T:List Pt} {W:World} (h:Bd a T W) (o:Obj):Bd a T (W.alloc o):=by
 have⟨v,b,c⟩:=h;exact⟨v,b.alloc _,c.alloc _⟩
theorem jq {W:World} {o:Obj} {n:Nat} (h:n=W.heap.size):(W.alloc o).heap[n]? =some o:=by subst h;exact heap_alloc_new W o
theorem RX:(Tryz.prog.info? 29).map (fun i=>(i.zero,i.size,i.bytes))=some (some (.agg #[aa 0,aa 0,ai 0]),3,24):=by kernel_rfl
theorem Tt {d b:Nat} {w:World} (h:d<=w.heap.size) (j:b<w.heap.size):∀(W:World) (l:Nat) (o a:Obj),w.heap.size<=l->W.heap[l]? =some o->o.isCells=false->o.isWalk=false->Mm d b W (W.putObj l a):=fun W l o a g c f i=>
 ⟨belowK_b (w:=w) h W l o a g c f i,(zH W l a).block b (by have:=(aZ.1 c).1;omega) (by intro e;cases e;omega)⟩
def CJ (B Bx g cap:Nat) (O':List Pt) (px py pi tx ty ti:Int) (a:Option Addr) (n c:Nat) (W wr:World):Prop:=
 Boxed wr B 22 (aj g (O'.length+1) cap)/\wr.ownsRow B 29 3 (aj g (O'.length+1) cap) (O'.length+1) ((O'++[(tx,ty,ti)]).flatMap dx)/\
 Boxed wr (B+1) 22 (.slice a n c)/\wr.heap[Bx]? =some (.cells #[aa px,aa py,ai pi] 29 (0,0))/\Below B W wr/\KeepsOthers W wr
theorem CJ.bC {B Bx g d:Nat} {b:List Pt} {f i e k ty j:Int} {a:Option Addr} {n c:Nat} {W wr:World} (h:CJ B Bx g d b f i e k ty j a n c W wr) (q:Nat):CJ B Bx g d b f i e k ty j a n c W (wr.drewN q):=
 ⟨h.1,h.2.1,h.2.2.1,h.2.2.2.1,h.2.2.2.2.1.trans (Below.bC _ _),⟨h.2.2.2.2.2.1,h.2.2.2.2.2.2⟩⟩
theorem scanIn (N:Nat) (cn:3<=N) (a:Option Addr) (l:List Pt) (n c:Nat) (w:World) (bx:l.length=n) (h:cz dx 3 w a l) (b4:n<=1000000):
  CallsIn Fence.wide N prog 145 #[.slice a n c] w fun e w'=>∃v m,e=.returned v/\w'.ownsRow w.heap.size 29 3 v m ((qX l).flatMap dx)/\m=(qX l).length/\Below w.heap.size w w':=by
 have aK:1<=N:=by omega
 obtain⟨aD,hi,ar,aA,aC⟩:=info_parts RX;have au:(Value.agg #[aa 0,aa 0,ai 0]).cells.size=3:=rfl;obtain⟨aE,bE⟩:∃z:Value,z=.agg #[aa 0,aa 0,ai 0]:=⟨_,rfl⟩;rw[<-bE]at ar au;clear bE;refine zk func145 rfl trivial ?_ rfl;simp only[ntmps145,qh,dY,fB,Nat.reduceAdd,Nat.reduceSub,qa,qb,qi,qd,fK,lX]
 gi_wp2_with (refine⟨trivial,?_⟩;gi_at_call 214;refine(Qc (N-1) _ _ _ _).mono ?_;rintro e w' ⟨rfl,rfl⟩)
 have bq:=(Boxed.new w 22 (aG)).alloc (.cells #[.slice a n c] 22);have a2:=Boxed.new (w.alloc (.cells #[aG] 22)) 22 (.slice a n c);rw[World.size_alloc]at a2;have bd:Below w.heap.size w ((w.alloc (.cells #[aG] 22)).alloc (.cells #[.slice a n c] 22)):=((aB _ w).alloc (ay _) _).alloc (by simp) _;have b9:((w.alloc (.cells #[aG] 22)).alloc (.cells #[.slice a n c] 22)).heap.size=w.heap.size+2:=by simp
 obtain⟨a7,bs⟩:∃a7,(w.alloc (.cells #[aG] 22)).alloc (.cells #[.slice a n c] 22)=a7:=⟨_,rfl⟩;rw[bs]at bq a2 bd b9 |-;clear bs;refine wpIn_rangeFunc_ownH (F:=Fence.wide) rfl aK (gf:=280) (lb:=#[ah (w.heap.size+1)]) rfl trivial (cK func280 (by kernel_rfl) rfl)
  (IW (N-1) (by omega) (w.heap.size+1) w.heap.size a n c l bx b4 a7 (by omega) a2.cell (h.below bd) (fun ag b off e=>by
    subst e;rcases h with rfl|⟨ch,cE,e,bw,_⟩
    .exact absurd rfl ag
    .cases e;exact bw)) Mm.trans (Tt (by omega) (by omega)) (aB _ _) (fun _=>rfl)
  (fun ak W=>(Bd w.heap.size (IY ak) W/\Boxed W (w.heap.size+1) 22 (.slice a n c))/\Below w.heap.size w W)
  (fun _ _ _=>False)
  (OwnFrom.and (OwnFrom.and (Own.from (LB w.heap.size) _) (Own.from (boxed_own _ _ _) _)) (ownFrom_below (ay _) (by omega)))
  (fun _ _ _ _ _ bl _ _=>bl)
  ⟨⟨⟨_,bq,dz _ _ _ _⟩,a2⟩,bd⟩
  (fun x a' W=>∃Bx,w.heap.size+1<Bx/\W.heap[Bx]? =some (.cells #[aa x.2.1,aa x.2.2.1,ai x.2.2.2] 29 (0,0))/\a'={tmps:=#[.slice a n c,undef,aG,ah w.heap.size,undef,ah Bx,undef,undef,.slice a n c,.func (.func 280) #[] #[ah (w.heap.size+1)],aa (x.1:Int),iD x.2.1 x.2.2.1 x.2.2.2,undef,undef,undef,undef,undef,undef,undef,undef,undef,undef,undef,undef,undef,undef,undef,undef,undef,undef,undef,undef,undef,undef,undef,undef,undef,undef,undef,undef,undef,undef,undef,undef,undef,undef,undef,undef,undef,undef,undef,undef,undef,undef,undef,undef,undef,undef,undef,undef,undef,undef,undef,undef,undef,undef,undef,undef,undef,undef,undef,undef,undef,undef,undef,undef,undef,undef,undef],defers:=[]})
  (fun x a' _ X bL cf bl ad bz=>by obtain⟨Bx,aK,bb,bc⟩:=bl;exact⟨Bx,aK,Qh Bx 29 (fun(_:Unit)=>#[aa x.2.1,aa x.2.2.1,ai x.2.2.2]) () X bL cf bb ad (fun r e=>(bz r e).2),bc⟩)
  ?assign ?body ?done ?stop
 case assign=>
  rintro ce ak x W K ⟨⟨bV,G⟩,be⟩ av
  gi_wp2
  exact av _ _ ((tQ _ _).from _) ⟨(aB _ W).alloc be.size _,bY W _ _ G.lt⟩ ⟨⟨bV.alloc _,G.alloc _⟩,be.alloc be.size _⟩ ⟨W.heap.size,G.lt,tC W _,rfl⟩
 case body=>
  rintro ce ak ⟨cg,f,s,B⟩ a' W cx ⟨r,bz⟩ ⟨⟨⟨v,S,C⟩,G⟩,E⟩ ⟨Bx,cl,aH,rfl⟩ bw;have bX:=Oc ak;have br:∀W',Bd w.heap.size (F7 (IY ak) (f,s,B)) W'->Bd w.heap.size (IY (ak++[(cg,f,s,B)])) W':=fun W' h=>by
   rw[Ob];exact h
  have Q:=af br;clear br;generalize bW:IY ak=O at*;clear bW;have bZ:=S.cell;have cq:=S.frozen;have cB:W.cell? (ae Bx 0)=some (aa f):=by simp[World.cell?,aH]
  have cC:W.cell? (ae Bx 1)=some (aa s):=by simp[World.cell?,aH]
  have cD:W.cell? (ae Bx 2)=some (ai B):=by simp[World.cell?,aH]
  have cv:=G.lt;have cw:w.heap.size<W.heap.size:=by omega
  have cA:w.heap.size≠W.heap.size:=by omega
  have bR:=(aZ.1 aH).1;rcases List.eq_nil_or_concat O with rfl|⟨i,t,rfl⟩
  .simp only[fB,List.flatMap_nil]at C;have b7:=C;rw[Qg]at Q;have:v=aG\/∃g A,v=aj g 0 A:=by
    rcases b7.2 with⟨rfl,_⟩|⟨g,A,a8,rfl,_⟩
    .exact .inl rfl
    .exact .inr ⟨g,A,rfl⟩
   rcases this with rfl|⟨cj,ci,rfl⟩
   all_goals
    gi_wp2_with (gi_at_builtin;refine wP _ rfl _ _ 22 rfl w.heap.size 29 aD aE 3 24 underlying22 hi ar aA aC au (by decide) _ _ _ rfl (C.alloc _) (ae W.heap.size 0) 1 1 [.int .i64 f,.int .i64 s,.int .u32 B] rfl rfl (tH (cs:=#[aa f,aa s,ai B]) (t:=29) (fr:=(0,0)) (jq (by simp))) (by simp[Value.oneCell']) (by unfold maxLen;omega) (by omega) (by simp;omega) ?_;intro a1 w1 J I _;obtain⟨aJ,aI,rfl⟩:=xu J;obtain⟨L,V,U,T,R⟩:=S.appended (by decide) C E.size (ay _) J I;have aS:=L.cell;have aW:=L.frozen;have Y:=(G.alloc _).kept I (G.not_row (by decide) C);have H:=fun u=>Y.other (B':=w.heap.size) (by omega) u)
    simp only[jU]at V U T R;exact⟨T.from _,⟨R,(H _).trans G.symm⟩,⟨Q.o _ ⟨_,V,U⟩,H _⟩,E.trans R⟩
  .rw[List.concat_eq_append]at*;have ad:∃g A,v=aj g (i.length+1) A/\g<W.heap.size/\w.heap.size<=g:=by
    rcases C.2 with⟨_,bP⟩|⟨g,A,a8,rfl,ad,b1,_⟩
    .simp at bP
    .exact⟨g,A,by simp,(aZ.1 b1).1,ad⟩
   obtain⟨g,A,rfl,cr,ct⟩:=ad;obtain⟨d,ty,y⟩:=t;have co:i.length+1<=ak.length:=by simpa using bX
   have ax:=C;rw[show(i++[(d,ty,y)]).length=i.length+1 by simp]at ax;have bF:=ax.cellAt (i.length*3) (by omega);have bG:=ax.cellAt (i.length*3+1) (by omega);have bH:=ax.cellAt (i.length*3+2) (by omega);have al:=fun j b2=>flat_get bu (i++[(d,ty,y)]) i.length (by simp) j b2;rw[show(i++[(d,ty,y)])[i.length]'(by simp)=(d,ty,y) by simp]at al;rw[show i.length*3=i.length*3+0 by omega,al 0 (by omega)]at bF;rw[al 1 (by omega)]at bG;rw[al 2 (by omega)]at bH;simp only[dx,aM,aN,dM]at bF bG bH;clear al;have C:=ax;clear ax;by_cases ab:s<ty\/s=ty/\f<d
   .have ac:=Od i (d,ty,y) (f,s,B) ab;rw[ac]at Q;rcases ab with ab|⟨bB,b8⟩
    .have d1:decide (s<ty)=true:=by simp[ab]
     gi_wp2
     exact⟨(tQ _ _).from _,⟨(aB _ W).alloc E.size _,bY W _ _ G.lt⟩,⟨Q.o _ ⟨_,S.alloc _,by simpa using C.alloc _⟩,G.alloc _⟩,E.alloc E.size _⟩
    .have d1:decide (s<ty)=false:=by simp;omega
     have d2:(s==ty)=true:=by simp[bB]
     have d3:decide (f<d)=true:=by simp[b8]
     clear bB
     gi_wp2
     exact⟨(tQ _ _).from _,⟨(aB _ W).alloc E.size _,bY W _ _ G.lt⟩,⟨Q.o _ ⟨_,S.alloc _,by simpa using C.alloc _⟩,G.alloc _⟩,E.alloc E.size _⟩
   .by_cases am:f=d/\ty<s
    .have d1:decide (s<ty)=false:=by simp;omega
     have d2:(s==ty)=false:=by simp;omega
     have d4:(f==d)=true:=by simp[am.1]
     have d5:decide (ty<s)=true:=by simp[am.2]
     have bI:=af (fun m aK bb bc=>Oe i (d,ty,y) (f,s,B) m ab am aK bb bc);have bt:∀q∈(i++[(d,ty,y)]).drop (i.length+1),q.1=f:=by rw[nL (by simp)];simp
     have bJ:=af bt;have bS:CJ w.heap.size Bx g A i f s B d ty y a n c W (W.alloc (.cells #[aa d,aa ty,ai y] 29)):=
      ⟨by simpa using S.alloc (.cells #[aa d,aa ty,ai y] 29),C.alloc _,G.alloc _,(bY W _ _ bR).trans aH,(aB _ W).alloc E.size _,tQ _ _⟩
     clear am ab bt
     gi_wp2
     gi_loopw [7] (fun bo wr=>∃m:Nat,bo=.int .i64 m/\m<=i.length+1/\Hid (∀q∈(i++[(d,ty,y)]).drop m,q.1=f)/\
       CJ w.heap.size Bx g A i f s B d ty y a n c W wr) (fun bo _=>(intOf bo).toNat)
     case atStart=>exact⟨i.length+1,by go_num,ay _,bJ,bS⟩
     case round=>
      obtain⟨m,rfl,cy,aU,an⟩:=hrel;have a5:=an.1.cell;have bD:wr.cell? (ae Bx 0)=some (aa f):=by simp[World.cell?,an.2.2.2.1]
      have aF:(m=0\/∃cu:m-1<(i++[(d,ty,y)]).length,(i++[(d,ty,y)])[m-1].1≠f)->F7 (i++[(d,ty,y)]) (f,s,B)=(i++[(d,ty,y)]).take m++[(f,s,B)]:=fun h=>bI.o m (by simp;omega) aU.o h;rcases qf m with yO|yO
      .have ac:=aF (.inl yO);rw[ac]at Q;clear aF ac aU;subst yO
       gi_wp2
       refine j6 (by kernel_rfl) (by kernel_rfl) (by kernel_rfl) ?_
       repeat(gi_big_quiet_step (fail))
       refine wpQuietIn_nil ?_;intro _ aY;obtain⟨nq,hw''⟩:=aY;subst hw'';clear a5 bD;have aT:CJ w.heap.size Bx g A i f s B d ty y a n c W (wr.drewN nq):=an.bC nq;clear an;generalize wr.drewN nq=M at aT |-;obtain⟨Z,aq,aR,ao,aO,bg⟩:=aT;have bi:i.length+1<=A:=by
        obtain⟨_,_,ba,_,_,bi,_⟩:=aQ aq (by omega);injection ba with _ _ bM;omega
       have a5:=Z.cell;have iU:=Z.frozen;have ag:w.heap.size≠Bx:=by omega
       have bn:=Z.set (aj g 0 A);have ap:(M.setCell (ae w.heap.size 0) (aj g 0 A)).ownsRow w.heap.size 29 3 (aj g 0 A) 0 (((i++[(d,ty,y)]).take 0).flatMap dx):=by
        refine aV (by rw[<-oZ bu];exact lH aq (by omega)) (fun bO e=>az (fun a9=>Z.not_row (by decide) aq ?_));simp only[Value.ownBlock]at e |-;rw[e,<-a9]
       have cb:(M.setCell (ae w.heap.size 0) (aj g 0 A)).cell? (ae Bx 0)=some (aa f):=by rw[World.cell?,az ag];simp[ao]
       have cc:(M.setCell (ae w.heap.size 0) (aj g 0 A)).cell? (ae Bx 1)=some (aa s):=by rw[World.cell?,az ag];simp[ao]
       have cd:(M.setCell (ae w.heap.size 0) (aj g 0 A)).cell? (ae Bx 2)=some (ai B):=by rw[World.cell?,az ag];simp[ao]
       have aP:∀u,Boxed (M.setCell (ae w.heap.size 0) u) (w.heap.size+1) 22 (.slice a n c):=fun u=>aR.other (B':=w.heap.size) (by omega) u;have b5:=aR.lt;have bm:w.heap.size<=(M.setCell (ae w.heap.size 0) (aj g 0 A)).heap.size:=by have:=aO.size;have:=Z.lt;simp;omega
       gi_wp2_with (gi_at_builtin;refine wP _ rfl _ _ 22 rfl w.heap.size 29 aD aE 3 24 underlying22 hi ar aA aC au (by decide) _ _ _ rfl (ap.alloc _) (ae M.heap.size 0) 1 1 [.int .i64 f,.int .i64 s,.int .u32 B] rfl rfl (tH (cs:=#[aa f,aa s,ai B]) (t:=29) (fr:=(0,0)) (jq (by simp))) (by simp[Value.oneCell']) (by unfold maxLen;omega) (by omega) (by simp;omega) ?_;intro a1 w1 J I _;obtain⟨aJ,aI,rfl⟩:=xu J;obtain⟨L,V,U,T,R⟩:=bn.appended (by decide) ap bm (ay _) J I;have aS:=L.cell;have aW:=L.frozen;have Y:=((aP _).alloc _).kept I ((aP _).not_row (by decide) ap);have H:=fun u=>Y.other (B':=w.heap.size) (by omega) u)
       have P:=(aO.setCell (p:=(ae w.heap.size 0)) (ay _) (aj g 0 A)).trans R;exact⟨((bg.trans (wO _ _ _)).trans T).from _,⟨P,(H _).trans G.symm⟩,⟨Q.o _ ⟨_,V,by rw[show((i++[(d,ty,y)]).take 0++[(f,s,B)]).length=0+1 by simp,gM,wL];exact U⟩,H _⟩,E.trans P⟩
      .obtain⟨k,rfl⟩:∃k,m=k+1:=⟨m-1,by omega⟩;have a3:=an.2.1.cellAt (k*3) (by omega);have al:=flat_get bu (i++[(d,ty,y)]) k (by simp;omega) 0 (by omega);rw[show k*3=k*3+0 by omega,al]at a3;simp only[dx,aM,dM]at a3;clear al;have b3:k<(i++[(d,ty,y)]).length:=by simp;omega
       simp only[Nat.add_sub_cancel]at aF;have bp:=af aF;have a6:=Kn (i++[(d,ty,y)]) (k+1) (by omega) (by omega);simp only[Nat.add_sub_cancel]at a6;clear aF;obtain⟨a0,aX⟩:∃a0,a0=(i++[(d,ty,y)])[k].1:=⟨_,rfl⟩;rw[<-aX]at a3;have ck:(decide ((0:Int)<((k+1:Nat):Int)))=true:=by simp
       by_cases aw:a0=f
       .have bN:(a0==f)=true:=by simp[aw]
        have bv:∀q∈(i++[(d,ty,y)]).drop k,q.1=f:=by
         rw[a6];intro q h;rcases gP.1 h with rfl|h
         .rw[<-aX];exact aw
         .exact aU.o q h
        have bK:=af bv;clear bv a6 aX aw aU
        gi_wp2
        refine j6 (by kernel_rfl) (by kernel_rfl) (by kernel_rfl) ?_
        repeat(gi_big_quiet_step (fail))
        refine wpQuietIn_nil ?_;intro _ aY;obtain⟨nq,hw''⟩:=aY;subst hw''
        gi_wp2
        go_roundw
        case rel=>exact⟨k,by go_num,by omega,bK,an.bC nq⟩
        case measure=>simp[intOf]
       .have bN:(a0==f)=false:=by simp[aw]
        have ac:=bp.o (.inr ⟨b3,by rw[<-aX];exact aw⟩);rw[ac]at Q;clear a6 aX aw bp ac aU
        gi_wp2
        refine j6 (by kernel_rfl) (by kernel_rfl) (by kernel_rfl) ?_
        repeat(gi_big_quiet_step (fail))
        refine wpQuietIn_nil ?_;intro _ aY;obtain⟨nq,hw''⟩:=aY;subst hw'';clear a3;clear a5 bD;have aT:CJ w.heap.size Bx g A i f s B d ty y a n c W (wr.drewN nq):=an.bC nq;clear an;generalize wr.drewN nq=M at aT |-;obtain⟨Z,aq,aR,ao,aO,bg⟩:=aT;have bi:i.length+1<=A:=by
         obtain⟨_,_,ba,_,_,bi,_⟩:=aQ aq (by omega);injection ba with _ _ bM;omega
        have a5:=Z.cell;have iU:=Z.frozen;have ag:w.heap.size≠Bx:=by omega
        have bn:=Z.set (aj g (k+1) A);have ap:(M.setCell (ae w.heap.size 0) (aj g (k+1) A)).ownsRow w.heap.size 29 3 (aj g (k+1) A) (k+1) (((i++[(d,ty,y)]).take (k+1)).flatMap dx):=by
         refine aV (by rw[<-oZ bu];exact lH aq (by omega)) (fun bO e=>az (fun a9=>Z.not_row (by decide) aq ?_));simp only[Value.ownBlock]at e |-;rw[e,<-a9]
        have cb:(M.setCell (ae w.heap.size 0) (aj g (k+1) A)).cell? (ae Bx 0)=some (aa f):=by rw[World.cell?,az ag];simp[ao]
        have cc:(M.setCell (ae w.heap.size 0) (aj g (k+1) A)).cell? (ae Bx 1)=some (aa s):=by rw[World.cell?,az ag];simp[ao]
        have cd:(M.setCell (ae w.heap.size 0) (aj g (k+1) A)).cell? (ae Bx 2)=some (ai B):=by rw[World.cell?,az ag];simp[ao]
        have aP:∀u,Boxed (M.setCell (ae w.heap.size 0) u) (w.heap.size+1) 22 (.slice a n c):=fun u=>aR.other (B':=w.heap.size) (by omega) u;have b5:=aR.lt;have bm:w.heap.size<=(M.setCell (ae w.heap.size 0) (aj g (k+1) A)).heap.size:=by have:=aO.size;have:=Z.lt;simp;omega
        gi_wp2_with (gi_at_builtin;refine wP _ rfl _ _ 22 rfl w.heap.size 29 aD aE 3 24 underlying22 hi ar aA aC au (by decide) _ _ _ rfl (ap.alloc _) (ae M.heap.size 0) 1 1 [.int .i64 f,.int .i64 s,.int .u32 B] rfl rfl (tH (cs:=#[aa f,aa s,ai B]) (t:=29) (fr:=(0,0)) (jq (by simp))) (by simp[Value.oneCell']) (by unfold maxLen;omega) (by omega) (by simp;omega) ?_;intro a1 w1 J I _;obtain⟨aJ,aI,rfl⟩:=xu J;obtain⟨L,V,U,T,R⟩:=bn.appended (by decide) ap bm (ay _) J I;have aS:=L.cell;have aW:=L.frozen;have Y:=((aP _).alloc _).kept I ((aP _).not_row (by decide) ap);have H:=fun u=>Y.other (B':=w.heap.size) (by omega) u)
        have P:=(aO.setCell (p:=(ae w.heap.size 0)) (ay _) (aj g (k+1) A)).trans R;exact⟨((bg.trans (wO _ _ _)).trans T).from _,⟨P,(H _).trans G.symm⟩,⟨Q.o _ ⟨_,V,by rw[show((i++[(d,ty,y)]).take (k+1)++[(f,s,B)]).length=(k+1)+1 by simp;omega,gM,wL];exact U⟩,H _⟩,E.trans P⟩
    .have ac:=LA i (d,ty,y) (f,s,B) ab am;rw[ac]at Q;have d1:decide (s<ty)=false:=by simp;omega
     by_cases aL:s=ty
     .have d2:(s==ty)=true:=by simp[aL]
      have d3:decide (f<d)=false:=by simp;omega
      have d5:decide (ty<s)=false:=by simp;omega
      by_cases a4:f=d
      .have d4:(f==d)=true:=by simp[a4]
       clear aL a4 ab am
       gi_wp2_with (gi_at_builtin;refine wP _ rfl _ _ 22 rfl w.heap.size 29 aD aE 3 24 underlying22 hi ar aA aC au (by decide) _ _ _ rfl ((C.alloc _).alloc _) (ae (W.heap.size+1) 0) 1 1 [.int .i64 f,.int .i64 s,.int .u32 B] rfl rfl (tH (cs:=#[aa f,aa s,ai B]) (t:=29) (fr:=(0,0)) (jq (by simp))) (by simp[Value.oneCell']) (by unfold maxLen;omega) (by omega) (by simp;omega) ?_;intro a1 w1 J I _;obtain⟨aJ,aI,rfl⟩:=xu J;obtain⟨L,V,U,T,R⟩:=(S.alloc (.cells #[aa d,aa ty,ai y] 29)).appended (by decide) (C.alloc _) (E.alloc E.size _).size (ay _) J I;have aS:=L.cell;have aW:=L.frozen;have Y:=((G.alloc (.cells #[aa d,aa ty,ai y] 29)).alloc _).kept I ((G.alloc (.cells #[aa d,aa ty,ai y] 29)).not_row (by decide) (C.alloc _));have H:=fun u=>Y.other (B':=w.heap.size) (by omega) u)
       have P:=((aB w.heap.size W).alloc E.size _).trans R;exact⟨((tQ _ _).trans T).from _,⟨P,(H _).trans G.symm⟩,⟨Q.o _ ⟨_,V,by rw[show((i++[(d,ty,y)])++[(f,s,B)]).length=i.length+1+1 by simp,gM,wL];exact U⟩,H _⟩,E.trans P⟩
      .have d4:(f==d)=false:=by simp[a4]
       clear aL a4 ab am
       gi_wp2_with (gi_at_builtin;refine wP _ rfl _ _ 22 rfl w.heap.size 29 aD aE 3 24 underlying22 hi ar aA aC au (by decide) _ _ _ rfl ((C.alloc _).alloc _) (ae (W.heap.size+1) 0) 1 1 [.int .i64 f,.int .i64 s,.int .u32 B] rfl rfl (tH (cs:=#[aa f,aa s,ai B]) (t:=29) (fr:=(0,0)) (jq (by simp))) (by simp[Value.oneCell']) (by unfold maxLen;omega) (by omega) (by simp;omega) ?_;intro a1 w1 J I _;obtain⟨aJ,aI,rfl⟩:=xu J;obtain⟨L,V,U,T,R⟩:=(S.alloc (.cells #[aa d,aa ty,ai y] 29)).appended (by decide) (C.alloc _) (E.alloc E.size _).size (ay _) J I;have aS:=L.cell;have aW:=L.frozen;have Y:=((G.alloc (.cells #[aa d,aa ty,ai y] 29)).alloc _).kept I ((G.alloc (.cells #[aa d,aa ty,ai y] 29)).not_row (by decide) (C.alloc _));have H:=fun u=>Y.other (B':=w.heap.size) (by omega) u)
       have P:=((aB w.heap.size W).alloc E.size _).trans R;exact⟨((tQ _ _).trans T).from _,⟨P,(H _).trans G.symm⟩,⟨Q.o _ ⟨_,V,by rw[show((i++[(d,ty,y)])++[(f,s,B)]).length=i.length+1+1 by simp,gM,wL];exact U⟩,H _⟩,E.trans P⟩
     .have d2:(s==ty)=false:=by simp[aL]
      have d4:(f==d)=false:=by simp;omega
      clear aL ab am
      gi_wp2_with (gi_at_builtin;refine wP _ rfl _ _ 22 rfl w.heap.size 29 aD aE 3 24 underlying22 hi ar aA aC au (by decide) _ _ _ rfl ((C.alloc _).alloc _) (ae (W.heap.size+1) 0) 1 1 [.int .i64 f,.int .i64 s,.int .u32 B] rfl rfl (tH (cs:=#[aa f,aa s,ai B]) (t:=29) (fr:=(0,0)) (jq (by simp))) (by simp[Value.oneCell']) (by unfold maxLen;omega) (by omega) (by simp;omega) ?_;intro a1 w1 J I _;obtain⟨aJ,aI,rfl⟩:=xu J;obtain⟨L,V,U,T,R⟩:=(S.alloc (.cells #[aa d,aa ty,ai y] 29)).appended (by decide) (C.alloc _) (E.alloc E.size _).size (ay _) J I;have aS:=L.cell;have aW:=L.frozen;have Y:=((G.alloc (.cells #[aa d,aa ty,ai y] 29)).alloc _).kept I ((G.alloc (.cells #[aa d,aa ty,ai y] 29)).not_row (by decide) (C.alloc _));have H:=fun u=>Y.other (B':=w.heap.size) (by omega) u)
      have P:=((aB w.heap.size W).alloc E.size _).trans R;exact⟨((tQ _ _).trans T).from _,⟨P,(H _).trans G.symm⟩,⟨Q.o _ ⟨_,V,by rw[show((i++[(d,ty,y)])++[(f,s,B)]).length=i.length+1+1 by simp,gM,wL];exact U⟩,H _⟩,E.trans P⟩
 case done=>
  rintro D xs W cm rfl ⟨⟨⟨v,S,C⟩,G⟩,E⟩ av;subst bx;have bj:=Oc (bk l l.length);rw[N8]at bj;rw[RV]at C bj;simp only[List.length_reverse]at C bj;have bZ:=S.cell;have b6:=S.not_row (by decide) C;have b0:∀j,v.ownBlock=some j->w.heap.size<=j:=fun j e=>by
   rcases C.2 with⟨rfl,_⟩|⟨g,A,a8,rfl,bh,_⟩
   .cases e
   .cases e;exact bh
  have bU:some D≠v.ownBlock:=fun e=>by
   rcases C.2 with⟨rfl,_⟩|⟨g,A,a8,rfl,_,bh,_⟩
   .cases e
   .cases e;rw[bh]at av;cases av
  have bT:=(aZ.1 av).1
  gi_wp2_with (refine⟨trivial,?_⟩;gi_at_call 215;refine(xk.2 (Rk (by simp) (by omega) C)).mono ?_;rintro e w' ⟨rfl,bA,ad⟩;have ca:=S.kept ad b6;have cp:=ca.cell;have bf:=(ad.block D bT bU).trans av;have bQ:=E.grown ad E.size b0)
  rw[List.reverse_reverse]at bA;refine⟨by simp,.inl ⟨_,_,rfl,zC bf,?_⟩⟩;exact⟨_,results_tmp rfl _ _ _,_,_,rfl,ownsRow_putObj bA _ bf rfl,rfl,bQ.trans (belowK_b (w:=w) (ay _) _ _ _ _ (by omega) bf rfl rfl)⟩
 case stop=>
  rintro D c ak W _ _ h _;exact h.elim
theorem uO {a:Option Addr} {l:List Pt} {n c:Nat} {w:World} (i:l.length=n) (h:cz dx 3 w a l) (f:n<=1000000):
  aH 145 #[.slice a n c] w fun e w'=>∃v,e=.returned v/\w'.ownsRow w.heap.size 29 3 v (qX l).length ((qX l).flatMap dx)/\Below w.heap.size w w':=
 (xk.1 (scanIn 3 (by omega) a l n c w i h f)).mono fun e w' ⟨v,m,d,j,g,b⟩=>⟨v,d,g▸j,b⟩
end
section
open Go.RowKit Go.Maps
theorem eu {w:World} {base b:Nat} {e:TypeId} {size:Nat} {v:Value} {n:Nat} {xs:List Value} (h:w.ownsRow base e size v n xs) (i:b<=base):w.ownsRow b e size v n xs:=by
 have⟨f,a⟩:=h;refine⟨f,?_⟩;rcases a with a|⟨g,c,d,k,j,r⟩
 .exact .inl a
 .exact .inr ⟨g,c,d,k,bJ i j,r⟩
theorem gV (l:List Pt):kQ l=true↔(ids l).Nodup:=by simp[kQ]
theorem RY (a:Option Addr) (l:List Pt) (n c:Nat) (w:World) (E:l.length=n) (h:cz dx 3 w a l) (f:n<=1000000) (J:JZ l) (hu:kQ l=true):
  aH 148 #[.slice a n c] w fun e w'=>∃v,e=.returned (.tuple #[v,aa 0])/\w'.ownsRow w.heap.size 29 3 v (bR l).length ((bR l).flatMap dx)/\Below w.heap.size w w':=by
 subst E;have i:=af h;have t:=af J;have k:=(gV l).1 hu;have r:=af k;have I:(eO l).length=l.length:=(dL l).length_eq;have H:qX (eO l)=bR l:=Cm _ (fM k);have s:=af H;go_enter func148,ntmps148
 go_wp2_with fail
 refine(pY w.heap.size 1 [(a,l,c)] _ (by simp) (F6 c 22 i.o) (by rw[ow];exact f) (by simp) (by rw[ow];exact t.o)).mono ?_;rw[ow,hu];rintro e w1 ⟨rfl,B⟩;have b:Below w.heap.size w w1:=((aB _ w).alloc (ay _) _).trans (B.mono (by simp))
 go_wp2_with fail
 refine(nW a l l.length c w1 rfl (i.o.below b) f).mono ?_;rintro e w2 ⟨v,rfl,m,j⟩;have p:=b.trans (j.mono b.size);have u:=b.size;have x:=j.size;obtain⟨y,L,rfl,_,_,_⟩:=cz.aC bu (by decide) m
 go_wp2_with fail
 refine(MI rfl (by omega) m r.o x).mono ?_;rintro e w3 ⟨rfl,F,C⟩;have d:=p.trans (C.mono u);have g:cz dx 3 w3 y (eO l):=by
  have⟨K,M,z,_,_,g⟩:=cz.aC bu (by decide) F;injection z with A _ _;exact A▸g
 go_wp2_with fail
 refine(uO I g f).mono ?_;rw[s.o];rintro e w4 ⟨N,rfl,G,D⟩;have q:=d.trans (D.mono d.size);go_wp2;go_ret2;exact⟨_,rfl,eu G d.size,q⟩
end
section
def mrgP:List Pt->List Pt->List Pt
 |[],B=>B
 |A,[]=>A
 |x::A,y::B=>if il x y<0 then x::mrgP A (y::B)else y::mrgP (x::A) B
 termination_by A B=>A.length+B.length
theorem Be (B:List Pt):mrgP [] B=B:=by simp[mrgP]
theorem yg (A:List Pt):mrgP A []=A:=by cases A<;>simp[mrgP]
theorem yh (x:Pt) (A:List Pt) (y:Pt) (B:List Pt):mrgP (x::A) (y::B)=if il x y<0 then x::mrgP A (y::B)else y::mrgP (x::A) B:=by
 rw[mrgP]
theorem lV:∀(n:Nat) (A B:List Pt),A.length+B.length<=n->(mrgP A B).Perm (A++B)
 |_,[],B,_=>by rw[Be,fK]
 |_,x::A,[],_=>by rw[yg,iE]
 |0,_::_,_::_,h=>by simp at h
 |n+1,x::A,y::B,h=>by
  rw[yh];split
  .exact(lV n A (y::B) (by simp at h |-;omega)).cons x
  .refine((lV n (x::A) B (by simp at h |-;omega)).cons y).trans ?_;exact(List.perm_middle (l₁:=x::A)).symm
theorem LC {x y:Pt} (h:¬jV x y) (hi:x.2.2≠y.2.2):jV y x:=by unfold jV at*;omega
theorem rH:∀(n:Nat) (A B:List Pt),A.length+B.length<=n->A.Pairwise jV->B.Pairwise jV->(∀x∈A,∀y∈B,x.2.2≠y.2.2)->(mrgP A B).Pairwise jV
 |_,[],B,_,_,c,_=>by rw[Be];exact c
 |_,x::A,[],_,b,_,_=>by rw[yg];exact b
 |0,_::_,_::_,h,_,_,_=>by simp at h
 |n+1,x::A,y::B,h,b,c,hd=>by
  have d:=lh.1 b;have e:=lh.1 c;rw[yh];split
  .rename_i a;rw[pz]at a;refine lh.2 ⟨fun z hz=>?_,rH n A (y::B) (by simp at h |-;omega) d.2 c (fun u hu v f=>hd u (by simp[hu]) v f)⟩;rcases bT.1 ((lV _ A (y::B) (ay _)).mem_iff.1 hz)with hz|hz
   .exact d.1 z hz
   .rcases gP.1 hz with rfl|hz
    .exact a
    .exact nR a (e.1 z hz)
  .rename_i a;rw[pz]at a;have g:=LC a (hd x (by simp) y (by simp));refine lh.2 ⟨fun z hz=>?_,rH n (x::A) B (by simp at h |-;omega) b e.2 (fun u hu v f=>hd u hu v (by simp[f]))⟩;rcases bT.1 ((lV _ (x::A) B (ay _)).mem_iff.1 hz)with hz|hz
   .rcases gP.1 hz with rfl|hz
    .exact g
    .exact nR g (d.1 z hz)
   .exact e.1 z hz
theorem wB {l:List Pt} (h:jL l=true):l.Pairwise jV:=by
 unfold jL at h;rw[l5]at h;refine(nT h.1).imp fun{p q} a=>?_;unfold BA at a;unfold jV;omega
theorem LD {A B:List Pt} (a:jL A=true) (b:jL B=true) (hu:(ids (A++B)).Nodup):qX (mrgP A B)=bR (A++B):=by
 have hd:∀x∈A,∀y∈B,x.2.2≠y.2.2:=by
  intro x d y f;unfold ids at hu;rw[bS,oF]at hu;exact hu.2.2 _ (tJ d) _ (tJ f)
 have c:=rH _ A B (ay _) (wB a) (wB b) hd;have e:mrgP A B=eO (A++B):=Jm hu c fun p=>(lV _ A B (ay _)).mem_iff;rw[e];exact Cm _ (fM hu)
end
section
open Go.RowKit Go.Maps
theorem yJ {α:Type} {P:Program} {enc:α->List Value} {sz:Nat} {t ty e:TypeId} {bytes:Nat} (m:eH P t e sz bytes) (h:∀x,(enc x).length=sz) (q:∀x,∀u∈enc x,u.oneCell'=true) (base:Nat) {v:Value} {n:Nat} {xs:List Value} {W:World} (k:W.ownsRow base e sz v n xs) {ad:Option Addr} {l:List α} (F:cz enc sz W ad l)
  (c:Nat) (s:n+l.length<=maxLen) (C:(n+l.length)*bytes<=140737488355328) (A:base<=W.heap.size):
  ∃g w',(Builtin.append_ #[t,t] ty #[v,.slice ad l.length c]).run P W=.ok g w'/\w'.ownsRow base e sz g (n+l.length) (xs++l.flatMap enc)/\W.grownBy w' v.ownBlock:=by
 rcases F with rfl|⟨b,off,rfl,K,D⟩
 .exact⟨v,W,jc m k ad c,by simpa using k,⟨rfl,rfl,rfl,ay _,fun _ _ _=>rfl⟩⟩
 .obtain⟨ht,⟨i,z,hi,I,G,B,J⟩,f⟩:=m;have⟨g,w',a,d,r,_⟩:=run_append_own (P:=P) W base t ty e i z sz bytes ht hi I G B J f v n xs k (ae b off) l.length c (l.flatMap enc) (fQ h l) (by
   intro j u hu;have w:((ae b off):Addr).add j=(ae b (off+j)):=by unfold Addr.add;split<;>simp_all
   rw[w];have E:j<l.length*sz:=by
    have:=(fC.1 hu).1;rw[fQ h]at this;exact this
   have p:j/sz<l.length:=(GQ f).2 E;have a:=D (j/sz) p (j%sz) (nz _ f);have d:=flat_get h l (j/sz) p (j%sz) (nz _ f);have o:j/sz*sz+j%sz=j:=by rw[xh];exact Nat.div_add_mod j sz
   rw[o]at d;rw[wY,o]at a;rw[a,<-d];exact hu) (by
   intro u hu;have⟨y,_,H⟩:=wV.1 hu;exact q y u H) s C A
  exact⟨g,w',a,d,r⟩
theorem LF (p q:Pt) (W:World):aH 94 #[iD p.1 p.2.1 p.2.2,iD q.1 q.2.1 q.2.2] W (eY W (aa (il p q))):=
 (Rj p q W).mono fun _ _ h=>⟨h.1,h.2.below (ay _)⟩
def lenOf:Value->Nat
 |.slice _ n _=>n
 |_=>0
theorem Og {W:World} {a b:Option Addr} {c lb:List Pt} (d cb:Nat) (t:TypeId) (h:cz dx 3 W a c) (e:cz dx 3 W b lb):Lv (W.alloc (.cells #[.slice a c.length d,.slice b lb.length cb] t)) W.heap.size [(a,c,d),(b,lb,cb)]:=by
 intro j f;simp only[dY,fB]at f;obtain rfl|rfl:j=0\/j=1:=by omega
 .exact⟨by rw[ed _ _ _ _ rfl];rfl,h.below ((aB _ _).alloc (ay _) _)⟩
 .exact⟨by rw[ed _ _ _ _ rfl];rfl,e.below ((aB _ _).alloc (ay _) _)⟩
theorem Bf (a b:Option Addr) (c lb:List Pt) (d cb:Nat):lL [(a,c,d),(b,lb,cb)]=c++lb:=by simp[lL]
theorem IZ {A B:List Pt} (h:JZ A) (a:JZ B):JZ (A++B):=fun p hp=>by
 rcases bT.1 hp with hp|hp
 .exact h p hp
 .exact a p hp
theorem Bg {α:Type} {enc:α->List Value} {sz:Nat} {w:World} {a:Option Addr} {l:List α} (h:l.length=0):cz enc sz w a l:=.inl (gJ h)
theorem cz.tail {α:Type} {enc:α->List Value} {sz:Nat} {w:World} {b off:Nat} {x:α} {l:List α} (h:cz enc sz w (some (ae b off)) (x::l)):cz enc sz w (some (ae b (off+sz))) l:=by
 have:=h.drop 1;simpa using this
theorem LG (a b:Option Addr) (z lb:List Pt) (aD aE S cb:Nat) (w:World) (bN:z.length=aD) (bO:lb.length=aE) (bH:aD<=S) (bJ:aE<=cb) (aW:cz dx 3 w a z) (r:cz dx 3 w b lb) (bK:aD+aE<=1000000) (br:JZ z) (bs:JZ lb) (bp:jL z=true) (bq:jL lb=true) (hu:kQ (z++lb)=true):
  aH 62 #[.slice a aD S,.slice b aE cb] w fun e w'=>∃v,e=.returned (.tuple #[v,aa 0])/\w'.ownsRow w.heap.size 29 3 v (bR (z++lb)).length ((bR (z++lb)).flatMap dx)/\Below w.heap.size w w':=by
 subst bN bO;have bL:=LD bp bq ((gV _).1 hu);have b0:(mrgP z lb).length=z.length+lb.length:=by have:=(lV _ z lb (ay _)).length_eq;simpa using this
 rw[<-bL];have bl:=af (yI a z z.length S w rfl aW (by omega) br);have bm:=af (fun W (h:Below w.heap.size w W)=>yI b lb lb.length cb W rfl (r.below h) (by omega) bs);have bn:=af (fun W (h:Below w.heap.size w W)=>pY W.heap.size 2 [(a,z,S),(b,lb,cb)] _ (by simp) (Og S cb 22 (aW.below h) (r.below h)) (by rw[Bf];simpa using bK) (by simp) (by rw[Bf];exact IZ br bs));rw[bp]at bl;rw[bq]at bm;rw[Bf,hu]at bn;have L:=af aW;have N:=af r;generalize bE:mrgP z lb=M at*;have bt:=af bE;go_enter func62,ntmps62;go_wp2
 go_step3
 go_wp2_with fail
 refine bl.o.mono ?_;rintro e w1 ⟨rfl,aX⟩
 go_wp2_with fail
 refine(bm.o w1 aX).mono ?_;rintro e w2 ⟨rfl,bF⟩;have av:=aX.trans (bF.mono aX.size)
 go_wp2_with fail
 refine(bn.o w2 av).mono ?_;rintro e w4 ⟨rfl,bG⟩;have V:=(av.alloc av.size (.cells #[.slice a z.length S,.slice b lb.length cb] 22)).trans (bG.mono (by have:=av.size;simp;omega));have bv:=af (L.o.below V);have bw:=af (N.o.below V);go_wp2
 go_step3
 go_wp2
 go_loopw [0,1,6] (fun bh bi bY wr=>∃(A B O:List Pt) (aU aV ah:Option Addr) (E F ar:Nat),bh=.slice aU A.length E/\bi=.slice aV B.length F/\bY=.slice ah O.length ar/\A.length<=E/\B.length<=F/\
   Hid (wr.ownsRow w4.heap.size 29 3 (.slice ah O.length ar) O.length (O.flatMap dx))/\Hid (cz dx 3 w4 aU A)/\Hid (cz dx 3 w4 aV B)/\Hid (O++mrgP A B=M)/\O.length+A.length+B.length=z.length+lb.length/\Below w4.heap.size w4 wr)
  (fun bh bi _ _=>lenOf bh+lenOf bi)
 case atStart=>exact⟨z,lb,[],a,b,none,S,cb,0,rfl,rfl,rfl,bH,bJ,dz _ _ _ _,bv,bw,bt,by simp,aB _ _⟩
 case round=>
  obtain⟨A,B,O,aU,aV,ah,E,F,ar,rfl,rfl,rfl,aq,aA,HO,L,N,U,a4,r⟩:=hrel;cases A with
  |nil=>
   rw[Be]at U;simp only[fB]at aq a4 |-
   go_wp2_with (at_builtin;refine iH uV bu mP w4.heap.size HO.o (N.o.below r) rfl _ _ rfl rfl F rfl (by unfold maxLen;omega) (by omega) r.size ?_;intro bV w6 ao a2)
   rw[<-gM,U.o]at ao;obtain⟨bA,bD,rfl,bM,_,a8⟩:=cz.aC bu (by decide) ao;have u:Below w.heap.size w w6:=V.trans ((dB r HO.o a2 r.size (ay _)).mono V.size);refine(uO rfl a8 (by omega)).mono ?_;rintro e bZ ⟨bX,rfl,a7,aY⟩;go_wp2;rw[Exit.noGoto_ret];go_ret2;exact⟨_,rfl,eu a7 u.size,u.trans (aY.mono u.size)⟩
  |cons x C=>
   cases B with
   |nil=>
    rw[yg]at U;simp only[fB,dY]at aq aA a4 |-
    go_wp2_with (at_builtin;refine iH (l:=x::C) uV bu mP w4.heap.size HO.o (L.o.below r) rfl _ _ rfl rfl E rfl (by unfold maxLen;simp;omega) (by simp;omega) r.size ?_;intro bV w6 ao a2)
    rw[<-gM,U.o]at ao;obtain⟨bA,bD,rfl,bM,_,a8⟩:=cz.aC bu (by decide) ao;have u:Below w.heap.size w w6:=V.trans ((dB r HO.o a2 r.size (ay _)).mono V.size);refine(uO rfl a8 (by omega)).mono ?_;rintro e bZ ⟨bX,rfl,a7,aY⟩;go_wp2;rw[Exit.noGoto_ret];go_ret2;exact⟨_,rfl,eu a7 u.size,u.trans (aY.mono u.size)⟩
   |cons y D=>
    simp only[dY]at a4;obtain⟨c,g,rfl,I,aZ⟩:=L.o.get (by simp);obtain⟨d,ob,rfl,J,a0⟩:=N.o.get (by simp);have bx:=af (cz.tail L.o);have bz:=af (cz.tail N.o);have au:=af (yh x C y D);have⟨j,k,i⟩:=x;have⟨n,q,m⟩:=y;have bj:=aZ 0 (by simp) 0 (by omega);have x1:=aZ 0 (by simp) 1 (by omega);have x2:=aZ 0 (by simp) 2 (by omega);have bk:=a0 0 (by simp) 0 (by omega);have y1:=a0 0 (by simp) 1 (by omega);have y2:=a0 0 (by simp) 2 (by omega);simp only[qC,dx,aM,aN,dM,Nat.zero_mul]at bj x1 x2 bk y1 y2;have bb:=(r.cell (p:=(ae c g)) I).trans bj;have bc:=(r.cell (p:=(ae c (g+1))) I).trans x1;have bd:=(r.cell (p:=(ae c (g+2))) I).trans x2;have be:=(r.cell (p:=(ae d ob)) J).trans bk;have bf:=(r.cell (p:=(ae d (ob+1))) J).trans y1;have bg:=(r.cell (p:=(ae d (ob+2))) J).trans y2;have aS:=af (And.intro bj (And.intro x1 x2));have aT:=af (And.intro bk (And.intro y1 y2));have b1:=ag bb;have b2:=ag bc;have b3:=ag bd;have b4:=ag be;have b5:=ag bf;have b6:=ag bg;have bo:=af (fun W=>LF (j,k,i) (n,q,m) W);simp only[dY]at aq aA |-;by_cases a5:il (j,k,i) (n,q,m)<0
    .rw[aK a5]at au;have hd:decide (il (j,k,i) (n,q,m)<0)=true:=by simp[a5]
     generalize il (j,k,i) (n,q,m)=bU at*;go_wp2;refine bI (by kernel_rfl) (by kernel_rfl) ?_
     repeat(quiet_step ((go_at_call 94;exact dC (bo.o _))))
     refine jb ?_;intro f ba;have s:Below wr.heap.size wr f:=by obtain⟨p,rfl⟩:=ba;exact p.h
     have G:c<wr.heap.size:=bB I r.size;have H:d<wr.heap.size:=bB J r.size;have aF:=(s.cell (p:=(ae c g)) G).trans bb;have aG:=(s.cell (p:=(ae c (g+1))) G).trans bc;have aJ:=(s.cell (p:=(ae c (g+2))) G).trans bd;have aL:=(s.cell (p:=(ae d ob)) H).trans be;have aO:=(s.cell (p:=(ae d (ob+1))) H).trans bf;have aP:=(s.cell (p:=(ae d (ob+2))) H).trans bg;have aw:c<f.heap.size:=bB G s.size;have az:d<f.heap.size:=bB H s.size;have aR:=ax HO.o s;have aj:=r.trans (s.mono r.size);have a9:=aj.size;have ab:Hid ((O++[(j,k,i)])++mrgP C ((n,q,m)::D)=M):=by
      have:=U.o;rw[au.o,List.append_cons]at this;exact this
     have aQ:(O++[(j,k,i)]).length+C.length+(D.length+1)=z.length+lb.length:=by simp;omega
     have ad:((f.alloc (.cells #[aa j,aa k,ai i] 29)).drew).ownsRow w4.heap.size 29 3 (.slice ah O.length ar) O.length (O.flatMap dx):=(aR.alloc _).bC 1;have⟨bW,w6,K,ap,a3⟩:=yJ (ty:=22) (t:=22) (P:=prog) (l:=[(j,k,i)]) uV bu mP w4.heap.size ad ((cz.lit bu f 29 [(j,k,i)] f.heap.size rfl).below (Below.bC _ 1)) 1 (by unfold maxLen;simp;omega) (by simp;omega) (by simp;omega);have u:Below w4.heap.size w4 w6:=dB ((aj.alloc (by simpa using a9) _).drew) ad a3 (by simp;omega) (ay _);obtain⟨Q,R,rfl,-,-,-⟩:=cz.aC (l:=O++[(j,k,i)]) (enc:=dx) bu (by decide) (by simpa using ap);have a6:w6.ownsRow w4.heap.size 29 3 (.slice Q (O++[(j,k,i)]).length R) (O++[(j,k,i)]).length ((O++[(j,k,i)]).flatMap dx):=by simpa using ap
     have ac:=af a6;have X:(O++[(j,k,i)]).length=O.length+1:=by simp
     rw[X]at K;have Y:=af X;have ak:f.cell? (ae c g)=some (aa j)/\f.cell? (ae c (g+1))=some (aa k)/\f.cell? (ae c (g+2))=some (ai i):=⟨aF,aG,aJ⟩;have al:f.drew.cell? (ae c g)=some (aa j)/\f.drew.cell? (ae c (g+1))=some (aa k)/\f.drew.cell? (ae c (g+2))=some (ai i):=⟨aF,aG,aJ⟩;have am:((f.alloc (.cells #[aa j,aa k,ai i] 29)).drew).cell? (ae c g)=some (aa j)/\((f.alloc (.cells #[aa j,aa k,ai i] 29)).drew).cell? (ae c (g+1))=some (aa k)/\((f.alloc (.cells #[aa j,aa k,ai i] 29)).drew).cell? (ae c (g+2))=some (ai i):=by
      have T:=(aB f.heap.size f).alloc (ay _) (.cells #[aa j,aa k,ai i] 29);exact⟨(T.cell (p:=(ae c g)) aw).trans aF,(T.cell (p:=(ae c (g+1))) aw).trans aG,(T.cell (p:=(ae c (g+2))) aw).trans aJ⟩
     have an:w6.cell? (ae c g)=some (aa j)/\w6.cell? (ae c (g+1))=some (aa k)/\w6.cell? (ae c (g+2))=some (ai i):=by
      exact⟨(u.cell (p:=(ae c g)) I).trans aS.o.1,(u.cell (p:=(ae c (g+1))) I).trans aS.o.2.1,(u.cell (p:=(ae c (g+2))) I).trans aS.o.2.2⟩
     have Z:=af aQ;by_cases a1:E=1
     .subst a1;obtain rfl:C=[]:=gJ (by omega);go_wp2
      go_hide hQ
      go_region_held3 (fun w'=>w'.cell? (ae c g)=some (aa j)/\w'.cell? (ae c (g+1))=some (aa k)/\w'.cell? (ae c (g+2))=some (ai i))
       (first|(with_reducible exact ak)|(with_reducible exact al)|(with_reducible exact am)|(with_reducible exact an)|go_keep)
       ((refine gm rfl (.tmp 53) (.tmp 57) rfl K (by simp[Act.eval]) (by simp[Act.eval]) ?_;try simp only[Act.put,yw,nN,ng]))
      all_goals
       subst hQ;go_wp2;go_roundw
       case rel=>exact⟨[],(n,q,m)::D,O++[(j,k,i)],_,_,Q,0,F,R,rfl,rfl,by rw[Y.o],by simp,by simpa using aA,ac,af (Bg rfl),N,ab,by simpa using Z.o,u⟩
       case measure=>simp[lenOf]
     .have bP:(1:Int)<=(C.length:Int)+1:=by omega
      have bQ:(C.length:Int)+1<=(E:Int):=by omega
      have bS:¬E-1=0:=by omega
      have bT:1<E:=by omega
      go_wp2
      go_hide hQ
      go_region_held3 (fun w'=>w'.cell? (ae c g)=some (aa j)/\w'.cell? (ae c (g+1))=some (aa k)/\w'.cell? (ae c (g+2))=some (ai i))
       (first|(with_reducible exact ak)|(with_reducible exact al)|(with_reducible exact am)|(with_reducible exact an)|go_keep)
       ((refine gm rfl (.tmp 53) (.tmp 57) rfl K (by simp[Act.eval]) (by simp[Act.eval]) ?_;try simp only[Act.put,yw,nN,ng]))
      all_goals
       subst hQ;go_wp2;go_roundw
       case rel=>exact⟨C,(n,q,m)::D,O++[(j,k,i)],_,_,Q,E-1,F,R,rfl,rfl,by rw[Y.o],by omega,by simpa using aA,ac,bx,N,ab,by simpa using Z.o,u⟩
       case measure=>simp[lenOf]
    .rw[aI a5]at au;have hd:decide (il (j,k,i) (n,q,m)<0)=false:=by simp;omega
     generalize il (j,k,i) (n,q,m)=bU at*;go_wp2;refine bI (by kernel_rfl) (by kernel_rfl) ?_
     repeat(quiet_step ((go_at_call 94;exact dC (bo.o _))))
     refine jb ?_;intro f ba;have s:Below wr.heap.size wr f:=by obtain⟨p,rfl⟩:=ba;exact p.h
     have G:c<wr.heap.size:=bB I r.size;have H:d<wr.heap.size:=bB J r.size;have aF:=(s.cell (p:=(ae c g)) G).trans bb;have aG:=(s.cell (p:=(ae c (g+1))) G).trans bc;have aJ:=(s.cell (p:=(ae c (g+2))) G).trans bd;have aL:=(s.cell (p:=(ae d ob)) H).trans be;have aO:=(s.cell (p:=(ae d (ob+1))) H).trans bf;have aP:=(s.cell (p:=(ae d (ob+2))) H).trans bg;have aw:c<f.heap.size:=bB G s.size;have az:d<f.heap.size:=bB H s.size;have aR:=ax HO.o s;have aj:=r.trans (s.mono r.size);have a9:=aj.size;have ab:Hid ((O++[(n,q,m)])++mrgP ((j,k,i)::C) D=M):=by
      have:=U.o;rw[au.o,List.append_cons]at this;exact this
     have aQ:(O++[(n,q,m)]).length+(C.length+1)+D.length=z.length+lb.length:=by simp;omega
     have ad:((f.alloc (.cells #[aa n,aa q,ai m] 29)).drew).ownsRow w4.heap.size 29 3 (.slice ah O.length ar) O.length (O.flatMap dx):=(aR.alloc _).bC 1;have⟨bW,w6,K,ap,a3⟩:=yJ (ty:=22) (t:=22) (P:=prog) (l:=[(n,q,m)]) uV bu mP w4.heap.size ad ((cz.lit bu f 29 [(n,q,m)] f.heap.size rfl).below (Below.bC _ 1)) 1 (by unfold maxLen;simp;omega) (by simp;omega) (by simp;omega);have u:Below w4.heap.size w4 w6:=dB ((aj.alloc (by simpa using a9) _).drew) ad a3 (by simp;omega) (ay _);obtain⟨Q,R,rfl,-,-,-⟩:=cz.aC (l:=O++[(n,q,m)]) (enc:=dx) bu (by decide) (by simpa using ap);have a6:w6.ownsRow w4.heap.size 29 3 (.slice Q (O++[(n,q,m)]).length R) (O++[(n,q,m)]).length ((O++[(n,q,m)]).flatMap dx):=by simpa using ap
     have ac:=af a6;have X:(O++[(n,q,m)]).length=O.length+1:=by simp
     rw[X]at K;have Y:=af X;have ak:f.cell? (ae d ob)=some (aa n)/\f.cell? (ae d (ob+1))=some (aa q)/\f.cell? (ae d (ob+2))=some (ai m):=⟨aL,aO,aP⟩;have al:f.drew.cell? (ae d ob)=some (aa n)/\f.drew.cell? (ae d (ob+1))=some (aa q)/\f.drew.cell? (ae d (ob+2))=some (ai m):=⟨aL,aO,aP⟩;have am:((f.alloc (.cells #[aa n,aa q,ai m] 29)).drew).cell? (ae d ob)=some (aa n)/\((f.alloc (.cells #[aa n,aa q,ai m] 29)).drew).cell? (ae d (ob+1))=some (aa q)/\((f.alloc (.cells #[aa n,aa q,ai m] 29)).drew).cell? (ae d (ob+2))=some (ai m):=by
      have T:=(aB f.heap.size f).alloc (ay _) (.cells #[aa n,aa q,ai m] 29);exact⟨(T.cell (p:=(ae d ob)) az).trans aL,(T.cell (p:=(ae d (ob+1))) az).trans aO,(T.cell (p:=(ae d (ob+2))) az).trans aP⟩
     have an:w6.cell? (ae d ob)=some (aa n)/\w6.cell? (ae d (ob+1))=some (aa q)/\w6.cell? (ae d (ob+2))=some (ai m):=by
      exact⟨(u.cell (p:=(ae d ob)) J).trans aT.o.1,(u.cell (p:=(ae d (ob+1))) J).trans aT.o.2.1,(u.cell (p:=(ae d (ob+2))) J).trans aT.o.2.2⟩
     have Z:=af aQ;by_cases a1:F=1
     .subst a1;obtain rfl:D=[]:=gJ (by omega);go_wp2
      go_hide hQ
      go_region_held3 (fun w'=>w'.cell? (ae d ob)=some (aa n)/\w'.cell? (ae d (ob+1))=some (aa q)/\w'.cell? (ae d (ob+2))=some (ai m))
       (first|(with_reducible exact ak)|(with_reducible exact al)|(with_reducible exact am)|(with_reducible exact an)|go_keep)
       ((refine gm rfl (.tmp 22) (.tmp 26) rfl K (by simp[Act.eval]) (by simp[Act.eval]) ?_;try simp only[Act.put,yw,nN,ng]))
      all_goals
       subst hQ;go_wp2;go_roundw
       case rel=>exact⟨(j,k,i)::C,[],O++[(n,q,m)],_,_,Q,E,0,R,rfl,rfl,by rw[Y.o],by simpa using aq,by simp,ac,L,af (Bg rfl),ab,by simpa using Z.o,u⟩
       case measure=>simp[lenOf]
     .have bP:(1:Int)<=(D.length:Int)+1:=by omega
      have bQ:(D.length:Int)+1<=(F:Int):=by omega
      have bS:¬F-1=0:=by omega
      have bT:1<F:=by omega
      go_wp2
      go_hide hQ
      go_region_held3 (fun w'=>w'.cell? (ae d ob)=some (aa n)/\w'.cell? (ae d (ob+1))=some (aa q)/\w'.cell? (ae d (ob+2))=some (ai m))
       (first|(with_reducible exact ak)|(with_reducible exact al)|(with_reducible exact am)|(with_reducible exact an)|go_keep)
       ((refine gm rfl (.tmp 22) (.tmp 26) rfl K (by simp[Act.eval]) (by simp[Act.eval]) ?_;try simp only[Act.put,yw,nN,ng]))
      all_goals
       subst hQ;go_wp2;go_roundw
       case rel=>exact⟨(j,k,i)::C,D,O++[(n,q,m)],_,_,Q,E,F-1,R,rfl,rfl,by rw[Y.o],by simpa using aq,by omega,ac,L,bz,ab,by simpa using Z.o,u⟩
       case measure=>simp[lenOf]
end
section
open Go.RowKit Go.Sort Go.Shelf Go.Lib Go.Maps
structure QP (w:World) (ob:Nat) (dn:Bool):Prop where
 c0:w.cell? (ae ob 0)=some (ai (if dn then 1 else 0))
 c1:w.cell? (ae ob 1)=some (.int .i32 0)
 f0:w.frozen? (ae ob 0)=false
 f1:w.frozen? (ae ob 1)=false
structure lG (w:World) (F:Nat->Prop) (tb n0:Nat) (l:List Pt) (lo m0 m1 m2 m3 m4 hi bx cn hp lw ob:Nat) (tl sv:Value) (dn:Bool):Prop where
 blk:w.heap[tb]? =some (Obj.cells #[tl,ah bx,ah cn,ah hp,ah lw,ah ob,sv] 120 (0,0))
 row:w.ownsRow lo 29 3 tl l.length (l.flatMap dx)
 QQ:∀g,tl.ownBlock=some g->g<m0
 RZ:m0<=tb/\tb<m1
 box:iw w m1 m2 bx n0 l
 Tu:sU w m2 m3 cn n0 l
 Tv:sW w m3 m4 hp n0 l
 low:sZ w m4 hi lw n0 l
 ord:lo<=m0/\m1<=m2/\m2<=m3/\m3<=m4/\m4<=hi
 SC:QP w ob dn
 Ux:ob≠tb/\(m0<=ob/\ob<m1\/hi<=ob)
 EM:dn=true->∃a c,sv=.slice a (bR l).length c/\(bR l).length<=c/\cz dx 3 w a (bR l)/\∀x,a=some x->hi<=x.block/\x.block≠ob/\F x.block
 fin:(∀k,lo<=k->k<hi->F k)/\F ob/\∀k,F k->k<w.heap.size
 und:(ids l).Nodup/\Gz l
section
variable {w w':World} {F S:Nat->Prop} {tb n0:Nat} {l:List Pt} {lo m0 m1 m2 m3 m4 hi bx cn hp lw ob:Nat} {tl sv:Value} {dn:Bool}
theorem lG.tF (h:lG w F tb n0 l lo m0 m1 m2 m3 m4 hi bx cn hp lw ob tl sv dn):F tb:=h.fin.1 tb (by have:=h.ord;have:=h.RZ;omega) (by have:=h.ord;have:=h.RZ;omega)
theorem lG.kept (h:lG w F tb n0 l lo m0 m1 m2 m3 m4 hi bx cn hp lw ob tl sv dn) (K:au S w w') (hS:∀k,F k->¬S k):lG w' F tb n0 l lo m0 m1 m2 m3 m4 hi bx cn hp lw ob tl sv dn:=by
 have u:=h.ord;have ht:=h.RZ;have hF:=h.fin;have p:∀k,F k->w'.heap[k]? =w.heap[k]? :=fun k f=>K.block k (hF.2.2 k f) (hS k f);refine⟨(p tb h.tF).trans h.blk,aS h.row K fun d e=>hS d (hF.1 d (h.row.lt d e).1 (by have:=h.QQ d e;omega)),h.QQ,ht,h.box.kept K fun k g m=>hS k (hF.1 k (by omega) (by omega)),h.Tu.kept K fun k g m=>hS k (hF.1 k (by omega) (by omega)),h.Tv.kept K fun k g m=>hS k (hF.1 k (by omega) (by omega)),h.low.kept K fun k g m=>hS k (hF.1 k (by omega) (by omega)),u,?_,h.Ux,?_,⟨hF.1,hF.2.1,fun k f=>bB (hF.2.2 k f) K.size⟩,h.und⟩
 .have e:=p ob hF.2.1;exact⟨(dD (a:=(ae ob 0)) e).trans h.SC.c0,(dD (a:=(ae ob 1)) e).trans h.SC.c1,(oz (a:=(ae ob 0)) e).trans h.SC.f0,(oz (a:=(ae ob 1)) e).trans h.SC.f1⟩
 .intro hd;have⟨a,c,e,n,o,q⟩:=h.EM hd;refine⟨a,c,e,n,?_,q⟩;rcases o with o|⟨b,off,rfl,s,n⟩
  .exact .inl o
  .have r:=p b (q _ rfl).2.2;exact .inr ⟨b,off,rfl,bB s K.size,fun i hi j t=>(dD r).trans (n i hi j t)⟩
end
theorem Oh (a:Option Addr) (c:Nat) (l:List Pt) (w:World) (ao:cz dx 3 w a l) (r:l.length<=20000) (ar:Gz l) (hu:kQ l=true):
  aH 52 #[.slice a l.length c] w fun e w'=>∃tb m0 m1 m2 m3 m4 bx cn hp lw ob tl,e=.returned (ah tb)/\
   lG w' (fun k=>w.heap.size<=k/\k<w'.heap.size) tb l.length l w.heap.size m0 m1 m2 m3 m4 w'.heap.size bx cn hp lw ob tl (aG) false/\Below w.heap.size w w':=by
 have j:=af ao;have n:=af ar;have m:=af hu;go_enter func52,ntmps52
 go_wp2_with fail
 refine(nW a l l.length c w rfl j.o (by omega)).mono ?_;rintro e w1 ⟨tl,rfl,M,an⟩;obtain⟨d,tc,rfl,-,-,-⟩:=cz.aC bu (by decide) M;have HO:=af M;have E:=af an;have ab:Hid (((w1.alloc (.cells #[ai 0,.int .i32 0,ai 0] 199)).alloc (.cells #[.slice d l.length tc,.pointer none,.pointer none,.pointer none,.pointer none,ah w1.heap.size,aG] 120)).heap[w1.heap.size]? =some (.cells #[ai 0,.int .i32 0,ai 0] 199 (0,0))):=(bY _ _ _ (by simp)).trans (tC _ _);have ac:Hid (((w1.alloc (.cells #[ai 0,.int .i32 0,ai 0] 199)).alloc (.cells #[.slice d l.length tc,.pointer none,.pointer none,.pointer none,.pointer none,ah w1.heap.size,aG] 120)).heap[w1.heap.size+1]? =some (.cells #[.slice d l.length tc,.pointer none,.pointer none,.pointer none,.pointer none,ah w1.heap.size,aG] 120 (0,0))):=by
  have h:=tC (w1.alloc (.cells #[ai 0,.int .i32 0,ai 0] 199)) (.cells #[.slice d l.length tc,.pointer none,.pointer none,.pointer none,.pointer none,ah w1.heap.size,aG] 120);rw[show(w1.alloc (.cells #[ai 0,.int .i32 0,ai 0] 199)).heap.size=w1.heap.size+1 by simp]at h;exact h
 have z:Hid (Below w1.heap.size w1 ((w1.alloc (.cells #[ai 0,.int .i32 0,ai 0] 199)).alloc (.cells #[.slice d l.length tc,.pointer none,.pointer none,.pointer none,.pointer none,ah w1.heap.size,aG] 120))):=((aB _ _).alloc (ay _) _).alloc (by simp) _;have aJ:((w1.alloc (.cells #[ai 0,.int .i32 0,ai 0] 199)).alloc (.cells #[.slice d l.length tc,.pointer none,.pointer none,.pointer none,.pointer none,ah w1.heap.size,aG] 120)).heap.size=w1.heap.size+2:=by simp
 go_wp2_with fail
 generalize((w1.alloc (.cells #[ai 0,.int .i32 0,ai 0] 199)).alloc (.cells #[.slice d l.length tc,.pointer none,.pointer none,.pointer none,.pointer none,ah w1.heap.size,aG] 120))=w2 at*;have ap:=E.o.size;have A:Hid (Below w.heap.size w w2):=E.o.trans (z.o.mono ap);have X:=af (j.o.below A.o);refine(Nr a c l w2 X.o r n.o m.o).mono ?_;rintro e w3 ⟨bx,rfl,i,b⟩;have O:=af i;have aO:=b.size;have t3:w3.heap[w1.heap.size+1]? =some (Obj.cells #[.slice d l.length tc,.pointer none,.pointer none,.pointer none,.pointer none,ah w1.heap.size,aG] 120 (0,0)):=(b.block _ (by omega)).trans ac.o;have aK:w3.cell? (ae (w1.heap.size+1) 1)=some (.pointer none):=by simp[World.cell?,t3]
 have f3:w3.frozen? (ae (w1.heap.size+1) 1)=false:=by simp[World.frozen?,t3]
 have ad:Hid ((w3.setCell (ae (w1.heap.size+1) 1) (ah bx)).heap[w1.heap.size+1]? =some (Obj.cells #[.slice d l.length tc,ah bx,.pointer none,.pointer none,.pointer none,ah w1.heap.size,aG] 120 (0,0))):=by
  show _=_;rw[dA w3 (w1.heap.size+1) 1 _ _ _ t3];rfl
 have F:Hid (au (fun k=>k=w1.heap.size+1) w2 (w3.setCell (ae (w1.heap.size+1) 1) (ah bx))):=((au.refl _ _).below b).set _ (.inl rfl);have T:Hid (au (fun k=>k=w1.heap.size+1) w3 (w3.setCell (ae (w1.heap.size+1) 1) (ah bx))):=(au.refl _ _).set _ (.inl rfl);have aD:(w3.setCell (ae (w1.heap.size+1) 1) (ah bx)).heap.size=w3.heap.size:=by simp
 go_wp2_with fail
 generalize w3.setCell (ae (w1.heap.size+1) 1) (ah bx)=v at*;have B:Hid (Below w.heap.size w v):=A.o.trans (F.o.toBelow (by omega) (by rintro k rfl;omega));have Y:=af (j.o.below B.o);refine(PM a c l v Y.o r n.o m.o).mono ?_;rintro e w4 ⟨cn,rfl,i,b⟩;have P:=af i;have aP:=b.size;have t4:w4.heap[w1.heap.size+1]? =some (Obj.cells #[.slice d l.length tc,ah bx,.pointer none,.pointer none,.pointer none,ah w1.heap.size,aG] 120 (0,0)):=(b.block _ (by omega)).trans ad.o;have aL:w4.cell? (ae (w1.heap.size+1) 2)=some (.pointer none):=by simp[World.cell?,t4]
 have f4:w4.frozen? (ae (w1.heap.size+1) 2)=false:=by simp[World.frozen?,t4]
 have ag:Hid ((w4.setCell (ae (w1.heap.size+1) 2) (ah cn)).heap[w1.heap.size+1]? =some (Obj.cells #[.slice d l.length tc,ah bx,ah cn,.pointer none,.pointer none,ah w1.heap.size,aG] 120 (0,0))):=by
  show _=_;rw[dA w4 (w1.heap.size+1) 2 _ _ _ t4];rfl
 have u:Hid (au (fun k=>k=w1.heap.size+1) v (w4.setCell (ae (w1.heap.size+1) 2) (ah cn))):=((au.refl _ _).below b).set _ (.inl rfl);have U:Hid (au (fun k=>k=w1.heap.size+1) w4 (w4.setCell (ae (w1.heap.size+1) 2) (ah cn))):=(au.refl _ _).set _ (.inl rfl);have aE:(w4.setCell (ae (w1.heap.size+1) 2) (ah cn)).heap.size=w4.heap.size:=by simp
 go_wp2_with fail
 generalize w4.setCell (ae (w1.heap.size+1) 2) (ah cn)=x at*;have C:Hid (Below w.heap.size w x):=B.o.trans (u.o.toBelow (by omega) (by rintro k rfl;omega));have Z:=af (j.o.below C.o);refine(RN a c l x Z.o r n.o m.o).mono ?_;rintro e f ⟨hp,rfl,i,b⟩;have Q:=af i;have aQ:=b.size;have t5:f.heap[w1.heap.size+1]? =some (Obj.cells #[.slice d l.length tc,ah bx,ah cn,.pointer none,.pointer none,ah w1.heap.size,aG] 120 (0,0)):=(b.block _ (by omega)).trans ag.o;have aM:f.cell? (ae (w1.heap.size+1) 3)=some (.pointer none):=by simp[World.cell?,t5]
 have f5:f.frozen? (ae (w1.heap.size+1) 3)=false:=by simp[World.frozen?,t5]
 have aj:Hid ((f.setCell (ae (w1.heap.size+1) 3) (ah hp)).heap[w1.heap.size+1]? =some (Obj.cells #[.slice d l.length tc,ah bx,ah cn,ah hp,.pointer none,ah w1.heap.size,aG] 120 (0,0))):=by
  show _=_;rw[dA f (w1.heap.size+1) 3 _ _ _ t5];rfl
 have q:Hid (au (fun k=>k=w1.heap.size+1) x (f.setCell (ae (w1.heap.size+1) 3) (ah hp))):=((au.refl _ _).below b).set _ (.inl rfl);have V:Hid (au (fun k=>k=w1.heap.size+1) f (f.setCell (ae (w1.heap.size+1) 3) (ah hp))):=(au.refl _ _).set _ (.inl rfl);have aF:(f.setCell (ae (w1.heap.size+1) 3) (ah hp)).heap.size=f.heap.size:=by simp
 go_wp2_with fail
 generalize f.setCell (ae (w1.heap.size+1) 3) (ah hp)=y at*;have D:Hid (Below w.heap.size w y):=C.o.trans (q.o.toBelow (by omega) (by rintro k rfl;omega));have aa:=af (j.o.below D.o);refine(RS a c l y aa.o r n.o m.o).mono ?_;rintro e w6 ⟨lw,rfl,i,b⟩;have R:=af i;have aR:=b.size;have t6:w6.heap[w1.heap.size+1]? =some (Obj.cells #[.slice d l.length tc,ah bx,ah cn,ah hp,.pointer none,ah w1.heap.size,aG] 120 (0,0)):=(b.block _ (by omega)).trans aj.o;have aN:w6.cell? (ae (w1.heap.size+1) 4)=some (.pointer none):=by simp[World.cell?,t6]
 have f6:w6.frozen? (ae (w1.heap.size+1) 4)=false:=by simp[World.frozen?,t6]
 have ak:Hid ((w6.setCell (ae (w1.heap.size+1) 4) (ah lw)).heap[w1.heap.size+1]? =some (Obj.cells #[.slice d l.length tc,ah bx,ah cn,ah hp,ah lw,ah w1.heap.size,aG] 120 (0,0))):=by
  show _=_;rw[dA w6 (w1.heap.size+1) 4 _ _ _ t6];rfl
 have p:Hid (au (fun k=>k=w1.heap.size+1) y (w6.setCell (ae (w1.heap.size+1) 4) (ah lw))):=((au.refl _ _).below b).set _ (.inl rfl);have W:Hid (au (fun k=>k=w1.heap.size+1) w6 (w6.setCell (ae (w1.heap.size+1) 4) (ah lw))):=(au.refl _ _).set _ (.inl rfl);have aI:(w6.setCell (ae (w1.heap.size+1) 4) (ah lw)).heap.size=w6.heap.size:=by simp
 go_wp2;generalize w6.setCell (ae (w1.heap.size+1) 4) (ah lw)=aA at*;have S:Hid (Below w.heap.size w aA):=D.o.trans (p.o.toBelow (by omega) (by rintro k rfl;omega));go_ret;have aq:(ids l).Nodup:=by have:=m.o;unfold kQ at this;simpa using this
 have av:=((T.o.trans u.o).trans q.o).trans p.o;have aw:=(U.o.trans q.o).trans p.o;have az:=V.o.trans p.o;have N:=F.o.trans (u.o.trans (q.o.trans p.o));have s:∀lo hi,w1.heap.size+2<=lo->∀k,lo<=k->k<hi->¬k=w1.heap.size+1:=fun lo hi h k J _ K=>by omega
 have al:=O.o.kept av (s _ _ (by omega));have G:=P.o.kept aw (s _ _ (by omega));have H:=Q.o.kept az (s _ _ (by omega));have I:=R.o.kept W.o (s _ _ (by omega));rw[aD]at G;rw[aE]at H;rw[aF]at I;have L:=fun g e=>(HO.o.lt g e).2;have t:=bF N ab.o (by omega);refine⟨w1.heap.size+1,w1.heap.size,w2.heap.size,w3.heap.size,w4.heap.size,f.heap.size,bx,cn,hp,lw,w1.heap.size,_,rfl,⟨ak.o,?_,L,?_,al,G,H,?_,?_,?_,?_,(fun h=>by cases h),⟨fun k J K=>⟨J,K⟩,?_,fun k h=>h.2⟩,aq,n.o⟩,S.o⟩
 .exact aS (ax HO.o z.o) N fun am e h=>by have:=L am e;omega
 .omega
 .rw[aI];exact I
 .omega
 .exact⟨by simp[World.cell?,t],by simp[World.cell?,t],by simp[World.frozen?,t],by simp[World.frozen?,t]⟩
 .omega
 .omega
end
section
open Go.RowKit Go.Maps
section
variable {w:World} {lo hi tb n0:Nat} {l:List Pt}
theorem Oi (h:iw w lo hi tb n0 l) (p:Pt) (hp:p∈l):
  aH 128 #[ah tb,iD p.1 p.2.1 p.2.2] w fun e w'=>e=.returned (.bool true)/\iw w' lo hi tb n0 (l.filter fun q=>decide (q≠p))/\au (fun k=>lo<=k/\k<hi) w w':=by
 have⟨fb,R,gone,YS,V,j,a,d,m,n⟩:=h;have⟨x,c,e⟩:=(d.mem p).1 hp;have b:=a.lt c;rw[dF b]at e;have g:=(a.live x).1 c;refine(BJ j a (by omega) b g p e).mono ?_;rintro s w' ⟨rfl,i,o,r⟩;have f:=d.drop a b c;rw[e]at f;exact⟨rfl,⟨fb,R,_,_,i,o,a.drop g,f,m,n⟩,r⟩
theorem Qi {cb:Nat} (h:sU w lo hi cb n0 l) (p:Pt) (hp:p∈l):
  aH 125 #[ah cb,iD p.1 p.2.1 p.2.2] w fun e w'=>e=.returned (.bool true)/\sU w' lo hi cb n0 (l.filter fun q=>decide (q≠p))/\au (fun k=>lo<=k/\k<hi) w w':=by
 have⟨tb,a,n,i,j,m,g⟩:=h;refine(PL (R:=fun W b w'=>b=true/\iw w' lo a tb n0 (l.filter fun q=>decide (q≠p))/\au (fun k=>lo<=k/\k<a) W w') (by omega) (AJ g) p.1 p.2.1 p.2.2 ?_).mono ?_
 .intro W f;refine(Oi (n.below f (by omega)) p hp).mono ?_;rintro e w' ⟨rfl,d,c⟩;exact⟨_,rfl,rfl,d,c⟩
 .rintro e w' ⟨b,rfl,W,f,rfl,d,c⟩;have K:au (fun k=>lo<=k/\k<a) w w':=((au.refl _ w).below f).trans c;exact⟨rfl,⟨tb,a,d,i,j,bJ m K.size,(K.block cb (by omega) (by omega)).trans g⟩,K.mono fun k c=>by omega⟩
theorem R3 (h:sW w lo hi tb n0 l) (p:Pt) (hp:p∈l):
  aH 126 #[ah tb,iD p.1 p.2.1 p.2.2] w fun e w'=>e=.returned (.bool true)/\sW w' lo hi tb n0 (l.filter fun q=>decide (q≠p))/\au (fun k=>lo<=k/\k<hi) w w':=by
 have C:=h.En;have⟨fb,R,h,V,j,a,c,m,n⟩:=h;have⟨x,b,e⟩:=(c.mem p).1 hp;have f:=a.lt b;rw[dF f]at e;refine(Er j a (by omega) (by omega) (by omega) f p e).mono ?_;rintro A w' (⟨t,g,B⟩|⟨-,g,o,r⟩)
 .exact absurd b t
 .have d:=c.drop a b;rw[dF f,e]at d;have⟨u,v⟩:=a.drop b;have s:((l.filter fun q=>decide (q≠p)).length:Int)=l.length-1:=by
   have y:=c.len;have z:=d.len;have i:=v.length_eq;simp only[dY]at i;omega
  refine⟨g,⟨fb,R,_,V,?_,u,d,m,n⟩,r⟩;rw[s];exact o
theorem R4 (h:sZ w lo hi tb n0 l) (p:Pt) (hp:p∈l):
  aH 127 #[ah tb,iD p.1 p.2.1 p.2.2] w fun e w'=>e=.returned (.bool true)/\sZ w' lo hi tb n0 (l.filter fun q=>decide (q≠p))/\au (fun k=>lo<=k/\k<hi) w w':=by
 have E:=h.En;have⟨fb,R,gone,YS,V,n,a,c,o,r⟩:=h;have⟨x,b,e⟩:=(c.mem p).1 hp;have f:=a.lt b;rw[dF f]at e;refine(F5 n a (by omega) (by omega) (by omega) f p e).mono ?_;rintro C w' (⟨y,j,D⟩|⟨-,j,s,u⟩)
 .exact absurd b y
 .have t:=(a.live x).1 b;have g:=a.drop t;have d:=c.drop a f b;rw[e]at d;have v:((l.filter fun q=>decide (q≠p)).length:Int)=l.length-1:=by
   have z:=c.len a;have A:=d.len g;have B:(dV YS x).length+1=YS.length:=by
    have:=(List.perm_cons_erase b).length_eq;have m:dV YS x=YS.erase x:=by unfold dV;rw[a.nodup.erase_eq_filter];congr 1;funext i;by_cases h:i=x<;>simp[h]
    rw[m];simpa using this.symm
   omega
  refine⟨j,⟨fb,R,_,_,V,?_,g,d,o,r⟩,u⟩;rw[v];exact s
end
end
end Go.Proofs.YtkjdbndekceffaaGreat
