/- Made small by a program. -/
import Derived.Test.YtkjdbndekceffaaGreatV13
set_option linter.unusedSimpArgs false
set_option linter.unusedVariables false
set_option maxRecDepth 100000
set_option maxHeartbeats 16000000
namespace Go.Proofs.YtkjdbndekceffaaGreat
open Tryz
section
open Go.RowKit Go.Maps
def NZ (W:World) (X:Nat) (LS:List (Option Addr×List Pt×Nat)):Prop:=
 ∀(j:Nat) (h:j<LS.length),W.cell? (ag X j)=some (.slice LS[j].1 LS[j].2.1.length LS[j].2.2)/\bV bX 3 W LS[j].1 LS[j].2.1
theorem NZ.below {W W':World} {X B:Nat} {a:List (Option Addr×List Pt×Nat)} (h:NZ W X a) (e:X<B) (b:Below B W W') (d:W.heap.size<=B):NZ W' X a:=fun j c=>
 ⟨(b.cell (p:=(ag X j)) e).trans (h j c).1,(h j c).2.below (b.mono d)⟩
def mR (LS:List (Option Addr×List Pt×Nat)):List Pt:=LS.flatMap (·.2.1)
def Mj (l:List Pt):Prop:=∀p∈l,(Lit.int .u32 p.2.2).wf=true
theorem N7 (a:List (Option Addr×List Pt×Nat)) (j:Nat) (h:j<a.length):mR (a.take (j+1))=mR (a.take j)++a[j].2.1:=by
 unfold mR;rw[gT h,gZ,yM]
theorem QB (a:List (Option Addr×List Pt×Nat)) (j:Nat):(mR (a.take j)).length<=(mR a).length:=by
 have h:mR a=mR (a.take j)++mR (a.drop j):=by
  unfold mR;rw[<-gZ,jd]
 rw[h,bQ];omega
def kN {H:Type} (D:DataW H) (L:List Int):Prop:=∃f s,IsM .u32 .i64 D f s/\∀x,(f x).isSome=true↔x∈L
theorem kN.nil {H:Type}:kN (H:=H) (.map []) []:=⟨_,_,IsM.empty _ _,ax⟩
theorem kN.put {H:Type} {D:DataW H} {L:List Int} (h:kN D L) (x v:Int):kN (D.put (.int .u32 x) (.lit (.int .i64 v))) (L++[x]):=by
 have⟨f,s,b,c⟩:=h;refine⟨_,_,b.put x v,fun y=>?_⟩;unfold Ic;by_cases a:y=x
 .simp[a]
 .simp[a,c]
theorem kN.size {H:Type} {D:DataW H} {L:List Int} (h:kN D L):(((Maps.size D:Nat):Int)==((L.length:Nat):Int))=decide L.Nodup:=by
 have⟨f,s,a,b⟩:=h;rw[a.2.1,<-xS L s a.2.2.1 (fun x=>(a.2.2.2.1 x).trans (b x))];rw[nD];simp only[beq_iff_eq,bO];omega
theorem rG (X c:Nat) (d:List (Option Addr×List Pt×Nat)) (w:World) (ac:X<w.heap.size) (I:NZ w X d) (aB:(mR d).length<=1000000) (ay:d.length<=1000000) (Q:Mj (mR d)):
  aK 144 #[aC X d.length c] w (gD w (.bool (lF (mR d)))):=by
 have F:=af I;have Y:=af Q;clear I Q;have az:=@run_makeMap prog;go_enter func144,ntmps144;go_wp2
 go_loopw [4,12] (fun ah y wr=>∃j:Nat,y=.int .i64 j/\j<=d.length/\ah=.int .i64 ((mR (d.take j)).length:Nat)/\Below w.heap.size w wr/\
   Hid (∃(D:DataW Unit),wr.ownsMap prog 27 (plainElem prog 3) w.heap.size (mR (d.take j)).length D/\kN D (ids (mR (d.take j))))) (fun _ y _=>d.length-(intOf y).toNat)
 case atStart=>exact⟨0,rfl,aT _,rfl,(aJ _ _).alloc (aA _) _,⟨.map [],yT _ _ _ _,kN.nil⟩⟩
 case round=>
  obtain⟨j,rfl,av,rfl,g,HO⟩:=hrel;by_cases r:j<d.length
  .have ad:=((F.o.below ac g (aA _)) j r).1;have u:=(F.o j r).2;have L:=QB d (j+1);have e:=N7 d j r;rw[e,bQ]at L;have G:Hid (Mj d[j].2.1):=fun p hp=>Y.o p (by unfold mR;exact yX.2 ⟨_,bC r,hp⟩);have B:=af e;clear e;generalize d[j]=q at*;obtain⟨a,l,ao⟩:=q;simp only at ad u L G;have aD:((mR (d.take j)).length:Int)+(l.length:Int)<=1000000:=aa;generalize hP:mR (d.take j)=P at*;have an:=af hP;have V:=af u;have C:=af g;have aq:=g.size;clear hP u g;have ap:P.length<=1000000:=aa;have aw:l.length<=1000000:=aa;generalize J:P.length=N at*;obtain⟨z,ab⟩:∃z:World,z=wr:=⟨_,rfl⟩;subst ab;go_wp2
   go_loopw [22] (fun x R=>∃i:Nat,x=.int .i64 i/\i<=l.length/\Below w.heap.size z R/\
     Hid (∃(D:DataW Unit),R.ownsMap prog 27 (plainElem prog 3) w.heap.size (N+i) D/\kN D (ids (P++l.take i)))) (fun x _=>l.length-(intOf x).toNat)
   case atStart=>exact⟨0,rfl,aT _,aJ _ _,aQ HO⟩
   case round=>
    obtain⟨i,rfl,hi,k,h⟩:=hrel;by_cases n:i<l.length
    .obtain⟨b,off,H,au,m⟩:=(V.o.below (C.o.trans k)).get aa;have am:=m i n 0 aa;have x1:=m i n 1 aa;have x2:=m i n 2 aa;simp only[bX,eG,eQ,df]at am x1 x2;have e:l.take (i+1)=l.take i++[l[i]]:=gT n;have ag:Hid (keyOf prog 27 (.int .u32 l[i].2.2)=some (.int .u32 l[i].2.2)):=zh underlying27 (G.o _ (bC _));obtain⟨D,M,f⟩:=h.o;have t:=f.put l[i].2.2 i;rw[show ids (P++l.take i)++[l[i].2.2]=ids (P++l.take (i+1)) by rw[e];unfold ids;rw[<-dW,bJ (l₁:=P++l.take i)];rfl]at t;have E:=af t;have ar:=k.size;have A:=af H;clear h e m f t H;generalize l[i]=p at*;obtain⟨aj,al,ai⟩:=p;obtain rfl:=A.o;clear A;have s:=M.kept (rP wr (.cells #[ae aj,ae al,ak ai] 29) none) ax
     go_wp2_with (at_mapUpdate;refine yO _ rfl _ _ _ 26 rfl 27 3 (int_keyed underlying27) underlying26 _ w.heap.size (N+i) _ rfl s dE _ _ _ rfl rfl ag.o _ [] (vY underlying3 (by simp[Lit.wf,IntKind.min,IntKind.max,IntKind.bits,IntKind.signed];omega)) ?_;intro w3 O K)
     have S:Below w.heap.size wr w3:=(((aJ _ wr).alloc aa _)).grown K aH (fun j Z=>by cases Z;omega);have U:Hid (∃(D:DataW Unit),w3.ownsMap prog 27 (plainElem prog 3) w.heap.size (N+(i+1)) D/\kN D (ids (P++l.take (i+1)))):=⟨_,O,E.o⟩;have T:=k.trans S;clear O K s M E;go_wp2;go_roundw
     case rel=>exact⟨i+1,by go_num,aa,T,U⟩
     case measure=>exact bZ
    .obtain rfl:i=l.length:=aa;go_wp2;go_roundw
     case rel=>
      refine⟨j+1,by go_num,aa,?_,C.o.trans k,?_⟩
      .rw[B.o,bQ,J];go_num
      .rw[B.o,bQ,J];rw[iE]at h;exact h
     case measure=>exact bZ
  .obtain rfl:j=d.length:=aa;rw[iE]at HO |-;obtain⟨D,s,f⟩:=HO.o;have v:=f.size;rw[show((ids (mR d)).length:Int)=((mR d).length:Int) by simp[ids]]at v;have W:=af v;clear v f HO
   go_wp2_with (at_len;refine wpList_len_own _ rfl _ 26 rfl 27 3 underlying26 _ w.heap.size _ _ rfl s ?_)
   go_ret;exact⟨by rw[W.o];rfl,g⟩
def kP (l:List Pt):Bool:=qU l&&lF l
theorem QC {l:List Pt} {m:Nat} (h:m+1<l.length) (b:¬DV l[m] l[m+1]):kP l=false:=by
 unfold kP;rw[Bool.and_eq_false_iff];left;cases a:qU l
 .rfl
 .exact absurd ((og l).1 a m h) b
theorem IV {W:World} {a:Option Addr} {l:List Pt} (c:Nat) (t:TypeId) (h:bV bX 3 W a l):NZ (W.alloc (.cells #[.slice a l.length c] t)) W.heap.size [(a,l,c)]:=by
 intro j b;obtain rfl:j=0:=aQ b;exact⟨by rw[eX _ _ _ _ rfl];rfl,h.below ((aJ _ _).alloc (aA _) _)⟩
theorem qi (a:Option Addr) (l:List Pt) (c:Nat):mR [(a,l,c)]=l:=by simp[mR]
theorem Az (a:Option Addr) (l:List Pt) (n c:Nat) (w:World) (U:l.length=n) (h:bV bX 3 w a l) (S:n<=1000000) (K:Mj l):
  aK 143 #[.slice a n c] w (gD w (.bool (kP l))):=by
 subst U;have E:=af h;have O:=af K;clear h K;go_enter func143,ntmps143;go_wp2
 go_loopw [3] (fun F wr=>∃m:Nat,F=.int .i64 ((m:Int)+1)/\m<=l.length/\Below w.heap.size w wr/\Hid (∀i (_:i+1<l.length),i<m->DV l[i] l[i+1])) (fun F _=>l.length+1-(intOf F).toNat)
 case atStart=>exact⟨0,rfl,aT _,aJ _ _,fun i _ h=>absurd h (kz _)⟩
 case round=>
  obtain⟨m,rfl,ah,v,j⟩:=hrel;by_cases C:m+1<l.length
  .obtain⟨b,off,H,ac,t⟩:=(E.o.below v).get aa;have L:=t m aa 0 aa;have x1:=t m aa 1 aa;have x2:=t m aa 2 aa;have M:=t (m+1) C 0 aa;have y1:=t (m+1) C 1 aa;have y2:=t (m+1) C 2 aa;simp only[bX,eG,eQ,df]at L x1 x2 M y1 y2;have hS:=v.size;have d:¬DV l[m] l[m+1]->kP l=false:=QC C;have f:DV l[m] l[m+1]->Hid (∀i (_:i+1<l.length),i<m+1->DV l[i] l[i+1]):=fun X i hi R=>by
    rcases Ff.1 R with h|rfl
    .exact j.o i hi h
    .exact X
   have G:=af H;clear t H;generalize hp:l[m]'aa=p at*;generalize V:l[m+1]=q at*;clear hp V;obtain⟨k,y,A⟩:=p;obtain⟨r,z,B⟩:=q;unfold DV at d f;simp only at d f L x1 x2 M y1 y2;obtain rfl:=G.o;clear G;have ad:b<wr.heap.size:=aa;have ae:(m:Int)+1<(l.length:Int):=aa;have ag:(m:Int)<(l.length:Int):=aa;have u:∀Z ab,Below w.heap.size w (((wr.alloc Z).alloc ab).drew):=fun _ _=>(((v.alloc hS _).alloc aH _).drew);by_cases g:k=r
   .have d1:(k==r)=true:=by simp[g]
    by_cases x:y=z
    .have d2:(y==z)=true:=by simp[x]
     by_cases hi:A<B
     .have d3:decide (B<=A)=false:=aH;have D:=f (.inl ⟨g,x,hi⟩);have Y:¬B<=A:=aa;clear g x d f j;go_wp2;go_region
      all_goals
       go_wp2;go_roundw
       case rel=>exact⟨m+1,by go_num,aa,u _ _,D⟩
       case measure=>exact bZ
     .have d3:decide (B<=A)=true:=aH;have Y:B<=A:=aa;have s:=af (d aa);clear g x hi d f j;go_wp2;go_region
      all_goals
       go_wp2;go_ret;exact⟨by rw[s.o];rfl,u _ _⟩
    .have d2:(y==z)=false:=by simp[x]
     have d4:decide (r<=k)=true:=by simp[g]
     have ai:r<=k:=aa;have s:=af (d aa);clear g x d f j;go_wp2;go_region
     all_goals
      go_wp2;go_ret;exact⟨by rw[s.o];rfl,u _ _⟩
   .have d1:(k==r)=false:=by simp[g]
    by_cases Q:r<=k
    .have d4:decide (r<=k)=true:=by simp[Q]
     have s:=af (d aa);clear g d f j;go_wp2;go_region
     all_goals
      go_wp2;go_ret;exact⟨by rw[s.o];rfl,u _ _⟩
    .have d4:decide (r<=k)=false:=aH;by_cases T:y<=z
     .have d5:decide (y<=z)=true:=by simp[T]
      have s:=af (d aa);clear g d f j;go_wp2;go_region
      all_goals
       go_wp2;go_ret;exact⟨by rw[s.o];rfl,u _ _⟩
     .have d5:decide (y<=z)=false:=aH;have D:=f aa;clear g d f j;go_wp2;go_region
      all_goals
       go_wp2;go_roundw
       case rel=>exact⟨m+1,by go_num,aa,u _ _,D⟩
       case measure=>exact bZ
  .have I:qU l=true:=(og l).2 fun i hi=>j.o i hi aa;have J:kP l=lF l:=by unfold kP;rw[I,Bool.true_and]
   have N:=af J;have W:=E.o.below v;have hS:=v.size;clear E j I J
   go_wp2_with fail
   refine(rG wr.heap.size 1 [(a,l,c)] _ ax (IV c 22 W) (by rw[qi];exact S) ax (by rw[qi];exact O.o)).mono ?_;rw[qi];rintro e w1 ⟨rfl,P⟩;go_wp2;go_ret;exact⟨by rw[N.o];rfl,(v.alloc hS _).trans (P.mono aH)⟩
end
section
open Go.RowKit Go.Shelf
attribute [local go_sem] Oper.semAt_some
def OU (n₀ Bs:Nat) (W W':World):Prop:=Below n₀ W W'/\W'.heap[Bs]? =W.heap[Bs]?
theorem OU.refl (b a:Nat) (W:World):OU b a W W:=⟨aJ _ _,rfl⟩
theorem OU.trans {b a:Nat} {A B C:World} (h:OU b a A B) (c:OU b a B C):OU b a A C:=⟨h.1.trans c.1,c.2.trans h.2⟩
def bk (zs:List Pt) (k:Nat):List (Nat×Pt):=(List.range k).map fun j=>(zs.length-1-j,zs.getD (zs.length-1-j) (0,0,0))
theorem QD (a:List Pt) (k:Nat):(bk a k).length=k:=by simp[bk]
theorem Mk (a:List Pt) (k:Nat):bk a (k+1)=bk a k++[(a.length-1-k,a.getD (a.length-1-k) (0,0,0))]:=by simp[bk,qB]
theorem QE (a:List Pt):∀k,k<=a.length->((bk a k).map (·.2)).reverse=a.drop (a.length-k)
 |0,_=>by simp[bk]
 |k+1,h=>by
  rw[Mk,bJ,Bz,QE a k aa];have e:a.drop (a.length-(k+1))=a[a.length-(k+1)]::a.drop (a.length-(k+1)+1):=ky aa;rw[e,show a.length-(k+1)+1=a.length-k by omega];simp[show a.length-1-k=a.length-(k+1) by omega,show a.length-(k+1)<a.length by omega]
theorem QF (n:Nat) (ad:1<=n) (l g u b off c H:Nat) (d:List Pt) (S:d.length=c) (ab:c<=1000000) (s:b<u) (h z:List (Nat×Pt)->World->Prop)
  (P:∀f x W,h f W->f.length<c->YieldAt Fence.wide (n-1) prog l #[ae (x.1:Int),jb x.2.1 x.2.2.1 x.2.2.2] W fun e W'=>
    (e=.returned (.bool true)/\h (f++[x]) W'/\OU u g W W')\/(e=.returned (.bool false)/\z (f++[x]) W'))
  (W:World) (M:W.cell? (ag g 0)=some (.slice (some (ag b off)) c H)) (Q:bV bX 3 W (some (ag b off)) d) (L:h [] W):
  CallsIn Fence.wide n prog 280 #[.func (.yield l) #[] #[],aj g] W fun e W'=>(∃v,e=.returned v)/\
   ((∃F,F=bk d c/\h F W')\/(∃f,(∃k,k<=c/\f=bk d k)/\z f W')):=by
 have G:=af Q;have y:=af S;refine Cc func280 rfl trivial ?_ rfl;simp only[ntmps280,ma,eH,fE,Nat.reduceAdd,Nat.reduceSub,rM,rO,mf,rQ,gu,nk]
 gi_wp2
 gi_loopw [3] (fun i wr=>∃m:Nat,m<=c/\i=.int .i64 ((m:Int)-1)/\h (bk d (c-m)) wr/\OU u g W wr)
  (fun i _=>(intOf i+1).toNat)
 case atStart=>exact⟨c,aA _,rfl,by rw[jh];exact L,OU.refl _ _ _⟩
 case round=>
  obtain⟨m,ac,rfl,A,j⟩:=hrel;have Z:=(dJ (w:=W) (w':=wr) (a:=(ag g 0)) j.2).trans M;cases m with
  |zero=>
   gi_wp2
   go_end0
   exact⟨⟨_,rfl⟩,.inl (aQ A)⟩
  |succ m=>
   have q:m<d.length:=by rw[y.o];omega
   have ah:0<c:=aa;have⟨X,ai,r,Y,t⟩:=G.o.get aa;have T:=t m q 0 aa;have x1:=t m q 1 aa;have x2:=t m q 2 aa;injection r with r;injection r with J K _;subst J K;have E:=(j.1.cell (p:=(ag b (off+m*3+0))) s).trans T;have y1:=(j.1.cell (p:=(ag b (off+m*3+1))) s).trans x1;have y2:=(j.1.cell (p:=(ag b (off+m*3+2))) s).trans x2;simp only[bX,eG,eQ,df]at E y1 y2;have C:bk d (c-m)=bk d (c-(m+1))++[(m,d[m])]:=by
    have:=Mk d (c-(m+1));rw[show c-(m+1)+1=c-m by omega]at this;rw[this,show d.length-1-(c-(m+1))=m by rw[y.o];omega];simp[q]
   have⟨fn,an,assign,body,D,B⟩:=P _ (m,d[m]) wr A (by rw[QD];omega);dsimp only at D;rw[<-C]at B;have U:=Lib.hid C;generalize d[m]=p at*;have⟨al,am,ak⟩:=p;simp only at E y1 y2 D;have I:((m+1:Nat):Int)-1=(m:Int):=aa;rw[I]
   gi_wp2
   refine B.mono ?_;rintro e V (⟨rfl,N,R⟩|⟨rfl,O⟩)
   .gi_wp2
    go_roundw
    case rel=>exact⟨m,aa,ax,N,j.trans R⟩
    case measure=>simp[intOf]
   .gi_wp2
    refine kC (ll rfl _ _ _) rfl ?_;exact⟨⟨_,rfl⟩,.inr ⟨_,⟨c-m,aa,rfl⟩,O⟩⟩
theorem yt (n:Nat) (l c:Nat) (a:Option Addr) (f:Nat) (b:List (Nat×Pt)->World->Prop) (W:World) (h:W.cell? (ag c 0)=some (.slice a 0 f)) (g:b [] W):
  CallsIn Fence.wide n prog 280 #[.func (.yield l) #[] #[],aj c] W fun e W'=>(∃v,e=.returned v)/\b [] W':=by
 refine Cc func280 rfl trivial ?_ rfl;simp only[ntmps280,ma,eH,fE,Nat.reduceAdd,Nat.reduceSub,rM,rO,mf,rQ,gu,nk]
 gi_wp2
 gi_loopw [3] (fun i wr=>i=.int .i64 (-1)/\b [] wr) (fun _ _=>0)
 case atStart=>exact⟨rfl,g⟩
 case round=>
  obtain⟨rfl,d⟩:=hrel
  gi_wp2
  go_end0
  first|exact d|exact⟨⟨_,rfl⟩,d⟩
theorem S9 (n:Nat) (a:Option Addr) (c b:Nat) (w:World):
  CallsIn Fence.wide n prog 214 #[.slice a c b] w fun e w'=>e=.returned (.func (.func 280) #[] #[aj w.heap.size])/\w'=w.alloc (.cells #[.slice a c b] 22):=by
 refine Cc func214 rfl trivial ?_ rfl;simp only[ntmps214,ma,eH,fE,Nat.reduceAdd,Nat.reduceSub,rM,rO,mf,rQ,gu,nk]
 gi_wp2
 go_ret;exact⟨rfl,rfl⟩
theorem KV (n:Nat) (F:1<=n) (d r:Nat) (a:Option Addr) (c g:Nat) (f:List Pt) (q:f.length=c) (D:c<=1000000) (w:World) (u:d<w.heap.size)
  (B:w.cell? (ag d 0)=some (.slice a c g)) (v:bV bX 3 w a f) (A:f≠[]->∀b off,a=some (ag b off)->b<r):
  SeqStopsK Fence.wide n prog 280 #[aj d] (fun x:Nat×Pt=>#[ae (x.1:Int),jb x.2.1 x.2.2.1 x.2.2.2]) (OU r d) (fun H=>H=bk f c)
   (fun G=>∃k,k<=c/\G=bk f k) c w:=fun l h t W s _ _ z i=>by
 have j:=(s.cell (p:=(ag d 0)) u).trans B;have y:=v.below s;rcases y with rfl|⟨b,off,rfl,E,C⟩
 .obtain rfl:c=0:=aQ q.symm;exact(yt n l d a g h W j i).mono fun e W' ⟨m,o⟩=>⟨m,.inl ⟨_,by simp[bk],o⟩⟩
 .by_cases e:f=[]
  .subst e;obtain rfl:c=0:=aQ q.symm;exact(yt n l d _ g h W j i).mono fun e W' ⟨m,o⟩=>⟨m,.inl ⟨_,by simp[bk],o⟩⟩
  .exact QF n F l d r b off c g f q D (A e b off rfl) h t z W j (.inr ⟨b,off,rfl,E,C⟩) i
end
section
def Ml (l:List Oper):Bool:=l.all fun o=>match o.op with|.defer _=>false|_=>true
theorem KW {l:List Oper} (h:Ml l=true) {o:Oper} (a:o∈l):∀c,o.op≠.defer c:=fun c e=>by
 have:=vT.1 h o a;rw[e]at this;cases this
section
variable {F:Fence} {n:Nat} {P:Program} {ops:Array Oper} {C:World->Prop} {md:Region.Mode}
theorem Ec {o:Oper} (hd:∀c,o.op≠.defer c) {a:Act} {K:Act->Prop} {l:Act->World->Prop} {Q':Exit->Act->World->Prop} {w:World} (g:C w) (h:∀a w',C w'->K a->l a w')
  (p:o.askedIn F P a C) (t:o.quietIn F n P a C K):o.wpIn F n P a w l Q':=by
 have⟨v,m,j⟩:=t;refine⟨p w g,?_⟩;rw[Oper.semAt_plain F _ _ hd];have b:Oper.quietUponIn F n P C w v ((execOp a.eval o).run P w):=m w g;revert b;generalize(execOp a.eval o).run P w=r;intro b;rcases r with⟨x,w'⟩|⟨x,w'⟩
 .cases x with
  |value u=>obtain⟨d,i⟩:=b;subst d i;exact h _ _ g j
  |skip=>obtain⟨d,i⟩:=b;subst d i;exact h _ _ g j
  |enter f args=>obtain⟨d,y,q⟩:=b;subst d;exact⟨y,q.mono fun e z k=>by obtain⟨s,k⟩:=k;subst s;exact h _ _ k j⟩
  |_=>exact b.elim
 .exact b.elim
theorem yu (hd:∀o∈ops,∀c,o.op≠.defer c) {Q:Act->Prop} {Q':Exit->Act->World->Prop} (g:∀a w,C w->Q a->Q' .normal a w):∀(fuel:Nat) (f:Array Bool) (a:Act) (w:World),C w->
  wpAnyQIn F n P md ops C Q fuel f a->wpAnyIn F n P md ops Q' fuel f a w
 |0,_,_,_,d,h=>⟨h.1,g _ _ d h.2⟩
 |fuel+1,f,a,w,d,h=>by
  refine⟨fun l=>g _ _ d (h.1 l),fun i hi=>?_⟩;have b:=h.2 i hi;have next:∀(a':Act) (w':World),C w'->wpAnyQIn F n P md ops C Q fuel (f.setIfInBounds i true) a'->wpAnyIn F n P md ops Q' fuel (f.setIfInBounds i true) a' w':=fun a' w' m=>yu hd g fuel _ a' w' m;unfold qOpIn at b;unfold wpOpIn;split
  .rename_i e;rw[e]at b;exact next _ _ d b
  .rename_i o e;rw[e]at b;have⟨k,b⟩:=b;split
   .rename_i j;rw[aO j]at b;exact Ec (hd o (Array.mem_of_getElem? e)) d next k b
   .rename_i j;rw[aN j]at b;exact⟨k w d,next _ _ d b⟩
theorem lD {id:Nat} {Q:Exit->Act->World->Prop} {a:Act} {w:World} {l:List Oper} (e:P.follows .mixedOrders=true) (b:Region.lexB .any l.toArray=true) (hd:Ml l=true)
  (h:wpQuietIn F n P l.toArray (fun w'=>∃n,w'=w.drewN n) (fun a'=>∀w',(∃n,w'=w.drewN n)->Q .normal a' w') l a):(Code.region id l.toArray true).wpIn F n P Q a w:=by
 obtain⟨c,d⟩:=by simpa only[Region.lexB,nA]using b
 refine wpIn_region_any e (yu (C:=fun w'=>∃n,w'=w.drewN n) (Q:=fun a'=>∀w',(∃n,w'=w.drewN n)->Q .normal a' w') (fun o f=>KW hd (aQ f)) (fun _ w' g h=>h w' g) _ _ _ _ ⟨1,rfl⟩ ?_);have:=wpAnyQIn_lex (F:=F) (n:=n) (P:=P) (md:=.any) (C:=fun w'=>∃n,w'=w.drewN n) c l 0 (Array.replicate l.toArray.size false) a ax (aQ d) h;simpa using this
end
end
section
open Go.RowKit Go.Shelf
attribute [local go_sem] Oper.semAt_some
def IW (O:List Pt) (p:Pt):List Pt:=(stp p O.reverse).reverse
def KX (pre:List (Nat×Pt)):List Pt:=pre.foldl (fun O x=>IW O x.2) []
theorem QG (a:List (Nat×Pt)) (x:Nat×Pt):KX (a++[x])=IW (KX a) x.2:=by simp[KX]
theorem IX:∀(a:List (Nat×Pt)) (O:List Pt),a.foldl (fun O x=>IW O x.2) O=(a.foldl (fun T x=>stp x.2 T) O.reverse).reverse
 |[],O=>ax
 |x::a,O=>by
  rw[BR,BR,IX a];simp[IW]
theorem U2 (a:List (Nat×Pt)):KX a=(tN (a.map (·.2)).reverse).reverse:=by
 unfold KX tN;rw[IX,List.foldr_reverse,List.foldl_map];rfl
theorem U3 (a:List Pt):KX (bk a a.length)=(tN a).reverse:=by
 rw[U2,QE a _ (aA _),jh,jY]
theorem Ta (p:Pt) (T:List Pt):(stp p T).length<=T.length+1:=by
 cases T with
 |nil=>simp[stp]
 |cons t T=>
  simp only[stp];split
  .simp
  .split
   .have:=(List.dropWhile_sublist (fun q:Pt=>decide (q.1=p.1)) (l:=t::T)).length_le;simp at this |-;omega
   .simp
theorem Tc (O:List Pt) (p:Pt):(IW O p).length<=O.length+1:=by
 unfold IW;have:=Ta p O.reverse;simpa using this
theorem Mm:∀(a:List (Nat×Pt)) (O:List Pt),(a.foldl (fun O x=>IW O x.2) O).length<=O.length+a.length
 |[],O=>ax
 |x::a,O=>by
  rw[BR];have b:=Mm a (IW O x.2);have c:=Tc O x.2;simp;omega
theorem QH (a:List (Nat×Pt)):(KX a).length<=a.length:=by have:=Mm a [];simpa[KX]using this
theorem Td (p:Pt):IW [] p=[p]:=rfl
theorem QI (O:List Pt) (t p:Pt) (h:p.2.1<t.2.1\/p.2.1=t.2.1/\p.1<t.1):IW (O++[t]) p=O++[t]:=by
 unfold IW;simp only[Bz,BM,List.reverse_nil,gu,Fj,stp,aO h];simp
theorem N8 (O:List Pt) (t p:Pt) (h:¬(p.2.1<t.2.1\/p.2.1=t.2.1/\p.1<t.1)) (a:¬(p.1=t.1/\t.2.1<p.2.1)):IW (O++[t]) p=(O++[t])++[p]:=by
 unfold IW;simp only[Bz,BM,List.reverse_nil,gu,Fj,stp,aN h,aN a];simp
theorem QJ (O:List Pt) (t p:Pt) (m:Nat) (h:¬(p.2.1<t.2.1\/p.2.1=t.2.1/\p.1<t.1)) (g:p.1=t.1/\t.2.1<p.2.1) (j:m<=(O++[t]).length) (i:∀q∈(O++[t]).drop m,q.1=p.1) (a:m=0\/∃b:m-1<(O++[t]).length,(O++[t])[m-1].1≠p.1):
  IW (O++[t]) p=(O++[t]).take m++[p]:=by
 have e:(O++[t]).reverse=t::O.reverse:=ax;unfold IW;rw[e];simp only[stp,aN h,aO g];rw[<-e];generalize O++[t]=L at*;have c:L.reverse=(L.drop m).reverse++(L.take m).reverse:=by rw[<-Bz,jd]
 rw[c,List.dropWhile_append_of_pos (aQ i)];have d:(L.take m).reverse.dropWhile (fun q=>decide (q.1=p.1))=(L.take m).reverse:=by
  rcases a with rfl|⟨b,a⟩
  .simp
  .rcases nW m with rfl|AQ
   .simp
   .have f:L.take m=L.take (m-1)++[L[m-1]]:=by
     have:=gT b;rw[show m-1+1=m by omega]at this;exact this
    rw[f,Bz,List.reverse_singleton,Fj,List.dropWhile_cons_of_neg (aQ a)]
 rw[d];simp
theorem Te {g:Type} (B:Nat) (t:TypeId) (cs:g->Array Value):Own (fun s W=>W.heap[B]? =some (.cells (cs s) t (0,0))):=fun s X h i a e f=>
 (e.block B (bg.1 a).1 (fun c=>by obtain⟨o,b,d⟩:=f B c.symm;rw[a]at b;cases b;cases d)).trans a
def Dt (n₀:Nat) (T:List Pt) (W:World):Prop:=∃v,Boxed W n₀ 22 v/\W.ownsRow n₀ 29 3 v T.length (T.flatMap bX)
theorem N9 (d:Nat):Own (fun(c:List (Nat×Pt)) W=>Dt d (KX c) W):=fun s X e k j h i=>by
 have⟨v,f,g⟩:=j;have⟨l,a,b,_⟩:=holdsRow_own d d 22 29 3 (fun c=>(KX c).length) (fun c=>(KX c).flatMap bX) (fun _ _=>True) s X e k ⟨v,f,g,trivial⟩ h i;exact⟨l,a,b⟩
theorem Dt.alloc {a:Nat} {T:List Pt} {W:World} (h:Dt a T W) (o:Obj):Dt a T (W.alloc o):=by
 have⟨v,b,c⟩:=h;exact⟨v,b.alloc _,c.alloc _⟩
theorem ko {W:World} {o:Obj} {n:Nat} (h:n=W.heap.size):(W.alloc o).heap[n]? =some o:=by subst h;exact heap_alloc_new W o
theorem U4:(Tryz.prog.info? 29).map (fun i=>(i.zero,i.size,i.bytes))=some (some (.agg #[ae 0,ae 0,ak 0]),3,24):=aL
theorem V6 {d b:Nat} {w:World} (h:d<=w.heap.size) (j:b<w.heap.size):∀(W:World) (l:Nat) (o a:Obj),w.heap.size<=l->W.heap[l]? =some o->o.isCells=false->o.isWalk=false->OU d b W (W.putObj l a):=fun W l o a g c f i=>
 ⟨belowK_b (w:=w) h W l o a g c f i,(BS W l a).block b (by have:=(bg.1 c).1;omega) (by intro e;cases e;omega)⟩
def CJ (B Bx g cap:Nat) (O':List Pt) (px py pi tx ty ti:Int) (a:Option Addr) (n c:Nat) (W wr:World):Prop:=
 Boxed wr B 22 (aC g (O'.length+1) cap)/\wr.ownsRow B 29 3 (aC g (O'.length+1) cap) (O'.length+1) ((O'++[(tx,ty,ti)]).flatMap bX)/\
 Boxed wr (B+1) 22 (.slice a n c)/\wr.heap[Bx]? =some (.cells #[ae px,ae py,ak pi] 29 (0,0))/\Below B W wr/\KeepsOthers W wr
theorem CJ.aX {B Bx g d:Nat} {b:List Pt} {f i e k ty j:Int} {a:Option Addr} {n c:Nat} {W wr:World} (h:CJ B Bx g d b f i e k ty j a n c W wr) (q:Nat):CJ B Bx g d b f i e k ty j a n c W (wr.drewN q):=
 ⟨h.1,h.2.1,h.2.2.1,h.2.2.2.1,h.2.2.2.2.1.trans (Below.aX _ _),⟨h.2.2.2.2.2.1,h.2.2.2.2.2.2⟩⟩
theorem U5 (N:Nat) (cw:3<=N) (a:Option Addr) (l:List Pt) (n c:Nat) (w:World) (bE:l.length=n) (h:bV bX 3 w a l) (cc:n<=1000000):
  CallsIn Fence.wide N prog 145 #[.slice a n c] w fun e w'=>∃v m,e=.returned v/\w'.ownsRow w.heap.size 29 3 v m ((tN l).flatMap bX)/\m=(tN l).length/\Below w.heap.size w w':=by
 have aR:1<=N:=aa;obtain⟨aE,hi,au,aB,aD⟩:=info_parts U4;have av:(Value.agg #[ae 0,ae 0,ak 0]).cells.size=3:=rfl;obtain⟨aF,bJ⟩:∃z:Value,z=.agg #[ae 0,ae 0,ak 0]:=⟨_,rfl⟩;rw[<-bJ]at au av;clear bJ;refine Bu func145 rfl trivial ?_ rfl;simp only[ntmps145,ma,eH,fE,Nat.reduceAdd,Nat.reduceSub,rM,rO,mf,rQ,gu,nk]
 gi_wp2_with (refine⟨trivial,?_⟩;gi_at_call 214;refine(S9 (N-1) _ _ _ _).mono ?_;rintro e w' ⟨rfl,rfl⟩)
 have bx:=(Boxed.new w 22 (aM)).alloc (.cells #[.slice a n c] 22);have a6:=Boxed.new (w.alloc (.cells #[aM] 22)) 22 (.slice a n c);rw[World.size_alloc]at a6;have bi:Below w.heap.size w ((w.alloc (.cells #[aM] 22)).alloc (.cells #[.slice a n c] 22)):=((aJ _ w).alloc (aA _) _).alloc ax _;have ch:((w.alloc (.cells #[aM] 22)).alloc (.cells #[.slice a n c] 22)).heap.size=w.heap.size+2:=ax;obtain⟨bb,bA⟩:∃bb,(w.alloc (.cells #[aM] 22)).alloc (.cells #[.slice a n c] 22)=bb:=⟨_,rfl⟩;rw[bA]at bx a6 bi ch |-;clear bA;refine wpIn_rangeFunc_ownH (F:=Fence.wide) rfl aR (gf:=280) (lb:=#[aj (w.heap.size+1)]) rfl trivial (bP func280 aL rfl)
  (KV (N-1) aa (w.heap.size+1) w.heap.size a n c l bE cc bb aa a6.cell (h.below bi) (fun ah b off e=>by
    subst e;rcases h with rfl|⟨cp,cL,e,bD,_⟩
    .exact absurd rfl ah
    .cases e;exact bD)) OU.trans (V6 aa aa) (aJ _ _) (fun _=>rfl)
  (fun al W=>(Dt w.heap.size (KX al) W/\Boxed W (w.heap.size+1) 22 (.slice a n c))/\Below w.heap.size w W)
  (fun _ _ _=>False)
  (OwnFrom.and (OwnFrom.and (Own.from (N9 w.heap.size) _) (Own.from (boxed_own _ _ _) _)) (ownFrom_below (aA _) aa))
  (fun _ _ _ _ _ bs _ _=>bs)
  ⟨⟨⟨_,bx,cZ _ _ _ _⟩,a6⟩,bi⟩
  (fun x a' W=>∃Bx,w.heap.size+1<Bx/\W.heap[Bx]? =some (.cells #[ae x.2.1,ae x.2.2.1,ak x.2.2.2] 29 (0,0))/\a'={tmps:=#[.slice a n c,undef,aM,aj w.heap.size,undef,aj Bx,undef,undef,.slice a n c,.func (.func 280) #[] #[aj (w.heap.size+1)],ae (x.1:Int),jb x.2.1 x.2.2.1 x.2.2.2,undef,undef,undef,undef,undef,undef,undef,undef,undef,undef,undef,undef,undef,undef,undef,undef,undef,undef,undef,undef,undef,undef,undef,undef,undef,undef,undef,undef,undef,undef,undef,undef,undef,undef,undef,undef,undef,undef,undef,undef,undef,undef,undef,undef,undef,undef,undef,undef,undef,undef,undef,undef,undef,undef,undef,undef,undef,undef,undef,undef,undef,undef,undef,undef,undef,undef,undef],defers:=[]})
  (fun x a' _ X bR cn bs ad bF=>by obtain⟨Bx,aR,bf,bh⟩:=bs;exact⟨Bx,aR,Te Bx 29 (fun(_:Unit)=>#[ae x.2.1,ae x.2.2.1,ak x.2.2.2]) () X bR cn bf ad (fun r e=>(bF r e).2),bh⟩)
  ?assign ?body ?done ?stop
 case assign=>
  rintro cm al x W K ⟨⟨b4,G⟩,bj⟩ aw
  gi_wp2
  exact aw _ _ ((vQ _ _).from _) ⟨(aJ _ W).alloc bj.size _,bU W _ _ G.lt⟩ ⟨⟨b4.alloc _,G.alloc _⟩,bj.alloc bj.size _⟩ ⟨W.heap.size,G.lt,vK W _,rfl⟩
 case body=>
  rintro cm al ⟨co,f,s,B⟩ a' W cF ⟨r,bF⟩ ⟨⟨⟨v,S,C⟩,G⟩,E⟩ ⟨Bx,cu,aN,rfl⟩ bD;have b6:=QH al;have bz:∀W',Dt w.heap.size (IW (KX al) (f,s,B)) W'->Dt w.heap.size (KX (al++[(co,f,s,B)])) W':=fun W' h=>by
   rw[QG];exact h
  have Q:=af bz;clear bz;generalize b5:KX al=O at*;clear b5;have b7:=S.cell;have cz:=S.frozen;have cI:W.cell? (ag Bx 0)=some (ae f):=aI aN;have cJ:W.cell? (ag Bx 1)=some (ae s):=aI aN;have cK:W.cell? (ag Bx 2)=some (ak B):=aI aN;have cD:=G.lt;have cE:w.heap.size<W.heap.size:=aa;have cH:w.heap.size≠W.heap.size:=aa;have b0:=(bg.1 aN).1;rcases List.eq_nil_or_concat O with rfl|⟨i,t,rfl⟩
  .simp only[fE,List.flatMap_nil]at C;have cf:=C;rw[Td]at Q;have:v=aM\/∃g A,v=aC g 0 A:=by
    rcases cf.2 with⟨rfl,_⟩|⟨g,A,bc,rfl,_⟩
    .exact .inl rfl
    .exact .inr ⟨g,A,rfl⟩
   rcases this with rfl|⟨cr,cq,rfl⟩
   all_goals
    gi_wp2_with (gi_at_builtin;refine yR _ rfl _ _ 22 rfl w.heap.size 29 aE aF 3 24 underlying22 hi au aB aD av ai _ _ _ rfl (C.alloc _) (ag W.heap.size 0) 1 1 [.int .i64 f,.int .i64 s,.int .u32 B] rfl rfl (vL (cs:=#[ae f,ae s,ak B]) (t:=29) (fr:=(0,0)) (ko ax)) (by simp[Value.oneCell']) dE aa aH ?_;intro a5 w1 J I _;obtain⟨aP,aO,rfl⟩:=zi J;obtain⟨L,V,U,T,R⟩:=S.appended ai C E.size (aA _) J I;have aY:=L.cell;have a1:=L.frozen;have Y:=(G.alloc _).kept I (G.not_row ai C);have H:=fun u=>Y.other (B':=w.heap.size) aa u)
    simp only[kD]at V U T R;exact⟨T.from _,⟨R,(H _).trans G.symm⟩,⟨Q.o _ ⟨_,V,U⟩,H _⟩,E.trans R⟩
  .rw[List.concat_eq_append]at*;have ad:∃g A,v=aC g (i.length+1) A/\g<W.heap.size/\w.heap.size<=g:=by
    rcases C.2 with⟨_,bY⟩|⟨g,A,bc,rfl,ad,b9,_⟩
    .simp at bY
    .exact⟨g,A,ax,(bg.1 b9).1,ad⟩
   obtain⟨g,A,rfl,cA,cB⟩:=ad;obtain⟨d,ty,y⟩:=t;have cx:i.length+1<=al.length:=aQ b6;have az:=C;rw[show(i++[(d,ty,y)]).length=i.length+1 by simp]at az;have bK:=az.cellAt (i.length*3) aa;have bL:=az.cellAt (i.length*3+1) aa;have bM:=az.cellAt (i.length*3+2) aa;have am:=fun j ca=>flat_get bq (i++[(d,ty,y)]) i.length ax j ca;rw[show(i++[(d,ty,y)])[i.length]'ax=(d,ty,y) by simp]at am;rw[show i.length*3=i.length*3+0 by omega,am 0 aa]at bK;rw[am 1 aa]at bL;rw[am 2 aa]at bM;simp only[bX,eG,eQ,df]at bK bL bM;clear am;have C:=az;clear az;by_cases ab:s<ty\/s=ty/\f<d
   .have ac:=QI i (d,ty,y) (f,s,B) ab;rw[ac]at Q;rcases ab with ab|⟨bH,cg⟩
    .have d1:decide (s<ty)=true:=by simp[ab]
     gi_wp2
     exact⟨(vQ _ _).from _,⟨(aJ _ W).alloc E.size _,bU W _ _ G.lt⟩,⟨Q.o _ ⟨_,S.alloc _,by simpa using C.alloc _⟩,G.alloc _⟩,E.alloc E.size _⟩
    .have d1:decide (s<ty)=false:=aH;have d2:(s==ty)=true:=by simp[bH]
     have d3:decide (f<d)=true:=by simp[cg]
     clear bH
     gi_wp2
     exact⟨(vQ _ _).from _,⟨(aJ _ W).alloc E.size _,bU W _ _ G.lt⟩,⟨Q.o _ ⟨_,S.alloc _,by simpa using C.alloc _⟩,G.alloc _⟩,E.alloc E.size _⟩
   .by_cases an:f=d/\ty<s
    .have d1:decide (s<ty)=false:=aH;have d2:(s==ty)=false:=aH;have d4:(f==d)=true:=by simp[an.1]
     have d5:decide (ty<s)=true:=by simp[an.2]
     have bN:=af (fun m aR bf bh=>QJ i (d,ty,y) (f,s,B) m ab an aR bf bh);have bB:∀q∈(i++[(d,ty,y)]).drop (i.length+1),q.1=f:=by rw[o8 ax];simp
     have bO:=af bB;have b1:CJ w.heap.size Bx g A i f s B d ty y a n c W (W.alloc (.cells #[ae d,ae ty,ak y] 29)):=
      ⟨by simpa using S.alloc (.cells #[ae d,ae ty,ak y] 29),C.alloc _,G.alloc _,(bU W _ _ b0).trans aN,(aJ _ W).alloc E.size _,vQ _ _⟩
     clear an ab bB
     gi_wp2
     gi_loopw [7] (fun bv wr=>∃m:Nat,bv=.int .i64 m/\m<=i.length+1/\Hid (∀q∈(i++[(d,ty,y)]).drop m,q.1=f)/\
       CJ w.heap.size Bx g A i f s B d ty y a n c W wr) (fun bv _=>(intOf bv).toNat)
     case atStart=>exact⟨i.length+1,by go_num,aA _,bO,b1⟩
     case round=>
      obtain⟨m,rfl,cG,a0,ao⟩:=hrel;have a9:=ao.1.cell;have bI:wr.cell? (ag Bx 0)=some (ae f):=aI ao.2.2.2.1;have aK:(m=0\/∃cC:m-1<(i++[(d,ty,y)]).length,(i++[(d,ty,y)])[m-1].1≠f)->IW (i++[(d,ty,y)]) (f,s,B)=(i++[(d,ty,y)]).take m++[(f,s,B)]:=fun h=>bN.o m aH a0.o h;rcases nW m with AQ|AQ
      .have ac:=aK (.inl AQ);rw[ac]at Q;clear aK ac a0;subst AQ
       gi_wp2
       refine lD aL aL aL ?_
       repeat(gi_big_quiet_step (fail))
       refine wpQuietIn_nil ?_;intro _ a3;obtain⟨nq,hw''⟩:=a3;subst hw'';clear a9 bI;have aZ:CJ w.heap.size Bx g A i f s B d ty y a n c W (wr.drewN nq):=ao.aX nq;clear ao;generalize wr.drewN nq=M at aZ |-;obtain⟨Z,ar,aW,ap,aU,bm⟩:=aZ;have bp:i.length+1<=A:=by
        obtain⟨_,_,be,_,_,bp,_⟩:=aS ar aa;injection be with _ _ bS;omega
       have a9:=Z.cell;have jG:=Z.frozen;have ah:w.heap.size≠Bx:=aa;have bu:=Z.set (aC g 0 A);have aq:(M.setCell (ag w.heap.size 0) (aC g 0 A)).ownsRow w.heap.size 29 3 (aC g 0 A) 0 (((i++[(d,ty,y)]).take 0).flatMap bX):=by
        refine bn (by rw[<-qN bq];exact mK ar aa) (fun bW e=>aG (fun bd=>Z.not_row ai ar ?_));simp only[Value.ownBlock]at e |-;rw[e,<-bd]
       have cj:(M.setCell (ag w.heap.size 0) (aC g 0 A)).cell? (ag Bx 0)=some (ae f):=by rw[World.cell?,aG ah];simp[ap]
       have ck:(M.setCell (ag w.heap.size 0) (aC g 0 A)).cell? (ag Bx 1)=some (ae s):=by rw[World.cell?,aG ah];simp[ap]
       have cl:(M.setCell (ag w.heap.size 0) (aC g 0 A)).cell? (ag Bx 2)=some (ak B):=by rw[World.cell?,aG ah];simp[ap]
       have aV:∀u,Boxed (M.setCell (ag w.heap.size 0) u) (w.heap.size+1) 22 (.slice a n c):=fun u=>aW.other (B':=w.heap.size) aa u;have cd:=aW.lt;have bt:w.heap.size<=(M.setCell (ag w.heap.size 0) (aC g 0 A)).heap.size:=by have:=aU.size;have:=Z.lt;simp;omega
       gi_wp2_with (gi_at_builtin;refine yR _ rfl _ _ 22 rfl w.heap.size 29 aE aF 3 24 underlying22 hi au aB aD av ai _ _ _ rfl (aq.alloc _) (ag M.heap.size 0) 1 1 [.int .i64 f,.int .i64 s,.int .u32 B] rfl rfl (vL (cs:=#[ae f,ae s,ak B]) (t:=29) (fr:=(0,0)) (ko ax)) (by simp[Value.oneCell']) dE aa aH ?_;intro a5 w1 J I _;obtain⟨aP,aO,rfl⟩:=zi J;obtain⟨L,V,U,T,R⟩:=bu.appended ai aq bt (aA _) J I;have aY:=L.cell;have a1:=L.frozen;have Y:=((aV _).alloc _).kept I ((aV _).not_row ai aq);have H:=fun u=>Y.other (B':=w.heap.size) aa u)
       have P:=(aU.setCell (p:=(ag w.heap.size 0)) (aA _) (aC g 0 A)).trans R;exact⟨((bm.trans (yQ _ _ _)).trans T).from _,⟨P,(H _).trans G.symm⟩,⟨Q.o _ ⟨_,V,by rw[show((i++[(d,ty,y)]).take 0++[(f,s,B)]).length=0+1 by simp,gZ,yM];exact U⟩,H _⟩,E.trans P⟩
      .obtain⟨k,rfl⟩:∃k,m=k+1:=⟨m-1,aa⟩;have a7:=ao.2.1.cellAt (k*3) aa;have am:=flat_get bq (i++[(d,ty,y)]) k aH 0 aa;rw[show k*3=k*3+0 by omega,am]at a7;simp only[bX,eG,df]at a7;clear am;have cb:k<(i++[(d,ty,y)]).length:=aH;simp only[Fz]at aK;have bw:=af aK;have ba:=En (i++[(d,ty,y)]) (k+1) aa aa;simp only[Fz]at ba;clear aK;obtain⟨a4,a2⟩:∃a4,a4=(i++[(d,ty,y)])[k].1:=⟨_,rfl⟩;rw[<-a2]at a7;have ct:(decide ((0:Int)<((k+1:Nat):Int)))=true:=ax;by_cases ay:a4=f
       .have bT:(a4==f)=true:=by simp[ay]
        have bC:∀q∈(i++[(d,ty,y)]).drop k,q.1=f:=by
         rw[ba];intro q h;rcases gW.1 h with rfl|h
         .rw[<-a2];exact ay
         .exact a0.o q h
        have bQ:=af bC;clear bC ba a2 ay a0
        gi_wp2
        refine lD aL aL aL ?_
        repeat(gi_big_quiet_step (fail))
        refine wpQuietIn_nil ?_;intro _ a3;obtain⟨nq,hw''⟩:=a3;subst hw''
        gi_wp2
        go_roundw
        case rel=>exact⟨k,by go_num,aa,bQ,ao.aX nq⟩
        case measure=>simp[intOf]
       .have bT:(a4==f)=false:=by simp[ay]
        have ac:=bw.o (.inr ⟨cb,by rw[<-a2];exact ay⟩);rw[ac]at Q;clear ba a2 ay bw ac a0
        gi_wp2
        refine lD aL aL aL ?_
        repeat(gi_big_quiet_step (fail))
        refine wpQuietIn_nil ?_;intro _ a3;obtain⟨nq,hw''⟩:=a3;subst hw'';clear a7;clear a9 bI;have aZ:CJ w.heap.size Bx g A i f s B d ty y a n c W (wr.drewN nq):=ao.aX nq;clear ao;generalize wr.drewN nq=M at aZ |-;obtain⟨Z,ar,aW,ap,aU,bm⟩:=aZ;have bp:i.length+1<=A:=by
         obtain⟨_,_,be,_,_,bp,_⟩:=aS ar aa;injection be with _ _ bS;omega
        have a9:=Z.cell;have jG:=Z.frozen;have ah:w.heap.size≠Bx:=aa;have bu:=Z.set (aC g (k+1) A);have aq:(M.setCell (ag w.heap.size 0) (aC g (k+1) A)).ownsRow w.heap.size 29 3 (aC g (k+1) A) (k+1) (((i++[(d,ty,y)]).take (k+1)).flatMap bX):=by
         refine bn (by rw[<-qN bq];exact mK ar aa) (fun bW e=>aG (fun bd=>Z.not_row ai ar ?_));simp only[Value.ownBlock]at e |-;rw[e,<-bd]
        have cj:(M.setCell (ag w.heap.size 0) (aC g (k+1) A)).cell? (ag Bx 0)=some (ae f):=by rw[World.cell?,aG ah];simp[ap]
        have ck:(M.setCell (ag w.heap.size 0) (aC g (k+1) A)).cell? (ag Bx 1)=some (ae s):=by rw[World.cell?,aG ah];simp[ap]
        have cl:(M.setCell (ag w.heap.size 0) (aC g (k+1) A)).cell? (ag Bx 2)=some (ak B):=by rw[World.cell?,aG ah];simp[ap]
        have aV:∀u,Boxed (M.setCell (ag w.heap.size 0) u) (w.heap.size+1) 22 (.slice a n c):=fun u=>aW.other (B':=w.heap.size) aa u;have cd:=aW.lt;have bt:w.heap.size<=(M.setCell (ag w.heap.size 0) (aC g (k+1) A)).heap.size:=by have:=aU.size;have:=Z.lt;simp;omega
        gi_wp2_with (gi_at_builtin;refine yR _ rfl _ _ 22 rfl w.heap.size 29 aE aF 3 24 underlying22 hi au aB aD av ai _ _ _ rfl (aq.alloc _) (ag M.heap.size 0) 1 1 [.int .i64 f,.int .i64 s,.int .u32 B] rfl rfl (vL (cs:=#[ae f,ae s,ak B]) (t:=29) (fr:=(0,0)) (ko ax)) (by simp[Value.oneCell']) dE aa aH ?_;intro a5 w1 J I _;obtain⟨aP,aO,rfl⟩:=zi J;obtain⟨L,V,U,T,R⟩:=bu.appended ai aq bt (aA _) J I;have aY:=L.cell;have a1:=L.frozen;have Y:=((aV _).alloc _).kept I ((aV _).not_row ai aq);have H:=fun u=>Y.other (B':=w.heap.size) aa u)
        have P:=(aU.setCell (p:=(ag w.heap.size 0)) (aA _) (aC g (k+1) A)).trans R;exact⟨((bm.trans (yQ _ _ _)).trans T).from _,⟨P,(H _).trans G.symm⟩,⟨Q.o _ ⟨_,V,by rw[show((i++[(d,ty,y)]).take (k+1)++[(f,s,B)]).length=(k+1)+1 by simp;omega,gZ,yM];exact U⟩,H _⟩,E.trans P⟩
    .have ac:=N8 i (d,ty,y) (f,s,B) ab an;rw[ac]at Q;have d1:decide (s<ty)=false:=aH;by_cases aT:s=ty
     .have d2:(s==ty)=true:=by simp[aT]
      have d3:decide (f<d)=false:=aH;have d5:decide (ty<s)=false:=aH;by_cases a8:f=d
      .have d4:(f==d)=true:=by simp[a8]
       clear aT a8 ab an
       gi_wp2_with (gi_at_builtin;refine yR _ rfl _ _ 22 rfl w.heap.size 29 aE aF 3 24 underlying22 hi au aB aD av ai _ _ _ rfl ((C.alloc _).alloc _) (ag (W.heap.size+1) 0) 1 1 [.int .i64 f,.int .i64 s,.int .u32 B] rfl rfl (vL (cs:=#[ae f,ae s,ak B]) (t:=29) (fr:=(0,0)) (ko ax)) (by simp[Value.oneCell']) dE aa aH ?_;intro a5 w1 J I _;obtain⟨aP,aO,rfl⟩:=zi J;obtain⟨L,V,U,T,R⟩:=(S.alloc (.cells #[ae d,ae ty,ak y] 29)).appended ai (C.alloc _) (E.alloc E.size _).size (aA _) J I;have aY:=L.cell;have a1:=L.frozen;have Y:=((G.alloc (.cells #[ae d,ae ty,ak y] 29)).alloc _).kept I ((G.alloc (.cells #[ae d,ae ty,ak y] 29)).not_row ai (C.alloc _));have H:=fun u=>Y.other (B':=w.heap.size) aa u)
       have P:=((aJ w.heap.size W).alloc E.size _).trans R;exact⟨((vQ _ _).trans T).from _,⟨P,(H _).trans G.symm⟩,⟨Q.o _ ⟨_,V,by rw[show((i++[(d,ty,y)])++[(f,s,B)]).length=i.length+1+1 by simp,gZ,yM];exact U⟩,H _⟩,E.trans P⟩
      .have d4:(f==d)=false:=by simp[a8]
       clear aT a8 ab an
       gi_wp2_with (gi_at_builtin;refine yR _ rfl _ _ 22 rfl w.heap.size 29 aE aF 3 24 underlying22 hi au aB aD av ai _ _ _ rfl ((C.alloc _).alloc _) (ag (W.heap.size+1) 0) 1 1 [.int .i64 f,.int .i64 s,.int .u32 B] rfl rfl (vL (cs:=#[ae f,ae s,ak B]) (t:=29) (fr:=(0,0)) (ko ax)) (by simp[Value.oneCell']) dE aa aH ?_;intro a5 w1 J I _;obtain⟨aP,aO,rfl⟩:=zi J;obtain⟨L,V,U,T,R⟩:=(S.alloc (.cells #[ae d,ae ty,ak y] 29)).appended ai (C.alloc _) (E.alloc E.size _).size (aA _) J I;have aY:=L.cell;have a1:=L.frozen;have Y:=((G.alloc (.cells #[ae d,ae ty,ak y] 29)).alloc _).kept I ((G.alloc (.cells #[ae d,ae ty,ak y] 29)).not_row ai (C.alloc _));have H:=fun u=>Y.other (B':=w.heap.size) aa u)
       have P:=((aJ w.heap.size W).alloc E.size _).trans R;exact⟨((vQ _ _).trans T).from _,⟨P,(H _).trans G.symm⟩,⟨Q.o _ ⟨_,V,by rw[show((i++[(d,ty,y)])++[(f,s,B)]).length=i.length+1+1 by simp,gZ,yM];exact U⟩,H _⟩,E.trans P⟩
     .have d2:(s==ty)=false:=by simp[aT]
      have d4:(f==d)=false:=aH;clear aT ab an
      gi_wp2_with (gi_at_builtin;refine yR _ rfl _ _ 22 rfl w.heap.size 29 aE aF 3 24 underlying22 hi au aB aD av ai _ _ _ rfl ((C.alloc _).alloc _) (ag (W.heap.size+1) 0) 1 1 [.int .i64 f,.int .i64 s,.int .u32 B] rfl rfl (vL (cs:=#[ae f,ae s,ak B]) (t:=29) (fr:=(0,0)) (ko ax)) (by simp[Value.oneCell']) dE aa aH ?_;intro a5 w1 J I _;obtain⟨aP,aO,rfl⟩:=zi J;obtain⟨L,V,U,T,R⟩:=(S.alloc (.cells #[ae d,ae ty,ak y] 29)).appended ai (C.alloc _) (E.alloc E.size _).size (aA _) J I;have aY:=L.cell;have a1:=L.frozen;have Y:=((G.alloc (.cells #[ae d,ae ty,ak y] 29)).alloc _).kept I ((G.alloc (.cells #[ae d,ae ty,ak y] 29)).not_row ai (C.alloc _));have H:=fun u=>Y.other (B':=w.heap.size) aa u)
      have P:=((aJ w.heap.size W).alloc E.size _).trans R;exact⟨((vQ _ _).trans T).from _,⟨P,(H _).trans G.symm⟩,⟨Q.o _ ⟨_,V,by rw[show((i++[(d,ty,y)])++[(f,s,B)]).length=i.length+1+1 by simp,gZ,yM];exact U⟩,H _⟩,E.trans P⟩
 case done=>
  rintro D xs W cv rfl ⟨⟨⟨v,S,C⟩,G⟩,E⟩ aw;subst bE;have br:=QH (bk l l.length);rw[QD]at br;rw[U3]at C br;simp only[List.length_reverse]at C br;have b7:=S.cell;have ce:=S.not_row ai C;have b8:∀j,v.ownBlock=some j->w.heap.size<=j:=fun j e=>by
   rcases C.2 with⟨rfl,_⟩|⟨g,A,bc,rfl,bo,_⟩
   .cases e
   .cases e;exact bo
  have b3:some D≠v.ownBlock:=fun e=>by
   rcases C.2 with⟨rfl,_⟩|⟨g,A,bc,rfl,_,bo,_⟩
   .cases e
   .cases e;rw[bo]at aw;cases aw
  have b2:=(bg.1 aw).1
  gi_wp2_with (refine⟨trivial,?_⟩;gi_at_call 215;refine(zf.2 (Ux ax aa C)).mono ?_;rintro e w' ⟨rfl,bG,ad⟩;have ci:=S.kept ad ce;have cy:=ci.cell;have bl:=(ad.block D b2 b3).trans aw;have bZ:=E.grown ad E.size b8)
  rw[List.reverse_reverse]at bG;refine⟨ax,.inl ⟨_,_,rfl,BO bl,?_⟩⟩;exact⟨_,results_tmp rfl _ _ _,_,_,rfl,ownsRow_putObj bG _ bl rfl,rfl,bZ.trans (belowK_b (w:=w) (aA _) _ _ _ _ aa bl rfl rfl)⟩
 case stop=>
  rintro D c al W _ _ h _;exact h.elim
theorem wV {a:Option Addr} {l:List Pt} {n c:Nat} {w:World} (i:l.length=n) (h:bV bX 3 w a l) (f:n<=1000000):
  aK 145 #[.slice a n c] w fun e w'=>∃v,e=.returned v/\w'.ownsRow w.heap.size 29 3 v (tN l).length ((tN l).flatMap bX)/\Below w.heap.size w w':=
 (zf.1 (U5 3 aa a l n c w i h f)).mono fun e w' ⟨v,m,d,j,g,b⟩=>⟨v,d,g▸j,b⟩
end
section
open Go.RowKit Go.Maps
theorem bN {w:World} {base b:Nat} {e:TypeId} {size:Nat} {v:Value} {n:Nat} {xs:List Value} (h:w.ownsRow base e size v n xs) (i:b<=base):w.ownsRow b e size v n xs:=by
 have⟨f,a⟩:=h;refine⟨f,?_⟩;rcases a with a|⟨g,c,d,k,j,r⟩
 .exact .inl a
 .exact .inr ⟨g,c,d,k,bA i j,r⟩
theorem fV (l:List Pt):lF l=true↔(ids l).Nodup:=by simp[lF]
theorem U6 (a:Option Addr) (l:List Pt) (n c:Nat) (w:World) (E:l.length=n) (h:bV bX 3 w a l) (f:n<=1000000) (J:Mj l) (hu:lF l=true):
  aK 148 #[.slice a n c] w fun e w'=>∃v,e=.returned (.tuple #[v,ae 0])/\w'.ownsRow w.heap.size 29 3 v (bL l).length ((bL l).flatMap bX)/\Below w.heap.size w w':=by
 subst E;have i:=af h;have t:=af J;have k:=(fV l).1 hu;have r:=af k;have I:(fC l).length=l.length:=(dV l).length_eq;have H:tN (fC l)=bL l:=Ey _ (gz k);have s:=af H;go_enter func148,ntmps148
 go_wp2_with fail
 refine(rG w.heap.size 1 [(a,l,c)] _ ax (IV c 22 i.o) (by rw[qi];exact f) ax (by rw[qi];exact t.o)).mono ?_;rw[qi,hu];rintro e w1 ⟨rfl,B⟩;have b:Below w.heap.size w w1:=((aJ _ w).alloc (aA _) _).trans (B.mono ax)
 go_wp2_with fail
 refine(pV a l l.length c w1 rfl (i.o.below b) f).mono ?_;rintro e w2 ⟨v,rfl,m,j⟩;have p:=b.trans (j.mono b.size);have u:=b.size;have x:=j.size;obtain⟨y,L,rfl,_,_,_⟩:=bV.aD bq ai m
 go_wp2_with fail
 refine(Pe rfl aa m r.o x).mono ?_;rintro e w3 ⟨rfl,F,C⟩;have d:=p.trans (C.mono u);have g:bV bX 3 w3 y (fC l):=by
  have⟨K,M,z,_,_,g⟩:=bV.aD bq ai F;injection z with A _ _;exact A▸g
 go_wp2_with fail
 refine(wV I g f).mono ?_;rw[s.o];rintro e w4 ⟨N,rfl,G,D⟩;have q:=d.trans (D.mono d.size);go_wp2;go_ret2;exact⟨_,rfl,bN G d.size,q⟩
end
section
def mrgP:List Pt->List Pt->List Pt
 |[],B=>B
 |A,[]=>A
 |x::A,y::B=>if iW x y<0 then x::mrgP A (y::B)else y::mrgP (x::A) B
 termination_by A B=>A.length+B.length
theorem Du (B:List Pt):mrgP [] B=B:=by simp[mrgP]
theorem zX (A:List Pt):mrgP A []=A:=by cases A<;>simp[mrgP]
theorem zY (x:Pt) (A:List Pt) (y:Pt) (B:List Pt):mrgP (x::A) (y::B)=if iW x y<0 then x::mrgP A (y::B)else y::mrgP (x::A) B:=by
 rw[mrgP]
theorem ng:∀(n:Nat) (A B:List Pt),A.length+B.length<=n->(mrgP A B).Perm (A++B)
 |_,[],B,_=>by rw[Du,gu]
 |_,x::A,[],_=>by rw[zX,je]
 |0,_::_,_::_,h=>by simp at h
 |n+1,x::A,y::B,h=>by
  rw[zY];split
  .exact(ng n A (y::B) (by simp at h |-;omega)).cons x
  .refine((ng n (x::A) B (by simp at h |-;omega)).cons y).trans ?_;exact(List.perm_middle (l₁:=x::A)).symm
theorem Ob {x y:Pt} (h:¬kY x y) (hi:x.2.2≠y.2.2):kY y x:=by unfold kY at*;omega
theorem uw:∀(n:Nat) (A B:List Pt),A.length+B.length<=n->A.Pairwise kY->B.Pairwise kY->(∀x∈A,∀y∈B,x.2.2≠y.2.2)->(mrgP A B).Pairwise kY
 |_,[],B,_,_,c,_=>by rw[Du];exact c
 |_,x::A,[],_,b,_,_=>by rw[zX];exact b
 |0,_::_,_::_,h,_,_,_=>by simp at h
 |n+1,x::A,y::B,h,b,c,hd=>by
  have d:=lQ.1 b;have e:=lQ.1 c;rw[zY];split
  .rename_i a;rw[qX]at a;refine lQ.2 ⟨fun z hz=>?_,uw n A (y::B) (by simp at h |-;omega) d.2 c (fun u hu v f=>hd u (by simp[hu]) v f)⟩;rcases bW.1 ((ng _ A (y::B) (aA _)).mem_iff.1 hz)with hz|hz
   .exact d.1 z hz
   .rcases gW.1 hz with rfl|hz
    .exact a
    .exact pK a (e.1 z hz)
  .rename_i a;rw[qX]at a;have g:=Ob a (hd x ax y ax);refine lQ.2 ⟨fun z hz=>?_,uw n (x::A) B (by simp at h |-;omega) b e.2 (fun u hu v f=>hd u hu v (by simp[f]))⟩;rcases bW.1 ((ng _ (x::A) B (aA _)).mem_iff.1 hz)with hz|hz
   .rcases gW.1 hz with rfl|hz
    .exact g
    .exact pK g (d.1 z hz)
   .exact e.1 z hz
theorem yw {l:List Pt} (h:kP l=true):l.Pairwise kY:=by
 unfold kP at h;rw[nA]at h;refine(pQ h.1).imp fun{p q} a=>?_;unfold DV at a;unfold kY;omega
theorem Oc {A B:List Pt} (a:kP A=true) (b:kP B=true) (hu:(ids (A++B)).Nodup):tN (mrgP A B)=bL (A++B):=by
 have hd:∀x∈A,∀y∈B,x.2.2≠y.2.2:=by
  intro x d y f;unfold ids at hu;rw[bJ,oG]at hu;exact hu.2.2 _ (sF d) _ (sF f)
 have c:=uw _ A B (aA _) (yw a) (yw b) hd;have e:mrgP A B=fC (A++B):=Lx hu c fun p=>(ng _ A B (aA _)).mem_iff;rw[e];exact Ey _ (gz hu)
end
section
open Go.RowKit Go.Maps
theorem AA {α:Type} {P:Program} {enc:α->List Value} {sz:Nat} {t ty e:TypeId} {bytes:Nat} (m:eY P t e sz bytes) (h:∀x,(enc x).length=sz) (q:∀x,∀u∈enc x,u.oneCell'=true) (base:Nat) {v:Value} {n:Nat} {xs:List Value} {W:World} (k:W.ownsRow base e sz v n xs) {ad:Option Addr} {l:List α} (F:bV enc sz W ad l)
  (c:Nat) (s:n+l.length<=maxLen) (C:(n+l.length)*bytes<=140737488355328) (A:base<=W.heap.size):
  ∃g w',(Builtin.append_ #[t,t] ty #[v,.slice ad l.length c]).run P W=.ok g w'/\w'.ownsRow base e sz g (n+l.length) (xs++l.flatMap enc)/\W.grownBy w' v.ownBlock:=by
 rcases F with rfl|⟨b,off,rfl,K,D⟩
 .exact⟨v,W,jT m k ad c,aQ k,⟨rfl,rfl,rfl,aA _,fun _ _ _=>rfl⟩⟩
 .obtain⟨ht,⟨i,z,hi,I,G,B,J⟩,f⟩:=m;have⟨g,w',a,d,r,_⟩:=run_append_own (P:=P) W base t ty e i z sz bytes ht hi I G B J f v n xs k (ag b off) l.length c (l.flatMap enc) (gK h l) (by
   intro j u hu;have w:((ag b off):Addr).add j=(ag b (off+j)):=by unfold Addr.add;split<;>simp_all
   rw[w];have E:j<l.length*sz:=by
    have:=(fI.1 hu).1;rw[gK h]at this;exact this
   have p:j/sz<l.length:=(JH f).2 E;have a:=D (j/sz) p (j%sz) (qL _ f);have d:=flat_get h l (j/sz) p (j%sz) (qL _ f);have o:j/sz*sz+j%sz=j:=by rw[ze];exact Nat.div_add_mod j sz
   rw[o]at d;rw[vW,o]at a;rw[a,<-d];exact hu) (by
   intro u hu;have⟨y,_,H⟩:=yX.1 hu;exact q y u H) s C A
  exact⟨g,w',a,d,r⟩
theorem Od (p q:Pt) (W:World):aK 94 #[jb p.1 p.2.1 p.2.2,jb q.1 q.2.1 q.2.2] W (gD W (ae (iW p q))):=
 (Uw p q W).mono fun _ _ h=>⟨h.1,h.2.below (aA _)⟩
def lenOf:Value->Nat
 |.slice _ n _=>n
 |_=>0
theorem QK {W:World} {a b:Option Addr} {la lb:List Pt} (c cb:Nat) (t:TypeId) (h:bV bX 3 W a la) (d:bV bX 3 W b lb):NZ (W.alloc (.cells #[.slice a la.length c,.slice b lb.length cb] t)) W.heap.size [(a,la,c),(b,lb,cb)]:=by
 intro j e;simp only[eH,fE]at e;obtain rfl|rfl:j=0\/j=1:=aa
 .exact⟨by rw[eX _ _ _ _ rfl];rfl,h.below ((aJ _ _).alloc (aA _) _)⟩
 .exact⟨by rw[eX _ _ _ _ rfl];rfl,d.below ((aJ _ _).alloc (aA _) _)⟩
theorem Dv (a b:Option Addr) (la lb:List Pt) (c cb:Nat):mR [(a,la,c),(b,lb,cb)]=la++lb:=by simp[mR]
theorem KY {A B:List Pt} (h:Mj A) (a:Mj B):Mj (A++B):=fun p hp=>by
 rcases bW.1 hp with hp|hp
 .exact h p hp
 .exact a p hp
theorem Dw {α:Type} {enc:α->List Value} {sz:Nat} {w:World} {a:Option Addr} {l:List α} (h:l.length=0):bV enc sz w a l:=.inl (iC h)
theorem bV.tail {α:Type} {enc:α->List Value} {sz:Nat} {w:World} {b off:Nat} {x:α} {l:List α} (h:bV enc sz w (some (ag b off)) (x::l)):bV enc sz w (some (ag b (off+sz))) l:=by
 have:=h.drop 1;simpa using this
theorem Oe (a b:Option Addr) (la lb:List Pt) (aE aF R cb:Nat) (w:World) (bS:la.length=aE) (bT:lb.length=aF) (bM:aE<=R) (bO:aF<=cb) (a0:bV bX 3 w a la) (r:bV bX 3 w b lb) (bP:aE+aF<=1000000) (bw:Mj la) (bx:Mj lb) (bu:kP la=true) (bv:kP lb=true) (hu:lF (la++lb)=true):
  aK 62 #[.slice a aE R,.slice b aF cb] w fun e w'=>∃v,e=.returned (.tuple #[v,ae 0])/\w'.ownsRow w.heap.size 29 3 v (bL (la++lb)).length ((bL (la++lb)).flatMap bX)/\Below w.heap.size w w':=by
 subst bS bT;have bQ:=Oc bu bv ((fV _).1 hu);have b6:(mrgP la lb).length=la.length+lb.length:=by have:=(ng _ la lb (aA _)).length_eq;simpa using this
 rw[<-bQ];have bp:=af (Az a la la.length R w rfl a0 aa bw);have br:=af (fun W (h:Below w.heap.size w W)=>Az b lb lb.length cb W rfl (r.below h) aa bx);have bs:=af (fun W (h:Below w.heap.size w W)=>rG W.heap.size 2 [(a,la,R),(b,lb,cb)] _ ax (QK R cb 22 (a0.below h) (r.below h)) (by rw[Dv];simpa using bP) ax (by rw[Dv];exact KY bw bx));rw[bu]at bp;rw[bv]at br;rw[Dv,hu]at bs;have K:=af a0;have L:=af r;generalize bI:mrgP la lb=M at*;have bz:=af bI;go_enter func62,ntmps62;go_wp2
 go_step3
 go_wp2_with fail
 refine bp.o.mono ?_;rintro e w1 ⟨rfl,a1⟩
 go_wp2_with fail
 refine(br.o w1 a1).mono ?_;rintro e w2 ⟨rfl,bJ⟩;have aw:=a1.trans (bJ.mono a1.size)
 go_wp2_with fail
 refine(bs.o w2 aw).mono ?_;rintro e w4 ⟨rfl,bK⟩;have U:=(aw.alloc aw.size (.cells #[.slice a la.length R,.slice b lb.length cb] 22)).trans (bK.mono (by have:=aw.size;simp;omega));have bA:=af (K.o.below U);have bB:=af (L.o.below U);go_wp2
 go_step3
 go_wp2
 go_loopw [0,1,6] (fun bl bm b4 wr=>∃(A B O:List Pt) (aY aZ ad:Option Addr) (D E au:Nat),bl=.slice aY A.length D/\bm=.slice aZ B.length E/\b4=.slice ad O.length au/\A.length<=D/\B.length<=E/\
   Hid (wr.ownsRow w4.heap.size 29 3 (.slice ad O.length au) O.length (O.flatMap bX))/\Hid (bV bX 3 w4 aY A)/\Hid (bV bX 3 w4 aZ B)/\Hid (O++mrgP A B=M)/\O.length+A.length+B.length=la.length+lb.length/\Below w4.heap.size w4 wr)
  (fun bl bm _ _=>lenOf bl+lenOf bm)
 case atStart=>exact⟨la,lb,[],a,b,none,R,cb,0,rfl,rfl,rfl,bM,bO,cZ _ _ _ _,bA,bB,bz,ax,aJ _ _⟩
 case round=>
  obtain⟨A,B,O,aY,aZ,ad,D,E,au,rfl,rfl,rfl,ar,aC,HO,K,L,T,a8,r⟩:=hrel;cases A with
  |nil=>
   rw[Du]at T;simp only[fE]at ar a8 |-
   go_wp2_with (at_builtin;refine jl uB bq oh w4.heap.size HO.o (L.o.below r) rfl _ _ rfl rfl E rfl dE aa r.size ?_;intro b1 w6 ap a6)
   rw[<-gZ,T.o]at ap;obtain⟨bE,bF,rfl,bR,_,bc⟩:=bV.aD bq ai ap;have u:Below w.heap.size w w6:=U.trans ((bH r HO.o a6 r.size (aA _)).mono U.size);refine(wV rfl bc aa).mono ?_;rintro e b5 ⟨b3,rfl,bb,a2⟩;go_wp2;rw[Exit.noGoto_ret];go_ret2;exact⟨_,rfl,bN bb u.size,u.trans (a2.mono u.size)⟩
  |cons x z=>
   cases B with
   |nil=>
    rw[zX]at T;simp only[fE,eH]at ar aC a8 |-
    go_wp2_with (at_builtin;refine jl (l:=x::z) uB bq oh w4.heap.size HO.o (K.o.below r) rfl _ _ rfl rfl D rfl (by unfold maxLen;simp;omega) aH r.size ?_;intro b1 w6 ap a6)
    rw[<-gZ,T.o]at ap;obtain⟨bE,bF,rfl,bR,_,bc⟩:=bV.aD bq ai ap;have u:Below w.heap.size w w6:=U.trans ((bH r HO.o a6 r.size (aA _)).mono U.size);refine(wV rfl bc aa).mono ?_;rintro e b5 ⟨b3,rfl,bb,a2⟩;go_wp2;rw[Exit.noGoto_ret];go_ret2;exact⟨_,rfl,bN bb u.size,u.trans (a2.mono u.size)⟩
   |cons y C=>
    simp only[eH]at a8;obtain⟨c,g,rfl,H,a3⟩:=K.o.get ax;obtain⟨d,ob,rfl,I,a4⟩:=L.o.get ax;have bC:=af (bV.tail K.o);have bD:=af (bV.tail L.o);have av:=af (zY x z y C);have⟨j,k,i⟩:=x;have⟨n,q,m⟩:=y;have bn:=a3 0 ax 0 aa;have x1:=a3 0 ax 1 aa;have x2:=a3 0 ax 2 aa;have bo:=a4 0 ax 0 aa;have y1:=a4 0 ax 1 aa;have y2:=a4 0 ax 2 aa;simp only[ni,bX,eG,eQ,df,Nat.zero_mul]at bn x1 x2 bo y1 y2;have bf:=(r.cell (p:=(ag c g)) H).trans bn;have bg:=(r.cell (p:=(ag c (g+1))) H).trans x1;have bh:=(r.cell (p:=(ag c (g+2))) H).trans x2;have bi:=(r.cell (p:=(ag d ob)) I).trans bo;have bj:=(r.cell (p:=(ag d (ob+1))) I).trans y1;have bk:=(r.cell (p:=(ag d (ob+2))) I).trans y2;have aV:=af (And.intro bn (And.intro x1 x2));have aW:=af (And.intro bo (And.intro y1 y2));have b7:=ah bf;have b8:=ah bg;have b9:=ah bh;have ca:=ah bi;have cc:=ah bj;have cd:=ah bk;have bt:=af (fun W=>Od (j,k,i) (n,q,m) W);simp only[eH]at ar aC |-;by_cases a9:iW (j,k,i) (n,q,m)<0
    .rw[aO a9]at av;have hd:decide (iW (j,k,i) (n,q,m)<0)=true:=by simp[a9]
     generalize iW (j,k,i) (n,q,m)=b0 at*;go_wp2;refine bG aL aL ?_
     repeat(quiet_step ((go_at_call 94;exact dH (bt.o _))))
     refine jS ?_;intro f be;have s:Below wr.heap.size wr f:=by obtain⟨p,rfl⟩:=be;exact p.h
     have F:c<wr.heap.size:=cO H r.size;have G:d<wr.heap.size:=cO I r.size;have aG:=(s.cell (p:=(ag c g)) F).trans bf;have aI:=(s.cell (p:=(ag c (g+1))) F).trans bg;have aM:=(s.cell (p:=(ag c (g+2))) F).trans bh;have aP:=(s.cell (p:=(ag d ob)) G).trans bi;have aR:=(s.cell (p:=(ag d (ob+1))) G).trans bj;have aS:=(s.cell (p:=(ag d (ob+2))) G).trans bk;have ay:c<f.heap.size:=cO F s.size;have aB:d<f.heap.size:=cO G s.size;have aU:=az HO.o s;have aj:=r.trans (s.mono r.size);have bd:=aj.size;have Z:Hid ((O++[(j,k,i)])++mrgP z ((n,q,m)::C)=M):=by
      have:=T.o;rw[av.o,List.append_cons]at this;exact this
     have aT:(O++[(j,k,i)]).length+z.length+(C.length+1)=la.length+lb.length:=aH;have ac:((f.alloc (.cells #[ae j,ae k,ak i] 29)).drew).ownsRow w4.heap.size 29 3 (.slice ad O.length au) O.length (O.flatMap bX):=(aU.alloc _).aX 1;have⟨b2,w6,J,aq,a7⟩:=AA (ty:=22) (t:=22) (P:=prog) (l:=[(j,k,i)]) uB bq oh w4.heap.size ac ((bV.lit bq f 29 [(j,k,i)] f.heap.size rfl).below (Below.aX _ 1)) 1 (by unfold maxLen;simp;omega) aH aH;have u:Below w4.heap.size w4 w6:=bH ((aj.alloc (aQ bd) _).drew) ac a7 aH (aA _);obtain⟨N,Q,rfl,-,-,-⟩:=bV.aD (l:=O++[(j,k,i)]) (enc:=bX) bq ai (aQ aq);have ba:w6.ownsRow w4.heap.size 29 3 (.slice N (O++[(j,k,i)]).length Q) (O++[(j,k,i)]).length ((O++[(j,k,i)]).flatMap bX):=aQ aq;have ab:=af ba;have V:(O++[(j,k,i)]).length=O.length+1:=ax;rw[V]at J;have X:=af V;have al:f.cell? (ag c g)=some (ae j)/\f.cell? (ag c (g+1))=some (ae k)/\f.cell? (ag c (g+2))=some (ak i):=⟨aG,aI,aM⟩;have am:f.drew.cell? (ag c g)=some (ae j)/\f.drew.cell? (ag c (g+1))=some (ae k)/\f.drew.cell? (ag c (g+2))=some (ak i):=⟨aG,aI,aM⟩;have an:((f.alloc (.cells #[ae j,ae k,ak i] 29)).drew).cell? (ag c g)=some (ae j)/\((f.alloc (.cells #[ae j,ae k,ak i] 29)).drew).cell? (ag c (g+1))=some (ae k)/\((f.alloc (.cells #[ae j,ae k,ak i] 29)).drew).cell? (ag c (g+2))=some (ak i):=by
      have S:=(aJ f.heap.size f).alloc (aA _) (.cells #[ae j,ae k,ak i] 29);exact⟨(S.cell (p:=(ag c g)) ay).trans aG,(S.cell (p:=(ag c (g+1))) ay).trans aI,(S.cell (p:=(ag c (g+2))) ay).trans aM⟩
     have ao:w6.cell? (ag c g)=some (ae j)/\w6.cell? (ag c (g+1))=some (ae k)/\w6.cell? (ag c (g+2))=some (ak i):=by
      exact⟨(u.cell (p:=(ag c g)) H).trans aV.o.1,(u.cell (p:=(ag c (g+1))) H).trans aV.o.2.1,(u.cell (p:=(ag c (g+2))) H).trans aV.o.2.2⟩
     have Y:=af aT;by_cases a5:D=1
     .subst a5;obtain rfl:z=[]:=iC aa;go_wp2
      go_hide hQ
      go_region_held3 (fun w'=>w'.cell? (ag c g)=some (ae j)/\w'.cell? (ag c (g+1))=some (ae k)/\w'.cell? (ag c (g+2))=some (ak i))
       (first|(with_reducible exact al)|(with_reducible exact am)|(with_reducible exact an)|(with_reducible exact ao)|go_keep)
       ((refine gX rfl (.tmp 53) (.tmp 57) rfl J (by simp[Act.eval]) (by simp[Act.eval]) ?_;try simp only[Act.put,sG,pz,oD]))
      all_goals
       subst hQ;go_wp2;go_roundw
       case rel=>exact⟨[],(n,q,m)::C,O++[(j,k,i)],_,_,N,0,E,Q,rfl,rfl,by rw[X.o],ax,aQ aC,ab,af (Dw rfl),L,Z,aQ Y.o,u⟩
       case measure=>simp[lenOf]
     .have bU:(1:Int)<=(z.length:Int)+1:=aa;have bW:(z.length:Int)+1<=(D:Int):=aa;have bY:¬D-1=0:=aa;have bZ:1<D:=aa;go_wp2
      go_hide hQ
      go_region_held3 (fun w'=>w'.cell? (ag c g)=some (ae j)/\w'.cell? (ag c (g+1))=some (ae k)/\w'.cell? (ag c (g+2))=some (ak i))
       (first|(with_reducible exact al)|(with_reducible exact am)|(with_reducible exact an)|(with_reducible exact ao)|go_keep)
       ((refine gX rfl (.tmp 53) (.tmp 57) rfl J (by simp[Act.eval]) (by simp[Act.eval]) ?_;try simp only[Act.put,sG,pz,oD]))
      all_goals
       subst hQ;go_wp2;go_roundw
       case rel=>exact⟨z,(n,q,m)::C,O++[(j,k,i)],_,_,N,D-1,E,Q,rfl,rfl,by rw[X.o],aa,aQ aC,ab,bC,L,Z,aQ Y.o,u⟩
       case measure=>simp[lenOf]
    .rw[aN a9]at av;have hd:decide (iW (j,k,i) (n,q,m)<0)=false:=aH;generalize iW (j,k,i) (n,q,m)=b0 at*;go_wp2;refine bG aL aL ?_
     repeat(quiet_step ((go_at_call 94;exact dH (bt.o _))))
     refine jS ?_;intro f be;have s:Below wr.heap.size wr f:=by obtain⟨p,rfl⟩:=be;exact p.h
     have F:c<wr.heap.size:=cO H r.size;have G:d<wr.heap.size:=cO I r.size;have aG:=(s.cell (p:=(ag c g)) F).trans bf;have aI:=(s.cell (p:=(ag c (g+1))) F).trans bg;have aM:=(s.cell (p:=(ag c (g+2))) F).trans bh;have aP:=(s.cell (p:=(ag d ob)) G).trans bi;have aR:=(s.cell (p:=(ag d (ob+1))) G).trans bj;have aS:=(s.cell (p:=(ag d (ob+2))) G).trans bk;have ay:c<f.heap.size:=cO F s.size;have aB:d<f.heap.size:=cO G s.size;have aU:=az HO.o s;have aj:=r.trans (s.mono r.size);have bd:=aj.size;have Z:Hid ((O++[(n,q,m)])++mrgP ((j,k,i)::z) C=M):=by
      have:=T.o;rw[av.o,List.append_cons]at this;exact this
     have aT:(O++[(n,q,m)]).length+(z.length+1)+C.length=la.length+lb.length:=aH;have ac:((f.alloc (.cells #[ae n,ae q,ak m] 29)).drew).ownsRow w4.heap.size 29 3 (.slice ad O.length au) O.length (O.flatMap bX):=(aU.alloc _).aX 1;have⟨b2,w6,J,aq,a7⟩:=AA (ty:=22) (t:=22) (P:=prog) (l:=[(n,q,m)]) uB bq oh w4.heap.size ac ((bV.lit bq f 29 [(n,q,m)] f.heap.size rfl).below (Below.aX _ 1)) 1 (by unfold maxLen;simp;omega) aH aH;have u:Below w4.heap.size w4 w6:=bH ((aj.alloc (aQ bd) _).drew) ac a7 aH (aA _);obtain⟨N,Q,rfl,-,-,-⟩:=bV.aD (l:=O++[(n,q,m)]) (enc:=bX) bq ai (aQ aq);have ba:w6.ownsRow w4.heap.size 29 3 (.slice N (O++[(n,q,m)]).length Q) (O++[(n,q,m)]).length ((O++[(n,q,m)]).flatMap bX):=aQ aq;have ab:=af ba;have V:(O++[(n,q,m)]).length=O.length+1:=ax;rw[V]at J;have X:=af V;have al:f.cell? (ag d ob)=some (ae n)/\f.cell? (ag d (ob+1))=some (ae q)/\f.cell? (ag d (ob+2))=some (ak m):=⟨aP,aR,aS⟩;have am:f.drew.cell? (ag d ob)=some (ae n)/\f.drew.cell? (ag d (ob+1))=some (ae q)/\f.drew.cell? (ag d (ob+2))=some (ak m):=⟨aP,aR,aS⟩;have an:((f.alloc (.cells #[ae n,ae q,ak m] 29)).drew).cell? (ag d ob)=some (ae n)/\((f.alloc (.cells #[ae n,ae q,ak m] 29)).drew).cell? (ag d (ob+1))=some (ae q)/\((f.alloc (.cells #[ae n,ae q,ak m] 29)).drew).cell? (ag d (ob+2))=some (ak m):=by
      have S:=(aJ f.heap.size f).alloc (aA _) (.cells #[ae n,ae q,ak m] 29);exact⟨(S.cell (p:=(ag d ob)) aB).trans aP,(S.cell (p:=(ag d (ob+1))) aB).trans aR,(S.cell (p:=(ag d (ob+2))) aB).trans aS⟩
     have ao:w6.cell? (ag d ob)=some (ae n)/\w6.cell? (ag d (ob+1))=some (ae q)/\w6.cell? (ag d (ob+2))=some (ak m):=by
      exact⟨(u.cell (p:=(ag d ob)) I).trans aW.o.1,(u.cell (p:=(ag d (ob+1))) I).trans aW.o.2.1,(u.cell (p:=(ag d (ob+2))) I).trans aW.o.2.2⟩
     have Y:=af aT;by_cases a5:E=1
     .subst a5;obtain rfl:C=[]:=iC aa;go_wp2
      go_hide hQ
      go_region_held3 (fun w'=>w'.cell? (ag d ob)=some (ae n)/\w'.cell? (ag d (ob+1))=some (ae q)/\w'.cell? (ag d (ob+2))=some (ak m))
       (first|(with_reducible exact al)|(with_reducible exact am)|(with_reducible exact an)|(with_reducible exact ao)|go_keep)
       ((refine gX rfl (.tmp 22) (.tmp 26) rfl J (by simp[Act.eval]) (by simp[Act.eval]) ?_;try simp only[Act.put,sG,pz,oD]))
      all_goals
       subst hQ;go_wp2;go_roundw
       case rel=>exact⟨(j,k,i)::z,[],O++[(n,q,m)],_,_,N,D,0,Q,rfl,rfl,by rw[X.o],aQ ar,ax,ab,K,af (Dw rfl),Z,aQ Y.o,u⟩
       case measure=>simp[lenOf]
     .have bU:(1:Int)<=(C.length:Int)+1:=aa;have bW:(C.length:Int)+1<=(E:Int):=aa;have bY:¬E-1=0:=aa;have bZ:1<E:=aa;go_wp2
      go_hide hQ
      go_region_held3 (fun w'=>w'.cell? (ag d ob)=some (ae n)/\w'.cell? (ag d (ob+1))=some (ae q)/\w'.cell? (ag d (ob+2))=some (ak m))
       (first|(with_reducible exact al)|(with_reducible exact am)|(with_reducible exact an)|(with_reducible exact ao)|go_keep)
       ((refine gX rfl (.tmp 22) (.tmp 26) rfl J (by simp[Act.eval]) (by simp[Act.eval]) ?_;try simp only[Act.put,sG,pz,oD]))
      all_goals
       subst hQ;go_wp2;go_roundw
       case rel=>exact⟨(j,k,i)::z,C,O++[(n,q,m)],_,_,N,D,E-1,Q,rfl,rfl,by rw[X.o],aQ ar,aa,ab,K,bD,Z,aQ Y.o,u⟩
       case measure=>simp[lenOf]
end
section
open Go.RowKit Go.Sort Go.Shelf Go.Lib Go.Maps
structure TS (w:World) (ob:Nat) (dn:Bool):Prop where
 c0:w.cell? (ag ob 0)=some (ak (if dn then 1 else 0))
 c1:w.cell? (ag ob 1)=some (.int .i32 0)
 f0:w.frozen? (ag ob 0)=false
 f1:w.frozen? (ag ob 1)=false
structure mJ (w:World) (F:Nat->Prop) (tb n0:Nat) (l:List Pt) (lo m0 m1 m2 m3 m4 hi bx cn hp lw ob:Nat) (tl sv:Value) (dn:Bool):Prop where
 blk:w.heap[tb]? =some (Obj.cells #[tl,aj bx,aj cn,aj hp,aj lw,aj ob,sv] 120 (0,0))
 row:w.ownsRow lo 29 3 tl l.length (l.flatMap bX)
 TT:∀g,tl.ownBlock=some g->g<m0
 U7:m0<=tb/\tb<m1
 box:iK w m1 m2 bx n0 l
 Vz:qd w m2 m3 cn n0 l
 VA:uu w m3 m4 hp n0 l
 low:vF w m4 hi lw n0 l
 ord:lo<=m0/\m1<=m2/\m2<=m3/\m3<=m4/\m4<=hi
 VB:TS w ob dn
 Xj:ob≠tb/\(m0<=ob/\ob<m1\/hi<=ob)
 Ha:dn=true->∃a c,sv=.slice a (bL l).length c/\(bL l).length<=c/\bV bX 3 w a (bL l)/\∀x,a=some x->hi<=x.block/\x.block≠ob/\F x.block
 fin:(∀k,lo<=k->k<hi->F k)/\F ob/\∀k,F k->k<w.heap.size
 und:(ids l).Nodup/\Jw l
section
variable {w w':World} {F S:Nat->Prop} {tb n0:Nat} {l:List Pt} {lo m0 m1 m2 m3 m4 hi bx cn hp lw ob:Nat} {tl sv:Value} {dn:Bool}
theorem mJ.tF (h:mJ w F tb n0 l lo m0 m1 m2 m3 m4 hi bx cn hp lw ob tl sv dn):F tb:=h.fin.1 tb (by have:=h.ord;have:=h.U7;omega) (by have:=h.ord;have:=h.U7;omega)
theorem mJ.kept (h:mJ w F tb n0 l lo m0 m1 m2 m3 m4 hi bx cn hp lw ob tl sv dn) (K:aB S w w') (hS:∀k,F k->¬S k):mJ w' F tb n0 l lo m0 m1 m2 m3 m4 hi bx cn hp lw ob tl sv dn:=by
 have u:=h.ord;have ht:=h.U7;have hF:=h.fin;have p:∀k,F k->w'.heap[k]? =w.heap[k]? :=fun k f=>K.block k (hF.2.2 k f) (hS k f);refine⟨(p tb h.tF).trans h.blk,aU h.row K fun d e=>hS d (hF.1 d (h.row.lt d e).1 (by have:=h.TT d e;omega)),h.TT,ht,h.box.kept K fun k g m=>hS k (hF.1 k aa aa),h.Vz.kept K fun k g m=>hS k (hF.1 k aa aa),h.VA.kept K fun k g m=>hS k (hF.1 k aa aa),h.low.kept K fun k g m=>hS k (hF.1 k aa aa),u,?_,h.Xj,?_,⟨hF.1,hF.2.1,fun k f=>cO (hF.2.2 k f) K.size⟩,h.und⟩
 .have e:=p ob hF.2.1;exact⟨(dJ (a:=(ag ob 0)) e).trans h.VB.c0,(dJ (a:=(ag ob 1)) e).trans h.VB.c1,(qm (a:=(ag ob 0)) e).trans h.VB.f0,(qm (a:=(ag ob 1)) e).trans h.VB.f1⟩
 .intro hd;have⟨a,c,e,n,o,q⟩:=h.Ha hd;refine⟨a,c,e,n,?_,q⟩;rcases o with o|⟨b,off,rfl,s,n⟩
  .exact .inl o
  .have r:=p b (q _ rfl).2.2;exact .inr ⟨b,off,rfl,cO s K.size,fun i hi j t=>(dJ r).trans (n i hi j t)⟩
end
theorem QL (a:Option Addr) (c:Nat) (l:List Pt) (w:World) (aq:bV bX 3 w a l) (r:l.length<=20000) (av:Jw l) (hu:lF l=true):
  aK 52 #[.slice a l.length c] w fun e w'=>∃tb m0 m1 m2 m3 m4 bx cn hp lw ob tl,e=.returned (aj tb)/\
   mJ w' (fun k=>w.heap.size<=k/\k<w'.heap.size) tb l.length l w.heap.size m0 m1 m2 m3 m4 w'.heap.size bx cn hp lw ob tl (aM) false/\Below w.heap.size w w':=by
 have j:=af aq;have n:=af av;have m:=af hu;go_enter func52,ntmps52
 go_wp2_with fail
 refine(pV a l l.length c w rfl j.o aa).mono ?_;rintro e w1 ⟨tl,rfl,M,ap⟩;obtain⟨d,tc,rfl,-,-,-⟩:=bV.aD bq ai M;have HO:=af M;have E:=af ap;have ac:Hid (((w1.alloc (.cells #[ak 0,.int .i32 0,ak 0] 199)).alloc (.cells #[.slice d l.length tc,.pointer none,.pointer none,.pointer none,.pointer none,aj w1.heap.size,aM] 120)).heap[w1.heap.size]? =some (.cells #[ak 0,.int .i32 0,ak 0] 199 (0,0))):=(bU _ _ _ ax).trans (vK _ _);have ad:Hid (((w1.alloc (.cells #[ak 0,.int .i32 0,ak 0] 199)).alloc (.cells #[.slice d l.length tc,.pointer none,.pointer none,.pointer none,.pointer none,aj w1.heap.size,aM] 120)).heap[w1.heap.size+1]? =some (.cells #[.slice d l.length tc,.pointer none,.pointer none,.pointer none,.pointer none,aj w1.heap.size,aM] 120 (0,0))):=by
  have h:=vK (w1.alloc (.cells #[ak 0,.int .i32 0,ak 0] 199)) (.cells #[.slice d l.length tc,.pointer none,.pointer none,.pointer none,.pointer none,aj w1.heap.size,aM] 120);rw[show(w1.alloc (.cells #[ak 0,.int .i32 0,ak 0] 199)).heap.size=w1.heap.size+1 by simp]at h;exact h
 have z:Hid (Below w1.heap.size w1 ((w1.alloc (.cells #[ak 0,.int .i32 0,ak 0] 199)).alloc (.cells #[.slice d l.length tc,.pointer none,.pointer none,.pointer none,.pointer none,aj w1.heap.size,aM] 120))):=((aJ _ _).alloc (aA _) _).alloc ax _;have aN:((w1.alloc (.cells #[ak 0,.int .i32 0,ak 0] 199)).alloc (.cells #[.slice d l.length tc,.pointer none,.pointer none,.pointer none,.pointer none,aj w1.heap.size,aM] 120)).heap.size=w1.heap.size+2:=ax
 go_wp2_with fail
 generalize((w1.alloc (.cells #[ak 0,.int .i32 0,ak 0] 199)).alloc (.cells #[.slice d l.length tc,.pointer none,.pointer none,.pointer none,.pointer none,aj w1.heap.size,aM] 120))=w2 at*;have ar:=E.o.size;have A:Hid (Below w.heap.size w w2):=E.o.trans (z.o.mono ar);have X:=af (j.o.below A.o);refine(PZ a c l w2 X.o r n.o m.o).mono ?_;rintro e w3 ⟨bx,rfl,i,b⟩;have O:=af i;have aS:=b.size;have t3:w3.heap[w1.heap.size+1]? =some (Obj.cells #[.slice d l.length tc,.pointer none,.pointer none,.pointer none,.pointer none,aj w1.heap.size,aM] 120 (0,0)):=(b.block _ aa).trans ad.o;have aO:w3.cell? (ag (w1.heap.size+1) 1)=some (.pointer none):=aI t3;have f3:w3.frozen? (ag (w1.heap.size+1) 1)=false:=aI t3;have ae:Hid ((w3.setCell (ag (w1.heap.size+1) 1) (aj bx)).heap[w1.heap.size+1]? =some (Obj.cells #[.slice d l.length tc,aj bx,.pointer none,.pointer none,.pointer none,aj w1.heap.size,aM] 120 (0,0))):=by
  show _=_;rw[dC w3 (w1.heap.size+1) 1 _ _ _ t3];rfl
 have F:Hid (aB (fun k=>k=w1.heap.size+1) w2 (w3.setCell (ag (w1.heap.size+1) 1) (aj bx))):=((aB.refl _ _).below b).set _ (.inl rfl);have T:Hid (aB (fun k=>k=w1.heap.size+1) w3 (w3.setCell (ag (w1.heap.size+1) 1) (aj bx))):=(aB.refl _ _).set _ (.inl rfl);have aF:(w3.setCell (ag (w1.heap.size+1) 1) (aj bx)).heap.size=w3.heap.size:=ax
 go_wp2_with fail
 generalize w3.setCell (ag (w1.heap.size+1) 1) (aj bx)=v at*;have B:Hid (Below w.heap.size w v):=A.o.trans (F.o.toBelow aa (by rintro k rfl;omega));have Y:=af (j.o.below B.o);refine(Sv a c l v Y.o r n.o m.o).mono ?_;rintro e w4 ⟨cn,rfl,i,b⟩;have P:=af i;have aT:=b.size;have t4:w4.heap[w1.heap.size+1]? =some (Obj.cells #[.slice d l.length tc,aj bx,.pointer none,.pointer none,.pointer none,aj w1.heap.size,aM] 120 (0,0)):=(b.block _ aa).trans ae.o;have aP:w4.cell? (ag (w1.heap.size+1) 2)=some (.pointer none):=aI t4;have f4:w4.frozen? (ag (w1.heap.size+1) 2)=false:=aI t4;have ah:Hid ((w4.setCell (ag (w1.heap.size+1) 2) (aj cn)).heap[w1.heap.size+1]? =some (Obj.cells #[.slice d l.length tc,aj bx,aj cn,.pointer none,.pointer none,aj w1.heap.size,aM] 120 (0,0))):=by
  show _=_;rw[dC w4 (w1.heap.size+1) 2 _ _ _ t4];rfl
 have u:Hid (aB (fun k=>k=w1.heap.size+1) v (w4.setCell (ag (w1.heap.size+1) 2) (aj cn))):=((aB.refl _ _).below b).set _ (.inl rfl);have U:Hid (aB (fun k=>k=w1.heap.size+1) w4 (w4.setCell (ag (w1.heap.size+1) 2) (aj cn))):=(aB.refl _ _).set _ (.inl rfl);have aG:(w4.setCell (ag (w1.heap.size+1) 2) (aj cn)).heap.size=w4.heap.size:=ax
 go_wp2_with fail
 generalize w4.setCell (ag (w1.heap.size+1) 2) (aj cn)=x at*;have C:Hid (Below w.heap.size w x):=B.o.trans (u.o.toBelow aa (by rintro k rfl;omega));have Z:=af (j.o.below C.o);refine(UX a c l x Z.o r n.o m.o).mono ?_;rintro e f ⟨hp,rfl,i,b⟩;have Q:=af i;have aV:=b.size;have t5:f.heap[w1.heap.size+1]? =some (Obj.cells #[.slice d l.length tc,aj bx,aj cn,.pointer none,.pointer none,aj w1.heap.size,aM] 120 (0,0)):=(b.block _ aa).trans ah.o;have aQ:f.cell? (ag (w1.heap.size+1) 3)=some (.pointer none):=aI t5;have f5:f.frozen? (ag (w1.heap.size+1) 3)=false:=aI t5;have al:Hid ((f.setCell (ag (w1.heap.size+1) 3) (aj hp)).heap[w1.heap.size+1]? =some (Obj.cells #[.slice d l.length tc,aj bx,aj cn,aj hp,.pointer none,aj w1.heap.size,aM] 120 (0,0))):=by
  show _=_;rw[dC f (w1.heap.size+1) 3 _ _ _ t5];rfl
 have q:Hid (aB (fun k=>k=w1.heap.size+1) x (f.setCell (ag (w1.heap.size+1) 3) (aj hp))):=((aB.refl _ _).below b).set _ (.inl rfl);have V:Hid (aB (fun k=>k=w1.heap.size+1) f (f.setCell (ag (w1.heap.size+1) 3) (aj hp))):=(aB.refl _ _).set _ (.inl rfl);have aH:(f.setCell (ag (w1.heap.size+1) 3) (aj hp)).heap.size=f.heap.size:=ax
 go_wp2_with fail
 generalize f.setCell (ag (w1.heap.size+1) 3) (aj hp)=y at*;have D:Hid (Below w.heap.size w y):=C.o.trans (q.o.toBelow aa (by rintro k rfl;omega));have ab:=af (j.o.below D.o);refine(U1 a c l y ab.o r n.o m.o).mono ?_;rintro e w6 ⟨lw,rfl,i,b⟩;have R:=af i;have aW:=b.size;have t6:w6.heap[w1.heap.size+1]? =some (Obj.cells #[.slice d l.length tc,aj bx,aj cn,aj hp,.pointer none,aj w1.heap.size,aM] 120 (0,0)):=(b.block _ aa).trans al.o;have aR:w6.cell? (ag (w1.heap.size+1) 4)=some (.pointer none):=aI t6;have f6:w6.frozen? (ag (w1.heap.size+1) 4)=false:=aI t6;have am:Hid ((w6.setCell (ag (w1.heap.size+1) 4) (aj lw)).heap[w1.heap.size+1]? =some (Obj.cells #[.slice d l.length tc,aj bx,aj cn,aj hp,aj lw,aj w1.heap.size,aM] 120 (0,0))):=by
  show _=_;rw[dC w6 (w1.heap.size+1) 4 _ _ _ t6];rfl
 have p:Hid (aB (fun k=>k=w1.heap.size+1) y (w6.setCell (ag (w1.heap.size+1) 4) (aj lw))):=((aB.refl _ _).below b).set _ (.inl rfl);have W:Hid (aB (fun k=>k=w1.heap.size+1) w6 (w6.setCell (ag (w1.heap.size+1) 4) (aj lw))):=(aB.refl _ _).set _ (.inl rfl);have aL:(w6.setCell (ag (w1.heap.size+1) 4) (aj lw)).heap.size=w6.heap.size:=ax;go_wp2;generalize w6.setCell (ag (w1.heap.size+1) 4) (aj lw)=aE at*;have S:Hid (Below w.heap.size w aE):=D.o.trans (p.o.toBelow aa (by rintro k rfl;omega));go_ret;have au:(ids l).Nodup:=by have:=m.o;unfold lF at this;simpa using this
 have aw:=((T.o.trans u.o).trans q.o).trans p.o;have ay:=(U.o.trans q.o).trans p.o;have aC:=V.o.trans p.o;have N:=F.o.trans (u.o.trans (q.o.trans p.o));have s:∀lo hi,w1.heap.size+2<=lo->∀k,lo<=k->k<hi->¬k=w1.heap.size+1:=fun lo hi h k J _ K=>aa;have an:=O.o.kept aw (s _ _ aa);have G:=P.o.kept ay (s _ _ aa);have H:=Q.o.kept aC (s _ _ aa);have I:=R.o.kept W.o (s _ _ aa);rw[aF]at G;rw[aG]at H;rw[aH]at I;have L:=fun g e=>(HO.o.lt g e).2;have t:=bu N ac.o aa;refine⟨w1.heap.size+1,w1.heap.size,w2.heap.size,w3.heap.size,w4.heap.size,f.heap.size,bx,cn,hp,lw,w1.heap.size,_,rfl,⟨am.o,?_,L,?_,an,G,H,?_,?_,?_,?_,(fun h=>by cases h),⟨fun k J K=>⟨J,K⟩,?_,fun k h=>h.2⟩,au,n.o⟩,S.o⟩
 .exact aU (az HO.o z.o) N fun ao e h=>by have:=L ao e;omega
 .omega
 .rw[aL];exact I
 .omega
 .exact⟨aI t,aI t,aI t,aI t⟩
 .omega
 .omega
end
section
open Go.RowKit Go.Maps
section
variable {w:World} {lo hi tb n0:Nat} {l:List Pt}
theorem QM (h:iK w lo hi tb n0 l) (p:Pt) (hp:p∈l):
  aK 128 #[aj tb,jb p.1 p.2.1 p.2.2] w fun e w'=>e=.returned (.bool true)/\iK w' lo hi tb n0 (l.filter fun q=>decide (q≠p))/\aB (fun k=>lo<=k/\k<hi) w w':=by
 have⟨fb,R,gone,YS,V,j,a,d,m,n⟩:=h;have⟨x,c,e⟩:=(d.mem p).1 hp;have b:=a.lt c;rw[dK b]at e;have g:=(a.live x).1 c;refine(D8 j a aa b g p e).mono ?_;rintro s w' ⟨rfl,i,o,r⟩;have f:=d.drop a b c;rw[e]at f;exact⟨rfl,⟨fb,R,_,_,i,o,a.drop g,f,m,n⟩,r⟩
theorem Tf {cb:Nat} (h:qd w lo hi cb n0 l) (p:Pt) (hp:p∈l):
  aK 125 #[aj cb,jb p.1 p.2.1 p.2.2] w fun e w'=>e=.returned (.bool true)/\qd w' lo hi cb n0 (l.filter fun q=>decide (q≠p))/\aB (fun k=>lo<=k/\k<hi) w w':=by
 have⟨tb,a,n,i,j,m,g⟩:=h;refine(Su (R:=fun W b w'=>b=true/\iK w' lo a tb n0 (l.filter fun q=>decide (q≠p))/\aB (fun k=>lo<=k/\k<a) W w') aa (um g) p.1 p.2.1 p.2.2 ?_).mono ?_
 .intro W f;refine(QM (n.below f aa) p hp).mono ?_;rintro e w' ⟨rfl,d,c⟩;exact⟨_,rfl,rfl,d,c⟩
 .rintro e w' ⟨b,rfl,W,f,rfl,d,c⟩;have K:aB (fun k=>lo<=k/\k<a) w w':=((aB.refl _ w).below f).trans c;exact⟨rfl,⟨tb,a,d,i,j,bA m K.size,(K.block cb aa aa).trans g⟩,K.mono fun k c=>aa⟩
theorem U8 (h:uu w lo hi tb n0 l) (p:Pt) (hp:p∈l):
  aK 126 #[aj tb,jb p.1 p.2.1 p.2.2] w fun e w'=>e=.returned (.bool true)/\uu w' lo hi tb n0 (l.filter fun q=>decide (q≠p))/\aB (fun k=>lo<=k/\k<hi) w w':=by
 have C:=h.Gt;have⟨fb,R,h,V,j,a,c,m,n⟩:=h;have⟨x,b,e⟩:=(c.mem p).1 hp;have f:=a.lt b;rw[dK f]at e;refine(Gx j a aa aa aa f p e).mono ?_;rintro A w' (⟨t,g,B⟩|⟨-,g,o,r⟩)
 .exact absurd b t
 .have d:=c.drop a b;rw[dK f,e]at d;have⟨u,v⟩:=a.drop b;have s:((l.filter fun q=>decide (q≠p)).length:Int)=l.length-1:=by
   have y:=c.len;have z:=d.len;have i:=v.length_eq;simp only[eH]at i;omega
  refine⟨g,⟨fb,R,_,V,?_,u,d,m,n⟩,r⟩;rw[s];exact o
theorem U9 (h:vF w lo hi tb n0 l) (p:Pt) (hp:p∈l):
  aK 127 #[aj tb,jb p.1 p.2.1 p.2.2] w fun e w'=>e=.returned (.bool true)/\vF w' lo hi tb n0 (l.filter fun q=>decide (q≠p))/\aB (fun k=>lo<=k/\k<hi) w w':=by
 have E:=h.Gt;have⟨fb,R,gone,YS,V,n,a,c,o,r⟩:=h;have⟨x,b,e⟩:=(c.mem p).1 hp;have f:=a.lt b;rw[dK f]at e;refine(IU n a aa aa aa f p e).mono ?_;rintro C w' (⟨y,j,D⟩|⟨-,j,s,u⟩)
 .exact absurd b y
 .have t:=(a.live x).1 b;have g:=a.drop t;have d:=c.drop a f b;rw[e]at d;have v:((l.filter fun q=>decide (q≠p)).length:Int)=l.length-1:=by
   have z:=c.len a;have A:=d.len g;have B:(eF YS x).length+1=YS.length:=by
    have:=(List.perm_cons_erase b).length_eq;have m:eF YS x=YS.erase x:=by unfold eF;rw[a.nodup.erase_eq_filter];congr 1;funext i;by_cases h:i=x<;>simp[h]
    rw[m];simpa using this.symm
   omega
  refine⟨j,⟨fb,R,_,_,V,?_,g,d,o,r⟩,u⟩;rw[v];exact s
end
end
end Go.Proofs.YtkjdbndekceffaaGreat
