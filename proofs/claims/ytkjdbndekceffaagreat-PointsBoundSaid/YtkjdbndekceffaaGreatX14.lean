/- Made small by a program. -/
import Derived.Test.YtkjdbndekceffaaGreatX13
set_option linter.unusedSimpArgs false
set_option linter.unusedVariables false
set_option maxRecDepth 100000
set_option maxHeartbeats 16000000
namespace Go.Proofs.YtkjdbndekceffaaGreat
open Tryz
section
open Go.RowKit Go.Maps
def M0 (W:World) (X:Nat) (LS:List (Option Addr×List Pt×Nat)):Prop:=
 ∀(j:Nat) (h:j<LS.length),W.cell? (af X j)=some (.slice LS[j].1 LS[j].2.1.length LS[j].2.2)/\bY dw 3 W LS[j].1 LS[j].2.1
theorem M0.below {W W':World} {X B:Nat} {a:List (Option Addr×List Pt×Nat)} (h:M0 W X a) (e:X<B) (b:Below B W W') (d:W.heap.size<=B):M0 W' X a:=fun j c=>
 ⟨(b.cell (p:=(af X j)) e).trans (h j c).1,(h j c).2.below (b.mono d)⟩
def mr (LS:List (Option Addr×List Pt×Nat)):List Pt:=LS.flatMap (·.2.1)
def Le (l:List Pt):Prop:=∀p∈l,(Lit.int .u32 p.2.2).wf=true
theorem M3 (a:List (Option Addr×List Pt×Nat)) (j:Nat) (h:j<a.length):mr (a.take (j+1))=mr (a.take j)++a[j].2.1:=by
 unfold mr;rw[ic h,gX,xP]
theorem PD (a:List (Option Addr×List Pt×Nat)) (j:Nat):(mr (a.take j)).length<=(mr a).length:=by
 have h:mr a=mr (a.take j)++mr (a.drop j):=by
  unfold mr;rw[<-gX,jJ]
 rw[h,bS];omega
def jZ {H:Type} (D:DataW H) (L:List Int):Prop:=∃f s,IsM .u32 .i64 D f s/\∀x,(f x).isSome=true↔x∈L
theorem jZ.nil {H:Type}:jZ (H:=H) (.map []) []:=⟨_,_,IsM.empty _ _,ay⟩
theorem jZ.put {H:Type} {D:DataW H} {L:List Int} (h:jZ D L) (x v:Int):jZ (D.put (.int .u32 x) (.lit (.int .i64 v))) (L++[x]):=by
 have⟨f,s,b,c⟩:=h;refine⟨_,_,b.put x v,fun y=>?_⟩;unfold GD;by_cases a:y=x
 .simp[a]
 .simp[a,c]
theorem jZ.size {H:Type} {D:DataW H} {L:List Int} (h:jZ D L):(((Maps.size D:Nat):Int)==((L.length:Nat):Int))=decide L.Nodup:=by
 have⟨f,s,a,b⟩:=h;rw[a.2.1,<-wW L s a.2.2.1 (fun x=>(a.2.2.2.1 x).trans (b x))];rw[mU];simp only[beq_iff_eq,bQ];omega
theorem qI (X c:Nat) (d:List (Option Addr×List Pt×Nat)) (w:World) (ac:X<w.heap.size) (I:M0 w X d) (aC:(mr d).length<=1000000) (ax:d.length<=1000000) (Q:Le (mr d)):
  aK 144 #[aA X d.length c] w (fw w (.bool (lK (mr d)))):=by
 have F:=ag I;have Y:=ag Q;clear I Q;have az:=@run_makeMap prog;go_enter func144,ntmps144;go_wp2
 go_loopw [4,12] (fun ah y wr=>∃j:Nat,y=.int .i64 j/\j<=d.length/\ah=.int .i64 ((mr (d.take j)).length:Nat)/\Below w.heap.size w wr/\
   Hid (∃(D:DataW Unit),wr.ownsMap prog 27 (plainElem prog 3) w.heap.size (mr (d.take j)).length D/\jZ D (ids (mr (d.take j))))) (fun _ y _=>d.length-(intOf y).toNat)
 case atStart=>exact⟨0,rfl,bD _,rfl,(aI _ _).alloc (aB _) _,⟨.map [],xX _ _ _ _,jZ.nil⟩⟩
 case round=>
  obtain⟨j,rfl,av,rfl,g,HO⟩:=hrel;by_cases r:j<d.length
  .have ad:=((F.o.below ac g (aB _)) j r).1;have u:=(F.o j r).2;have L:=PD d (j+1);have e:=M3 d j r;rw[e,bS]at L;have G:Hid (Le d[j].2.1):=fun p hp=>Y.o p (by unfold mr;exact x9.2 ⟨_,bF r,hp⟩);have B:=ag e;clear e;generalize d[j]=q at*;obtain⟨a,l,ao⟩:=q;simp only at ad u L G;have aD:((mr (d.take j)).length:Int)+(l.length:Int)<=1000000:=aa;generalize hP:mr (d.take j)=P at*;have an:=ag hP;have V:=ag u;have C:=ag g;have aq:=g.size;clear hP u g;have ap:P.length<=1000000:=aa;have aw:l.length<=1000000:=aa;generalize J:P.length=N at*;obtain⟨z,ab⟩:∃z:World,z=wr:=⟨_,rfl⟩;subst ab;go_wp2
   go_loopw [22] (fun x R=>∃i:Nat,x=.int .i64 i/\i<=l.length/\Below w.heap.size z R/\
     Hid (∃(D:DataW Unit),R.ownsMap prog 27 (plainElem prog 3) w.heap.size (N+i) D/\jZ D (ids (P++l.take i)))) (fun x _=>l.length-(intOf x).toNat)
   case atStart=>exact⟨0,rfl,bD _,aI _ _,aQ HO⟩
   case round=>
    obtain⟨i,rfl,hi,k,h⟩:=hrel;by_cases n:i<l.length
    .obtain⟨b,off,H,au,m⟩:=(V.o.below (C.o.trans k)).get aa;have am:=m i n 0 aa;have x1:=m i n 1 aa;have x2:=m i n 2 aa;simp only[dw,fZ,dC,dK]at am x1 x2;have e:l.take (i+1)=l.take i++[l[i]]:=ic n;have af:Hid (keyOf prog 27 (.int .u32 l[i].2.2)=some (.int .u32 l[i].2.2)):=yt underlying27 (G.o _ (bF _));obtain⟨D,M,f⟩:=h.o;have t:=f.put l[i].2.2 i;rw[show ids (P++l.take i)++[l[i].2.2]=ids (P++l.take (i+1)) by rw[e];unfold ids;rw[<-ed,bM (l₁:=P++l.take i)];rfl]at t;have E:=ag t;have ar:=k.size;have A:=ag H;clear h e m f t H;generalize l[i]=p at*;obtain⟨aj,al,ai⟩:=p;obtain rfl:=A.o;clear A;have s:=M.kept (qM wr (.cells #[ae aj,ae al,ak ai] 29) none) ay
     go_wp2_with (at_mapUpdate;refine xR _ rfl _ _ _ 26 rfl 27 3 (int_keyed underlying27) underlying26 _ w.heap.size (N+i) _ rfl s dJ _ _ _ rfl rfl af.o _ [] (uZ underlying3 (by simp[Lit.wf,IntKind.min,IntKind.max,IntKind.bits,IntKind.signed];omega)) ?_;intro w3 O K)
     have S:Below w.heap.size wr w3:=(((aI _ wr).alloc aa _)).grown K aH (fun j Z=>by cases Z;omega);have U:Hid (∃(D:DataW Unit),w3.ownsMap prog 27 (plainElem prog 3) w.heap.size (N+(i+1)) D/\jZ D (ids (P++l.take (i+1)))):=⟨_,O,E.o⟩;have T:=k.trans S;clear O K s M E;go_wp2;go_roundw
     case rel=>exact⟨i+1,by go_num,aa,T,U⟩
     case measure=>exact eT
    .obtain rfl:i=l.length:=aa;go_wp2;go_roundw
     case rel=>
      refine⟨j+1,by go_num,aa,?_,C.o.trans k,?_⟩
      .rw[B.o,bS,J];go_num
      .rw[B.o,bS,J];rw[jO]at h;exact h
     case measure=>exact eT
  .obtain rfl:j=d.length:=aa;rw[jO]at HO |-;obtain⟨D,s,f⟩:=HO.o;have v:=f.size;rw[show((ids (mr d)).length:Int)=((mr d).length:Int) by simp[ids]]at v;have W:=ag v;clear v f HO
   go_wp2_with (at_len;refine wpList_len_own _ rfl _ 26 rfl 27 3 underlying26 _ w.heap.size _ _ rfl s ?_)
   go_ret;exact⟨by rw[W.o];rfl,g⟩
def kg (l:List Pt):Bool:=qi l&&lK l
theorem PE {l:List Pt} {m:Nat} (h:m+1<l.length) (b:¬CY l[m] l[m+1]):kg l=false:=by
 unfold kg;rw[Bool.and_eq_false_iff];left;cases a:qi l
 .rfl
 .exact absurd ((nJ l).1 a m h) b
theorem Hy {W:World} {a:Option Addr} {l:List Pt} (c:Nat) (t:TypeId) (h:bY dw 3 W a l):M0 (W.alloc (.cells #[.slice a l.length c] t)) W.heap.size [(a,l,c)]:=by
 intro j b;obtain rfl:j=0:=aQ b;exact⟨by rw[eF _ _ _ _ rfl];rfl,h.below ((aI _ _).alloc (aB _) _)⟩
theorem pg (a:Option Addr) (l:List Pt) (c:Nat):mr [(a,l,c)]=l:=by simp[mr]
theorem zK (a:Option Addr) (l:List Pt) (n c:Nat) (w:World) (U:l.length=n) (h:bY dw 3 w a l) (S:n<=1000000) (K:Le l):
  aK 143 #[.slice a n c] w (fw w (.bool (kg l))):=by
 subst U;have E:=ag h;have O:=ag K;clear h K;go_enter func143,ntmps143;go_wp2
 go_loopw [3] (fun F wr=>∃m:Nat,F=.int .i64 ((m:Int)+1)/\m<=l.length/\Below w.heap.size w wr/\Hid (∀i (_:i+1<l.length),i<m->CY l[i] l[i+1])) (fun F _=>l.length+1-(intOf F).toNat)
 case atStart=>exact⟨0,rfl,bD _,aI _ _,fun i _ h=>absurd h (kE _)⟩
 case round=>
  obtain⟨m,rfl,ah,v,j⟩:=hrel;by_cases C:m+1<l.length
  .obtain⟨b,off,H,ac,t⟩:=(E.o.below v).get aa;have L:=t m aa 0 aa;have x1:=t m aa 1 aa;have x2:=t m aa 2 aa;have M:=t (m+1) C 0 aa;have y1:=t (m+1) C 1 aa;have y2:=t (m+1) C 2 aa;simp only[dw,fZ,dC,dK]at L x1 x2 M y1 y2;have hS:=v.size;have d:¬CY l[m] l[m+1]->kg l=false:=PE C;have f:CY l[m] l[m+1]->Hid (∀i (_:i+1<l.length),i<m+1->CY l[i] l[i+1]):=fun X i hi R=>by
    rcases Ej.1 R with h|rfl
    .exact j.o i hi h
    .exact X
   have G:=ag H;clear t H;generalize hp:l[m]'aa=p at*;generalize V:l[m+1]=q at*;clear hp V;obtain⟨k,y,A⟩:=p;obtain⟨r,z,B⟩:=q;unfold CY at d f;simp only at d f L x1 x2 M y1 y2;obtain rfl:=G.o;clear G;have ad:b<wr.heap.size:=aa;have ae:(m:Int)+1<(l.length:Int):=aa;have af:(m:Int)<(l.length:Int):=aa;have u:∀Z ab,Below w.heap.size w (((wr.alloc Z).alloc ab).drew):=fun _ _=>(((v.alloc hS _).alloc aH _).drew);by_cases g:k=r
   .have d1:(k==r)=true:=by simp[g]
    by_cases x:y=z
    .have d2:(y==z)=true:=by simp[x]
     by_cases hi:A<B
     .have d3:decide (B<=A)=false:=aH;have D:=f (.inl ⟨g,x,hi⟩);have Y:¬B<=A:=aa;clear g x d f j;go_wp2;go_region
      all_goals
       go_wp2;go_roundw
       case rel=>exact⟨m+1,by go_num,aa,u _ _,D⟩
       case measure=>exact eT
     .have d3:decide (B<=A)=true:=aH;have Y:B<=A:=aa;have s:=ag (d aa);clear g x hi d f j;go_wp2;go_region
      all_goals
       go_wp2;go_ret;exact⟨by rw[s.o];rfl,u _ _⟩
    .have d2:(y==z)=false:=by simp[x]
     have d4:decide (r<=k)=true:=by simp[g]
     have ai:r<=k:=aa;have s:=ag (d aa);clear g x d f j;go_wp2;go_region
     all_goals
      go_wp2;go_ret;exact⟨by rw[s.o];rfl,u _ _⟩
   .have d1:(k==r)=false:=by simp[g]
    by_cases Q:r<=k
    .have d4:decide (r<=k)=true:=by simp[Q]
     have s:=ag (d aa);clear g d f j;go_wp2;go_region
     all_goals
      go_wp2;go_ret;exact⟨by rw[s.o];rfl,u _ _⟩
    .have d4:decide (r<=k)=false:=aH;by_cases T:y<=z
     .have d5:decide (y<=z)=true:=by simp[T]
      have s:=ag (d aa);clear g d f j;go_wp2;go_region
      all_goals
       go_wp2;go_ret;exact⟨by rw[s.o];rfl,u _ _⟩
     .have d5:decide (y<=z)=false:=aH;have D:=f aa;clear g d f j;go_wp2;go_region
      all_goals
       go_wp2;go_roundw
       case rel=>exact⟨m+1,by go_num,aa,u _ _,D⟩
       case measure=>exact eT
  .have I:qi l=true:=(nJ l).2 fun i hi=>j.o i hi aa;have J:kg l=lK l:=by unfold kg;rw[I,Bool.true_and]
   have N:=ag J;have W:=E.o.below v;have hS:=v.size;clear E j I J
   go_wp2_with fail
   refine(qI wr.heap.size 1 [(a,l,c)] _ ay (Hy c 22 W) (by rw[pg];exact S) ay (by rw[pg];exact O.o)).mono ?_;rw[pg];rintro e w1 ⟨rfl,P⟩;go_wp2;go_ret;exact⟨by rw[N.o];rfl,(v.alloc hS _).trans (P.mono aH)⟩
end
section
open Go.RowKit Go.Shelf
attribute [local go_sem] Oper.semAt_some
def NL (n₀ Bs:Nat) (W W':World):Prop:=Below n₀ W W'/\W'.heap[Bs]? =W.heap[Bs]?
theorem NL.refl (b a:Nat) (W:World):NL b a W W:=⟨aI _ _,rfl⟩
theorem NL.trans {b a:Nat} {A B C:World} (h:NL b a A B) (c:NL b a B C):NL b a A C:=⟨h.1.trans c.1,c.2.trans h.2⟩
def bk (zs:List Pt) (k:Nat):List (Nat×Pt):=(List.range k).map fun j=>(zs.length-1-j,zs.getD (zs.length-1-j) (0,0,0))
theorem PG (a:List Pt) (k:Nat):(bk a k).length=k:=by simp[bk]
theorem Lf (a:List Pt) (k:Nat):bk a (k+1)=bk a k++[(a.length-1-k,a.getD (a.length-1-k) (0,0,0))]:=by simp[bk,pM]
theorem PH (a:List Pt):∀k,k<=a.length->((bk a k).map (·.2)).reverse=a.drop (a.length-k)
 |0,_=>by simp[bk]
 |k+1,h=>by
  rw[Lf,bM,Az,PH a k aa];have e:a.drop (a.length-(k+1))=a[a.length-(k+1)]::a.drop (a.length-(k+1)+1):=mJ aa;rw[e,show a.length-(k+1)+1=a.length-k by omega];simp[show a.length-1-k=a.length-(k+1) by omega,show a.length-(k+1)<a.length by omega]
theorem PI (n:Nat) (ad:1<=n) (l g u b off c H:Nat) (d:List Pt) (S:d.length=c) (ab:c<=1000000) (s:b<u) (h z:List (Nat×Pt)->World->Prop)
  (P:∀f x W,h f W->f.length<c->YieldAt Fence.wide (n-1) prog l #[ae (x.1:Int),jc x.2.1 x.2.2.1 x.2.2.2] W fun e W'=>
    (e=.returned (.bool true)/\h (f++[x]) W'/\NL u g W W')\/(e=.returned (.bool false)/\z (f++[x]) W'))
  (W:World) (M:W.cell? (af g 0)=some (.slice (some (af b off)) c H)) (Q:bY dw 3 W (some (af b off)) d) (L:h [] W):
  CallsIn Fence.wide n prog 280 #[.func (.yield l) #[] #[],aj g] W fun e W'=>(∃v,e=.returned v)/\
   ((∃F,F=bk d c/\h F W')\/(∃f,(∃k,k<=c/\f=bk d k)/\z f W')):=by
 have G:=ag Q;have y:=ag S;refine Bf func280 rfl trivial ?_ rfl;simp only[ntmps280,qR,eu,fF,Nat.reduceAdd,Nat.reduceSub,qK,qL,qU,qN,fQ,mM]
 gi_wp2
 gi_loopw [3] (fun i wr=>∃m:Nat,m<=c/\i=.int .i64 ((m:Int)-1)/\h (bk d (c-m)) wr/\NL u g W wr)
  (fun i _=>(intOf i+1).toNat)
 case atStart=>exact⟨c,aB _,rfl,by rw[iR];exact L,NL.refl _ _ _⟩
 case round=>
  obtain⟨m,ac,rfl,A,j⟩:=hrel;have Z:=(dD (w:=W) (w':=wr) (a:=(af g 0)) j.2).trans M;cases m with
  |zero=>
   gi_wp2
   go_end0
   exact⟨⟨_,rfl⟩,.inl (aQ A)⟩
  |succ m=>
   have q:m<d.length:=by rw[y.o];omega
   have ah:0<c:=aa;have⟨X,ai,r,Y,t⟩:=G.o.get aa;have T:=t m q 0 aa;have x1:=t m q 1 aa;have x2:=t m q 2 aa;injection r with r;injection r with J K _;subst J K;have E:=(j.1.cell (p:=(af b (off+m*3+0))) s).trans T;have y1:=(j.1.cell (p:=(af b (off+m*3+1))) s).trans x1;have y2:=(j.1.cell (p:=(af b (off+m*3+2))) s).trans x2;simp only[dw,fZ,dC,dK]at E y1 y2;have C:bk d (c-m)=bk d (c-(m+1))++[(m,d[m])]:=by
    have:=Lf d (c-(m+1));rw[show c-(m+1)+1=c-m by omega]at this;rw[this,show d.length-1-(c-(m+1))=m by rw[y.o];omega];simp[q]
   have⟨fn,an,assign,body,D,B⟩:=P _ (m,d[m]) wr A (by rw[PG];omega);dsimp only at D;rw[<-C]at B;have U:=Lib.hid C;generalize d[m]=p at*;have⟨al,am,ak⟩:=p;simp only at E y1 y2 D;have I:((m+1:Nat):Int)-1=(m:Int):=aa;rw[I]
   gi_wp2
   refine B.mono ?_;rintro e V (⟨rfl,N,R⟩|⟨rfl,O⟩)
   .gi_wp2
    go_roundw
    case rel=>exact⟨m,aa,ay,N,j.trans R⟩
    case measure=>simp[intOf]
   .gi_wp2
    refine lq (kN rfl _ _ _) rfl ?_;exact⟨⟨_,rfl⟩,.inr ⟨_,⟨c-m,aa,rfl⟩,O⟩⟩
theorem xC (n:Nat) (l c:Nat) (a:Option Addr) (f:Nat) (b:List (Nat×Pt)->World->Prop) (W:World) (h:W.cell? (af c 0)=some (.slice a 0 f)) (g:b [] W):
  CallsIn Fence.wide n prog 280 #[.func (.yield l) #[] #[],aj c] W fun e W'=>(∃v,e=.returned v)/\b [] W':=by
 refine Bf func280 rfl trivial ?_ rfl;simp only[ntmps280,qR,eu,fF,Nat.reduceAdd,Nat.reduceSub,qK,qL,qU,qN,fQ,mM]
 gi_wp2
 gi_loopw [3] (fun i wr=>i=.int .i64 (-1)/\b [] wr) (fun _ _=>0)
 case atStart=>exact⟨rfl,g⟩
 case round=>
  obtain⟨rfl,d⟩:=hrel
  gi_wp2
  go_end0
  first|exact d|exact⟨⟨_,rfl⟩,d⟩
theorem RD (n:Nat) (a:Option Addr) (c b:Nat) (w:World):
  CallsIn Fence.wide n prog 214 #[.slice a c b] w fun e w'=>e=.returned (.func (.func 280) #[] #[aj w.heap.size])/\w'=w.alloc (.cells #[.slice a c b] 22):=by
 refine Bf func214 rfl trivial ?_ rfl;simp only[ntmps214,qR,eu,fF,Nat.reduceAdd,Nat.reduceSub,qK,qL,qU,qN,fQ,mM]
 gi_wp2
 go_ret;exact⟨rfl,rfl⟩
theorem J4 (n:Nat) (F:1<=n) (d r:Nat) (a:Option Addr) (c g:Nat) (f:List Pt) (q:f.length=c) (D:c<=1000000) (w:World) (u:d<w.heap.size)
  (B:w.cell? (af d 0)=some (.slice a c g)) (v:bY dw 3 w a f) (A:f≠[]->∀b off,a=some (af b off)->b<r):
  SeqStopsK Fence.wide n prog 280 #[aj d] (fun x:Nat×Pt=>#[ae (x.1:Int),jc x.2.1 x.2.2.1 x.2.2.2]) (NL r d) (fun H=>H=bk f c)
   (fun G=>∃k,k<=c/\G=bk f k) c w:=fun l h t W s _ _ z i=>by
 have j:=(s.cell (p:=(af d 0)) u).trans B;have y:=v.below s;rcases y with rfl|⟨b,off,rfl,E,C⟩
 .obtain rfl:c=0:=aQ q.symm;exact(xC n l d a g h W j i).mono fun e W' ⟨m,o⟩=>⟨m,.inl ⟨_,by simp[bk],o⟩⟩
 .by_cases e:f=[]
  .subst e;obtain rfl:c=0:=aQ q.symm;exact(xC n l d _ g h W j i).mono fun e W' ⟨m,o⟩=>⟨m,.inl ⟨_,by simp[bk],o⟩⟩
  .exact PI n F l d r b off c g f q D (A e b off rfl) h t z W j (.inr ⟨b,off,rfl,E,C⟩) i
end
section
def Lg (l:List Oper):Bool:=l.all fun o=>match o.op with|.defer _=>false|_=>true
theorem J5 {l:List Oper} (h:Lg l=true) {o:Oper} (a:o∈l):∀c,o.op≠.defer c:=fun c e=>by
 have:=uU.1 h o a;rw[e]at this;cases this
section
variable {F:Fence} {n:Nat} {P:Program} {ops:Array Oper} {C:World->Prop} {md:Region.Mode}
theorem Dk {o:Oper} (hd:∀c,o.op≠.defer c) {a:Act} {K:Act->Prop} {l:Act->World->Prop} {Q':Exit->Act->World->Prop} {w:World} (g:C w) (h:∀a w',C w'->K a->l a w')
  (p:o.askedIn F P a C) (t:o.quietIn F n P a C K):o.wpIn F n P a w l Q':=by
 have⟨v,m,j⟩:=t;refine⟨p w g,?_⟩;rw[Oper.semAt_plain F _ _ hd];have b:Oper.quietUponIn F n P C w v ((execOp a.eval o).run P w):=m w g;revert b;generalize(execOp a.eval o).run P w=r;intro b;rcases r with⟨x,w'⟩|⟨x,w'⟩
 .cases x with
  |value u=>obtain⟨d,i⟩:=b;subst d i;exact h _ _ g j
  |skip=>obtain⟨d,i⟩:=b;subst d i;exact h _ _ g j
  |enter f args=>obtain⟨d,y,q⟩:=b;subst d;exact⟨y,q.mono fun e z k=>by obtain⟨s,k⟩:=k;subst s;exact h _ _ k j⟩
  |_=>exact b.elim
 .exact b.elim
theorem xD (hd:∀o∈ops,∀c,o.op≠.defer c) {Q:Act->Prop} {Q':Exit->Act->World->Prop} (g:∀a w,C w->Q a->Q' .normal a w):∀(fuel:Nat) (f:Array Bool) (a:Act) (w:World),C w->
  wpAnyQIn F n P md ops C Q fuel f a->wpAnyIn F n P md ops Q' fuel f a w
 |0,_,_,_,d,h=>⟨h.1,g _ _ d h.2⟩
 |fuel+1,f,a,w,d,h=>by
  refine⟨fun l=>g _ _ d (h.1 l),fun i hi=>?_⟩;have b:=h.2 i hi;have next:∀(a':Act) (w':World),C w'->wpAnyQIn F n P md ops C Q fuel (f.setIfInBounds i true) a'->wpAnyIn F n P md ops Q' fuel (f.setIfInBounds i true) a' w':=fun a' w' m=>xD hd g fuel _ a' w' m;unfold qOpIn at b;unfold wpOpIn;split
  .rename_i e;rw[e]at b;exact next _ _ d b
  .rename_i o e;rw[e]at b;have⟨k,b⟩:=b;split
   .rename_i j;rw[aO j]at b;exact Dk (hd o (Array.mem_of_getElem? e)) d next k b
   .rename_i j;rw[aN j]at b;exact⟨k w d,next _ _ d b⟩
theorem kU {id:Nat} {Q:Exit->Act->World->Prop} {a:Act} {w:World} {l:List Oper} (e:P.follows .mixedOrders=true) (b:Region.lexB .any l.toArray=true) (hd:Lg l=true)
  (h:wpQuietIn F n P l.toArray (fun w'=>∃n,w'=w.drewN n) (fun a'=>∀w',(∃n,w'=w.drewN n)->Q .normal a' w') l a):(Code.region id l.toArray true).wpIn F n P Q a w:=by
 obtain⟨c,d⟩:=by simpa only[Region.lexB,mP]using b
 refine wpIn_region_any e (xD (C:=fun w'=>∃n,w'=w.drewN n) (Q:=fun a'=>∀w',(∃n,w'=w.drewN n)->Q .normal a' w') (fun o f=>J5 hd (aQ f)) (fun _ w' g h=>h w' g) _ _ _ _ ⟨1,rfl⟩ ?_);have:=wpAnyQIn_lex (F:=F) (n:=n) (P:=P) (md:=.any) (C:=fun w'=>∃n,w'=w.drewN n) c l 0 (Array.replicate l.toArray.size false) a ay (aQ d) h;simpa using this
end
end
section
open Go.RowKit Go.Shelf
attribute [local go_sem] Oper.semAt_some
def Hz (O:List Pt) (p:Pt):List Pt:=(stp p O.reverse).reverse
def J6 (pre:List (Nat×Pt)):List Pt:=pre.foldl (fun O x=>Hz O x.2) []
theorem PK (a:List (Nat×Pt)) (x:Nat×Pt):J6 (a++[x])=Hz (J6 a) x.2:=by simp[J6]
theorem HV:∀(a:List (Nat×Pt)) (O:List Pt),a.foldl (fun O x=>Hz O x.2) O=(a.foldl (fun T x=>stp x.2 T) O.reverse).reverse
 |[],O=>ay
 |x::a,O=>by
  rw[A9,A9,HV a];simp[Hz]
theorem TR (a:List (Nat×Pt)):J6 a=(r9 (a.map (·.2)).reverse).reverse:=by
 unfold J6 r9;rw[HV,List.foldr_reverse,List.foldl_map];rfl
theorem TS (a:List Pt):J6 (bk a a.length)=(r9 a).reverse:=by
 rw[TR,PH a _ (aB _),iR,kF]
theorem RF (p:Pt) (T:List Pt):(stp p T).length<=T.length+1:=by
 cases T with
 |nil=>simp[stp]
 |cons t T=>
  simp only[stp];split
  .simp
  .split
   .have:=(List.dropWhile_sublist (fun q:Pt=>decide (q.1=p.1)) (l:=t::T)).length_le;simp at this |-;omega
   .simp
theorem RG (O:List Pt) (p:Pt):(Hz O p).length<=O.length+1:=by
 unfold Hz;have:=RF p O.reverse;simpa using this
theorem Lh:∀(a:List (Nat×Pt)) (O:List Pt),(a.foldl (fun O x=>Hz O x.2) O).length<=O.length+a.length
 |[],O=>ay
 |x::a,O=>by
  rw[A9];have b:=Lh a (Hz O x.2);have c:=RG O x.2;simp;omega
theorem PL (a:List (Nat×Pt)):(J6 a).length<=a.length:=by have:=Lh a [];simpa[J6]using this
theorem RH (p:Pt):Hz [] p=[p]:=rfl
theorem PM (O:List Pt) (t p:Pt) (h:p.2.1<t.2.1\/p.2.1=t.2.1/\p.1<t.1):Hz (O++[t]) p=O++[t]:=by
 unfold Hz;simp only[Az,AX,List.reverse_nil,fQ,El,stp,aO h];simp
theorem M4 (O:List Pt) (t p:Pt) (h:¬(p.2.1<t.2.1\/p.2.1=t.2.1/\p.1<t.1)) (a:¬(p.1=t.1/\t.2.1<p.2.1)):Hz (O++[t]) p=(O++[t])++[p]:=by
 unfold Hz;simp only[Az,AX,List.reverse_nil,fQ,El,stp,aN h,aN a];simp
theorem PN (O:List Pt) (t p:Pt) (m:Nat) (h:¬(p.2.1<t.2.1\/p.2.1=t.2.1/\p.1<t.1)) (g:p.1=t.1/\t.2.1<p.2.1) (j:m<=(O++[t]).length) (i:∀q∈(O++[t]).drop m,q.1=p.1) (a:m=0\/∃b:m-1<(O++[t]).length,(O++[t])[m-1].1≠p.1):
  Hz (O++[t]) p=(O++[t]).take m++[p]:=by
 have e:(O++[t]).reverse=t::O.reverse:=ay;unfold Hz;rw[e];simp only[stp,aN h,aO g];rw[<-e];generalize O++[t]=L at*;have c:L.reverse=(L.drop m).reverse++(L.take m).reverse:=by rw[<-Az,jJ]
 rw[c,List.dropWhile_append_of_pos (aQ i)];have d:(L.take m).reverse.dropWhile (fun q=>decide (q.1=p.1))=(L.take m).reverse:=by
  rcases a with rfl|⟨b,a⟩
  .simp
  .rcases qO m with rfl|zS
   .simp
   .have f:L.take m=L.take (m-1)++[L[m-1]]:=by
     have:=ic b;rw[show m-1+1=m by omega]at this;exact this
    rw[f,Az,List.reverse_singleton,El,List.dropWhile_cons_of_neg (aQ a)]
 rw[d];simp
theorem RI {g:Type} (B:Nat) (t:TypeId) (cs:g->Array Value):Own (fun s W=>W.heap[B]? =some (.cells (cs s) t (0,0))):=fun s X h i a e f=>
 (e.block B (aY.1 a).1 (fun c=>by obtain⟨o,b,d⟩:=f B c.symm;rw[a]at b;cases b;cases d)).trans a
def Cv (n₀:Nat) (T:List Pt) (W:World):Prop:=∃v,Boxed W n₀ 22 v/\W.ownsRow n₀ 29 3 v T.length (T.flatMap dw)
theorem M5 (d:Nat):Own (fun(c:List (Nat×Pt)) W=>Cv d (J6 c) W):=fun s X e k j h i=>by
 have⟨v,f,g⟩:=j;have⟨l,a,b,_⟩:=holdsRow_own d d 22 29 3 (fun c=>(J6 c).length) (fun c=>(J6 c).flatMap dw) (fun _ _=>True) s X e k ⟨v,f,g,trivial⟩ h i;exact⟨l,a,b⟩
theorem Cv.alloc {a:Nat} {T:List Pt} {W:World} (h:Cv a T W) (o:Obj):Cv a T (W.alloc o):=by
 have⟨v,b,c⟩:=h;exact⟨v,b.alloc _,c.alloc _⟩
theorem jM {W:World} {o:Obj} {n:Nat} (h:n=W.heap.size):(W.alloc o).heap[n]? =some o:=by subst h;exact heap_alloc_new W o
theorem TT:(Tryz.prog.info? 29).map (fun i=>(i.zero,i.size,i.bytes))=some (some (.agg #[ae 0,ae 0,ak 0]),3,24):=aM
theorem U6 {d b:Nat} {w:World} (h:d<=w.heap.size) (j:b<w.heap.size):∀(W:World) (l:Nat) (o a:Obj),w.heap.size<=l->W.heap[l]? =some o->o.isCells=false->o.isWalk=false->NL d b W (W.putObj l a):=fun W l o a g c f i=>
 ⟨belowK_b (w:=w) h W l o a g c f i,(Ba W l a).block b (by have:=(aY.1 c).1;omega) (by intro e;cases e;omega)⟩
def CJ (B Bx g cap:Nat) (O':List Pt) (px py pi tx ty ti:Int) (a:Option Addr) (n c:Nat) (W wr:World):Prop:=
 Boxed wr B 22 (aA g (O'.length+1) cap)/\wr.ownsRow B 29 3 (aA g (O'.length+1) cap) (O'.length+1) ((O'++[(tx,ty,ti)]).flatMap dw)/\
 Boxed wr (B+1) 22 (.slice a n c)/\wr.heap[Bx]? =some (.cells #[ae px,ae py,ak pi] 29 (0,0))/\Below B W wr/\KeepsOthers W wr
theorem CJ.bu {B Bx g d:Nat} {b:List Pt} {f i e k ty j:Int} {a:Option Addr} {n c:Nat} {W wr:World} (h:CJ B Bx g d b f i e k ty j a n c W wr) (q:Nat):CJ B Bx g d b f i e k ty j a n c W (wr.drewN q):=
 ⟨h.1,h.2.1,h.2.2.1,h.2.2.2.1,h.2.2.2.2.1.trans (Below.bu _ _),⟨h.2.2.2.2.2.1,h.2.2.2.2.2.2⟩⟩
theorem scanIn (N:Nat) (cv:3<=N) (a:Option Addr) (l:List Pt) (n c:Nat) (w:World) (bE:l.length=n) (h:bY dw 3 w a l) (cb:n<=1000000):
  CallsIn Fence.wide N prog 145 #[.slice a n c] w fun e w'=>∃v m,e=.returned v/\w'.ownsRow w.heap.size 29 3 v m ((r9 l).flatMap dw)/\m=(r9 l).length/\Below w.heap.size w w':=by
 have aR:1<=N:=aa;obtain⟨aG,hi,au,aC,aE⟩:=info_parts TT;have av:(Value.agg #[ae 0,ae 0,ak 0]).cells.size=3:=rfl;obtain⟨aJ,bJ⟩:∃z:Value,z=.agg #[ae 0,ae 0,ak 0]:=⟨_,rfl⟩;rw[<-bJ]at au av;clear bJ;refine Av func145 rfl trivial ?_ rfl;simp only[ntmps145,qR,eu,fF,Nat.reduceAdd,Nat.reduceSub,qK,qL,qU,qN,fQ,mM]
 gi_wp2_with (refine⟨trivial,?_⟩;gi_at_call 214;refine(RD (N-1) _ _ _ _).mono ?_;rintro e w' ⟨rfl,rfl⟩)
 have bx:=(Boxed.new w 22 (aL)).alloc (.cells #[.slice a n c] 22);have a7:=Boxed.new (w.alloc (.cells #[aL] 22)) 22 (.slice a n c);rw[World.size_alloc]at a7;have bj:Below w.heap.size w ((w.alloc (.cells #[aL] 22)).alloc (.cells #[.slice a n c] 22)):=((aI _ w).alloc (aB _) _).alloc ay _;have cg:((w.alloc (.cells #[aL] 22)).alloc (.cells #[.slice a n c] 22)).heap.size=w.heap.size+2:=ay;obtain⟨bc,bA⟩:∃bc,(w.alloc (.cells #[aL] 22)).alloc (.cells #[.slice a n c] 22)=bc:=⟨_,rfl⟩;rw[bA]at bx a7 bj cg |-;clear bA;refine wpIn_rangeFunc_ownH (F:=Fence.wide) rfl aR (gf:=280) (lb:=#[aj (w.heap.size+1)]) rfl trivial (bO func280 aM rfl)
  (J4 (N-1) aa (w.heap.size+1) w.heap.size a n c l bE cb bc aa a7.cell (h.below bj) (fun ah b off e=>by
    subst e;rcases h with rfl|⟨co,cK,e,bD,_⟩
    .exact absurd rfl ah
    .cases e;exact bD)) NL.trans (U6 aa aa) (aI _ _) (fun _=>rfl)
  (fun al W=>(Cv w.heap.size (J6 al) W/\Boxed W (w.heap.size+1) 22 (.slice a n c))/\Below w.heap.size w W)
  (fun _ _ _=>False)
  (OwnFrom.and (OwnFrom.and (Own.from (M5 w.heap.size) _) (Own.from (boxed_own _ _ _) _)) (ownFrom_below (aB _) aa))
  (fun _ _ _ _ _ br _ _=>br)
  ⟨⟨⟨_,bx,dx _ _ _ _⟩,a7⟩,bj⟩
  (fun x a' W=>∃Bx,w.heap.size+1<Bx/\W.heap[Bx]? =some (.cells #[ae x.2.1,ae x.2.2.1,ak x.2.2.2] 29 (0,0))/\a'={tmps:=#[.slice a n c,undef,aL,aj w.heap.size,undef,aj Bx,undef,undef,.slice a n c,.func (.func 280) #[] #[aj (w.heap.size+1)],ae (x.1:Int),jc x.2.1 x.2.2.1 x.2.2.2,undef,undef,undef,undef,undef,undef,undef,undef,undef,undef,undef,undef,undef,undef,undef,undef,undef,undef,undef,undef,undef,undef,undef,undef,undef,undef,undef,undef,undef,undef,undef,undef,undef,undef,undef,undef,undef,undef,undef,undef,undef,undef,undef,undef,undef,undef,undef,undef,undef,undef,undef,undef,undef,undef,undef,undef,undef,undef,undef,undef,undef,undef,undef,undef,undef,undef,undef],defers:=[]})
  (fun x a' _ X bS cm br ad bF=>by obtain⟨Bx,aR,bh,bi⟩:=br;exact⟨Bx,aR,RI Bx 29 (fun(_:Unit)=>#[ae x.2.1,ae x.2.2.1,ak x.2.2.2]) () X bS cm bh ad (fun r e=>(bF r e).2),bi⟩)
  ?assign ?body ?done ?stop
 case assign=>
  rintro cl al x W K ⟨⟨b3,G⟩,bl⟩ aw
  gi_wp2
  exact aw _ _ ((uR _ _).from _) ⟨(aI _ W).alloc bl.size _,bL W _ _ G.lt⟩ ⟨⟨b3.alloc _,G.alloc _⟩,bl.alloc bl.size _⟩ ⟨W.heap.size,G.lt,uJ W _,rfl⟩
 case body=>
  rintro cl al ⟨cn,f,s,B⟩ a' W cE ⟨r,bF⟩ ⟨⟨⟨v,S,C⟩,G⟩,E⟩ ⟨Bx,ct,aN,rfl⟩ bD;have b5:=PL al;have bz:∀W',Cv w.heap.size (Hz (J6 al) (f,s,B)) W'->Cv w.heap.size (J6 (al++[(cn,f,s,B)])) W':=fun W' h=>by
   rw[PK];exact h
  have Q:=ag bz;clear bz;generalize b4:J6 al=O at*;clear b4;have b6:=S.cell;have cy:=S.frozen;have cH:W.cell? (af Bx 0)=some (ae f):=aD aN;have cI:W.cell? (af Bx 1)=some (ae s):=aD aN;have cJ:W.cell? (af Bx 2)=some (ak B):=aD aN;have cC:=G.lt;have cD:w.heap.size<W.heap.size:=aa;have cG:w.heap.size≠W.heap.size:=aa;have bZ:=(aY.1 aN).1;rcases List.eq_nil_or_concat O with rfl|⟨i,t,rfl⟩
  .simp only[fF,List.flatMap_nil]at C;have ce:=C;rw[RH]at Q;have:v=aL\/∃g A,v=aA g 0 A:=by
    rcases ce.2 with⟨rfl,_⟩|⟨g,A,bd,rfl,_⟩
    .exact .inl rfl
    .exact .inr ⟨g,A,rfl⟩
   rcases this with rfl|⟨cq,cp,rfl⟩
   all_goals
    gi_wp2_with (gi_at_builtin;refine xV _ rfl _ _ 22 rfl w.heap.size 29 aG aJ 3 24 underlying22 hi au aC aE av ai _ _ _ rfl (C.alloc _) (af W.heap.size 0) 1 1 [.int .i64 f,.int .i64 s,.int .u32 B] rfl rfl (uK (cs:=#[ae f,ae s,ak B]) (t:=29) (fr:=(0,0)) (jM ay)) (by simp[Value.oneCell']) dJ aa aH ?_;intro a6 w1 J I _;obtain⟨aP,aO,rfl⟩:=yw J;obtain⟨L,V,U,T,R⟩:=S.appended ai C E.size (aB _) J I;have aX:=L.cell;have a2:=L.frozen;have Y:=(G.alloc _).kept I (G.not_row ai C);have H:=fun u=>Y.other (B':=w.heap.size) aa u)
    simp only[kH]at V U T R;exact⟨T.from _,⟨R,(H _).trans G.symm⟩,⟨Q.o _ ⟨_,V,U⟩,H _⟩,E.trans R⟩
  .rw[List.concat_eq_append]at*;have ad:∃g A,v=aA g (i.length+1) A/\g<W.heap.size/\w.heap.size<=g:=by
    rcases C.2 with⟨_,bW⟩|⟨g,A,bd,rfl,ad,b8,_⟩
    .simp at bW
    .exact⟨g,A,ay,(aY.1 b8).1,ad⟩
   obtain⟨g,A,rfl,cz,cA⟩:=ad;obtain⟨d,ty,y⟩:=t;have cw:i.length+1<=al.length:=aQ b5;have az:=C;rw[show(i++[(d,ty,y)]).length=i.length+1 by simp]at az;have bK:=az.cellAt (i.length*3) aa;have bM:=az.cellAt (i.length*3+1) aa;have bN:=az.cellAt (i.length*3+2) aa;have am:=fun j b9=>flat_get bg (i++[(d,ty,y)]) i.length ay j b9;rw[show(i++[(d,ty,y)])[i.length]'ay=(d,ty,y) by simp]at am;rw[show i.length*3=i.length*3+0 by omega,am 0 aa]at bK;rw[am 1 aa]at bM;rw[am 2 aa]at bN;simp only[dw,fZ,dC,dK]at bK bM bN;clear am;have C:=az;clear az;by_cases ab:s<ty\/s=ty/\f<d
   .have ac:=PM i (d,ty,y) (f,s,B) ab;rw[ac]at Q;rcases ab with ab|⟨bH,cf⟩
    .have d1:decide (s<ty)=true:=by simp[ab]
     gi_wp2
     exact⟨(uR _ _).from _,⟨(aI _ W).alloc E.size _,bL W _ _ G.lt⟩,⟨Q.o _ ⟨_,S.alloc _,by simpa using C.alloc _⟩,G.alloc _⟩,E.alloc E.size _⟩
    .have d1:decide (s<ty)=false:=aH;have d2:(s==ty)=true:=by simp[bH]
     have d3:decide (f<d)=true:=by simp[cf]
     clear bH
     gi_wp2
     exact⟨(uR _ _).from _,⟨(aI _ W).alloc E.size _,bL W _ _ G.lt⟩,⟨Q.o _ ⟨_,S.alloc _,by simpa using C.alloc _⟩,G.alloc _⟩,E.alloc E.size _⟩
   .by_cases an:f=d/\ty<s
    .have d1:decide (s<ty)=false:=aH;have d2:(s==ty)=false:=aH;have d4:(f==d)=true:=by simp[an.1]
     have d5:decide (ty<s)=true:=by simp[an.2]
     have bP:=ag (fun m aR bh bi=>PN i (d,ty,y) (f,s,B) m ab an aR bh bi);have bB:∀q∈(i++[(d,ty,y)]).drop (i.length+1),q.1=f:=by rw[oC ay];simp
     have bQ:=ag bB;have b0:CJ w.heap.size Bx g A i f s B d ty y a n c W (W.alloc (.cells #[ae d,ae ty,ak y] 29)):=
      ⟨by simpa using S.alloc (.cells #[ae d,ae ty,ak y] 29),C.alloc _,G.alloc _,(bL W _ _ bZ).trans aN,(aI _ W).alloc E.size _,uR _ _⟩
     clear an ab bB
     gi_wp2
     gi_loopw [7] (fun bv wr=>∃m:Nat,bv=.int .i64 m/\m<=i.length+1/\Hid (∀q∈(i++[(d,ty,y)]).drop m,q.1=f)/\
       CJ w.heap.size Bx g A i f s B d ty y a n c W wr) (fun bv _=>(intOf bv).toNat)
     case atStart=>exact⟨i.length+1,by go_num,aB _,bQ,b0⟩
     case round=>
      obtain⟨m,rfl,cF,a1,ao⟩:=hrel;have ba:=ao.1.cell;have bI:wr.cell? (af Bx 0)=some (ae f):=aD ao.2.2.2.1;have aK:(m=0\/∃cB:m-1<(i++[(d,ty,y)]).length,(i++[(d,ty,y)])[m-1].1≠f)->Hz (i++[(d,ty,y)]) (f,s,B)=(i++[(d,ty,y)]).take m++[(f,s,B)]:=fun h=>bP.o m aH a1.o h;rcases qO m with zS|zS
      .have ac:=aK (.inl zS);rw[ac]at Q;clear aK ac a1;subst zS
       gi_wp2
       refine kU aM aM aM ?_
       repeat(gi_big_quiet_step (fail))
       refine wpQuietIn_nil ?_;intro _ a4;obtain⟨nq,hw''⟩:=a4;subst hw'';clear ba bI;have a0:CJ w.heap.size Bx g A i f s B d ty y a n c W (wr.drewN nq):=ao.bu nq;clear ao;generalize wr.drewN nq=M at a0 |-;obtain⟨Z,ar,aW,ap,aT,bn⟩:=a0;have bp:i.length+1<=A:=by
        obtain⟨_,_,bf,_,_,bp,_⟩:=aV ar aa;injection bf with _ _ bT;omega
       have ba:=Z.cell;have jm:=Z.frozen;have ah:w.heap.size≠Bx:=aa;have bt:=Z.set (aA g 0 A);have aq:(M.setCell (af w.heap.size 0) (aA g 0 A)).ownsRow w.heap.size 29 3 (aA g 0 A) 0 (((i++[(d,ty,y)]).take 0).flatMap dw):=by
        refine aZ (by rw[<-qb bg];exact mg ar aa) (fun bV e=>aF (fun be=>Z.not_row ai ar ?_));simp only[Value.ownBlock]at e |-;rw[e,<-be]
       have ci:(M.setCell (af w.heap.size 0) (aA g 0 A)).cell? (af Bx 0)=some (ae f):=by rw[World.cell?,aF ah];simp[ap]
       have cj:(M.setCell (af w.heap.size 0) (aA g 0 A)).cell? (af Bx 1)=some (ae s):=by rw[World.cell?,aF ah];simp[ap]
       have ck:(M.setCell (af w.heap.size 0) (aA g 0 A)).cell? (af Bx 2)=some (ak B):=by rw[World.cell?,aF ah];simp[ap]
       have aU:∀u,Boxed (M.setCell (af w.heap.size 0) u) (w.heap.size+1) 22 (.slice a n c):=fun u=>aW.other (B':=w.heap.size) aa u;have cc:=aW.lt;have bs:w.heap.size<=(M.setCell (af w.heap.size 0) (aA g 0 A)).heap.size:=by have:=aT.size;have:=Z.lt;simp;omega
       gi_wp2_with (gi_at_builtin;refine xV _ rfl _ _ 22 rfl w.heap.size 29 aG aJ 3 24 underlying22 hi au aC aE av ai _ _ _ rfl (aq.alloc _) (af M.heap.size 0) 1 1 [.int .i64 f,.int .i64 s,.int .u32 B] rfl rfl (uK (cs:=#[ae f,ae s,ak B]) (t:=29) (fr:=(0,0)) (jM ay)) (by simp[Value.oneCell']) dJ aa aH ?_;intro a6 w1 J I _;obtain⟨aP,aO,rfl⟩:=yw J;obtain⟨L,V,U,T,R⟩:=bt.appended ai aq bs (aB _) J I;have aX:=L.cell;have a2:=L.frozen;have Y:=((aU _).alloc _).kept I ((aU _).not_row ai aq);have H:=fun u=>Y.other (B':=w.heap.size) aa u)
       have P:=(aT.setCell (p:=(af w.heap.size 0)) (aB _) (aA g 0 A)).trans R;exact⟨((bn.trans (xU _ _ _)).trans T).from _,⟨P,(H _).trans G.symm⟩,⟨Q.o _ ⟨_,V,by rw[show((i++[(d,ty,y)]).take 0++[(f,s,B)]).length=0+1 by simp,gX,xP];exact U⟩,H _⟩,E.trans P⟩
      .obtain⟨k,rfl⟩:∃k,m=k+1:=⟨m-1,aa⟩;have a8:=ao.2.1.cellAt (k*3) aa;have am:=flat_get bg (i++[(d,ty,y)]) k aH 0 aa;rw[show k*3=k*3+0 by omega,am]at a8;simp only[dw,fZ,dK]at a8;clear am;have ca:k<(i++[(d,ty,y)]).length:=aH;simp only[Nat.add_sub_cancel]at aK;have bw:=ag aK;have bb:=LH (i++[(d,ty,y)]) (k+1) aa aa;simp only[Nat.add_sub_cancel]at bb;clear aK;obtain⟨a5,a3⟩:∃a5,a5=(i++[(d,ty,y)])[k].1:=⟨_,rfl⟩;rw[<-a3]at a8;have cr:(decide ((0:Int)<((k+1:Nat):Int)))=true:=ay;by_cases ax:a5=f
       .have bU:(a5==f)=true:=by simp[ax]
        have bC:∀q∈(i++[(d,ty,y)]).drop k,q.1=f:=by
         rw[bb];intro q h;rcases gZ.1 h with rfl|h
         .rw[<-a3];exact ax
         .exact a1.o q h
        have bR:=ag bC;clear bC bb a3 ax a1
        gi_wp2
        refine kU aM aM aM ?_
        repeat(gi_big_quiet_step (fail))
        refine wpQuietIn_nil ?_;intro _ a4;obtain⟨nq,hw''⟩:=a4;subst hw''
        gi_wp2
        go_roundw
        case rel=>exact⟨k,by go_num,aa,bR,ao.bu nq⟩
        case measure=>simp[intOf]
       .have bU:(a5==f)=false:=by simp[ax]
        have ac:=bw.o (.inr ⟨ca,by rw[<-a3];exact ax⟩);rw[ac]at Q;clear bb a3 ax bw ac a1
        gi_wp2
        refine kU aM aM aM ?_
        repeat(gi_big_quiet_step (fail))
        refine wpQuietIn_nil ?_;intro _ a4;obtain⟨nq,hw''⟩:=a4;subst hw'';clear a8;clear ba bI;have a0:CJ w.heap.size Bx g A i f s B d ty y a n c W (wr.drewN nq):=ao.bu nq;clear ao;generalize wr.drewN nq=M at a0 |-;obtain⟨Z,ar,aW,ap,aT,bn⟩:=a0;have bp:i.length+1<=A:=by
         obtain⟨_,_,bf,_,_,bp,_⟩:=aV ar aa;injection bf with _ _ bT;omega
        have ba:=Z.cell;have jm:=Z.frozen;have ah:w.heap.size≠Bx:=aa;have bt:=Z.set (aA g (k+1) A);have aq:(M.setCell (af w.heap.size 0) (aA g (k+1) A)).ownsRow w.heap.size 29 3 (aA g (k+1) A) (k+1) (((i++[(d,ty,y)]).take (k+1)).flatMap dw):=by
         refine aZ (by rw[<-qb bg];exact mg ar aa) (fun bV e=>aF (fun be=>Z.not_row ai ar ?_));simp only[Value.ownBlock]at e |-;rw[e,<-be]
        have ci:(M.setCell (af w.heap.size 0) (aA g (k+1) A)).cell? (af Bx 0)=some (ae f):=by rw[World.cell?,aF ah];simp[ap]
        have cj:(M.setCell (af w.heap.size 0) (aA g (k+1) A)).cell? (af Bx 1)=some (ae s):=by rw[World.cell?,aF ah];simp[ap]
        have ck:(M.setCell (af w.heap.size 0) (aA g (k+1) A)).cell? (af Bx 2)=some (ak B):=by rw[World.cell?,aF ah];simp[ap]
        have aU:∀u,Boxed (M.setCell (af w.heap.size 0) u) (w.heap.size+1) 22 (.slice a n c):=fun u=>aW.other (B':=w.heap.size) aa u;have cc:=aW.lt;have bs:w.heap.size<=(M.setCell (af w.heap.size 0) (aA g (k+1) A)).heap.size:=by have:=aT.size;have:=Z.lt;simp;omega
        gi_wp2_with (gi_at_builtin;refine xV _ rfl _ _ 22 rfl w.heap.size 29 aG aJ 3 24 underlying22 hi au aC aE av ai _ _ _ rfl (aq.alloc _) (af M.heap.size 0) 1 1 [.int .i64 f,.int .i64 s,.int .u32 B] rfl rfl (uK (cs:=#[ae f,ae s,ak B]) (t:=29) (fr:=(0,0)) (jM ay)) (by simp[Value.oneCell']) dJ aa aH ?_;intro a6 w1 J I _;obtain⟨aP,aO,rfl⟩:=yw J;obtain⟨L,V,U,T,R⟩:=bt.appended ai aq bs (aB _) J I;have aX:=L.cell;have a2:=L.frozen;have Y:=((aU _).alloc _).kept I ((aU _).not_row ai aq);have H:=fun u=>Y.other (B':=w.heap.size) aa u)
        have P:=(aT.setCell (p:=(af w.heap.size 0)) (aB _) (aA g (k+1) A)).trans R;exact⟨((bn.trans (xU _ _ _)).trans T).from _,⟨P,(H _).trans G.symm⟩,⟨Q.o _ ⟨_,V,by rw[show((i++[(d,ty,y)]).take (k+1)++[(f,s,B)]).length=(k+1)+1 by simp;omega,gX,xP];exact U⟩,H _⟩,E.trans P⟩
    .have ac:=M4 i (d,ty,y) (f,s,B) ab an;rw[ac]at Q;have d1:decide (s<ty)=false:=aH;by_cases aS:s=ty
     .have d2:(s==ty)=true:=by simp[aS]
      have d3:decide (f<d)=false:=aH;have d5:decide (ty<s)=false:=aH;by_cases a9:f=d
      .have d4:(f==d)=true:=by simp[a9]
       clear aS a9 ab an
       gi_wp2_with (gi_at_builtin;refine xV _ rfl _ _ 22 rfl w.heap.size 29 aG aJ 3 24 underlying22 hi au aC aE av ai _ _ _ rfl ((C.alloc _).alloc _) (af (W.heap.size+1) 0) 1 1 [.int .i64 f,.int .i64 s,.int .u32 B] rfl rfl (uK (cs:=#[ae f,ae s,ak B]) (t:=29) (fr:=(0,0)) (jM ay)) (by simp[Value.oneCell']) dJ aa aH ?_;intro a6 w1 J I _;obtain⟨aP,aO,rfl⟩:=yw J;obtain⟨L,V,U,T,R⟩:=(S.alloc (.cells #[ae d,ae ty,ak y] 29)).appended ai (C.alloc _) (E.alloc E.size _).size (aB _) J I;have aX:=L.cell;have a2:=L.frozen;have Y:=((G.alloc (.cells #[ae d,ae ty,ak y] 29)).alloc _).kept I ((G.alloc (.cells #[ae d,ae ty,ak y] 29)).not_row ai (C.alloc _));have H:=fun u=>Y.other (B':=w.heap.size) aa u)
       have P:=((aI w.heap.size W).alloc E.size _).trans R;exact⟨((uR _ _).trans T).from _,⟨P,(H _).trans G.symm⟩,⟨Q.o _ ⟨_,V,by rw[show((i++[(d,ty,y)])++[(f,s,B)]).length=i.length+1+1 by simp,gX,xP];exact U⟩,H _⟩,E.trans P⟩
      .have d4:(f==d)=false:=by simp[a9]
       clear aS a9 ab an
       gi_wp2_with (gi_at_builtin;refine xV _ rfl _ _ 22 rfl w.heap.size 29 aG aJ 3 24 underlying22 hi au aC aE av ai _ _ _ rfl ((C.alloc _).alloc _) (af (W.heap.size+1) 0) 1 1 [.int .i64 f,.int .i64 s,.int .u32 B] rfl rfl (uK (cs:=#[ae f,ae s,ak B]) (t:=29) (fr:=(0,0)) (jM ay)) (by simp[Value.oneCell']) dJ aa aH ?_;intro a6 w1 J I _;obtain⟨aP,aO,rfl⟩:=yw J;obtain⟨L,V,U,T,R⟩:=(S.alloc (.cells #[ae d,ae ty,ak y] 29)).appended ai (C.alloc _) (E.alloc E.size _).size (aB _) J I;have aX:=L.cell;have a2:=L.frozen;have Y:=((G.alloc (.cells #[ae d,ae ty,ak y] 29)).alloc _).kept I ((G.alloc (.cells #[ae d,ae ty,ak y] 29)).not_row ai (C.alloc _));have H:=fun u=>Y.other (B':=w.heap.size) aa u)
       have P:=((aI w.heap.size W).alloc E.size _).trans R;exact⟨((uR _ _).trans T).from _,⟨P,(H _).trans G.symm⟩,⟨Q.o _ ⟨_,V,by rw[show((i++[(d,ty,y)])++[(f,s,B)]).length=i.length+1+1 by simp,gX,xP];exact U⟩,H _⟩,E.trans P⟩
     .have d2:(s==ty)=false:=by simp[aS]
      have d4:(f==d)=false:=aH;clear aS ab an
      gi_wp2_with (gi_at_builtin;refine xV _ rfl _ _ 22 rfl w.heap.size 29 aG aJ 3 24 underlying22 hi au aC aE av ai _ _ _ rfl ((C.alloc _).alloc _) (af (W.heap.size+1) 0) 1 1 [.int .i64 f,.int .i64 s,.int .u32 B] rfl rfl (uK (cs:=#[ae f,ae s,ak B]) (t:=29) (fr:=(0,0)) (jM ay)) (by simp[Value.oneCell']) dJ aa aH ?_;intro a6 w1 J I _;obtain⟨aP,aO,rfl⟩:=yw J;obtain⟨L,V,U,T,R⟩:=(S.alloc (.cells #[ae d,ae ty,ak y] 29)).appended ai (C.alloc _) (E.alloc E.size _).size (aB _) J I;have aX:=L.cell;have a2:=L.frozen;have Y:=((G.alloc (.cells #[ae d,ae ty,ak y] 29)).alloc _).kept I ((G.alloc (.cells #[ae d,ae ty,ak y] 29)).not_row ai (C.alloc _));have H:=fun u=>Y.other (B':=w.heap.size) aa u)
      have P:=((aI w.heap.size W).alloc E.size _).trans R;exact⟨((uR _ _).trans T).from _,⟨P,(H _).trans G.symm⟩,⟨Q.o _ ⟨_,V,by rw[show((i++[(d,ty,y)])++[(f,s,B)]).length=i.length+1+1 by simp,gX,xP];exact U⟩,H _⟩,E.trans P⟩
 case done=>
  rintro D xs W cu rfl ⟨⟨⟨v,S,C⟩,G⟩,E⟩ aw;subst bE;have bq:=PL (bk l l.length);rw[PG]at bq;rw[TS]at C bq;simp only[List.length_reverse]at C bq;have b6:=S.cell;have cd:=S.not_row ai C;have b7:∀j,v.ownBlock=some j->w.heap.size<=j:=fun j e=>by
   rcases C.2 with⟨rfl,_⟩|⟨g,A,bd,rfl,bo,_⟩
   .cases e
   .cases e;exact bo
  have b2:some D≠v.ownBlock:=fun e=>by
   rcases C.2 with⟨rfl,_⟩|⟨g,A,bd,rfl,_,bo,_⟩
   .cases e
   .cases e;rw[bo]at aw;cases aw
  have b1:=(aY.1 aw).1
  gi_wp2_with (refine⟨trivial,?_⟩;gi_at_call 215;refine(yn.2 (Tj ay aa C)).mono ?_;rintro e w' ⟨rfl,bG,ad⟩;have ch:=S.kept ad cd;have cx:=ch.cell;have bm:=(ad.block D b1 b2).trans aw;have bX:=E.grown ad E.size b7)
  rw[List.reverse_reverse]at bG;refine⟨ay,.inl ⟨_,_,rfl,AZ bm,?_⟩⟩;exact⟨_,results_tmp rfl _ _ _,_,_,rfl,ownsRow_putObj bG _ bm rfl,rfl,bX.trans (belowK_b (w:=w) (aB _) _ _ _ _ aa bm rfl rfl)⟩
 case stop=>
  rintro D c al W _ _ h _;exact h.elim
theorem vV {a:Option Addr} {l:List Pt} {n c:Nat} {w:World} (i:l.length=n) (h:bY dw 3 w a l) (f:n<=1000000):
  aK 145 #[.slice a n c] w fun e w'=>∃v,e=.returned v/\w'.ownsRow w.heap.size 29 3 v (r9 l).length ((r9 l).flatMap dw)/\Below w.heap.size w w':=
 (yn.1 (scanIn 3 aa a l n c w i h f)).mono fun e w' ⟨v,m,d,j,g,b⟩=>⟨v,d,g▸j,b⟩
end
section
open Go.RowKit Go.Maps
theorem dm {w:World} {base b:Nat} {e:TypeId} {size:Nat} {v:Value} {n:Nat} {xs:List Value} (h:w.ownsRow base e size v n xs) (i:b<=base):w.ownsRow b e size v n xs:=by
 have⟨f,a⟩:=h;refine⟨f,?_⟩;rcases a with a|⟨g,c,d,k,j,r⟩
 .exact .inl a
 .exact .inr ⟨g,c,d,k,bA i j,r⟩
theorem iy (l:List Pt):lK l=true↔(ids l).Nodup:=by simp[lK]
theorem TU (a:Option Addr) (l:List Pt) (n c:Nat) (w:World) (E:l.length=n) (h:bY dw 3 w a l) (f:n<=1000000) (J:Le l) (hu:lK l=true):
  aK 148 #[.slice a n c] w fun e w'=>∃v,e=.returned (.tuple #[v,ae 0])/\w'.ownsRow w.heap.size 29 3 v (bP l).length ((bP l).flatMap dw)/\Below w.heap.size w w':=by
 subst E;have i:=ag h;have t:=ag J;have k:=(iy l).1 hu;have r:=ag k;have I:(eZ l).length=l.length:=(dQ l).length_eq;have H:r9 (eZ l)=bP l:=DI _ (fU k);have s:=ag H;go_enter func148,ntmps148
 go_wp2_with fail
 refine(qI w.heap.size 1 [(a,l,c)] _ ay (Hy c 22 i.o) (by rw[pg];exact f) ay (by rw[pg];exact t.o)).mono ?_;rw[pg,hu];rintro e w1 ⟨rfl,B⟩;have b:Below w.heap.size w w1:=((aI _ w).alloc (aB _) _).trans (B.mono ay)
 go_wp2_with fail
 refine(oP a l l.length c w1 rfl (i.o.below b) f).mono ?_;rintro e w2 ⟨v,rfl,m,j⟩;have p:=b.trans (j.mono b.size);have u:=b.size;have x:=j.size;obtain⟨y,L,rfl,_,_,_⟩:=bY.aJ bg ai m
 go_wp2_with fail
 refine(N9 rfl aa m r.o x).mono ?_;rintro e w3 ⟨rfl,F,C⟩;have d:=p.trans (C.mono u);have g:bY dw 3 w3 y (eZ l):=by
  have⟨K,M,z,_,_,g⟩:=bY.aJ bg ai F;injection z with A _ _;exact A▸g
 go_wp2_with fail
 refine(vV I g f).mono ?_;rw[s.o];rintro e w4 ⟨N,rfl,G,D⟩;have q:=d.trans (D.mono d.size);go_wp2;go_ret2;exact⟨_,rfl,dm G d.size,q⟩
end
section
def mrgP:List Pt->List Pt->List Pt
 |[],B=>B
 |A,[]=>A
 |x::A,y::B=>if iK x y<0 then x::mrgP A (y::B)else y::mrgP (x::A) B
 termination_by A B=>A.length+B.length
theorem Cw (B:List Pt):mrgP [] B=B:=by simp[mrgP]
theorem zb (A:List Pt):mrgP A []=A:=by cases A<;>simp[mrgP]
theorem ze (x:Pt) (A:List Pt) (y:Pt) (B:List Pt):mrgP (x::A) (y::B)=if iK x y<0 then x::mrgP A (y::B)else y::mrgP (x::A) B:=by
 rw[mrgP]
theorem mI:∀(n:Nat) (A B:List Pt),A.length+B.length<=n->(mrgP A B).Perm (A++B)
 |_,[],B,_=>by rw[Cw,fQ]
 |_,x::A,[],_=>by rw[zb,iP]
 |0,_::_,_::_,h=>by simp at h
 |n+1,x::A,y::B,h=>by
  rw[ze];split
  .exact(mI n A (y::B) (by simp at h |-;omega)).cons x
  .refine((mI n (x::A) B (by simp at h |-;omega)).cons y).trans ?_;exact(List.perm_middle (l₁:=x::A)).symm
theorem M7 {x y:Pt} (h:¬kI x y) (hi:x.2.2≠y.2.2):kI y x:=by unfold kI at*;omega
theorem sS:∀(n:Nat) (A B:List Pt),A.length+B.length<=n->A.Pairwise kI->B.Pairwise kI->(∀x∈A,∀y∈B,x.2.2≠y.2.2)->(mrgP A B).Pairwise kI
 |_,[],B,_,_,c,_=>by rw[Cw];exact c
 |_,x::A,[],_,b,_,_=>by rw[zb];exact b
 |0,_::_,_::_,h,_,_,_=>by simp at h
 |n+1,x::A,y::B,h,b,c,hd=>by
  have d:=lZ.1 b;have e:=lZ.1 c;rw[ze];split
  .rename_i a;rw[qm]at a;refine lZ.2 ⟨fun z hz=>?_,sS n A (y::B) (by simp at h |-;omega) d.2 c (fun u hu v f=>hd u (by simp[hu]) v f)⟩;rcases bT.1 ((mI _ A (y::B) (aB _)).mem_iff.1 hz)with hz|hz
   .exact d.1 z hz
   .rcases gZ.1 hz with rfl|hz
    .exact a
    .exact oJ a (e.1 z hz)
  .rename_i a;rw[qm]at a;have g:=M7 a (hd x ay y ay);refine lZ.2 ⟨fun z hz=>?_,sS n (x::A) B (by simp at h |-;omega) b e.2 (fun u hu v f=>hd u hu v (by simp[f]))⟩;rcases bT.1 ((mI _ (x::A) B (aB _)).mem_iff.1 hz)with hz|hz
   .rcases gZ.1 hz with rfl|hz
    .exact g
    .exact oJ g (d.1 z hz)
   .exact e.1 z hz
theorem xE {l:List Pt} (h:kg l=true):l.Pairwise kI:=by
 unfold kg at h;rw[mP]at h;refine(oL h.1).imp fun{p q} a=>?_;unfold CY at a;unfold kI;omega
theorem M8 {A B:List Pt} (a:kg A=true) (b:kg B=true) (hu:(ids (A++B)).Nodup):r9 (mrgP A B)=bP (A++B):=by
 have hd:∀x∈A,∀y∈B,x.2.2≠y.2.2:=by
  intro x d y f;unfold ids at hu;rw[bM,pG]at hu;exact hu.2.2 _ (rC d) _ (rC f)
 have c:=sS _ A B (aB _) (xE a) (xE b) hd;have e:mrgP A B=eZ (A++B):=KF hu c fun p=>(mI _ A B (aB _)).mem_iff;rw[e];exact DI _ (fU hu)
end
section
open Go.RowKit Go.Maps
theorem zL {α:Type} {P:Program} {enc:α->List Value} {sz:Nat} {t ty e:TypeId} {bytes:Nat} (m:eP P t e sz bytes) (h:∀x,(enc x).length=sz) (q:∀x,∀u∈enc x,u.oneCell'=true) (base:Nat) {v:Value} {n:Nat} {xs:List Value} {W:World} (k:W.ownsRow base e sz v n xs) {ad:Option Addr} {l:List α} (F:bY enc sz W ad l)
  (c:Nat) (s:n+l.length<=maxLen) (C:(n+l.length)*bytes<=140737488355328) (A:base<=W.heap.size):
  ∃g w',(Builtin.append_ #[t,t] ty #[v,.slice ad l.length c]).run P W=.ok g w'/\w'.ownsRow base e sz g (n+l.length) (xs++l.flatMap enc)/\W.grownBy w' v.ownBlock:=by
 rcases F with rfl|⟨b,off,rfl,K,D⟩
 .exact⟨v,W,jD m k ad c,aQ k,⟨rfl,rfl,rfl,aB _,fun _ _ _=>rfl⟩⟩
 .obtain⟨ht,⟨i,z,hi,I,G,B,J⟩,f⟩:=m;have⟨g,w',a,d,r,_⟩:=run_append_own (P:=P) W base t ty e i z sz bytes ht hi I G B J f v n xs k (af b off) l.length c (l.flatMap enc) (gq h l) (by
   intro j u hu;have w:((af b off):Addr).add j=(af b (off+j)):=by unfold Addr.add;split<;>simp_all
   rw[w];have E:j<l.length*sz:=by
    have:=(fH.1 hu).1;rw[gq h]at this;exact this
   have p:j/sz<l.length:=(IP f).2 E;have a:=D (j/sz) p (j%sz) (p9 _ f);have d:=flat_get h l (j/sz) p (j%sz) (p9 _ f);have o:j/sz*sz+j%sz=j:=by rw[vo];exact Nat.div_add_mod j sz
   rw[o]at d;rw[uX,o]at a;rw[a,<-d];exact hu) (by
   intro u hu;have⟨y,_,H⟩:=x9.1 hu;exact q y u H) s C A
  exact⟨g,w',a,d,r⟩
theorem M9 (p q:Pt) (W:World):aK 94 #[jc p.1 p.2.1 p.2.2,jc q.1 q.2.1 q.2.2] W (fw W (ae (iK p q))):=
 (Ti p q W).mono fun _ _ h=>⟨h.1,h.2.below (aB _)⟩
def lenOf:Value->Nat
 |.slice _ n _=>n
 |_=>0
theorem PO {W:World} {a b:Option Addr} {c lb:List Pt} (d cb:Nat) (t:TypeId) (h:bY dw 3 W a c) (e:bY dw 3 W b lb):M0 (W.alloc (.cells #[.slice a c.length d,.slice b lb.length cb] t)) W.heap.size [(a,c,d),(b,lb,cb)]:=by
 intro j f;simp only[eu,fF]at f;obtain rfl|rfl:j=0\/j=1:=aa
 .exact⟨by rw[eF _ _ _ _ rfl];rfl,h.below ((aI _ _).alloc (aB _) _)⟩
 .exact⟨by rw[eF _ _ _ _ rfl];rfl,e.below ((aI _ _).alloc (aB _) _)⟩
theorem Cx (a b:Option Addr) (c lb:List Pt) (d cb:Nat):mr [(a,c,d),(b,lb,cb)]=c++lb:=by simp[mr]
theorem J7 {A B:List Pt} (h:Le A) (a:Le B):Le (A++B):=fun p hp=>by
 rcases bT.1 hp with hp|hp
 .exact h p hp
 .exact a p hp
theorem Cy {α:Type} {enc:α->List Value} {sz:Nat} {w:World} {a:Option Addr} {l:List α} (h:l.length=0):bY enc sz w a l:=.inl (gU h)
theorem bY.tail {α:Type} {enc:α->List Value} {sz:Nat} {w:World} {b off:Nat} {x:α} {l:List α} (h:bY enc sz w (some (af b off)) (x::l)):bY enc sz w (some (af b (off+sz))) l:=by
 have:=h.drop 1;simpa using this
theorem Na (a b:Option Addr) (z lb:List Pt) (aE aF S cb:Nat) (w:World) (bR:z.length=aE) (bS:lb.length=aF) (bL:aE<=S) (bM:aF<=cb) (a0:bY dw 3 w a z) (r:bY dw 3 w b lb) (bN:aE+aF<=1000000) (bx:Le z) (bz:Le lb) (bv:kg z=true) (bw:kg lb=true) (hu:lK (z++lb)=true):
  aK 62 #[.slice a aE S,.slice b aF cb] w fun e w'=>∃v,e=.returned (.tuple #[v,ae 0])/\w'.ownsRow w.heap.size 29 3 v (bP (z++lb)).length ((bP (z++lb)).flatMap dw)/\Below w.heap.size w w':=by
 subst bR bS;have bO:=M8 bv bw ((iy _).1 hu);have b5:(mrgP z lb).length=z.length+lb.length:=by have:=(mI _ z lb (aB _)).length_eq;simpa using this
 rw[<-bO];have bq:=ag (zK a z z.length S w rfl a0 aa bx);have br:=ag (fun W (h:Below w.heap.size w W)=>zK b lb lb.length cb W rfl (r.below h) aa bz);have bs:=ag (fun W (h:Below w.heap.size w W)=>qI W.heap.size 2 [(a,z,S),(b,lb,cb)] _ ay (PO S cb 22 (a0.below h) (r.below h)) (by rw[Cx];simpa using bN) ay (by rw[Cx];exact J7 bx bz));rw[bv]at bq;rw[bw]at br;rw[Cx,hu]at bs;have L:=ag a0;have N:=ag r;generalize bI:mrgP z lb=M at*;have bA:=ag bI;go_enter func62,ntmps62;go_wp2
 go_step3
 go_wp2_with fail
 refine bq.o.mono ?_;rintro e w1 ⟨rfl,a1⟩
 go_wp2_with fail
 refine(br.o w1 a1).mono ?_;rintro e w2 ⟨rfl,bJ⟩;have ax:=a1.trans (bJ.mono a1.size)
 go_wp2_with fail
 refine(bs.o w2 ax).mono ?_;rintro e w4 ⟨rfl,bK⟩;have V:=(ax.alloc ax.size (.cells #[.slice a z.length S,.slice b lb.length cb] 22)).trans (bK.mono (by have:=ax.size;simp;omega));have bB:=ag (L.o.below V);have bC:=ag (N.o.below V);go_wp2
 go_step3
 go_wp2
 go_loopw [0,1,6] (fun bm bn b3 wr=>∃(A B O:List Pt) (aY aZ aj:Option Addr) (E F av:Nat),bm=.slice aY A.length E/\bn=.slice aZ B.length F/\b3=.slice aj O.length av/\A.length<=E/\B.length<=F/\
   Hid (wr.ownsRow w4.heap.size 29 3 (.slice aj O.length av) O.length (O.flatMap dw))/\Hid (bY dw 3 w4 aY A)/\Hid (bY dw 3 w4 aZ B)/\Hid (O++mrgP A B=M)/\O.length+A.length+B.length=z.length+lb.length/\Below w4.heap.size w4 wr)
  (fun bm bn _ _=>lenOf bm+lenOf bn)
 case atStart=>exact⟨z,lb,[],a,b,none,S,cb,0,rfl,rfl,rfl,bL,bM,dx _ _ _ _,bB,bC,bA,ay,aI _ _⟩
 case round=>
  obtain⟨A,B,O,aY,aZ,aj,E,F,av,rfl,rfl,rfl,au,aD,HO,L,N,U,a8,r⟩:=hrel;cases A with
  |nil=>
   rw[Cw]at U;simp only[fF]at au a8 |-
   go_wp2_with (at_builtin;refine iU wB bg nK w4.heap.size HO.o (N.o.below r) rfl _ _ rfl rfl F rfl dJ aa r.size ?_;intro b0 w6 aq a6)
   rw[<-gX,U.o]at aq;obtain⟨bF,bG,rfl,bQ,_,bc⟩:=bY.aJ bg ai aq;have u:Below w.heap.size w w6:=V.trans ((dB r HO.o a6 r.size (aB _)).mono V.size);refine(vV rfl bc aa).mono ?_;rintro e b4 ⟨b2,rfl,bb,a2⟩;go_wp2;rw[Exit.noGoto_ret];go_ret2;exact⟨_,rfl,dm bb u.size,u.trans (a2.mono u.size)⟩
  |cons x C=>
   cases B with
   |nil=>
    rw[zb]at U;simp only[fF,eu]at au aD a8 |-
    go_wp2_with (at_builtin;refine iU (l:=x::C) wB bg nK w4.heap.size HO.o (L.o.below r) rfl _ _ rfl rfl E rfl (by unfold maxLen;simp;omega) aH r.size ?_;intro b0 w6 aq a6)
    rw[<-gX,U.o]at aq;obtain⟨bF,bG,rfl,bQ,_,bc⟩:=bY.aJ bg ai aq;have u:Below w.heap.size w w6:=V.trans ((dB r HO.o a6 r.size (aB _)).mono V.size);refine(vV rfl bc aa).mono ?_;rintro e b4 ⟨b2,rfl,bb,a2⟩;go_wp2;rw[Exit.noGoto_ret];go_ret2;exact⟨_,rfl,dm bb u.size,u.trans (a2.mono u.size)⟩
   |cons y D=>
    simp only[eu]at a8;obtain⟨c,g,rfl,I,a3⟩:=L.o.get ay;obtain⟨d,ob,rfl,J,a4⟩:=N.o.get ay;have bD:=ag (bY.tail L.o);have bE:=ag (bY.tail N.o);have aw:=ag (ze x C y D);have⟨j,k,i⟩:=x;have⟨n,q,m⟩:=y;have bo:=a3 0 ay 0 aa;have x1:=a3 0 ay 1 aa;have x2:=a3 0 ay 2 aa;have bp:=a4 0 ay 0 aa;have y1:=a4 0 ay 1 aa;have y2:=a4 0 ay 2 aa;simp only[nE,dw,fZ,dC,dK,Nat.zero_mul]at bo x1 x2 bp y1 y2;have bf:=(r.cell (p:=(af c g)) I).trans bo;have bh:=(r.cell (p:=(af c (g+1))) I).trans x1;have bi:=(r.cell (p:=(af c (g+2))) I).trans x2;have bj:=(r.cell (p:=(af d ob)) J).trans bp;have bk:=(r.cell (p:=(af d (ob+1))) J).trans y1;have bl:=(r.cell (p:=(af d (ob+2))) J).trans y2;have aW:=ag (And.intro bo (And.intro x1 x2));have aX:=ag (And.intro bp (And.intro y1 y2));have b6:=ah bf;have b7:=ah bh;have b8:=ah bi;have b9:=ah bj;have ca:=ah bk;have cc:=ah bl;have bt:=ag (fun W=>M9 (j,k,i) (n,q,m) W);simp only[eu]at au aD |-;by_cases a9:iK (j,k,i) (n,q,m)<0
    .rw[aO a9]at aw;have hd:decide (iK (j,k,i) (n,q,m)<0)=true:=by simp[a9]
     generalize iK (j,k,i) (n,q,m)=bZ at*;go_wp2;refine bH aM aM ?_
     repeat(quiet_step ((go_at_call 94;exact dL (bt.o _))))
     refine jP ?_;intro f be;have s:Below wr.heap.size wr f:=by obtain⟨p,rfl⟩:=be;exact p.h
     have G:c<wr.heap.size:=bX I r.size;have H:d<wr.heap.size:=bX J r.size;have aG:=(s.cell (p:=(af c g)) G).trans bf;have aL:=(s.cell (p:=(af c (g+1))) G).trans bh;have aP:=(s.cell (p:=(af c (g+2))) G).trans bi;have aR:=(s.cell (p:=(af d ob)) H).trans bj;have aS:=(s.cell (p:=(af d (ob+1))) H).trans bk;have aT:=(s.cell (p:=(af d (ob+2))) H).trans bl;have aA:c<f.heap.size:=bX G s.size;have aC:d<f.heap.size:=bX H s.size;have aV:=az HO.o s;have al:=r.trans (s.mono r.size);have bd:=al.size;have ab:Hid ((O++[(j,k,i)])++mrgP C ((n,q,m)::D)=M):=by
      have:=U.o;rw[aw.o,List.append_cons]at this;exact this
     have aU:(O++[(j,k,i)]).length+C.length+(D.length+1)=z.length+lb.length:=aH;have ad:((f.alloc (.cells #[ae j,ae k,ak i] 29)).drew).ownsRow w4.heap.size 29 3 (.slice aj O.length av) O.length (O.flatMap dw):=(aV.alloc _).bu 1;have⟨b1,w6,K,ar,a7⟩:=zL (ty:=22) (t:=22) (P:=prog) (l:=[(j,k,i)]) wB bg nK w4.heap.size ad ((bY.lit bg f 29 [(j,k,i)] f.heap.size rfl).below (Below.bu _ 1)) 1 (by unfold maxLen;simp;omega) aH aH;have u:Below w4.heap.size w4 w6:=dB ((al.alloc (aQ bd) _).drew) ad a7 aH (aB _);obtain⟨Q,R,rfl,-,-,-⟩:=bY.aJ (l:=O++[(j,k,i)]) (enc:=dw) bg ai (aQ ar);have ba:w6.ownsRow w4.heap.size 29 3 (.slice Q (O++[(j,k,i)]).length R) (O++[(j,k,i)]).length ((O++[(j,k,i)]).flatMap dw):=aQ ar;have ac:=ag ba;have X:(O++[(j,k,i)]).length=O.length+1:=ay;rw[X]at K;have Y:=ag X;have am:f.cell? (af c g)=some (ae j)/\f.cell? (af c (g+1))=some (ae k)/\f.cell? (af c (g+2))=some (ak i):=⟨aG,aL,aP⟩;have an:f.drew.cell? (af c g)=some (ae j)/\f.drew.cell? (af c (g+1))=some (ae k)/\f.drew.cell? (af c (g+2))=some (ak i):=⟨aG,aL,aP⟩;have ao:((f.alloc (.cells #[ae j,ae k,ak i] 29)).drew).cell? (af c g)=some (ae j)/\((f.alloc (.cells #[ae j,ae k,ak i] 29)).drew).cell? (af c (g+1))=some (ae k)/\((f.alloc (.cells #[ae j,ae k,ak i] 29)).drew).cell? (af c (g+2))=some (ak i):=by
      have T:=(aI f.heap.size f).alloc (aB _) (.cells #[ae j,ae k,ak i] 29);exact⟨(T.cell (p:=(af c g)) aA).trans aG,(T.cell (p:=(af c (g+1))) aA).trans aL,(T.cell (p:=(af c (g+2))) aA).trans aP⟩
     have ap:w6.cell? (af c g)=some (ae j)/\w6.cell? (af c (g+1))=some (ae k)/\w6.cell? (af c (g+2))=some (ak i):=by
      exact⟨(u.cell (p:=(af c g)) I).trans aW.o.1,(u.cell (p:=(af c (g+1))) I).trans aW.o.2.1,(u.cell (p:=(af c (g+2))) I).trans aW.o.2.2⟩
     have Z:=ag aU;by_cases a5:E=1
     .subst a5;obtain rfl:C=[]:=gU aa;go_wp2
      go_hide hQ
      go_region_held3 (fun w'=>w'.cell? (af c g)=some (ae j)/\w'.cell? (af c (g+1))=some (ae k)/\w'.cell? (af c (g+2))=some (ak i))
       (first|(with_reducible exact am)|(with_reducible exact an)|(with_reducible exact ao)|(with_reducible exact ap)|go_keep)
       ((refine gG rfl (.tmp 53) (.tmp 57) rfl K (by simp[Act.eval]) (by simp[Act.eval]) ?_;try simp only[Act.put,zq,oF,nU]))
      all_goals
       subst hQ;go_wp2;go_roundw
       case rel=>exact⟨[],(n,q,m)::D,O++[(j,k,i)],_,_,Q,0,F,R,rfl,rfl,by rw[Y.o],ay,aQ aD,ac,ag (Cy rfl),N,ab,aQ Z.o,u⟩
       case measure=>simp[lenOf]
     .have bT:(1:Int)<=(C.length:Int)+1:=aa;have bU:(C.length:Int)+1<=(E:Int):=aa;have bV:¬E-1=0:=aa;have bW:1<E:=aa;go_wp2
      go_hide hQ
      go_region_held3 (fun w'=>w'.cell? (af c g)=some (ae j)/\w'.cell? (af c (g+1))=some (ae k)/\w'.cell? (af c (g+2))=some (ak i))
       (first|(with_reducible exact am)|(with_reducible exact an)|(with_reducible exact ao)|(with_reducible exact ap)|go_keep)
       ((refine gG rfl (.tmp 53) (.tmp 57) rfl K (by simp[Act.eval]) (by simp[Act.eval]) ?_;try simp only[Act.put,zq,oF,nU]))
      all_goals
       subst hQ;go_wp2;go_roundw
       case rel=>exact⟨C,(n,q,m)::D,O++[(j,k,i)],_,_,Q,E-1,F,R,rfl,rfl,by rw[Y.o],aa,aQ aD,ac,bD,N,ab,aQ Z.o,u⟩
       case measure=>simp[lenOf]
    .rw[aN a9]at aw;have hd:decide (iK (j,k,i) (n,q,m)<0)=false:=aH;generalize iK (j,k,i) (n,q,m)=bZ at*;go_wp2;refine bH aM aM ?_
     repeat(quiet_step ((go_at_call 94;exact dL (bt.o _))))
     refine jP ?_;intro f be;have s:Below wr.heap.size wr f:=by obtain⟨p,rfl⟩:=be;exact p.h
     have G:c<wr.heap.size:=bX I r.size;have H:d<wr.heap.size:=bX J r.size;have aG:=(s.cell (p:=(af c g)) G).trans bf;have aL:=(s.cell (p:=(af c (g+1))) G).trans bh;have aP:=(s.cell (p:=(af c (g+2))) G).trans bi;have aR:=(s.cell (p:=(af d ob)) H).trans bj;have aS:=(s.cell (p:=(af d (ob+1))) H).trans bk;have aT:=(s.cell (p:=(af d (ob+2))) H).trans bl;have aA:c<f.heap.size:=bX G s.size;have aC:d<f.heap.size:=bX H s.size;have aV:=az HO.o s;have al:=r.trans (s.mono r.size);have bd:=al.size;have ab:Hid ((O++[(n,q,m)])++mrgP ((j,k,i)::C) D=M):=by
      have:=U.o;rw[aw.o,List.append_cons]at this;exact this
     have aU:(O++[(n,q,m)]).length+(C.length+1)+D.length=z.length+lb.length:=aH;have ad:((f.alloc (.cells #[ae n,ae q,ak m] 29)).drew).ownsRow w4.heap.size 29 3 (.slice aj O.length av) O.length (O.flatMap dw):=(aV.alloc _).bu 1;have⟨b1,w6,K,ar,a7⟩:=zL (ty:=22) (t:=22) (P:=prog) (l:=[(n,q,m)]) wB bg nK w4.heap.size ad ((bY.lit bg f 29 [(n,q,m)] f.heap.size rfl).below (Below.bu _ 1)) 1 (by unfold maxLen;simp;omega) aH aH;have u:Below w4.heap.size w4 w6:=dB ((al.alloc (aQ bd) _).drew) ad a7 aH (aB _);obtain⟨Q,R,rfl,-,-,-⟩:=bY.aJ (l:=O++[(n,q,m)]) (enc:=dw) bg ai (aQ ar);have ba:w6.ownsRow w4.heap.size 29 3 (.slice Q (O++[(n,q,m)]).length R) (O++[(n,q,m)]).length ((O++[(n,q,m)]).flatMap dw):=aQ ar;have ac:=ag ba;have X:(O++[(n,q,m)]).length=O.length+1:=ay;rw[X]at K;have Y:=ag X;have am:f.cell? (af d ob)=some (ae n)/\f.cell? (af d (ob+1))=some (ae q)/\f.cell? (af d (ob+2))=some (ak m):=⟨aR,aS,aT⟩;have an:f.drew.cell? (af d ob)=some (ae n)/\f.drew.cell? (af d (ob+1))=some (ae q)/\f.drew.cell? (af d (ob+2))=some (ak m):=⟨aR,aS,aT⟩;have ao:((f.alloc (.cells #[ae n,ae q,ak m] 29)).drew).cell? (af d ob)=some (ae n)/\((f.alloc (.cells #[ae n,ae q,ak m] 29)).drew).cell? (af d (ob+1))=some (ae q)/\((f.alloc (.cells #[ae n,ae q,ak m] 29)).drew).cell? (af d (ob+2))=some (ak m):=by
      have T:=(aI f.heap.size f).alloc (aB _) (.cells #[ae n,ae q,ak m] 29);exact⟨(T.cell (p:=(af d ob)) aC).trans aR,(T.cell (p:=(af d (ob+1))) aC).trans aS,(T.cell (p:=(af d (ob+2))) aC).trans aT⟩
     have ap:w6.cell? (af d ob)=some (ae n)/\w6.cell? (af d (ob+1))=some (ae q)/\w6.cell? (af d (ob+2))=some (ak m):=by
      exact⟨(u.cell (p:=(af d ob)) J).trans aX.o.1,(u.cell (p:=(af d (ob+1))) J).trans aX.o.2.1,(u.cell (p:=(af d (ob+2))) J).trans aX.o.2.2⟩
     have Z:=ag aU;by_cases a5:F=1
     .subst a5;obtain rfl:D=[]:=gU aa;go_wp2
      go_hide hQ
      go_region_held3 (fun w'=>w'.cell? (af d ob)=some (ae n)/\w'.cell? (af d (ob+1))=some (ae q)/\w'.cell? (af d (ob+2))=some (ak m))
       (first|(with_reducible exact am)|(with_reducible exact an)|(with_reducible exact ao)|(with_reducible exact ap)|go_keep)
       ((refine gG rfl (.tmp 22) (.tmp 26) rfl K (by simp[Act.eval]) (by simp[Act.eval]) ?_;try simp only[Act.put,zq,oF,nU]))
      all_goals
       subst hQ;go_wp2;go_roundw
       case rel=>exact⟨(j,k,i)::C,[],O++[(n,q,m)],_,_,Q,E,0,R,rfl,rfl,by rw[Y.o],aQ au,ay,ac,L,ag (Cy rfl),ab,aQ Z.o,u⟩
       case measure=>simp[lenOf]
     .have bT:(1:Int)<=(D.length:Int)+1:=aa;have bU:(D.length:Int)+1<=(F:Int):=aa;have bV:¬F-1=0:=aa;have bW:1<F:=aa;go_wp2
      go_hide hQ
      go_region_held3 (fun w'=>w'.cell? (af d ob)=some (ae n)/\w'.cell? (af d (ob+1))=some (ae q)/\w'.cell? (af d (ob+2))=some (ak m))
       (first|(with_reducible exact am)|(with_reducible exact an)|(with_reducible exact ao)|(with_reducible exact ap)|go_keep)
       ((refine gG rfl (.tmp 22) (.tmp 26) rfl K (by simp[Act.eval]) (by simp[Act.eval]) ?_;try simp only[Act.put,zq,oF,nU]))
      all_goals
       subst hQ;go_wp2;go_roundw
       case rel=>exact⟨(j,k,i)::C,D,O++[(n,q,m)],_,_,Q,E,F-1,R,rfl,rfl,by rw[Y.o],aQ au,aa,ac,L,bE,ab,aQ Z.o,u⟩
       case measure=>simp[lenOf]
end
section
open Go.RowKit Go.Sort Go.Shelf Go.Lib Go.Maps
structure Sv (w:World) (ob:Nat) (dn:Bool):Prop where
 c0:w.cell? (af ob 0)=some (ak (if dn then 1 else 0))
 c1:w.cell? (af ob 1)=some (.int .i32 0)
 f0:w.frozen? (af ob 0)=false
 f1:w.frozen? (af ob 1)=false
structure mf (w:World) (F:Nat->Prop) (tb n0:Nat) (l:List Pt) (lo m0 m1 m2 m3 m4 hi bx cn hp lw ob:Nat) (tl sv:Value) (dn:Bool):Prop where
 blk:w.heap[tb]? =some (Obj.cells #[tl,aj bx,aj cn,aj hp,aj lw,aj ob,sv] 120 (0,0))
 row:w.ownsRow lo 29 3 tl l.length (l.flatMap dw)
 Sw:∀g,tl.ownBlock=some g->g<m0
 TV:m0<=tb/\tb<m1
 box:iq w m1 m2 bx n0 l
 Uy:o7 w m2 m3 cn n0 l
 Uz:sQ w m3 m4 hp n0 l
 low:uE w m4 hi lw n0 l
 ord:lo<=m0/\m1<=m2/\m2<=m3/\m3<=m4/\m4<=hi
 UA:Sv w ob dn
 VZ:ob≠tb/\(m0<=ob/\ob<m1\/hi<=ob)
 Ga:dn=true->∃a c,sv=.slice a (bP l).length c/\(bP l).length<=c/\bY dw 3 w a (bP l)/\∀x,a=some x->hi<=x.block/\x.block≠ob/\F x.block
 fin:(∀k,lo<=k->k<hi->F k)/\F ob/\∀k,F k->k<w.heap.size
 und:(ids l).Nodup/\IA l
section
variable {w w':World} {F S:Nat->Prop} {tb n0:Nat} {l:List Pt} {lo m0 m1 m2 m3 m4 hi bx cn hp lw ob:Nat} {tl sv:Value} {dn:Bool}
theorem mf.tF (h:mf w F tb n0 l lo m0 m1 m2 m3 m4 hi bx cn hp lw ob tl sv dn):F tb:=h.fin.1 tb (by have:=h.ord;have:=h.TV;omega) (by have:=h.ord;have:=h.TV;omega)
theorem mf.kept (h:mf w F tb n0 l lo m0 m1 m2 m3 m4 hi bx cn hp lw ob tl sv dn) (K:ax S w w') (hS:∀k,F k->¬S k):mf w' F tb n0 l lo m0 m1 m2 m3 m4 hi bx cn hp lw ob tl sv dn:=by
 have u:=h.ord;have ht:=h.TV;have hF:=h.fin;have p:∀k,F k->w'.heap[k]? =w.heap[k]? :=fun k f=>K.block k (hF.2.2 k f) (hS k f);refine⟨(p tb h.tF).trans h.blk,aR h.row K fun d e=>hS d (hF.1 d (h.row.lt d e).1 (by have:=h.Sw d e;omega)),h.Sw,ht,h.box.kept K fun k g m=>hS k (hF.1 k aa aa),h.Uy.kept K fun k g m=>hS k (hF.1 k aa aa),h.Uz.kept K fun k g m=>hS k (hF.1 k aa aa),h.low.kept K fun k g m=>hS k (hF.1 k aa aa),u,?_,h.VZ,?_,⟨hF.1,hF.2.1,fun k f=>bX (hF.2.2 k f) K.size⟩,h.und⟩
 .have e:=p ob hF.2.1;exact⟨(dD (a:=(af ob 0)) e).trans h.UA.c0,(dD (a:=(af ob 1)) e).trans h.UA.c1,(pq (a:=(af ob 0)) e).trans h.UA.f0,(pq (a:=(af ob 1)) e).trans h.UA.f1⟩
 .intro hd;have⟨a,c,e,n,o,q⟩:=h.Ga hd;refine⟨a,c,e,n,?_,q⟩;rcases o with o|⟨b,off,rfl,s,n⟩
  .exact .inl o
  .have r:=p b (q _ rfl).2.2;exact .inr ⟨b,off,rfl,bX s K.size,fun i hi j t=>(dD r).trans (n i hi j t)⟩
end
theorem PQ (a:Option Addr) (c:Nat) (l:List Pt) (w:World) (aq:bY dw 3 w a l) (r:l.length<=20000) (av:IA l) (hu:lK l=true):
  aK 52 #[.slice a l.length c] w fun e w'=>∃tb m0 m1 m2 m3 m4 bx cn hp lw ob tl,e=.returned (aj tb)/\
   mf w' (fun k=>w.heap.size<=k/\k<w'.heap.size) tb l.length l w.heap.size m0 m1 m2 m3 m4 w'.heap.size bx cn hp lw ob tl (aL) false/\Below w.heap.size w w':=by
 have j:=ag aq;have n:=ag av;have m:=ag hu;go_enter func52,ntmps52
 go_wp2_with fail
 refine(oP a l l.length c w rfl j.o aa).mono ?_;rintro e w1 ⟨tl,rfl,M,ap⟩;obtain⟨d,tc,rfl,-,-,-⟩:=bY.aJ bg ai M;have HO:=ag M;have E:=ag ap;have ac:Hid (((w1.alloc (.cells #[ak 0,.int .i32 0,ak 0] 199)).alloc (.cells #[.slice d l.length tc,.pointer none,.pointer none,.pointer none,.pointer none,aj w1.heap.size,aL] 120)).heap[w1.heap.size]? =some (.cells #[ak 0,.int .i32 0,ak 0] 199 (0,0))):=(bL _ _ _ ay).trans (uJ _ _);have ad:Hid (((w1.alloc (.cells #[ak 0,.int .i32 0,ak 0] 199)).alloc (.cells #[.slice d l.length tc,.pointer none,.pointer none,.pointer none,.pointer none,aj w1.heap.size,aL] 120)).heap[w1.heap.size+1]? =some (.cells #[.slice d l.length tc,.pointer none,.pointer none,.pointer none,.pointer none,aj w1.heap.size,aL] 120 (0,0))):=by
  have h:=uJ (w1.alloc (.cells #[ak 0,.int .i32 0,ak 0] 199)) (.cells #[.slice d l.length tc,.pointer none,.pointer none,.pointer none,.pointer none,aj w1.heap.size,aL] 120);rw[show(w1.alloc (.cells #[ak 0,.int .i32 0,ak 0] 199)).heap.size=w1.heap.size+1 by simp]at h;exact h
 have z:Hid (Below w1.heap.size w1 ((w1.alloc (.cells #[ak 0,.int .i32 0,ak 0] 199)).alloc (.cells #[.slice d l.length tc,.pointer none,.pointer none,.pointer none,.pointer none,aj w1.heap.size,aL] 120))):=((aI _ _).alloc (aB _) _).alloc ay _;have aN:((w1.alloc (.cells #[ak 0,.int .i32 0,ak 0] 199)).alloc (.cells #[.slice d l.length tc,.pointer none,.pointer none,.pointer none,.pointer none,aj w1.heap.size,aL] 120)).heap.size=w1.heap.size+2:=ay
 go_wp2_with fail
 generalize((w1.alloc (.cells #[ak 0,.int .i32 0,ak 0] 199)).alloc (.cells #[.slice d l.length tc,.pointer none,.pointer none,.pointer none,.pointer none,aj w1.heap.size,aL] 120))=w2 at*;have ar:=E.o.size;have A:Hid (Below w.heap.size w w2):=E.o.trans (z.o.mono ar);have X:=ag (j.o.below A.o);refine(OU a c l w2 X.o r n.o m.o).mono ?_;rintro e w3 ⟨bx,rfl,i,b⟩;have O:=ag i;have aT:=b.size;have t3:w3.heap[w1.heap.size+1]? =some (Obj.cells #[.slice d l.length tc,.pointer none,.pointer none,.pointer none,.pointer none,aj w1.heap.size,aL] 120 (0,0)):=(b.block _ aa).trans ad.o;have aO:w3.cell? (af (w1.heap.size+1) 1)=some (.pointer none):=aD t3;have f3:w3.frozen? (af (w1.heap.size+1) 1)=false:=aD t3;have ae:Hid ((w3.setCell (af (w1.heap.size+1) 1) (aj bx)).heap[w1.heap.size+1]? =some (Obj.cells #[.slice d l.length tc,aj bx,.pointer none,.pointer none,.pointer none,aj w1.heap.size,aL] 120 (0,0))):=by
  show _=_;rw[di w3 (w1.heap.size+1) 1 _ _ _ t3];rfl
 have F:Hid (ax (fun k=>k=w1.heap.size+1) w2 (w3.setCell (af (w1.heap.size+1) 1) (aj bx))):=((ax.refl _ _).below b).set _ (.inl rfl);have T:Hid (ax (fun k=>k=w1.heap.size+1) w3 (w3.setCell (af (w1.heap.size+1) 1) (aj bx))):=(ax.refl _ _).set _ (.inl rfl);have aF:(w3.setCell (af (w1.heap.size+1) 1) (aj bx)).heap.size=w3.heap.size:=ay
 go_wp2_with fail
 generalize w3.setCell (af (w1.heap.size+1) 1) (aj bx)=v at*;have B:Hid (Below w.heap.size w v):=A.o.trans (F.o.toBelow aa (by rintro k rfl;omega));have Y:=ag (j.o.below B.o);refine(Rh a c l v Y.o r n.o m.o).mono ?_;rintro e w4 ⟨cn,rfl,i,b⟩;have P:=ag i;have aU:=b.size;have t4:w4.heap[w1.heap.size+1]? =some (Obj.cells #[.slice d l.length tc,aj bx,.pointer none,.pointer none,.pointer none,aj w1.heap.size,aL] 120 (0,0)):=(b.block _ aa).trans ae.o;have aP:w4.cell? (af (w1.heap.size+1) 2)=some (.pointer none):=aD t4;have f4:w4.frozen? (af (w1.heap.size+1) 2)=false:=aD t4;have ah:Hid ((w4.setCell (af (w1.heap.size+1) 2) (aj cn)).heap[w1.heap.size+1]? =some (Obj.cells #[.slice d l.length tc,aj bx,aj cn,.pointer none,.pointer none,aj w1.heap.size,aL] 120 (0,0))):=by
  show _=_;rw[di w4 (w1.heap.size+1) 2 _ _ _ t4];rfl
 have u:Hid (ax (fun k=>k=w1.heap.size+1) v (w4.setCell (af (w1.heap.size+1) 2) (aj cn))):=((ax.refl _ _).below b).set _ (.inl rfl);have U:Hid (ax (fun k=>k=w1.heap.size+1) w4 (w4.setCell (af (w1.heap.size+1) 2) (aj cn))):=(ax.refl _ _).set _ (.inl rfl);have aG:(w4.setCell (af (w1.heap.size+1) 2) (aj cn)).heap.size=w4.heap.size:=ay
 go_wp2_with fail
 generalize w4.setCell (af (w1.heap.size+1) 2) (aj cn)=x at*;have C:Hid (Below w.heap.size w x):=B.o.trans (u.o.toBelow aa (by rintro k rfl;omega));have Z:=ag (j.o.below C.o);refine(TL a c l x Z.o r n.o m.o).mono ?_;rintro e f ⟨hp,rfl,i,b⟩;have Q:=ag i;have aV:=b.size;have t5:f.heap[w1.heap.size+1]? =some (Obj.cells #[.slice d l.length tc,aj bx,aj cn,.pointer none,.pointer none,aj w1.heap.size,aL] 120 (0,0)):=(b.block _ aa).trans ah.o;have aQ:f.cell? (af (w1.heap.size+1) 3)=some (.pointer none):=aD t5;have f5:f.frozen? (af (w1.heap.size+1) 3)=false:=aD t5;have al:Hid ((f.setCell (af (w1.heap.size+1) 3) (aj hp)).heap[w1.heap.size+1]? =some (Obj.cells #[.slice d l.length tc,aj bx,aj cn,aj hp,.pointer none,aj w1.heap.size,aL] 120 (0,0))):=by
  show _=_;rw[di f (w1.heap.size+1) 3 _ _ _ t5];rfl
 have q:Hid (ax (fun k=>k=w1.heap.size+1) x (f.setCell (af (w1.heap.size+1) 3) (aj hp))):=((ax.refl _ _).below b).set _ (.inl rfl);have V:Hid (ax (fun k=>k=w1.heap.size+1) f (f.setCell (af (w1.heap.size+1) 3) (aj hp))):=(ax.refl _ _).set _ (.inl rfl);have aH:(f.setCell (af (w1.heap.size+1) 3) (aj hp)).heap.size=f.heap.size:=ay
 go_wp2_with fail
 generalize f.setCell (af (w1.heap.size+1) 3) (aj hp)=y at*;have D:Hid (Below w.heap.size w y):=C.o.trans (q.o.toBelow aa (by rintro k rfl;omega));have ab:=ag (j.o.below D.o);refine(TQ a c l y ab.o r n.o m.o).mono ?_;rintro e w6 ⟨lw,rfl,i,b⟩;have R:=ag i;have aW:=b.size;have t6:w6.heap[w1.heap.size+1]? =some (Obj.cells #[.slice d l.length tc,aj bx,aj cn,aj hp,.pointer none,aj w1.heap.size,aL] 120 (0,0)):=(b.block _ aa).trans al.o;have aS:w6.cell? (af (w1.heap.size+1) 4)=some (.pointer none):=aD t6;have f6:w6.frozen? (af (w1.heap.size+1) 4)=false:=aD t6;have am:Hid ((w6.setCell (af (w1.heap.size+1) 4) (aj lw)).heap[w1.heap.size+1]? =some (Obj.cells #[.slice d l.length tc,aj bx,aj cn,aj hp,aj lw,aj w1.heap.size,aL] 120 (0,0))):=by
  show _=_;rw[di w6 (w1.heap.size+1) 4 _ _ _ t6];rfl
 have p:Hid (ax (fun k=>k=w1.heap.size+1) y (w6.setCell (af (w1.heap.size+1) 4) (aj lw))):=((ax.refl _ _).below b).set _ (.inl rfl);have W:Hid (ax (fun k=>k=w1.heap.size+1) w6 (w6.setCell (af (w1.heap.size+1) 4) (aj lw))):=(ax.refl _ _).set _ (.inl rfl);have aM:(w6.setCell (af (w1.heap.size+1) 4) (aj lw)).heap.size=w6.heap.size:=ay;go_wp2;generalize w6.setCell (af (w1.heap.size+1) 4) (aj lw)=aE at*;have S:Hid (Below w.heap.size w aE):=D.o.trans (p.o.toBelow aa (by rintro k rfl;omega));go_ret;have au:(ids l).Nodup:=by have:=m.o;unfold lK at this;simpa using this
 have aw:=((T.o.trans u.o).trans q.o).trans p.o;have aA:=(U.o.trans q.o).trans p.o;have aC:=V.o.trans p.o;have N:=F.o.trans (u.o.trans (q.o.trans p.o));have s:∀lo hi,w1.heap.size+2<=lo->∀k,lo<=k->k<hi->¬k=w1.heap.size+1:=fun lo hi h k J _ K=>aa;have an:=O.o.kept aw (s _ _ aa);have G:=P.o.kept aA (s _ _ aa);have H:=Q.o.kept aC (s _ _ aa);have I:=R.o.kept W.o (s _ _ aa);rw[aF]at G;rw[aG]at H;rw[aH]at I;have L:=fun g e=>(HO.o.lt g e).2;have t:=bq N ac.o aa;refine⟨w1.heap.size+1,w1.heap.size,w2.heap.size,w3.heap.size,w4.heap.size,f.heap.size,bx,cn,hp,lw,w1.heap.size,_,rfl,⟨am.o,?_,L,?_,an,G,H,?_,?_,?_,?_,(fun h=>by cases h),⟨fun k J K=>⟨J,K⟩,?_,fun k h=>h.2⟩,au,n.o⟩,S.o⟩
 .exact aR (az HO.o z.o) N fun ao e h=>by have:=L ao e;omega
 .omega
 .rw[aM];exact I
 .omega
 .exact⟨aD t,aD t,aD t,aD t⟩
 .omega
 .omega
end
section
open Go.RowKit Go.Maps
section
variable {w:World} {lo hi tb n0:Nat} {l:List Pt}
theorem PR (h:iq w lo hi tb n0 l) (p:Pt) (hp:p∈l):
  aK 128 #[aj tb,jc p.1 p.2.1 p.2.2] w fun e w'=>e=.returned (.bool true)/\iq w' lo hi tb n0 (l.filter fun q=>decide (q≠p))/\ax (fun k=>lo<=k/\k<hi) w w':=by
 have⟨fb,R,gone,YS,V,j,a,d,m,n⟩:=h;have⟨x,c,e⟩:=(d.mem p).1 hp;have b:=a.lt c;rw[dF b]at e;have g:=(a.live x).1 c;refine(Dg j a aa b g p e).mono ?_;rintro s w' ⟨rfl,i,o,r⟩;have f:=d.drop a b c;rw[e]at f;exact⟨rfl,⟨fb,R,_,_,i,o,a.drop g,f,m,n⟩,r⟩
theorem RJ {cb:Nat} (h:o7 w lo hi cb n0 l) (p:Pt) (hp:p∈l):
  aK 125 #[aj cb,jc p.1 p.2.1 p.2.2] w fun e w'=>e=.returned (.bool true)/\o7 w' lo hi cb n0 (l.filter fun q=>decide (q≠p))/\ax (fun k=>lo<=k/\k<hi) w w':=by
 have⟨tb,a,n,i,j,m,g⟩:=h;refine(Rf (R:=fun W b w'=>b=true/\iq w' lo a tb n0 (l.filter fun q=>decide (q≠p))/\ax (fun k=>lo<=k/\k<a) W w') aa (sN g) p.1 p.2.1 p.2.2 ?_).mono ?_
 .intro W f;refine(PR (n.below f aa) p hp).mono ?_;rintro e w' ⟨rfl,d,c⟩;exact⟨_,rfl,rfl,d,c⟩
 .rintro e w' ⟨b,rfl,W,f,rfl,d,c⟩;have K:ax (fun k=>lo<=k/\k<a) w w':=((ax.refl _ w).below f).trans c;exact⟨rfl,⟨tb,a,d,i,j,bA m K.size,(K.block cb aa aa).trans g⟩,K.mono fun k c=>aa⟩
theorem TW (h:sQ w lo hi tb n0 l) (p:Pt) (hp:p∈l):
  aK 126 #[aj tb,jc p.1 p.2.1 p.2.2] w fun e w'=>e=.returned (.bool true)/\sQ w' lo hi tb n0 (l.filter fun q=>decide (q≠p))/\ax (fun k=>lo<=k/\k<hi) w w':=by
 have C:=h.Fw;have⟨fb,R,h,V,j,a,c,m,n⟩:=h;have⟨x,b,e⟩:=(c.mem p).1 hp;have f:=a.lt b;rw[dF f]at e;refine(FB j a aa aa aa f p e).mono ?_;rintro A w' (⟨t,g,B⟩|⟨-,g,o,r⟩)
 .exact absurd b t
 .have d:=c.drop a b;rw[dF f,e]at d;have⟨u,v⟩:=a.drop b;have s:((l.filter fun q=>decide (q≠p)).length:Int)=l.length-1:=by
   have y:=c.len;have z:=d.len;have i:=v.length_eq;simp only[eu]at i;omega
  refine⟨g,⟨fb,R,_,V,?_,u,d,m,n⟩,r⟩;rw[s];exact o
theorem TY (h:uE w lo hi tb n0 l) (p:Pt) (hp:p∈l):
  aK 127 #[aj tb,jc p.1 p.2.1 p.2.2] w fun e w'=>e=.returned (.bool true)/\uE w' lo hi tb n0 (l.filter fun q=>decide (q≠p))/\ax (fun k=>lo<=k/\k<hi) w w':=by
 have E:=h.Fw;have⟨fb,R,gone,YS,V,n,a,c,o,r⟩:=h;have⟨x,b,e⟩:=(c.mem p).1 hp;have f:=a.lt b;rw[dF f]at e;refine(Hw n a aa aa aa f p e).mono ?_;rintro C w' (⟨y,j,D⟩|⟨-,j,s,u⟩)
 .exact absurd b y
 .have t:=(a.live x).1 b;have g:=a.drop t;have d:=c.drop a f b;rw[e]at d;have v:((l.filter fun q=>decide (q≠p)).length:Int)=l.length-1:=by
   have z:=c.len a;have A:=d.len g;have B:(dZ YS x).length+1=YS.length:=by
    have:=(List.perm_cons_erase b).length_eq;have m:dZ YS x=YS.erase x:=by unfold dZ;rw[a.nodup.erase_eq_filter];congr 1;funext i;by_cases h:i=x<;>simp[h]
    rw[m];simpa using this.symm
   omega
  refine⟨j,⟨fb,R,_,_,V,?_,g,d,o,r⟩,u⟩;rw[v];exact s
end
end
end Go.Proofs.YtkjdbndekceffaaGreat
