/- Made small by a program. -/
import Derived.Test.YtkjdbndekceffaaGreatW07
import Derived.Test.YtkjdbndekceffaaGreatW04
set_option linter.unusedSimpArgs false
set_option linter.unusedVariables false
set_option maxRecDepth 100000
set_option maxHeartbeats 16000000
namespace Go.Proofs.YtkjdbndekceffaaGreat
open Tryz
section
open Go.RowKit Go.Sort Go.Shelf Go.Lib Go.Maps
abbrev iX:=Int×Int
def iM (p:iX):List Value:=[.int .u32 p.1,.int .i64 p.2]
abbrev QT (x n:Int):Value:=.agg #[au x,ae n]
theorem wY (p:iX):(iM p).length=2:=rfl
theorem BK (p:iX):∀u∈iM p,u.oneCell'=true:=by intro u hu;simp[iM]at hu;rcases hu with rfl|rfl<;>rfl
theorem GA:eH prog 209 204 2 16:=.mk' (z:=.agg #[au 0,ae 0]) underlying209 aM rfl ai
theorem KA:eH prog 205 209 1 24:=.mk' (z:=aL) underlying205 aM rfl ai
theorem BL (a:Option Addr) (l:List iX) (n c:Nat) (w:World) (k:l.length=n) (h:bW iM 2 w a l) (m:n<=1000000):
  aK 204 #[.slice a n c] w fun e w'=>∃v,e=.returned v/\w'.ownsRow w.heap.size 204 2 v n (l.flatMap iM)/\Below w.heap.size w w':=by
 subst k;have o:∀(w:World) (a:Option Addr) (n c n' d:Nat),(binOp .eql 209 (.slice a n c) (.slice none n' d)).run prog w=.ok (.bool a.isNone) w:=fun w a n c n' d=>El w _ _ a n c n' d underlying209;cases a with
 |none=>
  have i:l=[]:=by
   rcases h with h|⟨b,off,h,_⟩
   .exact h
   .cases h
  subst i;go_enter func204,ntmps204;go_wp2;go_ret;exact⟨_,rfl,dA _ _ _ _,aJ _ _⟩
 |some ad=>
  have f:=AB (e:=204) (size:=2) w #[] 0 (aB _) (aY _) rfl;have h':bW iM 2 (w.alloc (.cells #[] 204)) (some ad) l:=h.below ((aJ _ _).alloc (aB _) _);go_enter func204,ntmps204
  go_wp2_with (at_builtin;refine iT GA wY BK w.heap.size f h' rfl _ _ rfl rfl c rfl dJ aa aA ?_;intro p w' g j)
  go_ret;rw[kF,fP]at g;exact⟨_,rfl,g,dB ((aJ _ _).alloc (aB _) _) f j aA (aB _)⟩
def L9 (p q:iX):Int:=jg p.1 q.1
theorem KC (p q:iX):L9 p q<0↔p.1<q.1:=by unfold L9 jg;split<;>(try split)<;>omega
theorem Vz:SWO (ltOf L9):=yD KC (fun _=>Be _) (fun _ _ _=>Int.lt_trans) (fun x y z=>aa)
theorem Ow (p q:iX) (w:World):aK 206 #[QT p.1 p.2,QT q.1 q.2] w fun e w'=>e=.returned (ae (L9 p q))/\xI w w':=by
 have a:=af (fun W=>ER p.1 q.1 W);unfold L9;generalize jg p.1 q.1=r at*;obtain⟨c,b⟩:=p;obtain⟨f,d⟩:=q;simp only at a;go_enter func206,ntmps206
 go_wp2_with fail
 refine(a.o _).mono ?_;rintro e w1 ⟨rfl,rfl⟩;go_wp2;go_ret;exact⟨rfl,((xI.refl _).alloc _).alloc _⟩
theorem BM:fV 206:=bY func206 aM rfl
theorem QU {w:World} {base g c n:Nat} {l:List iX} (j:l.length=n) (o:n<4611686018427387904) (h:w.ownsRow base 204 2 (az g n c) n (l.flatMap iM)):
  aK 205 #[az g n c,.func (.func 206) #[] #[]] w fun e w'=>
   e=.returned (.tuple #[])/\∃l':List iX,l'.Perm l/\l'.Pairwise (fun x y=>x.1<=y.1)/\w'.ownsRow base 204 2 (az g n c) n (l'.flatMap iM)/\w.grownBy w' (some g):=by
 have d:=mZ Tryz.Dl wY ai isAgg204 sizeOf204 BK L9 Vz 206 #[] BM (fun x y W=>Ow x y W) j o h;change aK 205 _ _ _ at d;refine d.mono ?_;rintro e w' ⟨f,l',hp,m,k,i⟩;refine⟨f,l',hp,m.imp fun{a b} h=>?_,k,i⟩;rw[KC]at h;omega
theorem E9 (p:Option Addr) (a:Nat) (b:Value) (w:World):
  aK 205 #[.slice p 0 a,b] w fun e w'=>e=.returned (.tuple #[])/\w'=w:=Iq Tryz.Dl p a b w
end
section
open Go.RowKit Go.Maps
theorem UJ (p:iX) (x:Int) (L c:Nat) (s:c<=1000000) (W:World) (h:Boxed W L 3 (.int .i64 c)):
  aK 201 #[QT p.1 p.2,au x,aj L] W fun e w'=>e=.returned (ae (jg p.1 x))/\Boxed w' L 3 (.int .i64 ((c+1:Nat):Int))/\Below L W w':=by
 have q:=h.lt;have t:=h.cell;have ji:=h.frozen;have⟨a,b⟩:=p;have d:=(h.alloc (.cells #[au a,ae b] 204)).set (.int .i64 ((c+1:Nat):Int));have g:Below L W ((W.alloc (.cells #[au a,ae b] 204)).setCell (ag L 0) (.int .i64 ((c+1:Nat):Int))):=Below.setCell (p:=(ag L 0)) ((aJ L W).alloc (vv q) _) (aB _) _;have f:=(h.set (.int .i64 ((c+1:Nat):Int))).alloc (.cells #[au a,ae b] 204);have i:Below L W ((W.setCell (ag L 0) (.int .i64 ((c+1:Nat):Int))).alloc (.cells #[au a,ae b] 204)):=((aJ _ W).setCell (p:=(ag L 0)) (aB _) _).alloc aG _;have j:=af (fun W=>ER a x W);rw[show((c+1:Nat):Int)=(c:Int)+1 by omega]at d g f i |-;simp only;generalize jg a x=r at*;have k:=af d;have m:=af g;have l:=af f;have n:=af i;go_enter func201,ntmps201
 go_wp2_with fail
 refine(j.o _).mono ?_;rintro e w1 ⟨rfl,rfl⟩;go_wp2;go_ret
 first
  |exact⟨rfl,k.o,m.o⟩
  |exact⟨rfl,l.o,n.o⟩
def VA (l:List iX) (n:Nat) (x:Int) (L c0:Nat) (W:World) (e:Ending) (w':World):Prop:=
 ∃(k c:Nat) (bb:Bool),e=.returned (.tuple #[ae k,.bool bb])/\k<=n/\(∀t (_:t<l.length),t<k->l[t].1<x)/\(∀t (_:t<l.length),k<=t->x<=l[t].1)/\c<=c0+Lib.bitLen n+(if n=0 then 0 else 1)/\c0<=c/\Boxed w' L 3 (.int .i64 c)/\Below L W w'
theorem VB (a:Option Addr) (l:List iX) (n ah:Nat) (x:Int) (L f:Nat) (P W:World) (av:l.length=n) (ar:n<=10000) (ay:f<=100000) (ac:bW iM 2 P a l) (Y:P.heap.size<=L) (Z:Below L P W) (ad:l.Pairwise fun p q=>p.1<=q.1) (al:Boxed W L 3 (.int .i64 f)):
  aK 200 #[.slice a n ah,au x,.func (.func 201) #[] #[aj L]] W (VA l n x L f W):=by
 subst av;have U:=af ac;have V:=af ad;have X:=af Z;have an:=fC (show l.length<=10000 from ar) ai;have ao:Lib.bitLen 10000=14:=ai;rw[ao]at an;have T:=af UJ;clear ac ad Z;go_enter func200,ntmps200;go_wp2
 go_loopw [9,10] (fun R S wr=>∃i j c:Nat,R=.int .i64 i/\S=.int .i64 j/\i<=j/\j<=l.length/\Hid (c+Lib.bitLen (j-i)<=f+Lib.bitLen l.length/\f<=c)/\Hid (∀t (_:t<l.length),t<i->l[t].1<x)/\Hid (∀t (_:t<l.length),j<=t->x<=l[t].1)/\Hid (Boxed wr L 3 (.int .i64 c))/\Below L W wr)
  (fun R S _=>(intOf S).toNat-(intOf R).toNat)
 case atStart=>exact⟨0,l.length,f,rfl,rfl,aY _,aB _,(by show _/\_;simp),fun t _ h=>absurd h (kC _),fun t ak I=>absurd ak aa,al,aJ _ _⟩
 case round=>
  obtain⟨i,j,c,rfl,rfl,az,aq,k,M,N,z,u⟩:=hrel;by_cases aA:i<j
  .have K:(i+j)/2<l.length:=aa;obtain⟨b,off,C,am,m⟩:=(U.o.below (B:=L) (X.o.trans u) Y).get aa;have F:=m ((i+j)/2) K 0 aa;have x1:=m ((i+j)/2) K 1 aa;simp only[iM,fI,dz,dI]at F x1;have ap:c<=1000000:=by have:=k.o;omega
   have s:=af (T.o l[(i+j)/2] x L c ap wr z.o);have H:Hid (l[(i+j)/2].1<x->∀t (_:t<l.length),t<(i+j)/2+1->l[t].1<x):=fun h t ht I=>by
    rcases Ei.1 I with Q|rfl
    .have:=gU.1 V.o t ((i+j)/2) ht K Q;omega
    .exact h
   have G:Hid (¬l[(i+j)/2].1<x->∀t (_:t<l.length),(i+j)/2<=t->x<=l[t].1):=fun h t ht I=>by
    rcases Nat.lt_or_eq_of_le I with Q|rfl
    .have:=gU.1 V.o ((i+j)/2) t K ht Q;omega
    .omega
   have y:=af C;clear m C z;generalize l[(i+j)/2]=p at*;obtain⟨w,ax⟩:=p;simp only at F x1 s H G;obtain rfl:=y.o;clear y;have g:=k.o;have J:jg w x<0↔w<x:=by unfold jg;split<;>(try split)<;>omega
   generalize jg w x=r at*;by_cases v:w<x
   .have ag:=af (H.o v);have hd:decide (r<0)=true:=by simp[J.2 v]
    have O:Hid (c+1+Lib.bitLen (j-((i+j)/2+1))<=f+Lib.bitLen l.length/\f<=c+1):=by
     have:=zA (d:=j-i) (e:=j-((i+j)/2+1)) aa aa aa;show _/\_;omega
    clear H G k g v J
    go_wp2_with (go_at_call 201;refine s.o.mono ?_;rintro e w' ⟨rfl,D,E⟩)
    go_roundw
    case rel=>exact⟨(i+j)/2+1,j,c+1,by rw[show((i:Int)+(j:Int))/2+1=(((i+j)/2+1:Nat):Int) by omega],rfl,aa,aq,O,ag,N,D,u.trans E⟩
    case measure=>exact eO
   .have ae:=af (G.o v);have hd:decide (r<0)=false:=by simp only[gY];exact fun h=>v (J.1 h)
    have O:Hid (c+1+Lib.bitLen ((i+j)/2-i)<=f+Lib.bitLen l.length/\f<=c+1):=by
     have:=zA (d:=j-i) (e:=(i+j)/2-i) aa aa aa;show _/\_;omega
    clear H G k g v J
    go_wp2_with (go_at_call 201;refine s.o.mono ?_;rintro e w' ⟨rfl,D,E⟩)
    go_roundw
    case rel=>exact⟨i,(i+j)/2,c+1,rfl,by rw[show((i:Int)+(j:Int))/2=(((i+j)/2:Nat):Int) by omega],aa,aa,O,M,ae,D,u.trans E⟩
    case measure=>exact eO
  .obtain rfl:i=j:=aa;have g:=k.o;rw[iP,zz,dI]at g;by_cases ab:i<l.length
   .obtain⟨b,off,C,am,m⟩:=(U.o.below (B:=L) (X.o.trans u) Y).get aa;have F:=m i ab 0 aa;have x1:=m i ab 1 aa;simp only[iM,fI,dz,dI]at F x1;have s:=af (T.o l[i] x L c aa wr z.o);have y:=af C;have aw:¬l.length=0:=aa;clear m C z;generalize l[i]=p at*;obtain⟨w,ax⟩:=p;simp only at F x1 s;obtain rfl:=y.o;clear y;generalize jg w x=r at*;have A:=af g;clear g k
    go_wp2_with (go_at_call 201;refine s.o.mono ?_;rintro e w' ⟨rfl,D,E⟩)
    go_ret2;exact⟨i,c+1,_,rfl,aa,M.o,N.o,by have:=A.o;rw[aN aw];omega,by have:=A.o;omega,D,u.trans E⟩
   .obtain rfl:i=l.length:=aa;have A:=af g;clear g k;go_wp2;go_ret2;exact⟨l.length,c,_,rfl,aB _,M.o,N.o,by have:=A.o;omega,by have:=A.o;omega,z.o,u⟩
abbrev lH:=gu iX
abbrev Ma:=LC iM 2 204
abbrev jX:=oP iM 2 204
theorem Ma.aD {W:World} {base:Nat} {v:Value} {n:Nat} {l:List iX} (h:W.ownsRow base 204 2 v n (l.flatMap iM)):∃a c,v=.slice a l.length c/\n=l.length/\l.length<=c/\Ma W a l:=LC.aD wY ai h
def tb (n:Nat):Nat:=if n=0 then 0 else Lib.bitLen n+2
def Da (NB:List (List iX)):Nat:=(NB.map fun l=>tb l.length).sum
theorem uy (NB:List (List iX)) (i:Nat) (h:i<NB.length):Da (NB.take (i+1))=Da (NB.take i)+tb NB[i].length:=by
 unfold Da;rw[ik h];simp only[bL,l6,pX,rM,List.sum_cons,List.sum_nil];omega
def VC (NB:List (List iX)) (id:Int) (W:World) (e:Ending) (w':World):Prop:=
 ∃(k:Int) (t:Nat),e=.returned (.tuple #[ae k,ae t])/\t<=Da NB/\((∃x∈NB.flatten,x.1=id/\x.2=k)\/(k=-1/\∀x∈NB.flatten,x.1≠id))/\Below W.heap.size W w'
theorem Tg {NB:List (List iX)} {i:Nat}:Da (NB.take i)<=Da NB:=by
 have h:Da NB=Da (NB.take i)+Da (NB.drop i):=by
  unfold Da;rw[<-rM,<-bL,jD]
 omega
theorem o5 (A:Nat) (id:Int) (W:World) (NB:List (List iX)) (bh:List lH) (bv:Value) (base:Nat) (aI:W.cell? (ag A 1)=some bv) (aR:W.ownsRow base 209 1 bv bh.length (bh.map dU)) (ad:bh.map (·.2.1)=NB) (aV:jX W bh)
  (aW:∀l∈NB,l.Pairwise fun p q=>p.1<=q.1) (bb:NB.length<=1000) (aX:∀l∈NB,l.length<=10000):aK 131 #[aj A,au id] W (VC NB id W):=by
 have a5:bh.length=NB.length:=by rw[<-ad];simp
 have aA:=af aW;have Y:=af aX;have aZ:Hid (∀i,Da (NB.take i)<=20*i):=fun i=>by
  unfold Da
  induction i with
  |zero=>simp
  |succ i ih=>
   by_cases hi:i<NB.length
   .rw[ik hi];have f:tb NB[i].length<=20:=by
     unfold tb;have:=fC (Y.o _ (bF hi)) ai;have H:Lib.bitLen 10000=14:=ai;split<;>omega
    simp only[bL,l6,pX,rM,List.sum_cons,List.sum_nil];omega
   .rw[jK aa];rw[jK aa]at ih;omega
 have az:Hid (∀i (hi:i<bh.length) (aT:i<NB.length),bW iM 2 W bh[i].1 NB[i]/\W.heap.size=W.heap.size/\bh[i].2.1=NB[i]):=fun i hi aT=>by
  have ab:bh[i].2.1=NB[i]:=by simp[<-ad]
  exact⟨by rw[<-ab];exact(aV _ (bF hi)).1.Nv,rfl,ab⟩
 obtain⟨av,cv,rfl,-,-,aU⟩:=Rd.aD (enc:=dU) aR;have ap:=af aU;have a4:=gX W _ aI;go_enter func131,ntmps131;go_wp2
 go_loopw [16] (fun M wr=>∃i c:Nat,M=.int .i64 i/\i<=bh.length/\Hid (Boxed wr W.heap.size 3 (.int .i64 c))/\Hid (c<=Da (NB.take i))/\Hid (∀x∈(NB.take i).flatten,x.1≠id)/\Below W.heap.size W wr) (fun M _=>bh.length-(intOf M).toNat)
 case atStart=>exact⟨0,0,rfl,aY _,Boxed.new _ _ _,aY _,by intro x hx;simp at hx,(aJ _ _).alloc (aB _) _⟩
 case round=>
  obtain⟨i,c,rfl,hi,R,j,U,r⟩:=hrel;by_cases ac:i<bh.length
  .have g:i<NB.length:=aa;have aS:c<=100000:=by have f:=j.o;have H:=aZ.o i;omega
   have⟨b,off,F,aP,s⟩:=ap.o.get aa;have z:=(r.cell (p:=(ag b (off+i))) aP).trans (s i ac);obtain⟨N,-,am⟩:=az.o i ac g;have E:=af (uy NB i g);have T:Hid ((∀x∈NB[i],x.1≠id)->∀x∈(NB.take (i+1)).flatten,x.1≠id):=fun h x hx=>by
    rw[ik g,kX,bP]at hx;rcases hx with hx|hx
    .exact U.o x hx
    .exact h x (aQ hx)
   have aw:Hid (∀x∈NB[i],x∈NB.flatten):=fun x hx=>pK.2 ⟨_,bF g,hx⟩;have ah:=aA.o _ (bF g);have al:=Y.o _ (bF g);have ar:=af (Tg (NB:=NB) (i:=i+1));have w:=af F;unfold dU at z;generalize NB[i]=l at*;generalize bh[i]=hd at*;have⟨aE,a,aF⟩:=hd;simp only at am N z;subst am;obtain rfl:=w.o;have ao:=VB aE a a.length aF id W.heap.size c W wr rfl al aS N (aB _) r ah R.o
   go_wp2_with fail
   refine ao.mono ?_;rintro e w2 ⟨k,d,a2,rfl,a9,f,H,K,a8,n,aM⟩;have Q:=r.trans aM;have Z:=af f;have aC:=af H;have X:Hid (tb a.length=if a.length=0 then 0 else Lib.bitLen a.length+2):=rfl;have a7:=fC al ai;have a6:Lib.bitLen 10000=14:=ai;by_cases m:k<a.length
   .have ae:¬a.length=0:=aa;rw[aN ae]at K;have aL:=X.o;rw[aN ae]at aL;have a0:=n.cell;have bd:=n.frozen;have J:=n.set (.int .i64 ((d+1:Nat):Int));have v:=Q.setCell (p:=(ag W.heap.size 0)) (aB _) (.int .i64 ((d+1:Nat):Int));obtain⟨a1,bc,F,-,s⟩:=(N.below v).get aa;have O:=s k m 0 aa;have x1:=s k m 1 aa;simp only[iM,fI,dz,dI]at O x1;have V:Hid (a[k].1≠id->∀x∈a,x.1≠id):=fun h x hx=>by
     obtain⟨t,ht,rfl⟩:=jk hx;by_cases ak:t<k
     .have:=Z.o t ht ak;omega
     .have aH:=aC.o k m (aB _);rcases Nat.lt_or_eq_of_le (Nat.le_of_not_lt ak)with h4|h4
      .have I:=gU.1 ah k t m ht h4;omega
      .subst h4;exact h
    have ax:=af (aw.o a[k] (bF m));have w:=af F;have ba:(k:Int)<(a.length:Int):=aa;rw[show((d+1:Nat):Int)=(d:Int)+1 by omega]at J v O x1;have be:=J.cell;generalize a[k]=y at*;have⟨P,an⟩:=y;simp only at O x1 V;obtain rfl:=w.o;have B:=af J;have S:=af v;by_cases u:P=id
    .have aG:(P==id)=true:=by simp[u]
     have aq:Hid (∃x∈NB.flatten,x.1=id/\x.2=an):=⟨_,ax.o,u,rfl⟩;have L:d+1<=Da NB:=by
      have:=j.o;have:=E.o;have:=ar.o;omega
     go_wp2;go_region
     all_goals
      go_wp2;go_ret2;exact⟨an,d+1,rfl,L,.inl aq.o,S.o.drew⟩
    .have aG:(P==id)=false:=by simp[u]
     have D:=af (T.o (V.o u));have C:Hid (d+1<=Da (NB.take (i+1))):=by
      have:=j.o;have:=E.o;show _<=_;omega
     go_wp2;go_roundw
     case rel=>exact⟨i+1,d+1,by go_num,aa,B,C,D,S.o⟩
     case measure=>exact eO
   .obtain rfl:k=a.length:=aa;have D:Hid (∀x∈(NB.take (i+1)).flatten,x.1≠id):=T.o fun x hx=>by
     obtain⟨t,ht,rfl⟩:=jk hx;have:=Z.o t ht ht;omega
    have C:Hid (d<=Da (NB.take (i+1))):=by
     have aH:=j.o;have h4:=E.o;have I:=X.o;show _<=_;by_cases G:a.length=0
     .rw[aO G]at I K;have a3:Lib.bitLen a.length=0:=by rw[G];rfl
      omega
     .rw[aN G]at I K;omega
    have B:=af n;go_wp2;go_roundw
    case rel=>exact⟨i+1,d,by go_num,aa,B,C,D,Q⟩
    case measure=>exact eO
  .obtain rfl:i=bh.length:=aa;have a0:=R.o.cell;have L:c<=Da NB:=by
    have f:=j.o;rw[jK aa]at f;exact f
   have ay:Hid (∀x∈NB.flatten,x.1≠id):=by
    have f:=U.o;rw[jK aa]at f;exact f
   go_wp2;go_region
   all_goals
    go_wp2;go_ret2;exact⟨-1,c,rfl,L,.inr ⟨rfl,ay.o⟩,r.drew⟩
abbrev iW:=@il iX 290 209 204
theorem UK:209≠290/\290≠204/\209≠204:=ai
theorem sI {W:World} {base Cb:Nat} {cv:Value} {ch:List lH} {N wk:Int} (h:iW W base Cb cv ch N wk):aK 203 #[aj Cb] W (gm W (.bool false)):=by
 obtain⟨a,-⟩:=h.cell;go_enter func203,ntmps203;go_wp2;go_ret;exact⟨rfl,aJ _ _⟩
end
section
open Go.RowKit Go.Maps
attribute [local irreducible] wpQuiet
abbrev VD:=@Uw iX 290 209 204 iM 2
theorem QV {W:World} {base Cb:Nat} {cv:Value} {ch:List lH} {N wk:Int} (h:iW W base Cb cv ch N wk) (dt:base<=W.heap.size) (ce:jX W ch) (x nn:Int) (dq:0<=N/\N<=100000) (dI:ch.length<=1000) (dM:(ch.map (·.2.1)).flatten.length<=10000):
  aK 132 #[aj Cb,QT x nn] W (VD W base Cb cv ch (x,nn) N wk):=by
 have aQ:Below W.heap.size W (W.alloc (.cells #[au x,ae nn] 204)):=(aJ _ _).alloc (aB _) _;have cm:(W.alloc (.cells #[au x,ae nn] 204)).cell? (ag W.heap.size 0)=some (au x):=by rw[eB _ _ _ _ rfl];rfl
 have x1:(W.alloc (.cells #[au x,ae nn] 204)).cell? (ag W.heap.size 1)=some (ae nn):=by rw[eB _ _ _ _ rfl];rfl
 have bv:=af (sI (h.below aQ));have H:=af h;have aV:=af ce;have bx:=af aQ;clear h ce aQ;go_enter func132,ntmps132
 go_wp2_with fail
 refine bv.o.mono ?_;rintro e w2 ⟨rfl,ab⟩;have bt:=af (bx.o.trans (ab.mono aA));have cn:=(ab.cell (p:=(ag W.heap.size 0)) aA).trans cm;have y1:=(ab.cell (p:=(ag W.heap.size 1)) aA).trans x1;have bi:W.heap.size<w2.heap.size:=by have:=ab.size;simp at this;omega
 have s:=af (H.o.below bt.o);have bN:=af cn;have bO:=af y1;clear cm x1 cn y1 bv bx ab;obtain⟨cG,cH,cI,cJ⟩:=s.o.cell
 go_upto_block 0 with fail
 go_cut [6]from 11 to 30 (fun sv B=>∃i:Nat,sv=.int .i64 i/\Hid (B=w2)/\i<=ch.length/\Hid (∀j (aH:j<ch.length),j<i->ch[j].2.1≠[])/\Hid (∀hi:i<ch.length,ch[i].2.1=[]))
 case first=>
  go_wp2_with fail
  go_loopw [6] (fun bj wr=>∃i:Nat,bj=.int .i64 i/\Hid (wr=w2)/\i<=ch.length/\Hid (∀j (aH:j<ch.length),j<i->ch[j].2.1≠[])) (fun bj _=>ch.length-(intOf bj).toNat)
  case atStart=>exact⟨0,rfl,(by first|rfl|trivial),aY _,fun j _ h=>absurd h (kC _)⟩
  case round=>
   obtain⟨i,rfl,ah,hi,T⟩:=hrel;obtain rfl:wr=w2:=ah.o;clear ah;obtain⟨av,U,rfl,-,-,ad⟩:=Rd.aD (enc:=dU) s.o.row;by_cases ca:i<ch.length
   .obtain⟨b,off,bP,du,b5⟩:=ad.get aa;have z:=b5 i ca;have M:Hid (ch[i].2.1=[]->∀hi:i<ch.length,ch[i].2.1=[]):=fun h _=>h;have am:Hid (ch[i].2.1≠[]->∀j (aH:j<ch.length),j<i+1->ch[j].2.1≠[]):=fun h j aH c4=>by
     rcases Ei.1 c4 with h9|rfl
     .exact T.o j aH h9
     .exact h
    have bw:=af bP;unfold dU at z;clear b5 bP ad;generalize ch[i]=hd at*;obtain⟨dj,bm,dl⟩:=hd;simp only at z M am;obtain rfl:=bw.o;clear bw;have dK:(i:Int)<(ch.length:Int):=aa;by_cases X:bm=[]
    .have R:=af (M.o X);clear M am;subst X
     go_wp2_with fail
     go_meet;exact⟨i,rfl,(by first|rfl|trivial),hi,T,R⟩
    .have R:=af (am.o X);have c6:0<bm.length:=Au.2 X;have dw:decide (0<bm.length)=true:=by simp[c6]
     clear X M am
     go_wp2_with fail
     go_roundw
     case rel=>exact⟨i+1,by go_num,(by first|rfl|trivial),aa,R⟩
     case measure=>exact eO
   .have R:Hid (∀hi:i<ch.length,ch[i].2.1=[]):=fun h=>absurd h ca;have dE:¬(i:Int)<(ch.length:Int):=aa
    go_wp2_with fail
    go_meet;exact⟨i,rfl,(by first|rfl|trivial),hi,T,R⟩
 case rest=>
  obtain⟨i,rfl,ah,hi,T,M⟩:=hcut;obtain rfl:wc=w2:=ah.o;clear ah;obtain⟨f,Z⟩:∃f,f=cv.ownBlock:=⟨_,rfl⟩;have dh:Hid (∀k,(k=Cb\/f=some k)->base<=k):=fun k h=>by
   rcases h with rfl|h
   .exact s.o.hb
   .exact(s.o.row.lt k (Z▸h)).1
  have an:Hid (∀k,f=some k->k<W.heap.size/\k≠Cb):=fun k h=>⟨(H.o.row.lt k (Z▸h)).2,fun e=>H.o.ne (by rw[<-Z,h,e])⟩;have C:=af Z;have dp:=H.o.lt;obtain⟨av,U,rfl,-,dv,-⟩:=Rd.aD (enc:=dU) s.o.row;have bH:Hid (ay (fun k=>k=Cb\/f=some k) W wc):=(ay.refl _ _).grown (bM bt.o) aA;have cz:Hid (∀w6,wc.grownBy w6 (Value.ownBlock (.slice av ch.length U))->w6.heap[Cb]? =some (Obj.cells #[.bool true,.slice av ch.length U,ae N,ae wk] 290 (0,0))):=fun w6 w=>(w.block Cb s.o.lt (fun e=>s.o.ne e.symm)).trans s.o.blk;clear Z
  go_upto_if 37 with fail
  go_cut []from 37 to 46 (fun B=>∃V ch1 c aN v,Hid (iW B base Cb V ch1 N wk)/\V=az c aN v/\aN=ch1.length/\i<aN/\Hid (ch1=ch/\i<ch.length\/ch1=ch++[fJ]/\i=ch.length)/\Hid (V.ownBlock=f\/∃b,V.ownBlock=some b/\W.heap.size<=b)/\Hid (c≠W.heap.size)/\Hid (ay (fun k=>k=Cb\/f=some k) W B)/\Hid (ay (fun k=>k=Cb\/f=some k) wc B))
  case first=>
   by_cases c3:i=ch.length
   .subst c3;have cZ:((ch.length:Int)==(ch.length:Int))=true:=aA
    go_wp2_with (at_builtin;refine cu KA base s.o.row [aL] rfl (by simp[Value.oneCell']) rfl _ _ rfl rfl _ rfl dJ aa aa ?_;intro bn w6 ac w b3;obtain⟨D,l,rfl,dy,dz,dB,dD⟩:=aU ac aa;have bk:=cz.o w6 w;have dO:w6.cell? (ag Cb 1)=some (.slice av ch.length U):=(aF bk);have dP:w6.frozen? (ag Cb 1)=false:=(aF bk))
    go_meet;have bd:w6.ownsRow base 209 1 (az D (ch.length+1) l) (ch++[fJ]).length ((ch++[fJ]).map dU):=by
     rw[bQ,bL];exact ac
    have ax:(some D=f\/D=wc.heap.size+1):=by
     rcases b3 with h9|h9
     .exact .inl (h9.trans C.o.symm)
     .simp only[Value.ownBlock,jl]at h9;rw[h9];exact .inr aA
    have c1:D≠Cb:=by
     rcases ax with h9|h9
     .exact(an.o D h9.symm).2
     .omega
    refine⟨_,ch++[fJ],D,ch.length+1,l,il.LF (ch:=ch) bk s.o.hb s.o.ds bd (by simpa[Value.ownBlock]using c1),rfl,aA,aa,(by first|exact .inr ⟨rfl,rfl⟩|exact .inr ⟨rfl,trivial⟩),?_,?_,(bH.o.grown w fun k q=>.inl (.inr (C.o.trans q))).set _ (.inl (.inl rfl)),((ay.refl _ wc).grown w fun k q=>.inl (.inr (C.o.trans q))).set _ (.inl (.inl rfl))⟩
    .rcases ax with h9|h9
     .exact .inl (by simpa[Value.ownBlock]using h9)
     .exact .inr ⟨D,rfl,aa⟩
    .show D≠W.heap.size;rcases ax with h9|h9
     .have:=(an.o D h9.symm).1;omega
     .omega
   .have cZ:((i:Int)==(ch.length:Int))=false:=by simp only[beq_eq_false_iff_ne];omega
    have b9:i<ch.length:=aa;obtain⟨g,dm,a3,c0,aE,-,-⟩:=aU s.o.row aa;injection a3 with a3 _ cL;subst a3 cL;go_wp2;go_meet;have c2:f=some g:=C.o;exact⟨_,ch,g,ch.length,U,s,rfl,rfl,b9,.inl ⟨rfl,b9⟩,.inl C.o.symm,(by show g≠W.heap.size;have:=(an.o g c2).1;omega),bH,ay.refl _ _⟩
  case rest=>
   obtain⟨V,ch1,c,aN,v,ai,rfl,rfl,dG,al,aR,cs,cD,ao⟩:=hcut;obtain⟨w3,cP⟩:∃w3:World,w3=wc:=⟨_,rfl⟩;subst cP;have bE:Hid (¬(W.heap.size=Cb\/f=some W.heap.size)):=fun h9=>by
    rcases h9 with h9|h9
    .omega
    .have:=(an.o _ h9).1;omega
   have cE:Hid (w3.cell? (ag W.heap.size 0)=some (au x)):=(dC (a:=(ag W.heap.size 0)) (ao.o.block _ bi bE.o)).trans bN.o;have cF:Hid (w3.cell? (ag W.heap.size 1)=some (ae nn)):=(dC (a:=(ag W.heap.size 1)) (ao.o.block _ bi bE.o)).trans bO.o;have cf:W.heap.size<w3.heap.size:=bX bi ao.o.size;have c0:c<w3.heap.size:=(ai.o.row.lt c rfl).2;have cq:Hid (∀k (q:k<i) (h1:k<ch1.length) (Y:k<ch.length),ch1[k]=ch[k]):=fun k q h1 Y=>by
    rcases al.o with⟨e,-⟩|⟨e,-⟩
    .subst e;rfl
    .subst e;exact qO Y
   have cr:Hid (∀W',ay (fun k=>k=Cb\/f=some k) W W'->∀k (q:k<ch.length),bW iM 2 W' ch[k].1 ch[k].2.1):=fun W' cW k q=>((aV.o _ (bF q)).1.kept (H.o.fe C.o cW)).Nv;have cx:Hid (∀k (q:k<ch.length),k<i->(((ch.map (·.2.1)).take i).drop k).reverse.flatten=(((ch.map (·.2.1)).take i).drop (k+1)).reverse.flatten++ch[k].2.1):=fun k q dH=>by
    rw[lU aG];simp
   have bB:Hid (∀k,(((ch.map (·.2.1)).take i).drop k).reverse.flatten.length<=10000):=fun k=>by
    generalize ch.map (·.2.1)=CB at*;have dn:(((CB.take i).drop k).reverse.flatten).length=((CB.take i).drop k).flatten.length:=by simp only[Er,EA,List.sum_reverse]
    have a2:((CB.take i).take k).flatten++((CB.take i).drop k).flatten=(CB.take i).flatten:=by rw[<-kX,jD]
    have cM:(CB.take i).flatten++(CB.drop i).flatten=CB.flatten:=by rw[<-kX,jD]
    have cN:=congrArg List.length a2;have cO:=congrArg List.length cM;rw[bQ]at cN cO;omega
   clear bN bO cG cH cI cJ ao
   go_upto_block 2 with fail
   go_cut [7]from 49 to 67 (fun bq B=>Hid (B.ownsRow w3.heap.size 204 2 bq (eT (ch.map (·.2.1)) i).length ((eT (ch.map (·.2.1)) i).flatMap iM))/\Hid (iW B base Cb (az c ch1.length v) (uh ch1 i 0) N wk)/\Hid (ay (fun k=>k=Cb\/f=some k) W B)/\Hid (ay (fun k=>k=c) w3 B))
   case first=>
    go_wp2_with fail
    go_loopw [8,7] (fun bl bq wr=>∃(k:Nat) (bp:Value),bl=.int .i64 ((k:Int)-1)/\bq=bp/\k<=i/\Hid (wr.ownsRow w3.heap.size 204 2 bp (((ch.map (·.2.1)).take i).drop k).reverse.flatten.length ((((ch.map (·.2.1)).take i).drop k).reverse.flatten.flatMap iM))/\Hid (iW wr base Cb (az c ch1.length v) (uh ch1 i k) N wk)/\Hid (ay (fun k=>k=Cb\/f=some k) W wr)/\Hid (ay (fun k=>k=c) w3 wr)) (fun bl _ _=>(intOf bl+1).toNat)
    case atStart=>
     refine⟨i,_,rfl,rfl,aB _,?_,?_,cD,ay.refl _ _⟩
     .rw[oC aG];exact dA _ _ _ _
     .rw[Kq];exact ai
    case round=>
     obtain⟨k,bp,rfl,rfl,q,HO,G,S,I⟩:=hrel;rcases nG k with Uy|Uy
     .subst Uy;have dx:¬(0:Int)<=((0:Nat):Int)-1:=aa;rw[kD]at HO
      go_wp2_with fail
      go_meet;exact⟨HO,G,S,I⟩
     .obtain⟨m,rfl⟩:∃m,k=m+1:=⟨k-1,aa⟩;have bc:m<ch.length:=aa;have cb:m<ch1.length:=aa;obtain⟨d0,d1,d2,d3⟩:=G.o.cell;have y:i<=ch1.length:=aa;have bf:=G.o.row;rw[iL q y]at bf;have z:=bf.cellAt m aa;rw[iB,Kr y aa,bZ cb,cq.o m aa cb bc]at z;simp only[fQ]at z;have ad:=cr.o wr S.o m bc;have bb:=cx.o m bc aa;have O:=bB.o m;rw[bb,bQ]at O;have c7:=Kt (ch1:=ch1) y (show m<i by omega);have c5:=O;generalize(((ch.map (·.2.1)).take i).drop (m+1)).reverse.flatten=L at*;have bA:=af bb;unfold dU at z;clear bb O;generalize ch[m]=hd at*;obtain⟨dk,dN,cK⟩:=hd;simp only at z ad c5 bA;have A:=HO.o.lt;have cV:=ai.o.lt;have b8:=I.o.size;have dL:(m:Int)<(ch1.length:Int):=aa
      go_wp2_with (at_builtin;refine nJ GA wY BK w3.heap.size HO.o ad rfl _ _ rfl rfl cK rfl dJ aa b8 ?_;intro bn w6 ac w b3;have E:=G.o.grown w (fun e=>(by have:=(A Cb e).1;omega)) (.inr (fun e=>(by have:=(A c e.symm).1;omega)));obtain⟨f0,f1,f2,f3⟩:=E.cell;have b2:=w.block c aa (fun e=>(by have:=(A c e.symm).1;omega));have dQ:=(dC (a:=(ag c m)) b2).trans z;have bR:=(pz (a:=(ag c m)) b2).trans (bf.frozenAt m))
      have c8:=ac.lt;have cA:Hid ((w6.setCell (ag c m) (aL)).ownsRow w3.heap.size 204 2 bn (((ch.map (·.2.1)).take i).drop m).reverse.flatten.length ((((ch.map (·.2.1)).take i).drop m).reverse.flatten.flatMap iM)):=by
       show World.ownsRow _ _ _ _ _ _ _;rw[bA.o,bQ,gZ];exact aX ac fun cT e=>aC (fun a2=>by have:=(c8 cT e).1;simp only at a2;omega)
      have aS:Hid (iW (w6.setCell (ag c m) (aL)) base Cb (az c ch1.length v) (uh ch1 i m) N wk):=by
       have:=E.LD (iL q y).symm m fJ;rw[c7]at this;exact this
      have a8:f=some c\/W.heap.size<=c:=by
       rcases aR.o with h9|⟨b,h9,cU⟩
       .exact .inl h9.symm
       .simp only[Value.ownBlock,jl]at h9;exact .inr aa
      have aT:Hid (ay (fun k=>k=Cb\/f=some k) W (w6.setCell (ag c m) (aL))):=
       (S.o.grown w (fun b n=>.inr (by have:=(A b n).1;omega))).set _ (by rcases a8 with h9|h9;exact .inl (.inr h9);exact .inr h9)
      have ct:Hid (ay (fun k=>k=c) w3 (w6.setCell (ag c m) (aL))):=(I.o.grown w (fun b n=>.inr (A b n).1)).set _ (.inl rfl);go_roundw
      case rel=>exact⟨m,bn,by go_num,rfl,aa,cA,aS,aT,ct⟩
      case measure=>simp[intOf]
   case rest=>
    obtain⟨HO,G,S,I⟩:=hcut;obtain⟨w4,cQ⟩:∃w4:World,w4=wc:=⟨_,rfl⟩;subst cQ;have b8:=I.o.size;have y:i<=ch1.length:=aa;have ar:W.heap.size≠c:=fun e=>cs.o e.symm;have bJ:w4.cell? (ag W.heap.size 0)=some (au x):=(dC (a:=(ag W.heap.size 0)) (I.o.block _ cf ar)).trans cE.o;have bK:w4.cell? (ag W.heap.size 1)=some (ae nn):=(dC (a:=(ag W.heap.size 1)) (I.o.block _ cf ar)).trans cF.o;have O:=bB.o 0;rw[kD]at O;change(eT (ch.map (·.2.1)) i).length<=10000 at O;have bD:=(HO.o.alloc (.cells #[au x,ae nn] 204)).bu 1;have bz:=(G.o.grown (qR w4 (.cells #[au x,ae nn] 204) none) aA (.inr (by simp[Value.ownBlock]))).drew;generalize a4:eT (ch.map (·.2.1)) i=d at*;obtain⟨df,w6,a0,bd,aE,ax⟩:=jq (ty:=209) (t:=209) (P:=prog) GA w3.heap.size bD (ag w4.heap.size 0) 1 1 [.int .u32 x,.int .i64 nn] rfl (by
     intro j u hu;have cX:((ag w4.heap.size 0):Addr).add j=(ag w4.heap.size j):=by unfold Addr.add;split<;>simp_all
     rw[cX];have h9:(w4.alloc (.cells #[au x,ae nn] 204)).cell? (ag w4.heap.size j)=some u:=by
      rw[eB _ _ _ _ (by rfl)];simpa using hu
     exact h9) (by simp[Value.oneCell']) dJ aa aG
    have A:=bD.lt;have cV:=ai.o.lt;have E:=bz.grown aE (fun e=>(by have:=(A Cb e).1;omega)) (.inr (fun e=>(by have:=(A c e.symm).1;omega)));have be:w6.ownsRow w3.heap.size 204 2 df (d.length+1) ((d++[(x,nn)]).flatMap iM):=by
     rw[gZ];exact bd
    have cg:=be.lt;obtain⟨r,l,rfl,-,cY,bS⟩:=Ma.aD be;have aI:(d++[(x,nn)]).length=d.length+1:=aA;rw[aI]at a0 be cY cg;have cp:Hid (∀a,r=some a->W.heap.size<=a.block):=fun a a7=>by have:=(cg a.block (by rw[a7];rfl)).1;omega
    obtain⟨f0,f1,f2,f3⟩:=E.cell;have aM:=E.row;rw[iL (aY _) y]at aM;have ck:=aM.cellAt i aa;have bR:=aM.frozenAt i;have da:i<((uh ch1 i 0).map dU).length:=by rw[bU,iL (aY _) y];omega
    rw[bZ da]at ck;have a6:w4.cell? (ag Cb 1)=some (az c ch1.length v)/\w4.cell? (ag W.heap.size 0)=some (au x)/\w4.cell? (ag W.heap.size 1)=some (ae nn):=⟨G.o.cell.2.1,bJ,bK⟩;have bT:w4.drew.cell? (ag Cb 1)=some (az c ch1.length v)/\w4.drew.cell? (ag W.heap.size 0)=some (au x)/\w4.drew.cell? (ag W.heap.size 1)=some (ae nn):=a6;have b7:=(aJ w4.heap.size w4).alloc (aB _) (.cells #[au x,ae nn] 204);have b0:W.heap.size<w4.heap.size:=aa;have ap:(w4.alloc (.cells #[au x,ae nn] 204)).drew.cell? (ag Cb 1)=some (az c ch1.length v)/\(w4.alloc (.cells #[au x,ae nn] 204)).drew.cell? (ag W.heap.size 0)=some (au x)/\(w4.alloc (.cells #[au x,ae nn] 204)).drew.cell? (ag W.heap.size 1)=some (ae nn):=
     ⟨bz.cell.2.1,(b7.cell (p:=(ag W.heap.size 0)) b0).trans bJ,(b7.cell (p:=(ag W.heap.size 1)) b0).trans bK⟩
    have bY:=aE.block W.heap.size aG (fun e=>by have:=(A _ e.symm).1;omega);have aq:w6.cell? (ag Cb 1)=some (az c ch1.length v)/\w6.cell? (ag W.heap.size 0)=some (au x)/\w6.cell? (ag W.heap.size 1)=some (ae nn):=
     ⟨f1,(dC (a:=(ag W.heap.size 0)) bY).trans ap.2.1,(dC (a:=(ag W.heap.size 1)) bY).trans ap.2.2⟩
    have K:iW (w6.setCell (ag c i) (.slice r (d.length+1) l)) base Cb (az c ch1.length v) ((uh ch1 i 0).set i (r,d++[(x,nn)],l)) N wk:=by
     have:=E.LD (iL (aY _) y).symm i (r,d++[(x,nn)],l);unfold dU at this;rw[aI]at this;exact this
    have bV:(w6.setCell (ag c i) (.slice r (d.length+1) l)).cell? (ag Cb 1)=some (az c ch1.length v)/\(w6.setCell (ag c i) (.slice r (d.length+1) l)).cell? (ag W.heap.size 0)=some (au x)/\(w6.setCell (ag c i) (.slice r (d.length+1) l)).cell? (ag W.heap.size 1)=some (ae nn):=
     ⟨K.cell.2.1,(dC (a:=(ag W.heap.size 0)) (aC (fun e=>ar e.symm))).trans aq.2.1,(dC (a:=(ag W.heap.size 1)) (aC (fun e=>ar e.symm))).trans aq.2.2⟩
    have dF:(i:Int)<(ch1.length:Int):=aa;generalize((uh ch1 i 0).map dU)[i]=dR at*;go_wp2
    go_hide hQ
    go_region_held3 (fun w'=>w'.cell? (ag Cb 1)=some (az c ch1.length v)/\w'.cell? (ag W.heap.size 0)=some (au x)/\w'.cell? (ag W.heap.size 1)=some (ae nn))
     (first|(with_reducible exact a6)|(with_reducible exact bT)|(with_reducible exact ap)|(with_reducible exact aq)|(with_reducible exact bV)|go_keep)
     ((refine gH rfl (.tmp 73) (.tmp 75) rfl a0 (by simp[Act.eval]) (by simp[Act.eval]) ?_;try simp only[Act.put,zo,oF,nW]))
    all_goals subst hQ
    clear bV;generalize ci:w6.setCell (ag c i) (.slice r (d.length+1) l)=br at K |-;have Q:=K.Br (N+1);obtain⟨db,dc,dd,de⟩:=K.cell;have cR:=K.frozen 2;obtain⟨t0,t1,t2,t3⟩:=Q.cell;have cS:=Q.frozen 3;have b4:((uh ch1 i 0).set i (r,d++[(x,nn)],l)).length=ch1.length:=by rw[kJ,iL (aY _) y]
    have bg:=Q.row;rw[b4]at bg;have bs:=bg.cellAt i aa;have a9:(((uh ch1 i 0).set i (r,d++[(x,nn)],l)).map dU)[i]? =some (.slice r (d.length+1) l):=by
     rw[iB,uj (by rw[iL (aY _) y];omega)];simp[dU]
    rw[a9]at bs;have F:=(Q.QD (wrap64 (wk+((d.length:Int)+1)))).drew;have ak:=af F;clear F;have dr:(-9223372036854775808:Int)<=N+1/\N+1<=9223372036854775807:=aa;have aW:=af ci;clear ci;clear f0 f1 f2 f3 ck bR a6 bT ap aq a0;have di:=af bs;have cw:=af a9;have cB:=af bS;have a8:f=some c\/W.heap.size<=c:=by
     rcases aR.o with h9|⟨b,h9,cU⟩
     .exact .inl h9.symm
     .simp only[Value.ownBlock,jl]at h9;exact .inr aa
    have aT:Hid (ay (fun k=>k=Cb\/f=some k) W w6):=((S.o.grown (qR w4 (.cells #[au x,ae nn] 204) none) aA).drew).grown aE (fun b n=>.inr (by have:=(A b n).1;omega));have aS:=af E;clear a9;go_wp2;go_region;have cy:Hid (ay (fun k=>k=Cb\/some c=some k) w6 ((br.setCell (ag Cb 2) (.int .i64 (N+1))).setCell (ag Cb 3) (.int .i64 (wrap64 (wk+((d.length:Int)+1))))).drew):=by
     rw[<-aW.o];exact((((ay.refl _ w6).set _ (.inl (.inr rfl))).set _ (.inl (.inl rfl))).set _ (.inl (.inl rfl))).drew
    have bC:Hid (ay (fun k=>k=Cb\/f=some k) W ((br.setCell (ag Cb 2) (.int .i64 (N+1))).setCell (ag Cb 3) (.int .i64 (wrap64 (wk+((d.length:Int)+1))))).drew):=by
     rw[<-aW.o];exact(((aT.o.set _ (by rcases a8 with h9|h9;exact .inl (.inr h9);exact .inr h9)).set _ (.inl (.inl rfl))).set _ (.inl (.inl rfl))).drew
    have F:=ak.o;clear bs ak db dc dd de t0 t1 t2 t3 cR cS K Q aW;generalize c9:((br.setCell (ag Cb 2) (.int .i64 (N+1))).setCell (ag Cb 3) (.int .i64 (wrap64 (wk+((d.length:Int)+1))))).drew=cl at*;obtain⟨u0,u1,u2,u3⟩:=F.cell;have bh:=F.row;rw[b4]at bh;have dg:=bh.cellAt i aa;rw[cw.o]at dg;have a5:=cB.o.kept (aS.o.fe rfl cy.o);have cj:=bC.o.size;have co:=BL r (d++[(x,nn)]) (d.length+1) l cl aI a5.Nv aa;have ak:=af F;have cC:=af a5;clear c9 aM bg bh F a5 bS
    go_wp2_with fail
    refine co.mono ?_;rintro e aO ⟨bo,rfl,cd,aw⟩;go_wp2;go_ret2;have bG:ay (fun k=>k=Cb\/f=some k) W aO:=bC.o.below aw;have b6:=H.o.fe C.o bG;refine⟨i,bo,az c ch1.length v,(uh ch1 i 0).set i (r,d++[(x,nn)],l),_,rfl,hi,T.o,M.o,ak.o.below aw,?_,?_,?_,?_,?_,?_,?_⟩
    .have cc:∀b,b<cl.heap.size->bo.ownBlock≠some b:=fun b n e=>by have:=(cd.lt b e).1;omega
     have b1:∀a1:World,(∀(b:Nat) J fr,aO.heap[b]? =some (Obj.cells J 204 fr)->bo.ownBlock≠some b->a1.heap[b]? =aO.heap[b]?)->jX a1 ((uh ch1 i 0).set i (r,d++[(x,nn)],l)):=by
      intro a1 Y h ba;rcases Aa al.o ba with rfl|rfl|h1
      .exact⟨cC.o.kept fun b J fr n=>(Y b J fr ((aP aw n).trans n) (cc b (aZ.1 n).1)).trans (aP aw n),by show(d++[(x,nn)]).length<=l;omega⟩
      .exact⟨.inl rfl,aB _⟩
      .exact⟨(aV.o h h1).1.kept fun b J fr n=>(Y b J fr ((b6 b J fr n).trans n) (cc b (bX (aZ.1 n).1 cj))).trans (b6 b J fr n),(aV.o h h1).2⟩
     exact⟨b1 aO (fun _ _ _ _ _=>rfl),b1⟩
    .exact Gh al.o _ (x,nn) (by show d++[(x,nn)]=_;rw[a4])
    .rw[a4,aI];exact bI cd cj
    .rcases aR.o with h9|h9
     .exact .inl (h9.trans C.o)
     .exact .inr h9
    .exact bG.mono fun k q=>q.imp id fun h9=>C.o▸h9
    .intro h ba;rcases Aa al.o ba with rfl|rfl|h1
     .exact .inr cp.o
     .exact .inr fun a a7=>by cases a7
     .exact .inl h1
    .rw[a4]
end
section
open Go.RowKit Go.Maps
section
variable {W:World} {base Cb:Nat} {cv:Value} {ch:List lH} {N wk:Int}
theorem BN (h:iW W base Cb cv ch N wk) (f:ch.length<=1000000):aK 209 #[aj Cb] W (gm W (ae ch.length)):=by
 have b:=af (sI h);have H:=af h;obtain⟨av,d,rfl,-,-,-⟩:=Rd.aD (enc:=dU) H.o.row;go_enter func209,ntmps209
 go_wp2_with fail
 refine b.o.mono ?_;rintro e w2 ⟨rfl,a⟩;obtain⟨-,c,-⟩:=(H.o.below a).cell;go_wp2;go_ret;exact⟨rfl,a⟩
theorem QW (h:iW W base Cb cv ch N wk):aK 137 #[aj Cb] W (gm W (ae N)):=by
 have b:=af (sI h);have H:=af h;go_enter func137,ntmps137
 go_wp2_with fail
 refine b.o.mono ?_;rintro e w2 ⟨rfl,a⟩;obtain⟨-,-,c,-⟩:=(H.o.below a).cell;go_wp2;go_ret;exact⟨rfl,a⟩
theorem BO (h:iW W base Cb cv ch N wk) (t:jX W ch) (B:ch.length<=1000000) (i:Nat) (hi:i<ch.length) (j:ch[i].2.1.length<=1000000):aK 210 #[aj Cb,ae i] W fun e w'=>
  ∃v,e=.returned v/\w'.ownsRow W.heap.size 204 2 v ch[i].2.1.length (ch[i].2.1.flatMap iM)/\Below W.heap.size W w':=by
 have m:=af (sI h);have H:=af h;obtain⟨av,w,rfl,-,-,-⟩:=Rd.aD (enc:=dU) H.o.row;obtain⟨g,x,c,y,z,-,-⟩:=aU H.o.row aa;injection c with c _ q;subst c q;have f:=af (fun W' (d:Below W.heap.size W W')=>(t _ (bF hi)).1.Nv.below d);have b:=af (fun W' (d:Below W.heap.size W W')=>(show W'.cell? (ag g i)=some (dU ch[i]) by
  have:=((H.o.below d).row).cellAt i aa;rw[iB,bZ hi]at this;exact this))
 unfold dU at b;have A:(i:Int)<(ch.length:Int):=aa;generalize ch[i]=hd at*;have⟨n,k,p⟩:=hd;simp only at f b j |-;have d1:decide ((i:Int)<0)=false:=aA;go_enter func210,ntmps210
 go_wp2_with fail
 refine m.o.mono ?_;rintro e w2 ⟨rfl,a⟩;obtain⟨-,u,-⟩:=(H.o.below a).cell;have D:=b.o w2 a;have l:=af (BL n k k.length p w2 rfl (f.o w2 a) j)
 go_wp2_with fail
 refine l.o.mono ?_;rintro e w3 ⟨C,rfl,s,r⟩;have HO:=af (bI s a.size);go_wp2;go_ret;exact⟨_,rfl,HO.o,a.trans (r.mono a.size)⟩
end
structure dN (W:World) (base A Cb:Nat) (bv pv lv cv:Value) (bh ch:List lH) (al:List Bool) (pl:List Int) (n N wk:Int):Prop where
 hb:base<=A
 blk:W.heap[A]? =some (Obj.cells #[aj Cb,bv,pv,lv,ae n] 207 (0,0))
 fM:iW W base Cb cv ch N wk
 gL:W.ownsRow base 209 1 bv bh.length (bh.map dU)
 iD:W.ownsRow base 3 1 pv pl.length (pl.map (Value.int .i64))
 dK:W.ownsRow base 4 1 lv al.length (al.map Value.bool)
 bE:jX W bh
 cE:jX W ch
 sep:bv.ownBlock=none\/bv.ownBlock≠cv.ownBlock
section
variable {W:World} {base A Cb:Nat} {bv pv lv cv:Value} {bh ch:List lH} {al:List Bool} {pl:List Int} {n N wk:Int}
theorem dN.cell (h:dN W base A Cb bv pv lv cv bh ch al pl n N wk):
  W.cell? (ag A 0)=some (aj Cb)/\W.cell? (ag A 1)=some bv/\W.cell? (ag A 2)=some pv/\W.cell? (ag A 3)=some lv/\W.cell? (ag A 4)=some (ae n):=by
 have:=h.blk;refine⟨?_,?_,?_,?_,?_⟩<;>simp[World.cell?,this]
theorem dN.frozen (h:dN W base A Cb bv pv lv cv bh ch al pl n N wk) (j:Nat):W.frozen? (ag A j)=false:=by
 have:=h.blk;simp[World.frozen?,this]
theorem dN.lt (h:dN W base A Cb bv pv lv cv bh ch al pl n N wk):A<W.heap.size:=(aZ.1 h.blk).1
theorem dN.below {W':World} (h:dN W base A Cb bv pv lv cv bh ch al pl n N wk) (hb:Below W.heap.size W W'):dN W' base A Cb bv pv lv cv bh ch al pl n N wk:=
 ⟨h.hb,(aP hb h.blk).trans h.blk,h.fM.below hb,ak h.gL hb,ak h.iD hb,ak h.dK hb,h.bE.kept fun b c fr a=>aP hb a,h.cE.kept fun b c fr a=>aP hb a,h.sep⟩
theorem DR (h:dN W base A Cb bv pv lv cv bh ch al pl n N wk):aK 130 #[aj A] W (gm W (.bool false)):=by
 obtain⟨a,-⟩:=h.cell;go_enter func130,ntmps130;go_wp2;go_ret;exact⟨rfl,aJ _ _⟩
end
def gQ (ES:List iX) (al:List Bool) (pl:List Int) (id p:Int):Prop:=∃k:Nat,(id,(k:Int))∈ES/\al[k]? =some true/\pl[k]? =some p
def DT (NB CB:List (List iX)):Prop:=NB.length=CB.length/\∀(i:Nat) (h:i<NB.length) (h':i<CB.length),NB[i].Perm CB[i]
structure wZ (CB NB:List (List iX)) (al:List Bool) (pl:List Int) (n N:Int):Prop where
 len:al.length=pl.length
 sorted:∀l∈NB,l.Pairwise fun p q=>p.1<=q.1
 perm:DT NB CB
 ids:(CB.flatten.map (·.1)).Nodup
 ui:∀x∈CB.flatten,∃k:Nat,x.2=k/\k<al.length
 w9:(CB.flatten.map (·.2)).Nodup
 live:∀k:Nat,al[k]? =some true->∃x∈CB.flatten,x.2=k
 cnt:n=(al.count true:Nat)
 stored:N=(CB.flatten.length:Nat)
 bound:al.length<=5000
 small:CB.flatten.length<=5000
 size:∀(i:Nat) (h:i<CB.length),CB[i].length=0\/CB[i].length=2^i
 last:∀(i:Nat) (h:i<CB.length),i+1=CB.length->CB[i]≠[]
structure o6 (CB NB:List (List iX)) (al:List Bool) (pl:List Int) (n N:Int):Prop extends wZ CB NB al pl n N where
 most:N<=2*n
theorem mE {L:List iX} (h:(L.map (·.1)).Nodup) {x y:iX} (b:x∈L) (c:y∈L) (e:x.1=y.1):x=y:=by
 have a:L.Pairwise fun p q=>p.1≠q.1:=dx.1 h;rcases eD a b c with h1|h1|h1
 .exact h1
 .exact absurd e h1
 .exact absurd e.symm h1
theorem fU {NB CB:List (List iX)} (h:DT NB CB) (x:iX):x∈NB.flatten↔x∈CB.flatten:=by
 simp only[pK];constructor
 .rintro⟨l,b,c⟩;obtain⟨i,hi,rfl⟩:=jk b;have a:i<CB.length:=by rw[<-h.1];exact hi
  exact⟨CB[i],bF a,(h.2 i hi a).mem_iff.1 c⟩
 .rintro⟨l,b,c⟩;obtain⟨i,a,rfl⟩:=jk b;have hi:i<NB.length:=by rw[h.1];exact a
  exact⟨NB[i],bF hi,(h.2 i hi a).mem_iff.2 c⟩
def UL (NB CB:List (List iX)) (al:List Bool) (pl:List Int) (id:Int) (W:World) (e:Ending) (w':World):Prop:=
 ∃t:Nat,t<=Da NB/\((∃p,gQ CB.flatten al pl id p/\e=.returned (.tuple #[ae p,.bool true,ae t]))\/((∀p,¬gQ CB.flatten al pl id p)/\e=.returned (.tuple #[ae 0,.bool false,ae t])))/\Below W.heap.size W w'
section
variable {W:World} {base A Cb:Nat} {bv pv lv cv:Value} {bh ch:List lH} {al:List Bool} {pl:List Int} {n N wk:Int}
theorem QX (h:dN W base A Cb bv pv lv cv bh ch al pl n N wk) (v:o6 (ch.map (·.2.1)) (bh.map (·.2.1)) al pl n N) (J:bh.length<=1000) (Q:∀l∈bh.map (·.2.1),l.length<=10000) (id:Int):
  aK 72 #[aj A,au id] W (UL (bh.map (·.2.1)) (ch.map (·.2.1)) al pl id W):=by
 have x:=af (DR h);have H:=af h;have C:=af (fun W' (s:Below W.heap.size W W')=>o5 A id W' _ bh bv base ((h.below s).cell.2.1) (h.below s).gL rfl (h.below s).bE v.sorted (aQ J) Q);have a:=af v;clear h v Q;go_enter func72,ntmps72
 go_wp2_with fail
 refine x.o.mono ?_;rintro e w2 ⟨rfl,g⟩
 go_wp2_with fail
 refine(C.o w2 g).mono ?_;rintro e w3 ⟨k,t,rfl,ht,Y,I⟩;have b:=g.trans (I.mono g.size);obtain⟨-,-,ag,ah,-⟩:=(H.o.below b).cell;rcases Y with⟨y,c,rfl,rfl⟩|⟨rfl,L⟩
 .rw[fU a.o.perm]at c;obtain⟨m,d,f⟩:=a.o.ui y c;have u:m<pl.length:=by rw[<-a.o.len];exact f
  obtain⟨ac,ad,rfl,-,-,O⟩:=Rd.aD (H.o.below b).dK;obtain⟨ar,av,rfl,-,-,P⟩:=Rd.aD (H.o.below b).iD;obtain⟨ab,ae,D,-,G⟩:=O.get aa;obtain⟨aq,aw,E,-,M⟩:=P.get aa;have ay:=G m f;have az:=M m u;have i:Hid (al[m]=true->∃p,gQ (ch.map (·.2.1)).flatten al pl y.1 p/\p=pl[m]):=fun r=>⟨pl[m],⟨m,by rw[<-d];exact c,by rw[bZ f,r],by rw[bZ u]⟩,rfl⟩;have j:Hid (al[m]=false->∀p,¬gQ (ch.map (·.2.1)).flatten al pl y.1 p):=fun r p ⟨w,q,F,ak⟩=>by
   have U:=a.o.ids;have V:y=(y.1,(w:Int)):=mE U c q rfl;have X:m=w:=by have:=congrArg Prod.snd V;rw[d]at this;simp only at this;omega
   subst X;rw[bZ f,r]at F;cases F
  have z:=af D;have B:=af E;rw[d];clear G M O P D E;generalize al[m]=T at*;generalize pl[m]=ax at*;obtain rfl:=z.o;obtain rfl:=B.o;clear z B;have am:(m:Int)<(al.length:Int):=aa;have an:(m:Int)<(pl.length:Int):=aa;have ao:(m:Int)<9223372036854775807:=by have:=a.o.bound;omega
  cases T
  .have Z:=af (j.o rfl);clear j i d c;go_wp2;go_ret3;exact⟨t,ht,.inr ⟨Z.o,rfl⟩,b⟩
  .obtain⟨ap,K,rfl⟩:=i.o rfl;have R:=af K;clear j i d c K C x a J f u g I H;have ai:decide ((m:Int)<0)=false:=aA;go_wp2;go_ret3;exact⟨t,ht,.inl ⟨_,R.o,rfl⟩,b⟩
 .have S:Hid (∀p,¬gQ (ch.map (·.2.1)).flatten al pl id p):=fun p ⟨w,q,_⟩=>L _ ((fU a.o.perm _).2 q) rfl;clear L;go_wp2;go_ret3;exact⟨t,ht,.inr ⟨S.o,rfl⟩,b⟩
end
theorem Mc (W:World):dN ((W.alloc (.cells #[.bool true,aL,ae 0,ae 0] 290)).alloc (.cells #[aj W.heap.size,aL,aL,aL,ae 0] 207)) W.heap.size (W.heap.size+1) W.heap.size (aL) (aL) (aL) (aL) [] [] [] [] 0 0 0 where
 hb:=Nat.le_succ _
 blk:=by
  have:=uJ (W.alloc (.cells #[.bool true,aL,ae 0,ae 0] 290)) (.cells #[aj W.heap.size,aL,aL,aL,ae 0] 207);rw[show(W.alloc (.cells #[.bool true,aL,ae 0,ae 0] 290)).heap.size=W.heap.size+1 by simp]at this;exact this
 fM:=⟨aB _,UK,by
  have b:=uJ W (.cells #[.bool true,aL,ae 0,ae 0] 290);exact(bR _ _ _ aA).trans b,dA _ _ _ _⟩
 gL:=dA _ _ _ _
 iD:=dA _ _ _ _
 dK:=dA _ _ _ _
 bE:=fun h a=>by cases a
 cE:=fun h a=>by cases a
 sep:=.inl rfl
theorem Ox:o6 [] [] [] [] 0 0 where
 len:=rfl
 sorted:=fun l b=>by cases b
 perm:=⟨rfl,fun i h=>by cases h⟩
 ids:=pR
 ui:=fun x c=>by cases c
 w9:=pR
 live:=fun k a=>by cases a
 cnt:=rfl
 stored:=rfl
 most:=ai
 bound:=aY _
 small:=aY _
 size:=fun i h=>by cases h
 last:=fun i h=>by cases h
theorem Ti (W:World):aK 54 #[] W fun e w'=>e=.returned (aj (W.heap.size+1))/\dN w' W.heap.size (W.heap.size+1) W.heap.size (aL) (aL) (aL) (aL) [] [] [] [] 0 0 0/\Below W.heap.size W w':=by
 have H:=af (Mc W);have a:Hid (Below W.heap.size W ((W.alloc (.cells #[.bool true,aL,ae 0,ae 0] 290)).alloc (.cells #[aj W.heap.size,aL,aL,aL,ae 0] 207))):=((aJ _ _).alloc (aB _) _).alloc aA _;go_enter func54,ntmps54;go_wp2;go_ret;exact⟨rfl,H.o,a.o⟩
end
section
open Go.RowKit Go.Maps
attribute [local irreducible] wpQuiet
section
variable {W:World} {base A Cb:Nat} {bv pv lv cv:Value} {bh ch:List lH} {al:List Bool} {pl:List Int} {n N wk:Int}
theorem dN.Tj (h:dN W base A Cb bv pv lv cv bh ch al pl n N wk) (n':Int):dN (W.setCell (ag A 4) (.int .i64 n')) base A Cb bv pv lv cv bh ch al pl n' N wk where
 hb:=h.hb
 blk:=by rw[di W A 4 _ _ _ h.blk];rfl
 fM:=⟨h.fM.hb,h.fM.ds,(aC (dW h.blk h.fM.blk ai)).trans h.fM.blk,aX h.fM.row fun a e=>aC (bn h.fM.row h.blk ai a e)⟩
 gL:=aX h.gL fun a e=>aC (bn h.gL h.blk ai a e)
 iD:=aX h.iD fun a e=>aC (bn h.iD h.blk ai a e)
 dK:=aX h.dK fun a e=>aC (bn h.dK h.blk ai a e)
 bE:=h.bE.kept fun b d fr c=>aC (dW h.blk c ai)
 cE:=h.cE.kept fun b d fr c=>aC (dW h.blk c ai)
 sep:=h.sep
theorem Ae {e:TypeId} {sz k g c:Nat} {xs:List Value} (h:W.ownsRow base e sz (az g k c) k xs):∃b,W.heap[g]? =some (Obj.cells b e (0,0)):=by
 rcases h.2 with⟨a,_⟩|⟨i,f,b,a,_,d,_⟩
 .cases a
 .injection a with a;injection a with a;injection a with a _ _;subst a;exact⟨b,d⟩
theorem dN.Tk {g k f:Nat} (h:dN W base A Cb bv pv (az g k f) cv bh ch al pl n N wk) (d:k=al.length) (m:Nat) (b:Bool):dN (W.setCell (ag g m) (.bool b)) base A Cb bv pv (az g k f) cv bh ch (al.set m b) pl n N wk:=by
 subst d;have⟨i,a⟩:=Ae h.dK;refine⟨h.hb,(aC (dW a h.blk ai)).trans h.blk,⟨h.fM.hb,h.fM.ds,(aC (dW a h.fM.blk ai)).trans h.fM.blk,aX h.fM.row fun c e=>aC (bn h.fM.row a ai c e)⟩,
  aX h.gL fun c e=>aC (bn h.gL a ai c e),aX h.iD fun c e=>aC (bn h.iD a ai c e),?_,
  h.bE.kept fun b i fr d=>aC (dW a d ai),h.cE.kept fun b i fr d=>aC (dW a d ai),h.sep⟩
 rw[kJ,kL];exact(h.dK.stored m _).1
theorem dN.VE {g k f:Nat} (h:dN W base A Cb bv (az g k f) lv cv bh ch al pl n N wk) (d:k=pl.length) (m:Nat) (p:Int):dN (W.setCell (ag g m) (.int .i64 p)) base A Cb bv (az g k f) lv cv bh ch al (pl.set m p) n N wk:=by
 subst d;have⟨i,a⟩:=Ae h.iD;refine⟨h.hb,(aC (dW a h.blk ai)).trans h.blk,⟨h.fM.hb,h.fM.ds,(aC (dW a h.fM.blk ai)).trans h.fM.blk,aX h.fM.row fun c e=>aC (bn h.fM.row a ai c e)⟩,
  aX h.gL fun c e=>aC (bn h.gL a ai c e),?_,aX h.dK fun c e=>aC (bn h.dK a ai c e),
  h.bE.kept fun b i fr d=>aC (dW a d ai),h.cE.kept fun b i fr d=>aC (dW a d ai),h.sep⟩
 rw[kJ,kL];exact(h.iD.stored m _).1
theorem Fa (h:dN W base A Cb bv pv lv cv bh ch al pl n N wk) (g:o6 (ch.map (·.2.1)) (bh.map (·.2.1)) al pl n N) (F:bh.length<=1000) (L:∀l∈bh.map (·.2.1),l.length<=10000) (id p M:Int) (G:gQ (ch.map (·.2.1)).flatten al pl id M):
  aK 56 #[aj A,au id,ae p] W (gm W (ae 2)):=by
 have j:=af (DR h);have H:=af h;have r:=af (fun W' (c:Below W.heap.size W W')=>o5 A id W' _ bh bv base ((h.below c).cell.2.1) (h.below c).gL rfl (h.below c).bE g.sorted (aQ F) L);have b:=af g;have s:=af G;go_enter func56,ntmps56
 go_wp2_with fail
 refine j.o.mono ?_;rintro e w2 ⟨rfl,d⟩
 go_wp2_with fail
 refine(r.o w2 d).mono ?_;rintro e w3 ⟨k,t,rfl,ht,D,C⟩;have a:=d.trans (C.mono d.size);have⟨m,f,z,X⟩:=s.o;obtain⟨-,-,T,U,-⟩:=(H.o.below a).cell;have E:k=(m:Int):=by
  rcases D with⟨y,i,v,w⟩|⟨-,J⟩
  .rw[fU b.o.perm]at i;have:=mE b.o.ids i f (aQ v);rw[<-w,this]
  .exact absurd rfl (J _ ((fU b.o.perm _).2 f))
 subst E;have⟨I,B⟩:=fq.1 z;obtain⟨Q,R,rfl,-,-,K⟩:=Rd.aD (H.o.below a).dK;obtain⟨P,S,u,-,x⟩:=K.get aa;have O:=x m I;rw[B]at O;have V:(m:Int)<(al.length:Int):=aa;have q:=af u;obtain rfl:=q.o;go_wp2;go_ret;exact⟨rfl,a⟩
theorem Fb (h:dN W base A Cb bv pv lv cv bh ch al pl n N wk) (z:o6 (ch.map (·.2.1)) (bh.map (·.2.1)) al pl n N) (U:bh.length<=1000) (ab:∀l∈bh.map (·.2.1),l.length<=10000) (id p:Int) (m:Nat) (w:(id,(m:Int))∈(ch.map (·.2.1)).flatten) (g:al[m]? =some false) (aB:0<=n/\n<=100000):
  aK 56 #[aj A,au id,ae p] W fun e w'=>e=.returned (ae 0)/\dN w' base A Cb bv pv lv cv bh ch (al.set m true) (pl.set m p) (n+1) N wk/\ay (fun k=>k=A\/pv.ownBlock=some k\/lv.ownBlock=some k) W w':=by
 have F:=af (DR h);have H:=af h;have G:=af (fun W' (d:Below W.heap.size W W')=>o5 A id W' _ bh bv base ((h.below d).cell.2.1) (h.below d).gL rfl (h.below d).bE z.sorted (aQ U) ab);have c:=af z;go_enter func56,ntmps56
 go_wp2_with fail
 refine F.o.mono ?_;rintro e w2 ⟨rfl,f⟩
 go_wp2_with fail
 refine(G.o w2 f).mono ?_;rintro e w3 ⟨k,t,rfl,ht,S,R⟩;have r:=f.trans (R.mono f.size);have a:=af (H.o.below r);have⟨ad,ah,ai,ak,am⟩:=a.o.cell;have T:k=(m:Int):=by
  rcases S with⟨y,B,P,Q⟩|⟨-,X⟩
  .rw[fU c.o.perm]at B;have:=mE c.o.ids B w (aQ P);rw[<-Q,this]
  .exact absurd rfl (X _ ((fU c.o.perm _).2 w))
 subst T;have⟨V,ap⟩:=fq.1 g;have x:m<pl.length:=by rw[<-c.o.len];exact V
 obtain⟨u,L,M,aq,ar,-,-⟩:=aU a.o.dK aa;obtain⟨v,ac,O,av,aw,-,-⟩:=aU a.o.iD aa;subst M O;have C:=a.o.dK.cellAt m aa;have E:=a.o.iD.cellAt m aa;rw[iB,g]at C;rw[iB,bZ x]at E;simp only[fQ]at C E;have f4:=a.o.frozen 4;have ax:(m:Int)<(al.length:Int):=aa;have aA:(m:Int)<(pl.length:Int):=aa;have b:=a.o.Tj (n+1);have⟨d0,d1,d2,d3,d4⟩:=b.cell;have D:=b.dK.cellAt m aa;have i:=b.iD.cellAt m aa;rw[iB,g]at D;rw[iB]at i;have an:=b.dK.frozenAt m;have K:=(b.Tk rfl m true).VE rfl m p;have s:=b.Tk rfl m true;have j:=s.iD.cellAt m aa;rw[iB]at j;have ao:=s.iD.frozenAt m;have Y:∃q,pl[m]? =some q:=⟨pl[m],bZ x⟩;have⟨aC,Z⟩:=Y;rw[Z]at i j;simp only[fQ]at D i j;have J:=af K;have I:Hid (ay (fun k=>k=A\/Value.ownBlock (az v pl.length ac)=some k\/Value.ownBlock (az u al.length L)=some k) W (((w3.setCell (ag A 4) (.int .i64 (n+1))).setCell (ag u m) (.bool true)).setCell (ag v m) (.int .i64 p)).drew):=
  ((((ay.refl _ W).below r).set _ (.inl (.inl rfl))).set _ (.inl (.inr (.inr rfl)))).set _ (.inl (.inr (.inl rfl)))|>.drew
 go_wp2;go_region
 all_goals
  go_wp2;go_ret;exact⟨rfl,J.o.below (aJ _ _).drew,I.o⟩
end
end
section
open Go.RowKit Go.Maps
def dF (al:List Bool) (x:iX):Bool:=al[x.2.toNat]? ==some true
theorem qE (i:Nat) (hi:i<14):0<2^i/\2^i<=8192:=⟨Nat.vL i,Aq ai (by omega:i<=13)⟩
where Nat.vL (i:Nat):0<2^i:=qa ai
theorem Oy (i:Nat) (hi:i<14):wrap64 ((2:Int)^i)=((2^i:Nat):Int):=by
 have h:=qE i hi;rw[show((2:Int)^i)=((2^i:Nat):Int) by rw[Int.natCast_pow];rfl];generalize 2^i=p at*;unfold wrap64;omega
theorem Sd (n i:Nat) (hi:i<14) (f:n<=10000):bits .and .i64 (n:Int) ((2^i:Nat):Int)=(if n.testBit i then((2^i:Nat):Int)else 0):=by
 have h:=qE i hi;have b:(BitVec.ofInt 64 (n:Int)).toNat=n:=by
  rw[BitVec.ofInt_natCast,BitVec.toNat_ofNat];exact EB aa
 have c:(BitVec.ofInt 64 ((2^i:Nat):Int)).toNat=2^i:=by
  rw[BitVec.ofInt_natCast,BitVec.toNat_ofNat];exact EB aa
 show IntKind.i64.wrap ((BitVec.ofInt 64 (n:Int) &&& BitVec.ofInt 64 ((2^i:Nat):Int)).toNat:Int)=_;have d:n &&& 2^i=if n.testBit i then 2^i else 0:=by
  apply Nat.eq_of_testBit_eq;intro j;rw[Nat.testBit_and,Nat.testBit_two_pow];by_cases a:i=j
  .subst a;cases e:n.testBit i<;>simp[]
  .cases e:n.testBit i<;>simp[a]
 rw[BitVec.toNat_and,b,c,d];generalize 2^i=p at*;cases n.testBit i<;>simp[IntKind.wrap,IntKind.bits,IntKind.signed];omega
theorem GD (n i:Nat):(n.testBit i=true->n%2^(i+1)=n%2^i+2^i)/\(n.testBit i=false->n%2^(i+1)=n%2^i):=by
 rw[Nat.testBit_eq_decide_div_mod_eq,Nat.mod_pow_succ];have a:n/2^i%2=0\/n/2^i%2=1:=aa;generalize n/2^i%2=b at*;rcases a with rfl|rfl<;>simp
section
variable {P:Program} {ops:Array Oper} {rest:List Oper} {o:Oper} {a:Act} {Q:Exit->Act->World->Prop}
theorem vM {α:Type} {enc:α->List Value} {sz:Nat} {t e:TypeId} {bytes:Nat} (s:eH P t e sz bytes) {W:World} {ad:Option Addr} {l:List α} {c:Nat} (E:bW enc sz W ad l) (w:l.length<=c) (lo hi:Nat) (q:lo<=hi) (u:hi<=l.length)
  (y:o.guard=none) (x:Operand) (n f:Option Operand) (j:o.op=.slice t x n f none) (m:a.eval x=.slice ad l.length c)
  (g:(n.map a.eval).getD (.int .i64 0)=.int .i64 lo) (b:(f.map a.eval).getD (.int .i64 l.length)=.int .i64 hi)
  (h:∀p,(∀W',bW enc sz W' ad l->bW enc sz W' p ((l.take hi).drop lo))->wpList P ops Q rest (a.put o.dst (.slice p (hi-lo) (c-lo))) W):wpList P ops Q (o::rest) a W:=by
 obtain⟨ht,⟨i,z,A,G,C,D,H⟩,F⟩:=s;refine wpList_plain y fun K v=>?_;have d:=v _ _ (h _ (fun W' B=>EP B w lo hi u));have hu:∀W',(underlying t).run P W'=.ok (.slice e) W':=fun W'=>pQ ht W';have k:∀W',(sizeOf e).run P W'=.ok sz W':=fun W'=>by simp[sizeOf,typeInfo,A,C]
 unfold Oper.wp execOp;have r:hi<=c:=aa;rcases n with _|lw
 .simp only[lK,mR,pM,qd]at g;obtain rfl:lo=0:=aa;rcases f with _|hg
  .simp only[lK,mR,pM,qd]at b;obtain rfl:hi=l.length:=aa;simp only[j,m,lK,Instr.sliceAt,Instr.slice,Instr.sliceBounds,yh,hu,k,xX,yj];exact d
  .simp only[fQ,gI]at b;simp[j,m,b,Instr.sliceAt,Instr.slice,Instr.sliceBounds,Instr.sliceBound,hu,k,asIntOf,r];simp only[Nat.zero_mul,Nat.sub_zero]at d;exact d
 .simp only[fQ,gI]at g;rcases f with _|hg
  .simp only[lK,mR,pM,qd]at b;obtain rfl:hi=l.length:=aa;simp[j,m,g,Instr.sliceAt,Instr.slice,Instr.sliceBounds,Instr.sliceBound,hu,k,asIntOf,q];exact d
  .simp only[fQ,gI]at b;simp[j,m,g,b,Instr.sliceAt,Instr.slice,Instr.sliceBounds,Instr.sliceBound,hu,k,asIntOf,q,r];exact d
end
end
section
open Go.RowKit Go.Maps
attribute [local irreducible] wpQuiet
def VF (W:World) (base Cb:Nat) (wk:Int) (l:List iX) (e:Ending) (w':World):Prop:=
 ∃(CS:Value) (qW:List lH) (Ko:Int),e=.returned (ae l.length)/\iW w' base Cb CS qW l.length Ko/\jX w' qW/\qW.map (·.2.1)=setC (Lib.bitLen l.length) l/\
  (CS.ownBlock=none\/∃b,CS.ownBlock=some b/\W.heap.size<=b)/\ay (fun k=>k=Cb) W w'/\Nw W.heap.size [] qW/\Ko=wrap64 (wk+(l.length:Int))
theorem QY {W:World} {base Cb:Nat} {cv:Value} {ch:List lH} {N wk:Int} (h:iW W base Cb cv ch N wk) (cl:base<=W.heap.size) (a:Option Addr) (l:List iX) (c:Nat) (bb:Ma W a l) (bR:l.length<=c) (aE:l.length<=10000):
  aK 211 #[aj Cb,.slice a l.length c] W (VF W base Cb wk l):=by
 have aS:=af (sI h);have H:=af h;have bJ:=fC aE ai;have bK:Lib.bitLen 10000=14:=ai;rw[bK]at bJ;have aZ:=af bb;have a0:l.length<2^Lib.bitLen l.length:=by
  by_cases a7:l.length=0
  .rw[a7];decide
  .exact(bC _ aa a7).2.2
 have bp:=af a0;clear a0;clear h bb;go_enter func211,ntmps211
 go_wp2_with fail
 refine aS.o.mono ?_;rintro e w2 ⟨rfl,B⟩;have C:=af (H.o.below B);obtain⟨bB,bD,bE,bF⟩:=C.o.cell;have f1:=C.o.frozen 1;have Z:Hid (iW (w2.setCell (ag Cb 1) (aL)) base Cb (aL) [] N wk):=il.LF (ch:=ch) C.o.blk C.o.hb C.o.ds (dA _ _ _ _) (by simp[Value.ownBlock]);obtain⟨d0,d1,d2,d3⟩:=Z.o.cell;have f2:=Z.o.frozen 2;have a3:Hid (iW ((w2.setCell (ag Cb 1) (aL)).setCell (ag Cb 2) (.int .i64 l.length)) base Cb (aL) [] l.length wk):=Z.o.Br _;have a2:Hid (ay (fun k=>k=Cb) W ((w2.setCell (ag Cb 1) (aL)).setCell (ag Cb 2) (.int .i64 l.length))):=(((ay.refl (fun k=>k=Cb) W).below B).set (a:=(ag Cb 1)) _ (.inl rfl)).set (a:=(ag Cb 2)) _ (.inl rfl);have cj:=H.o.lt;clear aS
 go_upto_block 0 with fail
 go_cut []from 19 to 33 (fun w=>∃v,Hid (iW w base Cb v (List.replicate (Lib.bitLen l.length) fJ) l.length wk)/\Hid (v.ownBlock=none\/∃b,v.ownBlock=some b/\W.heap.size<=b)/\Hid (ay (fun k=>k=Cb) W w))
 case first=>
  go_wp2_with fail
  generalize((w2.setCell (ag Cb 1) (aL)).setCell (ag Cb 2) (.int .i64 l.length))=w3 at*
  go_loopw [5] (fun aM wr=>∃(k m:Nat) (v:Value),aM=.int .i64 m/\m<=10000/\Hid (k+Lib.bitLen m=Lib.bitLen l.length)/\Hid (iW wr base Cb v (List.replicate k fJ) l.length wk)/\Hid (v.ownBlock=none\/∃b,v.ownBlock=some b/\W.heap.size<=b)/\Hid (ay (fun k=>k=Cb) W wr)) (fun aM _=>(intOf aM).toNat)
  case atStart=>exact⟨0,l.length,_,rfl,aE,(by show _=_;omega),a3,.inl rfl,a2⟩
  case round=>
   obtain⟨k,m,v,rfl,bX,aY,f,E,s⟩:=hrel;by_cases zQ:m=0
   .subst zQ;obtain rfl:k=Lib.bitLen l.length:=aY.o
    go_wp2_with fail
    go_meet;exact⟨v,f,E,s⟩
   .have aW:Hid (k+1+Lib.bitLen (m/2)=Lib.bitLen l.length):=by
     have:=Lib.bitLen_half m zQ aa;have:=aY.o;show _=_;omega
    have ah:k+1<=14:=by have:=aW.o;omega
    have J:=f.o.row;rw[iA]at J;have b0:=f.o.ne;have cy:(0:Int)<(m:Int):=aa;obtain⟨aw,ax,aA,aC⟩:=f.o.cell;have bt:Hid (∀w6,wr.grownBy w6 v.ownBlock->w6.heap[Cb]? =some (Obj.cells #[.bool true,v,ae l.length,ae wk] 290 (0,0))):=fun w6 ac=>(ac.block Cb f.o.lt (fun e=>f.o.ne e.symm)).trans f.o.blk
    go_wp2_with (at_builtin;refine cu KA base J [aL] rfl (by simp[Value.oneCell']) rfl _ _ rfl rfl _ rfl dJ aa (by have:=s.o.size;omega) ?_;intro cE w6 bd ac ba;obtain⟨a6,j,rfl,cp,cq,cr,cs⟩:=aU bd aa;have aJ:=bt.o w6 ac;have cC:w6.cell? (ag Cb 1)=some v:=(aF aJ);have cD:w6.frozen? (ag Cb 1)=false:=(aF aJ))
    have ck:=f.o.lt;have b1:w6.ownsRow base 209 1 (az a6 (k+1) j) (List.replicate (k+1) (fJ:lH)).length ((List.replicate (k+1) (fJ:lH)).map dU):=by
     rw[iA,DF,bL];exact bd
    have b2:Value.ownBlock (az a6 (k+1) j)≠some Cb:=by
     rcases ba with h9|h9
     .rw[h9];exact b0
     .rw[h9];simp;omega
    go_roundw
    case rel=>
     refine⟨k+1,m/2,_,by go_num,aa,aW,il.LF (ch:=List.replicate k fJ) aJ f.o.hb f.o.ds b1 b2,?_,(s.o.grown ac ?_).set (a:=(ag Cb 1)) _ (.inl rfl)⟩
     .rcases ba with h9|h9
      .rw[h9];exact E
      .exact .inr ⟨_,h9,by have:=s.o.size;simp;omega⟩
     .intro b i;rcases E.o with h9|⟨b4,h9,Q⟩
      .rw[h9]at i;cases i
      .rw[h9]at i;injection i with i;subst i;exact .inr Q
    case measure=>exact eO
 case rest=>
  obtain⟨v,f,E,s⟩:=hcut;obtain⟨w3,bI⟩:∃w3:World,w3=wc:=⟨_,rfl⟩;subst bI;clear Z a3 a2 bB bD bE bF f1 f2 d0 d1 d2 d3 C B;generalize bM:Lib.bitLen l.length=K at*;obtain⟨x,aG⟩:∃x,x=v.ownBlock:=⟨_,rfl⟩;have a1:Hid (∀W',ay (fun k=>k=Cb\/x=some k) w3 W'->bW iM 2 W' a l):=fun W' R=>((aZ.o.kept (H.o.fe rfl (s.o.mono (fun k h=>.inl h)))).kept (f.o.fe aG R)).Nv;have au:=af aG;clear aG;have ao:=f.o;have bu:Hid (jX w3 (List.replicate K fJ)):=DI _ _;have bq:Hid ((List.replicate K (fJ:lH)).map (·.2.1)=List.replicate K []++[]):=by show _=_;simp
  have bo:Hid (l.length=l.length%2^K):=(EB bp.o).symm;obtain⟨av,P,bh,-,bS,-⟩:=Rd.aD (enc:=dU) ao.row;rw[iA]at bh bS;subst bh;obtain⟨b7,b8,b9,ca⟩:=ao.cell;clear ao
  go_upto_block 2 with fail
  go_cut []from 35 to 64 (fun w=>∃ch1,Hid (iW w base Cb (.slice av K P) ch1 l.length wk)/\Hid (Nw W.heap.size [] ch1)/\Hid (jX w ch1)/\Hid (ch1.map (·.2.1)=setC K l)/\Hid (ay (fun k=>k=Cb\/x=some k) w3 w))
  case first=>
   go_wp2_with fail
   go_loopw [7,6] (fun aI b3 wr=>∃(m:Nat) (ad:Option Addr) (r:List iX) (y:Nat) (ch1:List lH) (T:List (List iX)),aI=.int .i64 ((m:Int)-1)/\b3=.slice ad r.length y/\m<=K/\r.length<=y/\Hid (r.length=l.length%2^m)/\Hid (∀W',ay (fun k=>k=Cb\/x=some k) w3 W'->bW iM 2 W' ad r)/\
    Hid (iW wr base Cb (.slice av K P) ch1 l.length wk)/\Hid (Nw W.heap.size [] ch1)/\Hid (jX wr ch1)/\Hid (ch1.map (·.2.1)=List.replicate m []++T)/\Hid (setC K l=setC m r++T)/\Hid (ay (fun k=>k=Cb\/x=some k) w3 wr)) (fun aI _ _=>(intOf aI+1).toNat)
   case atStart=>exact⟨K,a,l,c,_,[],by go_num,rfl,aB _,bR,bo,a1,f,Nw.SL,bu,bq,(by show _=_;simp),ay.refl _ _⟩
   case round=>
    obtain⟨m,ad,r,y,ch1,T,rfl,rfl,bX,bg,X,M,q,L,D,A,Y,t⟩:=hrel;rcases nG m with zQ|zQ
    .subst zQ;have cm:¬(0:Int)<=((0:Nat):Int)-1:=aa
     go_wp2_with fail
     go_meet;exact⟨ch1,q,L,D,(by have d:=A.o;have G:=Y.o;show _=_;rw[d,G];rfl),t⟩
    .obtain⟨k,rfl⟩:∃k,m=k+1:=⟨m-1,aa⟩;have ah:k<14:=aa;have ak:=GD l.length k;have cx:r.length<=l.length:=by rw[X.o];exact Nat.mod_le _ _
     have bz:=Oy k ah;have O:=Sd l.length k ah aE;have hp:=qE k ah;have bU:(((k+1:Nat):Int)-1)=(k:Int):=aa;have ct:(0:Int)<=(k:Int):=aa;have aH:ch1.length=K:=by
      have d:=congrArg List.length A.o;have G:=congrArg List.length Y.o;rw[eF,bQ,eF]at G;simp at d;omega
     rw[bU];by_cases i:l.length.testBit k=true
     .rw[i]at O;simp only[gG]at O;have I:=ak.1 i;rw[<-X.o]at I;have al:2^k<=r.length:=aa;have ar:Hid (setC K l=setC k (r.drop (2^k))++r.take (2^k)::T):=by
       have d:=Y.o;rw[setC,aO al,dY]at d;exact d
      have V:Hid (∀hd:lH,hd.2.1=r.take (2^k)->(ch1.set k hd).map (·.2.1)=List.replicate k []++r.take (2^k)::T):=fun hd h9=>by
       rw[kL,A.o,h9,Gi]
      have aq:Hid ((r.drop (2^k)).length=l.length%2^k):=by
       show _=_;rw[mQ];omega
      clear ak i I;generalize S:2^k=p at*;have ap:=af S;clear S;obtain⟨b,off,bH,bP,-⟩:=(M.o wr t.o).get aa;subst bH;obtain⟨g,b5,ab,cn,co,-,-⟩:=aU q.o.row aa;rw[aH]at ab;injection ab with ab _ bG;subst ab bG;obtain⟨aw,ax,aA,aC⟩:=q.o.cell;have U:(r.take p).length=p:=by rw[eQ];omega
      have an:=af (BL (some (ag b off)) (r.take p) p y wr.drew U ((M.o wr.drew t.o.drew).take p) aa);have cA:(0:Int)<=(p:Int)/\(p:Int)<=(r.length:Int):=aa;have cz:(p:Int)<=(y:Int):=aa;have be:((p:Int)!=0)=true:=by simp only[bne_iff_ne,ne_eq];omega
      go_upto_region 14 with fail
      simp only[bz,O,be]
      go_cut []from 52 to 61 (fun w=>∃F,Hid (iW w base Cb (az g K P) F l.length wk)/\Hid (Nw W.heap.size [] F)/\Hid (jX w F)/\Hid (F.map (·.2.1)=List.replicate k []++r.take p::T)/\Hid (ay (fun k=>k=Cb\/x=some k) w3 w))
      case first=>
       have bi:aK 204 #[.slice (some (ag b off)) p y] wr.drew fun e w6=>∃u j z,e=.returned (.slice u p j)/\Hid (p<=j)/\Hid (∀a,u=some a->W.heap.size<=a.block)/\Hid (Ma w6 u (r.take p))/\Hid (iW w6 base Cb (az g K P) ch1 l.length wk)/\Hid (Below wr.drew.heap.size wr.drew w6)/\w6.cell? (ag Cb 1)=some (az g K P)/\w6.cell? (ag g k)=some z/\w6.frozen? (ag g k)=false:=by
        refine an.o.mono ?_;rintro e w6 ⟨cF,rfl,bc,a9⟩;obtain⟨u,j,rfl,cg,a8,bN⟩:=Ma.aD bc;have am:=q.o.drew.below a9;obtain⟨cc,a5,cd,ce⟩:=am.cell;have J:=am.row;rw[aH]at J;have aR:=J.cellAt k aa;have a4:=J.frozenAt k;rw[bZ (show k<(ch1.map dU).length by simp;omega)]at aR;rw[U]at a8;exact⟨u,j,_,by rw[U],a8,(fun a bO=>by have d:=(bc.lt a.block (by rw[bO];rfl)).1;have G:=t.o.size;have cf:=s.o.size;simp at d;omega),bN,am,a9,a5,aR,a4⟩
       clear an;have cw:(k:Int)<(K:Int):=aa
       go_region_with (go_at_call 204;with_reducible refine bi.mono ?_;rintro e w6 ⟨u,j,z,rfl,bm,bj,bx,aV,aT,a5,aR,a4⟩)
       all_goals go_wp2_with fail
       all_goals go_meet
       all_goals
        have bV:Value.slice u p j=dU (u,r.take p,j):=by unfold dU;simp only;rw[U]
        rw[bV];have bT:x=some g:=au.o;exact⟨ch1.set k (u,r.take p,j),aV.o.LD aH.symm k _,L.o.set bj.o,Gj (D.o.kept (W':=w6) fun b b6 fr i=>aP (W:=wr.drew) aT.o i) (aV.o.fe (W':=w6.setCell (ag g k) (dU (u,r.take p,j))) rfl ((ay.refl _ w6).set (a:=(ag g k)) _ (.inl (.inr rfl)))) bx.o (by show(r.take p).length<=j;rw[U];exact bm.o),V.o _ rfl,(((t.o.drew).below aT.o).set (a:=(ag g k)) _ (.inl (.inr bT)))⟩
      case rest=>
       obtain⟨F,bk,bs,bv,br,aX⟩:=hcut;clear an q D A V t aw ax aA aC bP be X
       go_wp2_with (refine vM GA (M.o _ aX.o) bg p r.length al (aB _) rfl _ _ _ rfl rfl rfl rfl ?_;intro bA bf;simp only[jL]at bf)
       go_roundw
       case rel=>exact⟨k,bA,r.drop p,y-p,F,r.take p::T,rfl,(by rw[mQ]),aa,(by rw[mQ];omega),(by rw[ap.o];exact aq),(fun W' R=>bf W' (M.o W' R)),bk,bs,bv,br,ar,aX⟩
       case measure=>simp[intOf]
     .have B:l.length.testBit k=false:=aQ i;rw[B]at O;simp only[jw,qV]at O;have I:=ak.2 B;rw[<-X.o]at I;have al:¬2^k<=r.length:=by have:=qc l.length (qa (n:=k) (show 0<2 by decide));omega
      have ar:Hid (setC K l=setC k r++[]::T):=by
       have d:=Y.o;rw[setC,aN al,dY]at d;exact d
      have V:Hid (ch1.map (·.2.1)=List.replicate k []++[]::T):=by
       have d:=A.o;rw[rA,dY]at d;exact d
      have aq:=af I;clear ak i B I;generalize S:2^k=p at*;have ap:=af S;clear S
      go_wp2_with fail
      go_roundw
      case rel=>exact⟨k,ad,r,y,ch1,[]::T,rfl,rfl,aa,bg,by rw[ap.o];exact aq,M,q,L,D,V,ar,t⟩
      case measure=>simp[intOf]
  case rest=>
   obtain⟨ch1,q,L,D,A,t⟩:=hcut;obtain⟨aw,ax,aA,aC⟩:=q.o.cell;have cb:=q.o.frozen 3;have bl:=af (q.o.QD (wrap64 (wk+(l.length:Int))));have bw:Hid (jX (wc.setCell (ag Cb 3) (.int .i64 (wrap64 (wk+(l.length:Int))))) ch1):=D.o.kept (q.o.fe rfl ((ay.refl _ wc).set (a:=(ag Cb 3)) _ (.inl (.inl rfl))));have bn:Hid (ay (fun k=>k=Cb) W (wc.setCell (ag Cb 3) (.int .i64 (wrap64 (wk+(l.length:Int)))))):=by
    have cB:=s.o.size;have d:ay (fun k=>k=Cb\/W.heap.size<=k) W wc:=(s.o.mono (fun k h=>.inl h)).trans (t.o.mono (fun k h=>h.imp id (fun h9=>by
     rcases E.o with Q|⟨b,Q,ci⟩
     .rw[au.o,Q]at h9;cases h9
     .rw[au.o,Q]at h9;injection h9 with h9;omega)))
    have G:ay (fun k=>k=Cb) W wc:=⟨d.os,d.tape,d.output,d.size,fun k R bY=>d.block k R (fun h9=>by rcases h9 with h9|h9;exact bY h9;omega)⟩;exact G.set (a:=(ag Cb 3)) _ (.inl rfl)
   clear s t a1 f aZ;go_wp2;go_ret;exact⟨_,ch1,_,rfl,bl.o,bw.o,by rw[bM];exact A.o,E.o,bn.o,L.o,rfl⟩
end
section
open Go.RowKit Go.Maps
theorem jB {α:Type} (CB:List (List α)) (i:Nat):(eT CB i).Perm (CB.take i).flatten:=by
 unfold eT;exact(uQ _).flatten
theorem tQ {α:Type} (CB:List (List α)) (i:Nat) (x:α) (f:∀h:i<CB.length,CB[i]=[]):(ky CB i x).flatten.Perm (x::CB.flatten):=by
 have b:(List.replicate i ([]:List α)).flatten=[]:=aA;have c:CB.flatten=(CB.take i).flatten++(CB.drop (i+1)).flatten:=by
  by_cases h:i<CB.length
  .have d:CB=CB.take i++(CB[i]::CB.drop (i+1)):=by rw[<-lU h,jD]
   have a:=congrArg List.flatten d;rw[f h,kX,uP,fP]at a;exact a
  .rw[jK aa,oC aa];simp
 unfold ky;rw[kX,b,fP,uP,c];have e:(eT CB i++[x]).Perm (x::(CB.take i).flatten):=List.perm_append_comm.trans ((jB CB i).cons x);exact e.append_right _
theorem yN {α:Type} (CB:List (List α)) (i:Nat) (hi:i<=CB.length) (h:∀j (a:j<CB.length),j<i->CB[j].length=2^j):(eT CB i).length+1=2^i:=by
 rw[(jB CB i).length_eq]
 induction i with
 |zero=>simp
 |succ k ih=>
  rw[ik aa,kX,bQ];have b:=ih aa (fun j a d=>h j a aa);have c:=h k aa aa;simp only[uP,List.flatten_nil,iO];rw[pY];omega
theorem o7 {α:Type} (CB:List (List α)) (i:Nat) (x:α) (hi:i<=CB.length):(ky CB i x).length=if i<CB.length then CB.length else i+1:=by
 unfold ky;simp;split<;>omega
theorem o8 {α:Type} (CB:List (List α)) (i:Nat) (x:α) (j:Nat) (c:j<(ky CB i x).length):(ky CB i x)[j]=if j<i then[]else if j=i then eT CB i++[x]else CB.getD j []:=by
 have e:(ky CB i x)[j]? =some ((ky CB i x)[j]):=bZ c;generalize(ky CB i x)[j]=X at*;unfold ky at e;by_cases a:j<i
 .rw[aO a];rw[lT (aQ a)]at e;simp[a]at e
  first|exact e|exact e.symm
 .rw[aN a];rw[nD aG,iA]at e;by_cases b:j=i
  .rw[aO b];subst b;rw[iP,fI]at e;injection e with e;exact e.symm
  .rw[aN b];rw[show j-i=(j-i-1)+1 by omega,dz,Ev,show i+1+(j-i-1)=j by omega]at e;rw[jc,e];rfl
theorem xc {l:List Nat} {n:Nat} (h:l.Nodup) (d:∀k∈l,k<n):l.length<=n:=by
 have b:((List.range n).filter fun k=>decide (k∈l)).Nodup:=lV _ List.nodup_range;have c:=(zn h b).2 (fun k=>by
  simp only[bG,uX,dH];exact⟨fun a=>⟨d k a,a⟩,fun a=>a.2⟩)
 rw[c.length_eq];have:=gD (fun k=>decide (k∈l)) (List.range n);simpa using this
theorem jY {f:iX->Int} {l m:List iX} (h:l.Perm m):(l.map f).Nodup↔(m.map f).Nodup:=(h.map f).nodup_iff
theorem Jl (al:List Bool):((List.range al.length).filter fun k=>al[k]? ==some true).length=al.count true:=by
 induction al with
 |nil=>rfl
 |cons b l ih=>
  rw[ed,List.range_succ_eq_map,l5,xZ,List.count_cons,<-ih];have e:((fun k=>(b::l)[k]? ==some true)∘Nat.succ)=fun k=>l[k]? ==some true:=rfl;rw[e];cases b<;>simp
theorem Md {d:List iX} {al:List Bool} (l:∀x∈d,∃k:Nat,x.2=k/\k<al.length) (u:(d.map (·.2)).Nodup) (t:∀k:Nat,al[k]? =some true->∃x∈d,x.2=k):(d.filter (dF al)).length=al.count true:=by
 rw[<-Jl al];have p:((d.filter (dF al)).map fun x=>x.2.toNat).Nodup:=by
  have f:((d.filter (dF al)).map (·.2)).Nodup:=by
   have g:=dx.1 u;exact dx.2 (lV _ g)
  have g:=dx.1 f;refine dx.2 (g.imp_of_mem ?_);intro a b c r n h;obtain⟨k,i,-⟩:=l a (bG.1 c).1;obtain⟨m,e,-⟩:=l b (bG.1 r).1;rw[i,e]at n;simp only[i,e,ib]at h;exact n (by rw[h])
 have f:((List.range al.length).filter fun k=>al[k]? ==some true).Nodup:=lV _ List.nodup_range;have q:=(zn p f).2 (fun k=>by
  simp only[dm,bG,uX];constructor
  .rintro⟨x,⟨j,c⟩,rfl⟩;obtain⟨m,e,s⟩:=l x j;unfold dF at c;rw[e,ib]at c |-;exact⟨s,c⟩
  .rintro⟨i,c⟩;obtain⟨x,j,o⟩:=t k (aQ c);refine⟨x,⟨j,?_⟩,by rw[o,ib]⟩;unfold dF;rw[o,ib];exact c)
 rw[<-q.length_eq,bU]
theorem Tm:o6 [] [] [] [] 0 0:=by
 refine⟨⟨rfl,aA,⟨rfl,fun i h=>absurd h (kC _)⟩,aA,aA,aA,aA,rfl,rfl,aA,aA,fun i h=>absurd h (kC _),fun i h=>absurd h (kC _)⟩,aa⟩
theorem QZ {CB NB:List (List iX)} {al:List Bool} {pl:List Int} {n N:Int} (h:o6 CB NB al pl n N) (m:Nat) (p id:Int) (b:(id,(m:Int))∈CB.flatten) (hd:al[m]? =some false):o6 CB NB (al.set m true) (pl.set m p) (n+1) N:=by
 obtain⟨c,d⟩:=fq.1 hd;refine⟨⟨aQ h.len,h.sorted,h.perm,h.ids,fun x f=>by simpa using h.ui x f,h.w9,?_,?_,h.stored,aQ h.bound,h.small,h.size,h.last⟩,by have:=h.most;omega⟩
 .intro k a;by_cases e:k=m
  .subst e;exact⟨_,b,rfl⟩
  .rw[nT (fun h=>e h.symm)]at a;exact h.live k a
 .rw[List.count_set c,d,h.cnt];simp
theorem KD {CB NB:List (List iX)} {al:List Bool} {pl:List Int} {n N:Int} (h:o6 CB NB al pl n N) (m:Nat) (hd:al[m]? =some true):wZ CB NB (al.set m false) pl (n-1) N:=by
 obtain⟨b,c⟩:=fq.1 hd;refine⟨aQ h.len,h.sorted,h.perm,h.ids,fun x d=>by simpa using h.ui x d,h.w9,?_,?_,h.stored,aQ h.bound,h.small,h.size,h.last⟩
 .intro k a;by_cases e:k=m
  .subst e;rw[uj b]at a;cases a
  .rw[nT (fun h=>e h.symm)]at a;exact h.live k a
 .have f:0<al.count true:=List.count_pos_iff.2 (c▸bF b);rw[List.count_set b,c,h.cnt];simp;omega
theorem Oz {CB NB:List (List iX)} {al:List Bool} {pl:List Int} {n N:Int} (h:o6 CB NB al pl n N) (id p:Int) (O:∀x∈CB.flatten,x.1≠id) (z:al.length<5000) (i:Nat) (hi:i<=CB.length) (M:∀j (o:j<CB.length),j<i->CB[j]≠[]) (G:∀h:i<CB.length,CB[i]=[])
  (l':List iX) (hp:l'.Perm (eT CB i++[(id,(al.length:Int))])) (P:l'.Pairwise fun p q=>p.1<=q.1):
  o6 (ky CB i (id,(al.length:Int))) (List.replicate i []++l'::NB.drop (i+1)) (al++[true]) (pl++[p]) (n+1) (N+1):=by
 have hP:=tQ CB i (id,(al.length:Int)) G;have E:=h.len;have Q:=h.perm.1;have K:(ky CB i (id,(al.length:Int))).length=(List.replicate i []++l'::NB.drop (i+1)).length:=by
  rw[o7 _ _ _ hi];simp;split<;>omega
 have R:CB.flatten.length<=al.length:=by
  have h1:=h.w9;have v:(CB.flatten.map fun x=>x.2.toNat).Nodup:=by
   have s:=dx.1 h1;refine dx.2 (s.imp_of_mem ?_);intro a b F z w h9;obtain⟨k,c,-⟩:=h.ui a F;obtain⟨m,r,-⟩:=h.ui b z;rw[c,r]at w;simp only[c,r,ib]at h9;exact w (by rw[h9])
  have s:=xc v (n:=al.length) (fun k c=>by
   obtain⟨x,hx,rfl⟩:=dm.1 c;obtain⟨m,r,L⟩:=h.ui x hx;rw[r,ib];exact L)
  rwa [bU]at s
 refine⟨⟨by simp[E],?_,⟨K.symm,?_⟩,?_,?_,?_,?_,?_,?_,aG,by rw[hP.length_eq,ed];omega,?_,?_⟩,by have:=h.most;omega⟩
 .intro l g;rcases bP.1 g with h1|h1
  .rw[(AA.1 h1).2];exact List.Pairwise.nil
  .rcases ic.1 h1 with rfl|h1
   .exact P
   .exact h.sorted l (IG h1)
 .intro j h1 v;rw[o8];by_cases f:j<i
  .rw[aO f,qO (aQ f)];simp
  .rw[aN f,wm aG];by_cases d:j=i
   .subst d;rw[aO rfl];simp;exact hp
   .rw[aN d];simp only[iA];have C:j-i=(j-i-1)+1:=aa;have H:j<NB.length:=by simp at h1;omega
    have D:(l'::NB.drop (i+1))[j-i]'(by simp at h1 |-;omega)=NB[j]:=by
     rw[<-jl,<-bZ,<-bZ,C,dz,Ev];congr 1;omega
    rw[D,jc,bZ aa,gI];exact h.perm.2 j H aa
 .rw[jY hP,l6,mM];refine⟨fun hx=>?_,h.ids⟩;obtain⟨y,u,e⟩:=dm.1 hx;exact O y u e
 .intro x hx;rcases ic.1 (hP.mem_iff.1 hx)with rfl|hx
  .exact⟨al.length,rfl,aA⟩
  .obtain⟨k,c,t⟩:=h.ui x hx;exact⟨k,c,aG⟩
 .rw[jY hP,l6,mM];refine⟨fun hx=>?_,h.w9⟩;obtain⟨y,u,e⟩:=dm.1 hx;obtain⟨k,c,t⟩:=h.ui y u;simp only at e;omega
 .intro k c;by_cases t:k<al.length
  .rw[lT t]at c;obtain⟨x,hx,e⟩:=h.live k c;exact⟨x,hP.mem_iff.2 (kW _ hx),e⟩
  .have I:=(fq.1 c).1;simp at I;have:k=al.length:=aa;subst this;exact⟨_,hP.mem_iff.2 (nV),rfl⟩
 .rw[h.cnt];simp
 .rw[hP.length_eq,h.stored];simp
 .intro j o;rw[o8];by_cases f:j<i
  .rw[aO f];left;rfl
  .rw[aN f];by_cases d:j=i
   .subst d;rw[aO rfl];right;rw[bQ,Ao];refine yN CB j hi fun k c J=>?_;rcases h.size k c with h9|h9
    .exact absurd (gV h9) (M k c J)
    .exact h9
   .rw[aN d,jc];have B:j<CB.length:=by rw[o7 _ _ _ hi]at o;split at o<;>omega
    rw[bZ B,gI];exact h.size j B
 .intro j o g;rw[o8];rw[o7 _ _ _ hi]at g;by_cases A:i<CB.length
  .rw[aO A]at g;rw[aN aa];by_cases d:j=i
   .rw[aO d];simp
   .rw[aN d,jc,bZ aa,gI];exact h.last j aa g
  .rw[aN A]at g;rw[aN aa,aO aa];simp
theorem KE {CB NB NB':List (List iX)} {al:List Bool} {pl:List Int} {n N:Int} (h:wZ CB NB al pl n N) (y:DT NB' (setC (Lib.bitLen ((CB.reverse.flatten).filter (dF al)).length) ((CB.reverse.flatten).filter (dF al)))) (z:∀l∈NB',l.Pairwise fun p q=>p.1<=q.1):
  o6 (setC (Lib.bitLen ((CB.reverse.flatten).filter (dF al)).length) ((CB.reverse.flatten).filter (dF al))) NB' al pl n ((CB.reverse.flatten).filter (dF al)).length/\
  (∀id p,gQ (setC (Lib.bitLen ((CB.reverse.flatten).filter (dF al)).length) ((CB.reverse.flatten).filter (dF al))).flatten al pl id p↔gQ CB.flatten al pl id p):=by
 have o:CB.reverse.flatten.Perm CB.flatten:=(uQ CB).flatten;have hF:=o.filter (dF al);have C:((CB.reverse.flatten).filter (dF al)).length=al.count true:=by rw[hF.length_eq];exact Md h.ui h.w9 h.live
 have B:=h.cnt;have w:((CB.reverse.flatten).filter (dF al)).length<=5000:=by
  have b:=gD (dF al) CB.reverse.flatten;rw[o.length_eq]at b;exact bB b h.small
 generalize A:(CB.reverse.flatten).filter (dF al)=L at*;have m:L.length<2^Lib.bitLen L.length:=by
  by_cases a:L.length=0
  .rw[a];decide
  .exact(bC _ aa a).2.2
 have hP:=(kN _ L m).trans hF;have t:∀x∈CB.flatten.filter (dF al),x∈CB.flatten:=fun x c=>(bG.1 c).1;refine⟨⟨⟨h.len,z,y,?_,?_,?_,?_,h.cnt,?_,h.bound,?_,yA _ _,?_⟩,aa⟩,?_⟩
 .rw[jY hP];exact dx.2 (lV _ (dx.1 h.ids))
 .intro x c;exact h.ui x (t x (hP.mem_iff.1 c))
 .rw[jY hP];exact dx.2 (lV _ (dx.1 h.w9))
 .intro k s;have⟨x,c,e⟩:=h.live k s;refine⟨x,hP.mem_iff.2 (bG.2 ⟨c,?_⟩),e⟩;unfold dF;rw[e,ib,s];rfl
 .rw[(kN _ L m).length_eq]
 .rw[(kN _ L m).length_eq];exact w
 .intro i hi g;rw[eF]at g;have a:L.length≠0:=by
   intro a;rw[a]at g;rw[show Lib.bitLen 0=0 from rfl]at g;omega
  have r:=bC L.length aa a;have e:Lib.bitLen L.length=i+1:=g.symm;have v:=LG i L (by rw[e]at r;simpa using r.2.1) (by rw[eF];omega);have d:(setC (Lib.bitLen L.length) L)[i]? =(setC (i+1) L)[i]? :=by rw[e]
  intro u;rw[bZ hi,bZ (by rw[eF];omega),u]at d;injection d with d;exact v d.symm
 .intro id p;unfold gQ;constructor
  .rintro⟨k,b,f,j⟩;exact⟨k,t _ (hP.mem_iff.1 b),f,j⟩
  .rintro⟨k,b,f,j⟩;refine⟨k,hP.mem_iff.2 (bG.2 ⟨b,?_⟩),f,j⟩;unfold dF;rw[ib,f];rfl
theorem GG {a b:Nat} (h:2^a<=b) (c:b<2^13):a<13:=by
 rcases Nat.lt_or_ge a 13 with h1|h1
 .exact h1
 .have:=Aq (n:=2) ai h1;omega
theorem qF {l:List iX} {CB:List (List iX)} (h:l∈CB):l.length<=CB.flatten.length:=(Ef h).length_le
theorem wZ.levels {CB NB:List (List iX)} {al:List Bool} {pl:List Int} {n N:Int} (h:wZ CB NB al pl n N):CB.length<=13/\(CB.length≠0->2^(CB.length-1)<=CB.flatten.length):=by
 rcases nG CB.length with h0|h0
 .rw[h0];exact⟨ai,fun h=>absurd rfl h⟩
 .have a:CB.length-1<CB.length:=aa;have c:=h.last _ a aa;have d:CB[CB.length-1].length=2^(CB.length-1):=by
   rcases h.size _ a with h9|h9
   .exact absurd (gV h9) c
   .exact h9
  have b:=qF (bF a);rw[d]at b;have e:=GG b (by have:=h.small;omega);exact⟨aa,fun _=>b⟩
theorem uz:∀{NB CB:List (List iX)},DT NB CB->NB.flatten.Perm CB.flatten
 |[],[],_=>pU _
 |[],_::_,h=>by cases h.1
 |_::_,[],h=>by cases h.1
 |a::NB,b::CB,h=>by
  rw[uP,uP];exact(h.2 0 aA aA).append (uz (NB:=NB) (CB:=CB) ⟨aQ h.1,fun i c d=>h.2 (i+1) (aQ c) (aQ d)⟩)
theorem wZ.Sg {CB NB:List (List iX)} {al:List Bool} {pl:List Int} {n N:Int} (h:wZ CB NB al pl n N):NB.length<=13/\NB.flatten.length<=5000/\(∀l∈NB,l.length<=5000)/\CB.flatten.length<=5000:=by
 have c:=h.levels.1;have d:=h.perm.1;have b:=h.small;have e:NB.flatten.length=CB.flatten.length:=(uz h.perm).length_eq;exact⟨aa,aa,fun l a=>by have:=qF a;omega,b⟩
structure DU (CB:List (List iX)) (al:List Bool) (pl:List Int) (D:List (Int×Int)):Prop where
 iff:∀id p,(id,p)∈D↔gQ CB.flatten al pl id p
 nodup:(D.map (·.1)).Nodup
 len:D.length=al.count true
theorem DU.new:DU [] [] [] []:=by
 refine⟨fun id p=>⟨fun h=>absurd h iC,?_⟩,pR,rfl⟩;rintro⟨k,h,_⟩;exact absurd h iC
theorem DU.key {CB:List (List iX)} {al:List Bool} {pl:List Int} {D:List (Int×Int)} (h:DU CB al pl D) {id:Int} (hid:id∈D.map (·.1)):∃p,gQ CB.flatten al pl id p:=by
 obtain⟨x,a,rfl⟩:=dm.1 hid;exact⟨x.2,(h.iff x.1 x.2).1 a⟩
theorem DU.val {CB NB:List (List iX)} {al:List Bool} {pl:List Int} {n N:Int} {D:List (Int×Int)} (h:DU CB al pl D) (d:wZ CB NB al pl n N) {id:Int} {m:Nat} (c:(id,(m:Int))∈CB.flatten) (b:al[m]? =some true):∃p,(id,p)∈D/\pl[m]? =some p:=by
 have a:=(fq.1 b).1;rw[d.len]at a;exact⟨pl[m],(h.iff _ _).2 ⟨m,c,b,bZ a⟩,bZ a⟩
theorem BP {D:List (Int×Int)} {id p:Int} (h:(D.map (·.1)).Nodup) (f:id∉D.map (·.1)):((D++[(id,p)]).map (·.1)).Nodup:=by
 rw[bL,pI];refine⟨h,aA,?_⟩;intro a d b c;simp at c;subst c;exact fun e=>f (e▸d)
theorem DU.put {CB CB' NB:List (List iX)} {al:List Bool} {pl:List Int} {n N:Int} {D:List (Int×Int)} (h:DU CB al pl D) (d:wZ CB NB al pl n N) {id p:Int} (l:∀x∈CB.flatten,x.1≠id) (hP:CB'.flatten.Perm ((id,(al.length:Int))::CB.flatten)):DU CB' (al++[true]) (pl++[p]) (D++[(id,p)]):=by
 have c:=d.len;refine⟨fun r s=>?_,BP h.nodup (fun hid=>?_),by simp[h.len]⟩
 .rw[bP,h.iff];constructor
  .rintro(⟨k,h1,b,a⟩|h1)
   .have g:=(fq.1 b).1;exact⟨k,hP.mem_iff.2 (kW _ h1),by rw[lT g];exact b,by rw[lT aa];exact a⟩
   .simp at h1;obtain⟨rfl,rfl⟩:=h1;exact⟨al.length,hP.mem_iff.2 nV,aA,by rw[c];simp⟩
  .rintro⟨k,h1,b,a⟩;rcases ic.1 (hP.mem_iff.1 h1)with e|h1
   .right;injection e with f o;have:k=al.length:=aa;subst this;rw[c]at a;simp at a;simp[f,a]
   .left;have⟨m,i,j⟩:=d.ui _ h1;simp only at i;have:k=m:=aa;subst this;rw[lT j]at b;rw[lT aa]at a;exact⟨k,h1,b,a⟩
 .obtain⟨q,k,h1,_⟩:=h.key hid;exact l _ h1 rfl
theorem KF {CB NB:List (List iX)} {al:List Bool} {pl:List Int} {n N:Int} (b:wZ CB NB al pl n N) {x y:iX} (c:x∈CB.flatten) (d:y∈CB.flatten) (e:x.2=y.2):x=y:=by
 have a:CB.flatten.Pairwise fun p q=>p.2≠q.2:=dx.1 b.w9;rcases eD a c d with h1|h1|h1
 .exact h1
 .exact absurd e h1
 .exact absurd e.symm h1
theorem DU.again {CB NB:List (List iX)} {al:List Bool} {pl:List Int} {n N:Int} {D:List (Int×Int)} (h:DU CB al pl D) (f:wZ CB NB al pl n N) {id p:Int} {m:Nat} (d:(id,(m:Int))∈CB.flatten) (hd:al[m]? =some false):DU CB (al.set m true) (pl.set m p) (D++[(id,p)]):=by
 have t:=f.len;have⟨i,l⟩:=fq.1 hd;have j:m<pl.length:=aa;have o:∀q,¬gQ CB.flatten al pl id q:=fun q ⟨k,h1,a,b⟩=>by
  have c:(id,(k:Int))=(id,(m:Int)):=mE f.ids h1 d rfl;injection c with _ c;have:k=m:=aa;subst this;rw[hd]at a;cases a
 refine⟨fun s u=>?_,BP h.nodup (fun hid=>?_),?_⟩
 .rw[bP,h.iff];constructor
  .rintro(⟨k,h1,a,b⟩|h1)
   .have g:m≠k:=fun e=>by subst e;rw[hd]at a;cases a
    exact⟨k,h1,by rw[nT g];exact a,by rw[nT g];exact b⟩
   .simp at h1;obtain⟨rfl,rfl⟩:=h1;exact⟨m,d,by rw[uj i],by rw[uj j]⟩
  .rintro⟨k,h1,a,b⟩;by_cases e:k=m
   .subst e;right;have c:(s,(k:Int))=(id,(k:Int)):=KF f h1 d rfl;injection c with c _;rw[uj j]at b;injection b with b;simp[c,b]
   .left;rw[nT (fun h=>e h.symm)]at a b;exact⟨k,h1,a,b⟩
 .obtain⟨q,r⟩:=h.key hid;exact o q r
 .rw[List.count_set i,l];simp[h.len]
theorem OA {D:List (Int×Int)} {id p:Int} (h:(D.map (·.1)).Nodup) (a:(id,p)∈D):(D.filter fun x=>decide (x.1≠id)).length+1=D.length:=by
 induction D with
 |nil=>cases a
 |cons x l ih=>
  rw[l6,mM]at h;rw[l5];by_cases e:x.1=id
  .have b:l.filter (fun x=>decide (x.1≠id))=l:=lW.2 fun y c=>by
    simp only[dH];intro h9;exact h.1 (by rw[e,<-h9];exact nU c)
   rw[aN (by simp[e]),b];rfl
  .rw[aO (by simp[e])];rcases ic.1 a with h9|h9
   .exact absurd (congrArg Prod.fst h9).symm e
   .simp only[ed];rw[ih h.2 h9]
theorem DU.drop {CB NB:List (List iX)} {al:List Bool} {pl:List Int} {n N:Int} {D:List (Int×Int)} (h:DU CB al pl D) (g:wZ CB NB al pl n N) {id:Int} {m:Nat} (f:(id,(m:Int))∈CB.flatten) (hd:al[m]? =some true):DU CB (al.set m false) pl (D.filter fun x=>decide (x.1≠id)):=by
 have⟨l,r⟩:=fq.1 hd;refine⟨fun i s=>?_,?_,?_⟩
 .rw[bG,h.iff];constructor
  .rintro⟨⟨k,b,a,d⟩,o⟩;have q:m≠k:=fun e=>by
    subst e;have c:(i,(m:Int))=(id,(m:Int)):=KF g b f rfl;injection c with c _;simp[c]at o
   exact⟨k,b,by rw[nT q];exact a,d⟩
  .rintro⟨k,b,a,d⟩;by_cases e:k=m
   .subst e;rw[uj l]at a;cases a
   .rw[nT (fun h=>e h.symm)]at a;refine⟨⟨k,b,a,d⟩,?_⟩;simp only[dH];intro c;subst c;have j:(i,(k:Int))=(i,(m:Int)):=mE g.ids b f rfl;injection j with _ j;omega
 .exact dx.2 (lV _ (dx.1 h.nodup))
 .obtain⟨p,hp,-⟩:=h.val g f hd;have b:=OA h.nodup hp;rw[List.count_set l,r];have a:=h.len;show _=(al.count true-1)+0;omega
theorem DU.turn {CB CB':List (List iX)} {al:List Bool} {pl:List Int} {D:List (Int×Int)} (h:DU CB al pl D) (a:∀id p,gQ CB'.flatten al pl id p↔gQ CB.flatten al pl id p):DU CB' al pl D:=⟨fun id p=>(h.iff id p).trans (a id p).symm,h.nodup,h.len⟩
theorem GI {CB NB:List (List iX)} (hp:DT NB CB) (c:∀(i:Nat) (h:i<CB.length),CB[i].length=0\/CB[i].length=2^i) (d:CB.length<=60):∀k,k<=NB.length->2*Da (NB.take k)<=k*(k+5)
 |0,_=>by simp[Da]
 |k+1,a=>by
  rw[uy NB k a];have ih:=GI hp c d k aa;have b:k<CB.length:=by rw[<-hp.1];exact a
  have f:tb NB[k].length<=k+3:=by
   rw[(hp.2 k a b).length_eq];unfold tb;rcases c k b with h|h
   .rw[h];simp
   .rw[h];have g:=Lib.bitLen_le (2^k) (k+1) aa (Nat.pow_lt_pow_right ai aa);split<;>omega
  have e:(k+1)*(k+1+5)=k*(k+5)+2*(k+3):=by
   simp only[mU,jd];omega
  omega
theorem Me {CB NB:List (List iX)} {al:List Bool} {pl:List Int} {n N:Int} (a:o6 CB NB al pl n N):Da NB<=(Lib.bitLen (2*al.count true+1)+1)*(Lib.bitLen (2*al.count true+1)+1):=by
 have f:=a.levels;have c:=GI a.perm a.size aa NB.length (aB _);rw[jK (aB _),a.perm.1]at c;have g:=a.most;rw[a.cnt,a.stored]at g;have k:CB.length<=Lib.bitLen (2*al.count true+1):=by
  rcases nG CB.length with h0|h0
  .omega
  .have d:=f.2 aa;have e:al.count true<=al.length:=Em;have o:=a.bound;have l:=bC (2*al.count true+1) aa aa;generalize Lib.bitLen (2*al.count true+1)=b at*;rcases Nat.lt_or_ge b CB.length with h9|h9
   .have m:=Aq (n:=2) ai (show b<=CB.length-1 by omega);omega
   .exact h9
 generalize Lib.bitLen (2*al.count true+1)=b at*;generalize CB.length=L at*;have d:(L+1)*(L+1)<=(b+1)*(b+1):=Nat.mul_le_mul aa aa;have i:(L+1)*(L+1)=L*L+2*L+1:=by simp only[mU,jd];omega
 have j:L*(L+5)=L*L+5*L:=by rw[jd];omega
 have e:L<=L*L+1:=by
  rcases nG L with h|h
  .omega
  .have:=Nat.le_mul_of_pos_left L h;omega
 omega
end
end Go.Proofs.YtkjdbndekceffaaGreat
