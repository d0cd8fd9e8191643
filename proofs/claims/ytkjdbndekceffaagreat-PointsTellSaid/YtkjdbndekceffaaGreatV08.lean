/- Made small by a program. -/
import Derived.Test.YtkjdbndekceffaaGreatV07
import Derived.Test.YtkjdbndekceffaaGreatV04
set_option linter.unusedSimpArgs false
set_option linter.unusedVariables false
set_option maxRecDepth 100000
set_option maxHeartbeats 16000000
namespace Go.Proofs.YtkjdbndekceffaaGreat
open Tryz
section
open Go.RowKit Go.Sort Go.Shelf Go.Lib Go.Maps
abbrev jv:=Int×Int
def iZ (p:jv):List Value:=[.int .u32 p.1,.int .i64 p.2]
abbrev Sa (x n:Int):Value:=.agg #[ak x,ae n]
theorem xX (p:jv):(iZ p).length=2:=rfl
theorem CQ (p:jv):∀u∈iZ p,u.oneCell'=true:=by intro u hu;simp[iZ]at hu;rcases hu with rfl|rfl<;>rfl
theorem Ih:eY prog 209 204 2 16:=.mk' (z:=.agg #[ak 0,ae 0]) underlying209 aL rfl ai
theorem LP:eY prog 205 209 1 24:=.mk' (z:=aM) underlying205 aL rfl ai
theorem CR (a:Option Addr) (l:List jv) (n c:Nat) (w:World) (k:l.length=n) (h:bV iZ 2 w a l) (m:n<=1000000):
  aK 204 #[.slice a n c] w fun e w'=>∃v,e=.returned v/\w'.ownsRow w.heap.size 204 2 v n (l.flatMap iZ)/\Below w.heap.size w w':=by
 subst k;have o:∀(w:World) (a:Option Addr) (n c n' d:Nat),(binOp .eql 209 (.slice a n c) (.slice none n' d)).run prog w=.ok (.bool a.isNone) w:=fun w a n c n' d=>Fp w _ _ a n c n' d underlying209;cases a with
 |none=>
  have i:l=[]:=by
   rcases h with h|⟨b,off,h,_⟩
   .exact h
   .cases h
  subst i;go_enter func204,ntmps204;go_wp2;go_ret;exact⟨_,rfl,cZ _ _ _ _,aJ _ _⟩
 |some ad=>
  have f:=BF (e:=204) (size:=2) w #[] 0 (aA _) (aT _) rfl;have h':bV iZ 2 (w.alloc (.cells #[] 204)) (some ad) l:=h.below ((aJ _ _).alloc (aA _) _);go_enter func204,ntmps204
  go_wp2_with (at_builtin;refine jl Ih xX CQ w.heap.size f h' rfl _ _ rfl rfl c rfl dE aa ax ?_;intro p w' g j)
  go_ret;rw[kD,gu]at g;exact⟨_,rfl,g,bH ((aJ _ _).alloc (aA _) _) f j ax (aA _)⟩
def Ni (p q:jv):Int:=jE p.1 q.1
theorem LQ (p q:jv):Ni p q<0↔p.1<q.1:=by unfold Ni jE;split<;>(try split)<;>omega
theorem WV:SWO (ltOf Ni):=zx LQ (fun _=>Ce _) (fun _ _ _=>Int.lt_trans) (fun x y z=>aa)
theorem PM (p q:jv) (w:World):aK 206 #[Sa p.1 p.2,Sa q.1 q.2] w fun e w'=>e=.returned (ae (Ni p q))/\yF w w':=by
 have a:=af (fun W=>F6 p.1 q.1 W);unfold Ni;generalize jE p.1 q.1=r at*;obtain⟨c,b⟩:=p;obtain⟨f,d⟩:=q;simp only at a;go_enter func206,ntmps206
 go_wp2_with fail
 refine(a.o _).mono ?_;rintro e w1 ⟨rfl,rfl⟩;go_wp2;go_ret;exact⟨rfl,((yF.refl _).alloc _).alloc _⟩
theorem CS:eU 206:=bP func206 aL rfl
theorem Sb {w:World} {base g c n:Nat} {l:List jv} (j:l.length=n) (o:n<4611686018427387904) (h:w.ownsRow base 204 2 (aC g n c) n (l.flatMap iZ)):
  aK 205 #[aC g n c,.func (.func 206) #[] #[]] w fun e w'=>
   e=.returned (.tuple #[])/\∃l':List jv,l'.Perm l/\l'.Pairwise (fun x y=>x.1<=y.1)/\w'.ownsRow base 204 2 (aC g n c) n (l'.flatMap iZ)/\w.grownBy w' (some g):=by
 have d:=nL Tryz.Ej xX ai isAgg204 sizeOf204 CQ Ni WV 206 #[] CS (fun x y W=>PM x y W) j o h;change aK 205 _ _ _ at d;refine d.mono ?_;rintro e w' ⟨f,l',hp,m,k,i⟩;refine⟨f,l',hp,m.imp fun{a b} h=>?_,k,i⟩;rw[LQ]at h;omega
theorem Gg (p:Option Addr) (a:Nat) (b:Value) (w:World):
  aK 205 #[.slice p 0 a,b] w fun e w'=>e=.returned (.tuple #[])/\w'=w:=JC Tryz.Ej p a b w
end
section
open Go.RowKit Go.Maps
theorem VU (p:jv) (x:Int) (L c:Nat) (s:c<=1000000) (W:World) (h:Boxed W L 3 (.int .i64 c)):
  aK 201 #[Sa p.1 p.2,ak x,aj L] W fun e w'=>e=.returned (ae (jE p.1 x))/\Boxed w' L 3 (.int .i64 ((c+1:Nat):Int))/\Below L W w':=by
 have q:=h.lt;have t:=h.cell;have jG:=h.frozen;have⟨a,b⟩:=p;have d:=(h.alloc (.cells #[ak a,ae b] 204)).set (.int .i64 ((c+1:Nat):Int));have g:Below L W ((W.alloc (.cells #[ak a,ae b] 204)).setCell (ag L 0) (.int .i64 ((c+1:Nat):Int))):=Below.setCell (p:=(ag L 0)) ((aJ L W).alloc (wm q) _) (aA _) _;have f:=(h.set (.int .i64 ((c+1:Nat):Int))).alloc (.cells #[ak a,ae b] 204);have i:Below L W ((W.setCell (ag L 0) (.int .i64 ((c+1:Nat):Int))).alloc (.cells #[ak a,ae b] 204)):=((aJ _ W).setCell (p:=(ag L 0)) (aA _) _).alloc aH _;have j:=af (fun W=>F6 a x W);rw[show((c+1:Nat):Int)=(c:Int)+1 by omega]at d g f i |-;simp only;generalize jE a x=r at*;have k:=af d;have m:=af g;have l:=af f;have n:=af i;go_enter func201,ntmps201
 go_wp2_with fail
 refine(j.o _).mono ?_;rintro e w1 ⟨rfl,rfl⟩;go_wp2;go_ret
 first
  |exact⟨rfl,k.o,m.o⟩
  |exact⟨rfl,l.o,n.o⟩
def WW (l:List jv) (n:Nat) (x:Int) (L c0:Nat) (W:World) (e:Ending) (w':World):Prop:=
 ∃(k c:Nat) (bb:Bool),e=.returned (.tuple #[ae k,.bool bb])/\k<=n/\(∀t (_:t<l.length),t<k->l[t].1<x)/\(∀t (_:t<l.length),k<=t->x<=l[t].1)/\c<=c0+Lib.bitLen n+(if n=0 then 0 else 1)/\c0<=c/\Boxed w' L 3 (.int .i64 c)/\Below L W w'
theorem WX (a:Option Addr) (l:List jv) (n ah:Nat) (x:Int) (L f:Nat) (P W:World) (av:l.length=n) (au:n<=10000) (ay:f<=100000) (ac:bV iZ 2 P a l) (Y:P.heap.size<=L) (Z:Below L P W) (ad:l.Pairwise fun p q=>p.1<=q.1) (am:Boxed W L 3 (.int .i64 f)):
  aK 200 #[.slice a n ah,ak x,.func (.func 201) #[] #[aj L]] W (WW l n x L f W):=by
 subst av;have U:=af ac;have V:=af ad;have X:=af Z;have ao:=fP (show l.length<=10000 from au) ai;have ap:Lib.bitLen 10000=14:=ai;rw[ap]at ao;have T:=af VU;clear ac ad Z;go_enter func200,ntmps200;go_wp2
 go_loopw [9,10] (fun R S wr=>∃i j c:Nat,R=.int .i64 i/\S=.int .i64 j/\i<=j/\j<=l.length/\Hid (c+Lib.bitLen (j-i)<=f+Lib.bitLen l.length/\f<=c)/\Hid (∀t (_:t<l.length),t<i->l[t].1<x)/\Hid (∀t (_:t<l.length),j<=t->x<=l[t].1)/\Hid (Boxed wr L 3 (.int .i64 c))/\Below L W wr)
  (fun R S _=>(intOf S).toNat-(intOf R).toNat)
 case atStart=>exact⟨0,l.length,f,rfl,rfl,aT _,aA _,(by show _/\_;simp),fun t _ h=>absurd h (kz _),fun t al I=>absurd al aa,am,aJ _ _⟩
 case round=>
  obtain⟨i,j,c,rfl,rfl,az,ar,k,M,N,z,u⟩:=hrel;by_cases aB:i<j
  .have K:(i+j)/2<l.length:=aa;obtain⟨b,off,C,an,m⟩:=(U.o.below (B:=L) (X.o.trans u) Y).get aa;have F:=m ((i+j)/2) K 0 aa;have x1:=m ((i+j)/2) K 1 aa;simp only[iZ,eG,eQ,df]at F x1;have aq:c<=1000000:=by have:=k.o;omega
   have s:=af (T.o l[(i+j)/2] x L c aq wr z.o);have H:Hid (l[(i+j)/2].1<x->∀t (_:t<l.length),t<(i+j)/2+1->l[t].1<x):=fun h t ht I=>by
    rcases Ff.1 I with Q|rfl
    .have:=gH.1 V.o t ((i+j)/2) ht K Q;omega
    .exact h
   have G:Hid (¬l[(i+j)/2].1<x->∀t (_:t<l.length),(i+j)/2<=t->x<=l[t].1):=fun h t ht I=>by
    rcases Nat.lt_or_eq_of_le I with Q|rfl
    .have:=gH.1 V.o ((i+j)/2) t K ht Q;omega
    .omega
   have y:=af C;clear m C z;generalize l[(i+j)/2]=p at*;obtain⟨w,ax⟩:=p;simp only at F x1 s H G;obtain rfl:=y.o;clear y;have g:=k.o;have J:jE w x<0↔w<x:=by unfold jE;split<;>(try split)<;>omega
   generalize jE w x=r at*;by_cases v:w<x
   .have ag:=af (H.o v);have hd:decide (r<0)=true:=by simp[J.2 v]
    have O:Hid (c+1+Lib.bitLen (j-((i+j)/2+1))<=f+Lib.bitLen l.length/\f<=c+1):=by
     have:=Ap (d:=j-i) (e:=j-((i+j)/2+1)) aa aa aa;show _/\_;omega
    clear H G k g v J
    go_wp2_with (go_at_call 201;refine s.o.mono ?_;rintro e w' ⟨rfl,D,E⟩)
    go_roundw
    case rel=>exact⟨(i+j)/2+1,j,c+1,by rw[show((i:Int)+(j:Int))/2+1=(((i+j)/2+1:Nat):Int) by omega],rfl,aa,ar,O,ag,N,D,u.trans E⟩
    case measure=>exact bZ
   .have ae:=af (G.o v);have hd:decide (r<0)=false:=by simp only[gY];exact fun h=>v (J.1 h)
    have O:Hid (c+1+Lib.bitLen ((i+j)/2-i)<=f+Lib.bitLen l.length/\f<=c+1):=by
     have:=Ap (d:=j-i) (e:=(i+j)/2-i) aa aa aa;show _/\_;omega
    clear H G k g v J
    go_wp2_with (go_at_call 201;refine s.o.mono ?_;rintro e w' ⟨rfl,D,E⟩)
    go_roundw
    case rel=>exact⟨i,(i+j)/2,c+1,rfl,by rw[show((i:Int)+(j:Int))/2=(((i+j)/2:Nat):Int) by omega],aa,aa,O,M,ae,D,u.trans E⟩
    case measure=>exact bZ
  .obtain rfl:i=j:=aa;have g:=k.o;rw[jh,Ao,df]at g;by_cases ab:i<l.length
   .obtain⟨b,off,C,an,m⟩:=(U.o.below (B:=L) (X.o.trans u) Y).get aa;have F:=m i ab 0 aa;have x1:=m i ab 1 aa;simp only[iZ,eG,eQ,df]at F x1;have s:=af (T.o l[i] x L c aa wr z.o);have y:=af C;have aw:¬l.length=0:=aa;clear m C z;generalize l[i]=p at*;obtain⟨w,ax⟩:=p;simp only at F x1 s;obtain rfl:=y.o;clear y;generalize jE w x=r at*;have A:=af g;clear g k
    go_wp2_with (go_at_call 201;refine s.o.mono ?_;rintro e w' ⟨rfl,D,E⟩)
    go_ret2;exact⟨i,c+1,_,rfl,aa,M.o,N.o,by have:=A.o;rw[aN aw];omega,by have:=A.o;omega,D,u.trans E⟩
   .obtain rfl:i=l.length:=aa;have A:=af g;clear g k;go_wp2;go_ret2;exact⟨l.length,c,_,rfl,aA _,M.o,N.o,by have:=A.o;omega,by have:=A.o;omega,z.o,u⟩
abbrev l8:=gM jv
abbrev Nj:=MW iZ 2 204
abbrev kK:=pU iZ 2 204
theorem Nj.aD {W:World} {base:Nat} {v:Value} {n:Nat} {l:List jv} (h:W.ownsRow base 204 2 v n (l.flatMap iZ)):∃a c,v=.slice a l.length c/\n=l.length/\l.length<=c/\Nj W a l:=MW.aD xX ai h
def tb (n:Nat):Nat:=if n=0 then 0 else Lib.bitLen n+2
def D6 (NB:List (List jv)):Nat:=(NB.map fun l=>tb l.length).sum
theorem vB (NB:List (List jv)) (i:Nat) (h:i<NB.length):D6 (NB.take (i+1))=D6 (NB.take i)+tb NB[i].length:=by
 unfold D6;rw[gT h];simp only[bJ,mG,qG,sS,List.sum_cons,List.sum_nil];omega
def WY (NB:List (List jv)) (id:Int) (W:World) (e:Ending) (w':World):Prop:=
 ∃(k:Int) (t:Nat),e=.returned (.tuple #[ae k,ae t])/\t<=D6 NB/\((∃x∈NB.flatten,x.1=id/\x.2=k)\/(k=-1/\∀x∈NB.flatten,x.1≠id))/\Below W.heap.size W w'
theorem UE {NB:List (List jv)} {i:Nat}:D6 (NB.take i)<=D6 NB:=by
 have h:D6 NB=D6 (NB.take i)+D6 (NB.drop i):=by
  unfold D6;rw[<-sS,<-bJ,jd]
 omega
theorem p9 (A:Nat) (id:Int) (W:World) (NB:List (List jv)) (bh:List l8) (bv:Value) (base:Nat) (aI:W.cell? (ag A 1)=some bv) (aR:W.ownsRow base 209 1 bv bh.length (bh.map eu)) (ad:bh.map (·.2.1)=NB) (aW:kK W bh)
  (aX:∀l∈NB,l.Pairwise fun p q=>p.1<=q.1) (bb:NB.length<=1000) (aY:∀l∈NB,l.length<=10000):aK 131 #[aj A,ak id] W (WY NB id W):=by
 have a5:bh.length=NB.length:=by rw[<-ad];simp
 have aB:=af aX;have Y:=af aY;have aZ:Hid (∀i,D6 (NB.take i)<=20*i):=fun i=>by
  unfold D6
  induction i with
  |zero=>simp
  |succ i ih=>
   by_cases hi:i<NB.length
   .rw[gT hi];have f:tb NB[i].length<=20:=by
     unfold tb;have:=fP (Y.o _ (bC hi)) ai;have H:Lib.bitLen 10000=14:=ai;split<;>omega
    simp only[bJ,mG,qG,sS,List.sum_cons,List.sum_nil];omega
   .rw[jc aa];rw[jc aa]at ih;omega
 have az:Hid (∀i (hi:i<bh.length) (aU:i<NB.length),bV iZ 2 W bh[i].1 NB[i]/\W.heap.size=W.heap.size/\bh[i].2.1=NB[i]):=fun i hi aU=>by
  have ab:bh[i].2.1=NB[i]:=by simp[<-ad]
  exact⟨by rw[<-ab];exact(aW _ (bC hi)).1.OP,rfl,ab⟩
 obtain⟨av,cv,rfl,-,-,aV⟩:=Rd.aD (enc:=eu) aR;have aq:=af aV;have a4:=iF W _ aI;go_enter func131,ntmps131;go_wp2
 go_loopw [16] (fun M wr=>∃i c:Nat,M=.int .i64 i/\i<=bh.length/\Hid (Boxed wr W.heap.size 3 (.int .i64 c))/\Hid (c<=D6 (NB.take i))/\Hid (∀x∈(NB.take i).flatten,x.1≠id)/\Below W.heap.size W wr) (fun M _=>bh.length-(intOf M).toNat)
 case atStart=>exact⟨0,0,rfl,aT _,Boxed.new _ _ _,aT _,by intro x hx;simp at hx,(aJ _ _).alloc (aA _) _⟩
 case round=>
  obtain⟨i,c,rfl,hi,R,j,U,r⟩:=hrel;by_cases ac:i<bh.length
  .have g:i<NB.length:=aa;have aS:c<=100000:=by have f:=j.o;have H:=aZ.o i;omega
   have⟨b,off,F,aP,s⟩:=aq.o.get aa;have z:=(r.cell (p:=(ag b (off+i))) aP).trans (s i ac);obtain⟨N,-,an⟩:=az.o i ac g;have E:=af (vB NB i g);have T:Hid ((∀x∈NB[i],x.1≠id)->∀x∈(NB.take (i+1)).flatten,x.1≠id):=fun h x hx=>by
    rw[gT g,lN,bW]at hx;rcases hx with hx|hx
    .exact U.o x hx
    .exact h x (aQ hx)
   have aw:Hid (∀x∈NB[i],x∈NB.flatten):=fun x hx=>qz.2 ⟨_,bC g,hx⟩;have ah:=aB.o _ (bC g);have am:=Y.o _ (bC g);have au:=af (UE (NB:=NB) (i:=i+1));have w:=af F;unfold eu at z;generalize NB[i]=l at*;generalize bh[i]=hd at*;have⟨aE,a,aF⟩:=hd;simp only at an N z;subst an;obtain rfl:=w.o;have ap:=WX aE a a.length aF id W.heap.size c W wr rfl am aS N (aA _) r ah R.o
   go_wp2_with fail
   refine ap.mono ?_;rintro e w2 ⟨k,d,a2,rfl,a9,f,H,K,a8,n,aM⟩;have Q:=r.trans aM;have Z:=af f;have aC:=af H;have X:Hid (tb a.length=if a.length=0 then 0 else Lib.bitLen a.length+2):=rfl;have a7:=fP am ai;have a6:Lib.bitLen 10000=14:=ai;by_cases m:k<a.length
   .have ae:¬a.length=0:=aa;rw[aN ae]at K;have aL:=X.o;rw[aN ae]at aL;have a0:=n.cell;have bd:=n.frozen;have J:=n.set (.int .i64 ((d+1:Nat):Int));have v:=Q.setCell (p:=(ag W.heap.size 0)) (aA _) (.int .i64 ((d+1:Nat):Int));obtain⟨a1,bc,F,-,s⟩:=(N.below v).get aa;have O:=s k m 0 aa;have x1:=s k m 1 aa;simp only[iZ,eG,eQ,df]at O x1;have V:Hid (a[k].1≠id->∀x∈a,x.1≠id):=fun h x hx=>by
     obtain⟨t,ht,rfl⟩:=iN hx;by_cases al:t<k
     .have:=Z.o t ht al;omega
     .have aH:=aC.o k m (aA _);rcases Nat.lt_or_eq_of_le (Nat.le_of_not_lt al)with h4|h4
      .have I:=gH.1 ah k t m ht h4;omega
      .subst h4;exact h
    have ax:=af (aw.o a[k] (bC m));have w:=af F;have ba:(k:Int)<(a.length:Int):=aa;rw[show((d+1:Nat):Int)=(d:Int)+1 by omega]at J v O x1;have be:=J.cell;generalize a[k]=y at*;have⟨P,ao⟩:=y;simp only at O x1 V;obtain rfl:=w.o;have B:=af J;have S:=af v;by_cases u:P=id
    .have aG:(P==id)=true:=by simp[u]
     have ar:Hid (∃x∈NB.flatten,x.1=id/\x.2=ao):=⟨_,ax.o,u,rfl⟩;have L:d+1<=D6 NB:=by
      have:=j.o;have:=E.o;have:=au.o;omega
     go_wp2;go_region
     all_goals
      go_wp2;go_ret2;exact⟨ao,d+1,rfl,L,.inl ar.o,S.o.drew⟩
    .have aG:(P==id)=false:=by simp[u]
     have D:=af (T.o (V.o u));have C:Hid (d+1<=D6 (NB.take (i+1))):=by
      have:=j.o;have:=E.o;show _<=_;omega
     go_wp2;go_roundw
     case rel=>exact⟨i+1,d+1,by go_num,aa,B,C,D,S.o⟩
     case measure=>exact bZ
   .obtain rfl:k=a.length:=aa;have D:Hid (∀x∈(NB.take (i+1)).flatten,x.1≠id):=T.o fun x hx=>by
     obtain⟨t,ht,rfl⟩:=iN hx;have:=Z.o t ht ht;omega
    have C:Hid (d<=D6 (NB.take (i+1))):=by
     have aH:=j.o;have h4:=E.o;have I:=X.o;show _<=_;by_cases G:a.length=0
     .rw[aO G]at I K;have a3:Lib.bitLen a.length=0:=by rw[G];rfl
      omega
     .rw[aN G]at I K;omega
    have B:=af n;go_wp2;go_roundw
    case rel=>exact⟨i+1,d,by go_num,aa,B,C,D,Q⟩
    case measure=>exact bZ
  .obtain rfl:i=bh.length:=aa;have a0:=R.o.cell;have L:c<=D6 NB:=by
    have f:=j.o;rw[jc aa]at f;exact f
   have ay:Hid (∀x∈NB.flatten,x.1≠id):=by
    have f:=U.o;rw[jc aa]at f;exact f
   go_wp2;go_region
   all_goals
    go_wp2;go_ret2;exact⟨-1,c,rfl,L,.inr ⟨rfl,ay.o⟩,r.drew⟩
abbrev jr:=@iI jv 290 209 204
theorem VV:209≠290/\290≠204/\209≠204:=ai
theorem ui {W:World} {base Cb:Nat} {cv:Value} {ch:List l8} {N wk:Int} (h:jr W base Cb cv ch N wk):aK 203 #[aj Cb] W (gD W (.bool false)):=by
 obtain⟨a,-⟩:=h.cell;go_enter func203,ntmps203;go_wp2;go_ret;exact⟨rfl,aJ _ _⟩
end
section
open Go.RowKit Go.Maps
attribute [local irreducible] wpQuiet
abbrev WZ:=@VH jv 290 209 204 iZ 2
theorem Sc {W:World} {base Cb:Nat} {cv:Value} {ch:List l8} {N wk:Int} (h:jr W base Cb cv ch N wk) (dv:base<=W.heap.size) (cd:kK W ch) (x nn:Int) (dt:0<=N/\N<=100000) (dK:ch.length<=1000) (dN:(ch.map (·.2.1)).flatten.length<=10000):
  aK 132 #[aj Cb,Sa x nn] W (WZ W base Cb cv ch (x,nn) N wk):=by
 have aQ:Below W.heap.size W (W.alloc (.cells #[ak x,ae nn] 204)):=(aJ _ _).alloc (aA _) _;have cl:(W.alloc (.cells #[ak x,ae nn] 204)).cell? (ag W.heap.size 0)=some (ak x):=by rw[eX _ _ _ _ rfl];rfl
 have x1:(W.alloc (.cells #[ak x,ae nn] 204)).cell? (ag W.heap.size 1)=some (ae nn):=by rw[eX _ _ _ _ rfl];rfl
 have bv:=af (ui (h.below aQ));have H:=af h;have aW:=af cd;have bx:=af aQ;clear h cd aQ;go_enter func132,ntmps132
 go_wp2_with fail
 refine bv.o.mono ?_;rintro e w2 ⟨rfl,ab⟩;have bu:=af (bx.o.trans (ab.mono ax));have cm:=(ab.cell (p:=(ag W.heap.size 0)) ax).trans cl;have y1:=(ab.cell (p:=(ag W.heap.size 1)) ax).trans x1;have bi:W.heap.size<w2.heap.size:=by have:=ab.size;simp at this;omega
 have s:=af (H.o.below bu.o);have bN:=af cm;have bO:=af y1;clear cl x1 cm y1 bv bx ab;obtain⟨cF,cG,cH,cI⟩:=s.o.cell
 go_upto_block 0 with fail
 go_cut [6]from 11 to 30 (fun sv B=>∃i:Nat,sv=.int .i64 i/\Hid (B=w2)/\i<=ch.length/\Hid (∀j (aE:j<ch.length),j<i->ch[j].2.1≠[])/\Hid (∀hi:i<ch.length,ch[i].2.1=[]))
 case first=>
  go_wp2_with fail
  go_loopw [6] (fun bj wr=>∃i:Nat,bj=.int .i64 i/\Hid (wr=w2)/\i<=ch.length/\Hid (∀j (aE:j<ch.length),j<i->ch[j].2.1≠[])) (fun bj _=>ch.length-(intOf bj).toNat)
  case atStart=>exact⟨0,rfl,(by first|rfl|trivial),aT _,fun j _ h=>absurd h (kz _)⟩
  case round=>
   obtain⟨i,rfl,ah,hi,T⟩:=hrel;obtain rfl:wr=w2:=ah.o;clear ah;obtain⟨av,U,rfl,-,-,ad⟩:=Rd.aD (enc:=eu) s.o.row;by_cases b9:i<ch.length
   .obtain⟨b,off,bP,dw,b4⟩:=ad.get aa;have z:=b4 i b9;have M:Hid (ch[i].2.1=[]->∀hi:i<ch.length,ch[i].2.1=[]):=fun h _=>h;have an:Hid (ch[i].2.1≠[]->∀j (aE:j<ch.length),j<i+1->ch[j].2.1≠[]):=fun h j aE c6=>by
     rcases Ff.1 c6 with h9|rfl
     .exact T.o j aE h9
     .exact h
    have bw:=af bP;unfold eu at z;clear b4 bP ad;generalize ch[i]=hd at*;obtain⟨dl,bm,dn⟩:=hd;simp only at z M an;obtain rfl:=bw.o;clear bw;have dL:(i:Int)<(ch.length:Int):=aa;by_cases X:bm=[]
    .have R:=af (M.o X);clear M an;subst X
     go_wp2_with fail
     go_meet;exact⟨i,rfl,(by first|rfl|trivial),hi,T,R⟩
    .have R:=af (an.o X);have c8:0<bm.length:=Bv.2 X;have dy:decide (0<bm.length)=true:=by simp[c8]
     clear X M an
     go_wp2_with fail
     go_roundw
     case rel=>exact⟨i+1,by go_num,(by first|rfl|trivial),aa,R⟩
     case measure=>exact bZ
   .have R:Hid (∀hi:i<ch.length,ch[i].2.1=[]):=fun h=>absurd h b9;have dF:¬(i:Int)<(ch.length:Int):=aa
    go_wp2_with fail
    go_meet;exact⟨i,rfl,(by first|rfl|trivial),hi,T,R⟩
 case rest=>
  obtain⟨i,rfl,ah,hi,T,M⟩:=hcut;obtain rfl:wc=w2:=ah.o;clear ah;obtain⟨f,Z⟩:∃f,f=cv.ownBlock:=⟨_,rfl⟩;have dj:Hid (∀k,(k=Cb\/f=some k)->base<=k):=fun k h=>by
   rcases h with rfl|h
   .exact s.o.hb
   .exact(s.o.row.lt k (Z▸h)).1
  have ao:Hid (∀k,f=some k->k<W.heap.size/\k≠Cb):=fun k h=>⟨(H.o.row.lt k (Z▸h)).2,fun e=>H.o.ne (by rw[<-Z,h,e])⟩;have C:=af Z;have dr:=H.o.lt;obtain⟨av,U,rfl,-,dx,-⟩:=Rd.aD (enc:=eu) s.o.row;have bH:Hid (aB (fun k=>k=Cb\/f=some k) W wc):=(aB.refl _ _).grown (bT bu.o) ax;have cx:Hid (∀w6,wc.grownBy w6 (Value.ownBlock (.slice av ch.length U))->w6.heap[Cb]? =some (Obj.cells #[.bool true,.slice av ch.length U,ae N,ae wk] 290 (0,0))):=fun w6 w=>(w.block Cb s.o.lt (fun e=>s.o.ne e.symm)).trans s.o.blk;clear Z
  go_upto_if 37 with fail
  go_cut []from 37 to 46 (fun B=>∃V ch1 c aN v,Hid (jr B base Cb V ch1 N wk)/\V=aC c aN v/\aN=ch1.length/\i<aN/\Hid (ch1=ch/\i<ch.length\/ch1=ch++[fZ]/\i=ch.length)/\Hid (V.ownBlock=f\/∃b,V.ownBlock=some b/\W.heap.size<=b)/\Hid (c≠W.heap.size)/\Hid (aB (fun k=>k=Cb\/f=some k) W B)/\Hid (aB (fun k=>k=Cb\/f=some k) wc B))
  case first=>
   by_cases c5:i=ch.length
   .subst c5;have c1:((ch.length:Int)==(ch.length:Int))=true:=ax
    go_wp2_with (at_builtin;refine cB LP base s.o.row [aM] rfl (by simp[Value.oneCell']) rfl _ _ rfl rfl _ rfl dE aa aa ?_;intro bo w6 ac w b2;obtain⟨D,l,rfl,dA,dB,dC,dD⟩:=aS ac aa;have bk:=cx.o w6 w;have dP:w6.cell? (ag Cb 1)=some (.slice av ch.length U):=(aI bk);have dQ:w6.frozen? (ag Cb 1)=false:=(aI bk))
    go_meet;have bc:w6.ownsRow base 209 1 (aC D (ch.length+1) l) (ch++[fZ]).length ((ch++[fZ]).map eu):=by
     rw[bQ,bJ];exact ac
    have ay:(some D=f\/D=wc.heap.size+1):=by
     rcases b2 with h9|h9
     .exact .inl (h9.trans C.o.symm)
     .simp only[Value.ownBlock,jH]at h9;rw[h9];exact .inr ax
    have c3:D≠Cb:=by
     rcases ay with h9|h9
     .exact(ao.o D h9.symm).2
     .omega
    refine⟨_,ch++[fZ],D,ch.length+1,l,iI.MZ (ch:=ch) bk s.o.hb s.o.ds bc (by simpa[Value.ownBlock]using c3),rfl,ax,aa,(by first|exact .inr ⟨rfl,rfl⟩|exact .inr ⟨rfl,trivial⟩),?_,?_,(bH.o.grown w fun k q=>.inl (.inr (C.o.trans q))).set _ (.inl (.inl rfl)),((aB.refl _ wc).grown w fun k q=>.inl (.inr (C.o.trans q))).set _ (.inl (.inl rfl))⟩
    .rcases ay with h9|h9
     .exact .inl (by simpa[Value.ownBlock]using h9)
     .exact .inr ⟨D,rfl,aa⟩
    .show D≠W.heap.size;rcases ay with h9|h9
     .have:=(ao.o D h9.symm).1;omega
     .omega
   .have c1:((i:Int)==(ch.length:Int))=false:=by simp only[Fw];omega
    have b8:i<ch.length:=aa;obtain⟨g,dp,a2,c2,az,-,-⟩:=aS s.o.row aa;injection a2 with a2 _ cL;subst a2 cL;go_wp2;go_meet;have c4:f=some g:=C.o;exact⟨_,ch,g,ch.length,U,s,rfl,rfl,b8,.inl ⟨rfl,b8⟩,.inl C.o.symm,(by show g≠W.heap.size;have:=(ao.o g c4).1;omega),bH,aB.refl _ _⟩
  case rest=>
   obtain⟨V,ch1,c,aN,v,ai,rfl,rfl,dH,am,aR,cr,cC,ap⟩:=hcut;obtain⟨w3,cQ⟩:∃w3:World,w3=wc:=⟨_,rfl⟩;subst cQ;have bF:Hid (¬(W.heap.size=Cb\/f=some W.heap.size)):=fun h9=>by
    rcases h9 with h9|h9
    .omega
    .have:=(ao.o _ h9).1;omega
   have cD:Hid (w3.cell? (ag W.heap.size 0)=some (ak x)):=(dJ (a:=(ag W.heap.size 0)) (ap.o.block _ bi bF.o)).trans bN.o;have cE:Hid (w3.cell? (ag W.heap.size 1)=some (ae nn)):=(dJ (a:=(ag W.heap.size 1)) (ap.o.block _ bi bF.o)).trans bO.o;have ce:W.heap.size<w3.heap.size:=cO bi ap.o.size;have c2:c<w3.heap.size:=(ai.o.row.lt c rfl).2;have cp:Hid (∀k (q:k<i) (h1:k<ch1.length) (Y:k<ch.length),ch1[k]=ch[k]):=fun k q h1 Y=>by
    rcases am.o with⟨e,-⟩|⟨e,-⟩
    .subst e;rfl
    .subst e;exact rJ Y
   have cq:Hid (∀W',aB (fun k=>k=Cb\/f=some k) W W'->∀k (q:k<ch.length),bV iZ 2 W' ch[k].1 ch[k].2.1):=fun W' cX k q=>((aW.o _ (bC q)).1.kept (H.o.fG C.o cX)).OP;have cu:Hid (∀k (q:k<ch.length),k<i->(((ch.map (·.2.1)).take i).drop k).reverse.flatten=(((ch.map (·.2.1)).take i).drop (k+1)).reverse.flatten++ch[k].2.1):=fun k q dI=>by
    rw[ky aH];simp
   have bB:Hid (∀k,(((ch.map (·.2.1)).take i).drop k).reverse.flatten.length<=10000):=fun k=>by
    generalize ch.map (·.2.1)=CB at*;have dq:(((CB.take i).drop k).reverse.flatten).length=((CB.take i).drop k).flatten.length:=by simp only[Fx,FJ,List.sum_reverse]
    have a1:((CB.take i).take k).flatten++((CB.take i).drop k).flatten=(CB.take i).flatten:=by rw[<-lN,jd]
    have cM:(CB.take i).flatten++(CB.drop i).flatten=CB.flatten:=by rw[<-lN,jd]
    have cN:=congrArg List.length a1;have cP:=congrArg List.length cM;rw[bQ]at cN cP;omega
   clear bN bO cF cG cH cI ap
   go_upto_block 2 with fail
   go_cut [7]from 49 to 67 (fun br B=>Hid (B.ownsRow w3.heap.size 204 2 br (fw (ch.map (·.2.1)) i).length ((fw (ch.map (·.2.1)) i).flatMap iZ))/\Hid (jr B base Cb (aC c ch1.length v) (uW ch1 i 0) N wk)/\Hid (aB (fun k=>k=Cb\/f=some k) W B)/\Hid (aB (fun k=>k=c) w3 B))
   case first=>
    go_wp2_with fail
    go_loopw [8,7] (fun bl br wr=>∃(k:Nat) (bq:Value),bl=.int .i64 ((k:Int)-1)/\br=bq/\k<=i/\Hid (wr.ownsRow w3.heap.size 204 2 bq (((ch.map (·.2.1)).take i).drop k).reverse.flatten.length ((((ch.map (·.2.1)).take i).drop k).reverse.flatten.flatMap iZ))/\Hid (jr wr base Cb (aC c ch1.length v) (uW ch1 i k) N wk)/\Hid (aB (fun k=>k=Cb\/f=some k) W wr)/\Hid (aB (fun k=>k=c) w3 wr)) (fun bl _ _=>(intOf bl+1).toNat)
    case atStart=>
     refine⟨i,_,rfl,rfl,aA _,?_,?_,cC,aB.refl _ _⟩
     .rw[o8 aH];exact cZ _ _ _ _
     .rw[LD];exact ai
    case round=>
     obtain⟨k,bq,rfl,rfl,q,HO,G,S,I⟩:=hrel;rcases nW k with VJ|VJ
     .subst VJ;have dz:¬(0:Int)<=((0:Nat):Int)-1:=aa;rw[jY]at HO
      go_wp2_with fail
      go_meet;exact⟨HO,G,S,I⟩
     .obtain⟨m,rfl⟩:∃m,k=m+1:=⟨k-1,aa⟩;have bb:m<ch.length:=aa;have ca:m<ch1.length:=aa;obtain⟨d0,d1,d2,d3⟩:=G.o.cell;have y:i<=ch1.length:=aa;have be:=G.o.row;rw[iY q y]at be;have z:=be.cellAt m aa;rw[ib,LF y aa,cK ca,cp.o m aa ca bb]at z;simp only[eP]at z;have ad:=cq.o wr S.o m bb;have ba:=cu.o m bb aa;have O:=bB.o m;rw[ba,bQ]at O;have c9:=LG (ch1:=ch1) y (show m<i by omega);have c7:=O;generalize(((ch.map (·.2.1)).take i).drop (m+1)).reverse.flatten=L at*;have bA:=af ba;unfold eu at z;clear ba O;generalize ch[m]=hd at*;obtain⟨dm,dO,cJ⟩:=hd;simp only at z ad c7 bA;have A:=HO.o.lt;have cW:=ai.o.lt;have b7:=I.o.size;have dM:(m:Int)<(ch1.length:Int):=aa
      go_wp2_with (at_builtin;refine nY Ih xX CQ w3.heap.size HO.o ad rfl _ _ rfl rfl cJ rfl dE aa b7 ?_;intro bo w6 ac w b2;have E:=G.o.grown w (fun e=>(by have:=(A Cb e).1;omega)) (.inr (fun e=>(by have:=(A c e.symm).1;omega)));obtain⟨f0,f1,f2,f3⟩:=E.cell;have b1:=w.block c aa (fun e=>(by have:=(A c e.symm).1;omega));have dR:=(dJ (a:=(ag c m)) b1).trans z;have bR:=(qm (a:=(ag c m)) b1).trans (be.frozenAt m))
      have da:=ac.lt;have cy:Hid ((w6.setCell (ag c m) (aM)).ownsRow w3.heap.size 204 2 bo (((ch.map (·.2.1)).take i).drop m).reverse.flatten.length ((((ch.map (·.2.1)).take i).drop m).reverse.flatten.flatMap iZ)):=by
       show World.ownsRow _ _ _ _ _ _ _;rw[bA.o,bQ,gZ];exact bn ac fun cU e=>aG (fun a1=>by have:=(da cU e).1;simp only at a1;omega)
      have aU:Hid (jr (w6.setCell (ag c m) (aM)) base Cb (aC c ch1.length v) (uW ch1 i m) N wk):=by
       have:=E.MX (iY q y).symm m fZ;rw[c9]at this;exact this
      have a7:f=some c\/W.heap.size<=c:=by
       rcases aR.o with h9|⟨b,h9,cV⟩
       .exact .inl h9.symm
       .simp only[Value.ownBlock,jH]at h9;exact .inr aa
      have aV:Hid (aB (fun k=>k=Cb\/f=some k) W (w6.setCell (ag c m) (aM))):=
       (S.o.grown w (fun b n=>.inr (by have:=(A b n).1;omega))).set _ (by rcases a7 with h9|h9;exact .inl (.inr h9);exact .inr h9)
      have cs:Hid (aB (fun k=>k=c) w3 (w6.setCell (ag c m) (aM))):=(I.o.grown w (fun b n=>.inr (A b n).1)).set _ (.inl rfl);go_roundw
      case rel=>exact⟨m,bo,by go_num,rfl,aa,cy,aU,aV,cs⟩
      case measure=>simp[intOf]
   case rest=>
    obtain⟨HO,G,S,I⟩:=hcut;obtain⟨w4,cR⟩:∃w4:World,w4=wc:=⟨_,rfl⟩;subst cR;have b7:=I.o.size;have y:i<=ch1.length:=aa;have au:W.heap.size≠c:=fun e=>cr.o e.symm;have bI:w4.cell? (ag W.heap.size 0)=some (ak x):=(dJ (a:=(ag W.heap.size 0)) (I.o.block _ ce au)).trans cD.o;have bL:w4.cell? (ag W.heap.size 1)=some (ae nn):=(dJ (a:=(ag W.heap.size 1)) (I.o.block _ ce au)).trans cE.o;have O:=bB.o 0;rw[jY]at O;change(fw (ch.map (·.2.1)) i).length<=10000 at O;have bE:=(HO.o.alloc (.cells #[ak x,ae nn] 204)).aX 1;have bz:=(G.o.grown (rP w4 (.cells #[ak x,ae nn] 204) none) ax (.inr (by simp[Value.ownBlock]))).drew;generalize a3:fw (ch.map (·.2.1)) i=d at*;obtain⟨dh,w6,aZ,bc,az,ay⟩:=jN (ty:=209) (t:=209) (P:=prog) Ih w3.heap.size bE (ag w4.heap.size 0) 1 1 [.int .u32 x,.int .i64 nn] rfl (by
     intro j u hu;have cY:((ag w4.heap.size 0):Addr).add j=(ag w4.heap.size j):=by unfold Addr.add;split<;>simp_all
     rw[cY];have h9:(w4.alloc (.cells #[ak x,ae nn] 204)).cell? (ag w4.heap.size j)=some u:=by
      rw[eX _ _ _ _ (by rfl)];simpa using hu
     exact h9) (by simp[Value.oneCell']) dE aa aH
    have A:=bE.lt;have cW:=ai.o.lt;have E:=bz.grown az (fun e=>(by have:=(A Cb e).1;omega)) (.inr (fun e=>(by have:=(A c e.symm).1;omega)));have bd:w6.ownsRow w3.heap.size 204 2 dh (d.length+1) ((d++[(x,nn)]).flatMap iZ):=by
     rw[gZ];exact bc
    have cf:=bd.lt;obtain⟨r,l,rfl,-,c0,bS⟩:=Nj.aD bd;have aF:(d++[(x,nn)]).length=d.length+1:=ax;rw[aF]at aZ bd c0 cf;have co:Hid (∀a,r=some a->W.heap.size<=a.block):=fun a a6=>by have:=(cf a.block (by rw[a6];rfl)).1;omega
    obtain⟨f0,f1,f2,f3⟩:=E.cell;have aL:=E.row;rw[iY (aT _) y]at aL;have cj:=aL.cellAt i aa;have bR:=aL.frozenAt i;have dc:i<((uW ch1 i 0).map eu).length:=by rw[bK,iY (aT _) y];omega
    rw[cK dc]at cj;have a5:w4.cell? (ag Cb 1)=some (aC c ch1.length v)/\w4.cell? (ag W.heap.size 0)=some (ak x)/\w4.cell? (ag W.heap.size 1)=some (ae nn):=⟨G.o.cell.2.1,bI,bL⟩;have bU:w4.drew.cell? (ag Cb 1)=some (aC c ch1.length v)/\w4.drew.cell? (ag W.heap.size 0)=some (ak x)/\w4.drew.cell? (ag W.heap.size 1)=some (ae nn):=a5;have b6:=(aJ w4.heap.size w4).alloc (aA _) (.cells #[ak x,ae nn] 204);have bY:W.heap.size<w4.heap.size:=aa;have aq:(w4.alloc (.cells #[ak x,ae nn] 204)).drew.cell? (ag Cb 1)=some (aC c ch1.length v)/\(w4.alloc (.cells #[ak x,ae nn] 204)).drew.cell? (ag W.heap.size 0)=some (ak x)/\(w4.alloc (.cells #[ak x,ae nn] 204)).drew.cell? (ag W.heap.size 1)=some (ae nn):=
     ⟨bz.cell.2.1,(b6.cell (p:=(ag W.heap.size 0)) bY).trans bI,(b6.cell (p:=(ag W.heap.size 1)) bY).trans bL⟩
    have bX:=az.block W.heap.size aH (fun e=>by have:=(A _ e.symm).1;omega);have ar:w6.cell? (ag Cb 1)=some (aC c ch1.length v)/\w6.cell? (ag W.heap.size 0)=some (ak x)/\w6.cell? (ag W.heap.size 1)=some (ae nn):=
     ⟨f1,(dJ (a:=(ag W.heap.size 0)) bX).trans aq.2.1,(dJ (a:=(ag W.heap.size 1)) bX).trans aq.2.2⟩
    have K:jr (w6.setCell (ag c i) (.slice r (d.length+1) l)) base Cb (aC c ch1.length v) ((uW ch1 i 0).set i (r,d++[(x,nn)],l)) N wk:=by
     have:=E.MX (iY (aT _) y).symm i (r,d++[(x,nn)],l);unfold eu at this;rw[aF]at this;exact this
    have bW:(w6.setCell (ag c i) (.slice r (d.length+1) l)).cell? (ag Cb 1)=some (aC c ch1.length v)/\(w6.setCell (ag c i) (.slice r (d.length+1) l)).cell? (ag W.heap.size 0)=some (ak x)/\(w6.setCell (ag c i) (.slice r (d.length+1) l)).cell? (ag W.heap.size 1)=some (ae nn):=
     ⟨K.cell.2.1,(dJ (a:=(ag W.heap.size 0)) (aG (fun e=>au e.symm))).trans ar.2.1,(dJ (a:=(ag W.heap.size 1)) (aG (fun e=>au e.symm))).trans ar.2.2⟩
    have dG:(i:Int)<(ch1.length:Int):=aa;generalize((uW ch1 i 0).map eu)[i]=dS at*;go_wp2
    go_hide hQ
    go_region_held3 (fun w'=>w'.cell? (ag Cb 1)=some (aC c ch1.length v)/\w'.cell? (ag W.heap.size 0)=some (ak x)/\w'.cell? (ag W.heap.size 1)=some (ae nn))
     (first|(with_reducible exact a5)|(with_reducible exact bU)|(with_reducible exact aq)|(with_reducible exact ar)|(with_reducible exact bW)|go_keep)
     ((refine gX rfl (.tmp 73) (.tmp 75) rfl aZ (by simp[Act.eval]) (by simp[Act.eval]) ?_;try simp only[Act.put,sG,pz,oD]))
    all_goals subst hQ
    clear bW;generalize cg:w6.setCell (ag c i) (.slice r (d.length+1) l)=bs at K |-;have Q:=K.Cr (N+1);obtain⟨dd,de,df,dg⟩:=K.cell;have cS:=K.frozen 2;obtain⟨t0,t1,t2,t3⟩:=Q.cell;have cT:=Q.frozen 3;have b3:((uW ch1 i 0).set i (r,d++[(x,nn)],l)).length=ch1.length:=by rw[nu,iY (aT _) y]
    have bf:=Q.row;rw[b3]at bf;have bt:=bf.cellAt i aa;have a8:(((uW ch1 i 0).set i (r,d++[(x,nn)],l)).map eu)[i]? =some (.slice r (d.length+1) l):=by
     rw[ib,ve (by rw[iY (aT _) y];omega)];simp[eu]
    rw[a8]at bt;have F:=(Q.RN (wrap64 (wk+((d.length:Int)+1)))).drew;have al:=af F;clear F;have du:(-9223372036854775808:Int)<=N+1/\N+1<=9223372036854775807:=aa;have aY:=af cg;clear cg;clear f0 f1 f2 f3 cj bR a5 bU aq ar aZ;have dk:=af bt;have ct:=af a8;have cz:=af bS;have a7:f=some c\/W.heap.size<=c:=by
     rcases aR.o with h9|⟨b,h9,cV⟩
     .exact .inl h9.symm
     .simp only[Value.ownBlock,jH]at h9;exact .inr aa
    have aV:Hid (aB (fun k=>k=Cb\/f=some k) W w6):=((S.o.grown (rP w4 (.cells #[ak x,ae nn] 204) none) ax).drew).grown az (fun b n=>.inr (by have:=(A b n).1;omega));have aU:=af E;clear a8;go_wp2;go_region;have cw:Hid (aB (fun k=>k=Cb\/some c=some k) w6 ((bs.setCell (ag Cb 2) (.int .i64 (N+1))).setCell (ag Cb 3) (.int .i64 (wrap64 (wk+((d.length:Int)+1))))).drew):=by
     rw[<-aY.o];exact((((aB.refl _ w6).set _ (.inl (.inr rfl))).set _ (.inl (.inl rfl))).set _ (.inl (.inl rfl))).drew
    have bD:Hid (aB (fun k=>k=Cb\/f=some k) W ((bs.setCell (ag Cb 2) (.int .i64 (N+1))).setCell (ag Cb 3) (.int .i64 (wrap64 (wk+((d.length:Int)+1))))).drew):=by
     rw[<-aY.o];exact(((aV.o.set _ (by rcases a7 with h9|h9;exact .inl (.inr h9);exact .inr h9)).set _ (.inl (.inl rfl))).set _ (.inl (.inl rfl))).drew
    have F:=al.o;clear bt al dd de df dg t0 t1 t2 t3 cS cT K Q aY;generalize db:((bs.setCell (ag Cb 2) (.int .i64 (N+1))).setCell (ag Cb 3) (.int .i64 (wrap64 (wk+((d.length:Int)+1))))).drew=ck at*;obtain⟨u0,u1,u2,u3⟩:=F.cell;have bh:=F.row;rw[b3]at bh;have di:=bh.cellAt i aa;rw[ct.o]at di;have a4:=cz.o.kept (aU.o.fG rfl cw.o);have ci:=bD.o.size;have cn:=CR r (d++[(x,nn)]) (d.length+1) l ck aF a4.OP aa;have al:=af F;have cA:=af a4;clear db aL bf bh F a4 bS
    go_wp2_with fail
    refine cn.mono ?_;rintro e aO ⟨bp,rfl,cc,aw⟩;go_wp2;go_ret2;have bG:aB (fun k=>k=Cb\/f=some k) W aO:=bD.o.below aw;have b5:=H.o.fG C.o bG;refine⟨i,bp,aC c ch1.length v,(uW ch1 i 0).set i (r,d++[(x,nn)],l),_,rfl,hi,T.o,M.o,al.o.below aw,?_,?_,?_,?_,?_,?_,?_⟩
    .have cb:∀b,b<ck.heap.size->bp.ownBlock≠some b:=fun b n e=>by have:=(cc.lt b e).1;omega
     have b0:∀a0:World,(∀(b:Nat) J fr,aO.heap[b]? =some (Obj.cells J 204 fr)->bp.ownBlock≠some b->a0.heap[b]? =aO.heap[b]?)->kK a0 ((uW ch1 i 0).set i (r,d++[(x,nn)],l)):=by
      intro a0 Y h a9;rcases Bc am.o a9 with rfl|rfl|h1
      .exact⟨cA.o.kept fun b J fr n=>(Y b J fr ((aP aw n).trans n) (cb b (bg.1 n).1)).trans (aP aw n),by show(d++[(x,nn)]).length<=l;omega⟩
      .exact⟨.inl rfl,aA _⟩
      .exact⟨(aW.o h h1).1.kept fun b J fr n=>(Y b J fr ((b5 b J fr n).trans n) (cb b (cO (bg.1 n).1 ci))).trans (b5 b J fr n),(aW.o h h1).2⟩
     exact⟨b0 aO (fun _ _ _ _ _=>rfl),b0⟩
    .exact Hq am.o _ (x,nn) (by show d++[(x,nn)]=_;rw[a3])
    .rw[a3,aF];exact bM cc ci
    .rcases aR.o with h9|h9
     .exact .inl (h9.trans C.o)
     .exact .inr h9
    .exact bG.mono fun k q=>q.imp id fun h9=>C.o▸h9
    .intro h a9;rcases Bc am.o a9 with rfl|rfl|h1
     .exact .inr co.o
     .exact .inr fun a a6=>by cases a6
     .exact .inl h1
    .rw[a3]
end
section
open Go.RowKit Go.Maps
section
variable {W:World} {base Cb:Nat} {cv:Value} {ch:List l8} {N wk:Int}
theorem CU (h:jr W base Cb cv ch N wk) (f:ch.length<=1000000):aK 209 #[aj Cb] W (gD W (ae ch.length)):=by
 have b:=af (ui h);have H:=af h;obtain⟨av,d,rfl,-,-,-⟩:=Rd.aD (enc:=eu) H.o.row;go_enter func209,ntmps209
 go_wp2_with fail
 refine b.o.mono ?_;rintro e w2 ⟨rfl,a⟩;obtain⟨-,c,-⟩:=(H.o.below a).cell;go_wp2;go_ret;exact⟨rfl,a⟩
theorem Sd (h:jr W base Cb cv ch N wk):aK 137 #[aj Cb] W (gD W (ae N)):=by
 have b:=af (ui h);have H:=af h;go_enter func137,ntmps137
 go_wp2_with fail
 refine b.o.mono ?_;rintro e w2 ⟨rfl,a⟩;obtain⟨-,-,c,-⟩:=(H.o.below a).cell;go_wp2;go_ret;exact⟨rfl,a⟩
theorem CV (h:jr W base Cb cv ch N wk) (t:kK W ch) (B:ch.length<=1000000) (i:Nat) (hi:i<ch.length) (j:ch[i].2.1.length<=1000000):aK 210 #[aj Cb,ae i] W fun e w'=>
  ∃v,e=.returned v/\w'.ownsRow W.heap.size 204 2 v ch[i].2.1.length (ch[i].2.1.flatMap iZ)/\Below W.heap.size W w':=by
 have m:=af (ui h);have H:=af h;obtain⟨av,w,rfl,-,-,-⟩:=Rd.aD (enc:=eu) H.o.row;obtain⟨g,x,c,y,z,-,-⟩:=aS H.o.row aa;injection c with c _ q;subst c q;have f:=af (fun W' (d:Below W.heap.size W W')=>(t _ (bC hi)).1.OP.below d);have b:=af (fun W' (d:Below W.heap.size W W')=>(show W'.cell? (ag g i)=some (eu ch[i]) by
  have:=((H.o.below d).row).cellAt i aa;rw[ib,cK hi]at this;exact this))
 unfold eu at b;have A:(i:Int)<(ch.length:Int):=aa;generalize ch[i]=hd at*;have⟨n,k,p⟩:=hd;simp only at f b j |-;have d1:decide ((i:Int)<0)=false:=ax;go_enter func210,ntmps210
 go_wp2_with fail
 refine m.o.mono ?_;rintro e w2 ⟨rfl,a⟩;obtain⟨-,u,-⟩:=(H.o.below a).cell;have D:=b.o w2 a;have l:=af (CR n k k.length p w2 rfl (f.o w2 a) j)
 go_wp2_with fail
 refine l.o.mono ?_;rintro e w3 ⟨C,rfl,s,r⟩;have HO:=af (bM s a.size);go_wp2;go_ret;exact⟨_,rfl,HO.o,a.trans (r.mono a.size)⟩
end
structure dR (W:World) (base A Cb:Nat) (bv pv lv cv:Value) (bh ch:List l8) (al:List Bool) (pl:List Int) (n N wk:Int):Prop where
 hb:base<=A
 blk:W.heap[A]? =some (Obj.cells #[aj Cb,bv,pv,lv,ae n] 207 (0,0))
 gp:jr W base Cb cv ch N wk
 ik:W.ownsRow base 209 1 bv bh.length (bh.map eu)
 iP:W.ownsRow base 3 1 pv pl.length (pl.map (Value.int .i64))
 dP:W.ownsRow base 4 1 lv al.length (al.map Value.bool)
 bE:kK W bh
 cE:kK W ch
 sep:bv.ownBlock=none\/bv.ownBlock≠cv.ownBlock
section
variable {W:World} {base A Cb:Nat} {bv pv lv cv:Value} {bh ch:List l8} {al:List Bool} {pl:List Int} {n N wk:Int}
theorem dR.cell (h:dR W base A Cb bv pv lv cv bh ch al pl n N wk):
  W.cell? (ag A 0)=some (aj Cb)/\W.cell? (ag A 1)=some bv/\W.cell? (ag A 2)=some pv/\W.cell? (ag A 3)=some lv/\W.cell? (ag A 4)=some (ae n):=by
 have:=h.blk;refine⟨?_,?_,?_,?_,?_⟩<;>simp[World.cell?,this]
theorem dR.frozen (h:dR W base A Cb bv pv lv cv bh ch al pl n N wk) (j:Nat):W.frozen? (ag A j)=false:=by
 have:=h.blk;simp[World.frozen?,this]
theorem dR.lt (h:dR W base A Cb bv pv lv cv bh ch al pl n N wk):A<W.heap.size:=(bg.1 h.blk).1
theorem dR.below {W':World} (h:dR W base A Cb bv pv lv cv bh ch al pl n N wk) (hb:Below W.heap.size W W'):dR W' base A Cb bv pv lv cv bh ch al pl n N wk:=
 ⟨h.hb,(aP hb h.blk).trans h.blk,h.gp.below hb,az h.ik hb,az h.iP hb,az h.dP hb,h.bE.kept fun b c fr a=>aP hb a,h.cE.kept fun b c fr a=>aP hb a,h.sep⟩
theorem EG (h:dR W base A Cb bv pv lv cv bh ch al pl n N wk):aK 130 #[aj A] W (gD W (.bool false)):=by
 obtain⟨a,-⟩:=h.cell;go_enter func130,ntmps130;go_wp2;go_ret;exact⟨rfl,aJ _ _⟩
end
def iA (ES:List jv) (al:List Bool) (pl:List Int) (id p:Int):Prop:=∃k:Nat,(id,(k:Int))∈ES/\al[k]? =some true/\pl[k]? =some p
def EH (NB CB:List (List jv)):Prop:=NB.length=CB.length/\∀(i:Nat) (h:i<NB.length) (h':i<CB.length),NB[i].Perm CB[i]
structure xY (CB NB:List (List jv)) (al:List Bool) (pl:List Int) (n N:Int):Prop where
 len:al.length=pl.length
 sorted:∀l∈NB,l.Pairwise fun p q=>p.1<=q.1
 perm:EH NB CB
 ids:(CB.flatten.map (·.1)).Nodup
 uX:∀x∈CB.flatten,∃k:Nat,x.2=k/\k<al.length
 xZ:(CB.flatten.map (·.2)).Nodup
 live:∀k:Nat,al[k]? =some true->∃x∈CB.flatten,x.2=k
 cnt:n=(al.count true:Nat)
 stored:N=(CB.flatten.length:Nat)
 bound:al.length<=5000
 small:CB.flatten.length<=5000
 size:∀(i:Nat) (h:i<CB.length),CB[i].length=0\/CB[i].length=2^i
 last:∀(i:Nat) (h:i<CB.length),i+1=CB.length->CB[i]≠[]
structure qa (CB NB:List (List jv)) (al:List Bool) (pl:List Int) (n N:Int):Prop extends xY CB NB al pl n N where
 most:N<=2*n
theorem mX {L:List jv} (h:(L.map (·.1)).Nodup) {x y:jv} (b:x∈L) (c:y∈L) (e:x.1=y.1):x=y:=by
 have a:L.Pairwise fun p q=>p.1≠q.1:=dF.1 h;rcases eZ a b c with h1|h1|h1
 .exact h1
 .exact absurd e h1
 .exact absurd e.symm h1
theorem gB {NB CB:List (List jv)} (h:EH NB CB) (x:jv):x∈NB.flatten↔x∈CB.flatten:=by
 simp only[qz];constructor
 .rintro⟨l,b,c⟩;obtain⟨i,hi,rfl⟩:=iN b;have a:i<CB.length:=by rw[<-h.1];exact hi
  exact⟨CB[i],bC a,(h.2 i hi a).mem_iff.1 c⟩
 .rintro⟨l,b,c⟩;obtain⟨i,a,rfl⟩:=iN b;have hi:i<NB.length:=by rw[h.1];exact a
  exact⟨NB[i],bC hi,(h.2 i hi a).mem_iff.2 c⟩
def VW (NB CB:List (List jv)) (al:List Bool) (pl:List Int) (id:Int) (W:World) (e:Ending) (w':World):Prop:=
 ∃t:Nat,t<=D6 NB/\((∃p,iA CB.flatten al pl id p/\e=.returned (.tuple #[ae p,.bool true,ae t]))\/((∀p,¬iA CB.flatten al pl id p)/\e=.returned (.tuple #[ae 0,.bool false,ae t])))/\Below W.heap.size W w'
section
variable {W:World} {base A Cb:Nat} {bv pv lv cv:Value} {bh ch:List l8} {al:List Bool} {pl:List Int} {n N wk:Int}
theorem Sg (h:dR W base A Cb bv pv lv cv bh ch al pl n N wk) (v:qa (ch.map (·.2.1)) (bh.map (·.2.1)) al pl n N) (J:bh.length<=1000) (Q:∀l∈bh.map (·.2.1),l.length<=10000) (id:Int):
  aK 72 #[aj A,ak id] W (VW (bh.map (·.2.1)) (ch.map (·.2.1)) al pl id W):=by
 have x:=af (EG h);have H:=af h;have C:=af (fun W' (s:Below W.heap.size W W')=>p9 A id W' _ bh bv base ((h.below s).cell.2.1) (h.below s).ik rfl (h.below s).bE v.sorted (aQ J) Q);have a:=af v;clear h v Q;go_enter func72,ntmps72
 go_wp2_with fail
 refine x.o.mono ?_;rintro e w2 ⟨rfl,g⟩
 go_wp2_with fail
 refine(C.o w2 g).mono ?_;rintro e w3 ⟨k,t,rfl,ht,Y,I⟩;have b:=g.trans (I.mono g.size);obtain⟨-,-,ag,ah,-⟩:=(H.o.below b).cell;rcases Y with⟨y,c,rfl,rfl⟩|⟨rfl,L⟩
 .rw[gB a.o.perm]at c;obtain⟨m,d,f⟩:=a.o.uX y c;have u:m<pl.length:=by rw[<-a.o.len];exact f
  obtain⟨ac,ad,rfl,-,-,O⟩:=Rd.aD (H.o.below b).dP;obtain⟨au,av,rfl,-,-,P⟩:=Rd.aD (H.o.below b).iP;obtain⟨ab,ae,D,-,G⟩:=O.get aa;obtain⟨ar,aw,E,-,M⟩:=P.get aa;have az:=G m f;have aA:=M m u;have i:Hid (al[m]=true->∃p,iA (ch.map (·.2.1)).flatten al pl y.1 p/\p=pl[m]):=fun r=>⟨pl[m],⟨m,by rw[<-d];exact c,by rw[cK f,r],by rw[cK u]⟩,rfl⟩;have j:Hid (al[m]=false->∀p,¬iA (ch.map (·.2.1)).flatten al pl y.1 p):=fun r p ⟨w,q,F,am⟩=>by
   have U:=a.o.ids;have V:y=(y.1,(w:Int)):=mX U c q rfl;have X:m=w:=by have:=congrArg Prod.snd V;rw[d]at this;simp only at this;omega
   subst X;rw[cK f,r]at F;cases F
  have z:=af D;have B:=af E;rw[d];clear G M O P D E;generalize al[m]=T at*;generalize pl[m]=ay at*;obtain rfl:=z.o;obtain rfl:=B.o;clear z B;have an:(m:Int)<(al.length:Int):=aa;have ao:(m:Int)<(pl.length:Int):=aa;have ap:(m:Int)<9223372036854775807:=by have:=a.o.bound;omega
  cases T
  .have Z:=af (j.o rfl);clear j i d c;go_wp2;go_ret3;exact⟨t,ht,.inr ⟨Z.o,rfl⟩,b⟩
  .obtain⟨aq,K,rfl⟩:=i.o rfl;have R:=af K;clear j i d c K C x a J f u g I H;have ai:decide ((m:Int)<0)=false:=ax;go_wp2;go_ret3;exact⟨t,ht,.inl ⟨_,R.o,rfl⟩,b⟩
 .have S:Hid (∀p,¬iA (ch.map (·.2.1)).flatten al pl id p):=fun p ⟨w,q,_⟩=>L _ ((gB a.o.perm _).2 q) rfl;clear L;go_wp2;go_ret3;exact⟨t,ht,.inr ⟨S.o,rfl⟩,b⟩
end
theorem Nk (W:World):dR ((W.alloc (.cells #[.bool true,aM,ae 0,ae 0] 290)).alloc (.cells #[aj W.heap.size,aM,aM,aM,ae 0] 207)) W.heap.size (W.heap.size+1) W.heap.size (aM) (aM) (aM) (aM) [] [] [] [] 0 0 0 where
 hb:=Nat.le_succ _
 blk:=by
  have:=vK (W.alloc (.cells #[.bool true,aM,ae 0,ae 0] 290)) (.cells #[aj W.heap.size,aM,aM,aM,ae 0] 207);rw[show(W.alloc (.cells #[.bool true,aM,ae 0,ae 0] 290)).heap.size=W.heap.size+1 by simp]at this;exact this
 gp:=⟨aA _,VV,by
  have b:=vK W (.cells #[.bool true,aM,ae 0,ae 0] 290);exact(bU _ _ _ ax).trans b,cZ _ _ _ _⟩
 ik:=cZ _ _ _ _
 iP:=cZ _ _ _ _
 dP:=cZ _ _ _ _
 bE:=fun h a=>by cases a
 cE:=fun h a=>by cases a
 sep:=.inl rfl
theorem PN:qa [] [] [] [] 0 0 where
 len:=rfl
 sorted:=fun l b=>by cases b
 perm:=⟨rfl,fun i h=>by cases h⟩
 ids:=qD
 uX:=fun x c=>by cases c
 xZ:=qD
 live:=fun k a=>by cases a
 cnt:=rfl
 stored:=rfl
 most:=ai
 bound:=aT _
 small:=aT _
 size:=fun i h=>by cases h
 last:=fun i h=>by cases h
theorem UF (W:World):aK 54 #[] W fun e w'=>e=.returned (aj (W.heap.size+1))/\dR w' W.heap.size (W.heap.size+1) W.heap.size (aM) (aM) (aM) (aM) [] [] [] [] 0 0 0/\Below W.heap.size W w':=by
 have H:=af (Nk W);have a:Hid (Below W.heap.size W ((W.alloc (.cells #[.bool true,aM,ae 0,ae 0] 290)).alloc (.cells #[aj W.heap.size,aM,aM,aM,ae 0] 207))):=((aJ _ _).alloc (aA _) _).alloc ax _;go_enter func54,ntmps54;go_wp2;go_ret;exact⟨rfl,H.o,a.o⟩
end
section
open Go.RowKit Go.Maps
attribute [local irreducible] wpQuiet
section
variable {W:World} {base A Cb:Nat} {bv pv lv cv:Value} {bh ch:List l8} {al:List Bool} {pl:List Int} {n N wk:Int}
theorem dR.UG (h:dR W base A Cb bv pv lv cv bh ch al pl n N wk) (n':Int):dR (W.setCell (ag A 4) (.int .i64 n')) base A Cb bv pv lv cv bh ch al pl n' N wk where
 hb:=h.hb
 blk:=by rw[dC W A 4 _ _ _ h.blk];rfl
 gp:=⟨h.gp.hb,h.gp.ds,(aG (eD h.blk h.gp.blk ai)).trans h.gp.blk,bn h.gp.row fun a e=>aG (bz h.gp.row h.blk ai a e)⟩
 ik:=bn h.ik fun a e=>aG (bz h.ik h.blk ai a e)
 iP:=bn h.iP fun a e=>aG (bz h.iP h.blk ai a e)
 dP:=bn h.dP fun a e=>aG (bz h.dP h.blk ai a e)
 bE:=h.bE.kept fun b d fr c=>aG (eD h.blk c ai)
 cE:=h.cE.kept fun b d fr c=>aG (eD h.blk c ai)
 sep:=h.sep
theorem Bf {e:TypeId} {sz k g c:Nat} {xs:List Value} (h:W.ownsRow base e sz (aC g k c) k xs):∃b,W.heap[g]? =some (Obj.cells b e (0,0)):=by
 rcases h.2 with⟨a,_⟩|⟨i,f,b,a,_,d,_⟩
 .cases a
 .injection a with a;injection a with a;injection a with a _ _;subst a;exact⟨b,d⟩
theorem dR.UH {g k f:Nat} (h:dR W base A Cb bv pv (aC g k f) cv bh ch al pl n N wk) (d:k=al.length) (m:Nat) (b:Bool):dR (W.setCell (ag g m) (.bool b)) base A Cb bv pv (aC g k f) cv bh ch (al.set m b) pl n N wk:=by
 subst d;have⟨i,a⟩:=Bf h.dP;refine⟨h.hb,(aG (eD a h.blk ai)).trans h.blk,⟨h.gp.hb,h.gp.ds,(aG (eD a h.gp.blk ai)).trans h.gp.blk,bn h.gp.row fun c e=>aG (bz h.gp.row a ai c e)⟩,
  bn h.ik fun c e=>aG (bz h.ik a ai c e),bn h.iP fun c e=>aG (bz h.iP a ai c e),?_,
  h.bE.kept fun b i fr d=>aG (eD a d ai),h.cE.kept fun b i fr d=>aG (eD a d ai),h.sep⟩
 rw[nu,jg];exact(h.dP.stored m _).1
theorem dR.W9 {g k f:Nat} (h:dR W base A Cb bv (aC g k f) lv cv bh ch al pl n N wk) (d:k=pl.length) (m:Nat) (p:Int):dR (W.setCell (ag g m) (.int .i64 p)) base A Cb bv (aC g k f) lv cv bh ch al (pl.set m p) n N wk:=by
 subst d;have⟨i,a⟩:=Bf h.iP;refine⟨h.hb,(aG (eD a h.blk ai)).trans h.blk,⟨h.gp.hb,h.gp.ds,(aG (eD a h.gp.blk ai)).trans h.gp.blk,bn h.gp.row fun c e=>aG (bz h.gp.row a ai c e)⟩,
  bn h.ik fun c e=>aG (bz h.ik a ai c e),?_,bn h.dP fun c e=>aG (bz h.dP a ai c e),
  h.bE.kept fun b i fr d=>aG (eD a d ai),h.cE.kept fun b i fr d=>aG (eD a d ai),h.sep⟩
 rw[nu,jg];exact(h.iP.stored m _).1
theorem Gh (h:dR W base A Cb bv pv lv cv bh ch al pl n N wk) (g:qa (ch.map (·.2.1)) (bh.map (·.2.1)) al pl n N) (F:bh.length<=1000) (L:∀l∈bh.map (·.2.1),l.length<=10000) (id p M:Int) (G:iA (ch.map (·.2.1)).flatten al pl id M):
  aK 56 #[aj A,ak id,ae p] W (gD W (ae 2)):=by
 have j:=af (EG h);have H:=af h;have r:=af (fun W' (c:Below W.heap.size W W')=>p9 A id W' _ bh bv base ((h.below c).cell.2.1) (h.below c).ik rfl (h.below c).bE g.sorted (aQ F) L);have b:=af g;have s:=af G;go_enter func56,ntmps56
 go_wp2_with fail
 refine j.o.mono ?_;rintro e w2 ⟨rfl,d⟩
 go_wp2_with fail
 refine(r.o w2 d).mono ?_;rintro e w3 ⟨k,t,rfl,ht,D,C⟩;have a:=d.trans (C.mono d.size);have⟨m,f,z,X⟩:=s.o;obtain⟨-,-,T,U,-⟩:=(H.o.below a).cell;have E:k=(m:Int):=by
  rcases D with⟨y,i,v,w⟩|⟨-,J⟩
  .rw[gB b.o.perm]at i;have:=mX b.o.ids i f (aQ v);rw[<-w,this]
  .exact absurd rfl (J _ ((gB b.o.perm _).2 f))
 subst E;have⟨I,B⟩:=fI.1 z;obtain⟨Q,R,rfl,-,-,K⟩:=Rd.aD (H.o.below a).dP;obtain⟨P,S,u,-,x⟩:=K.get aa;have O:=x m I;rw[B]at O;have V:(m:Int)<(al.length:Int):=aa;have q:=af u;obtain rfl:=q.o;go_wp2;go_ret;exact⟨rfl,a⟩
theorem Gi (h:dR W base A Cb bv pv lv cv bh ch al pl n N wk) (z:qa (ch.map (·.2.1)) (bh.map (·.2.1)) al pl n N) (U:bh.length<=1000) (ab:∀l∈bh.map (·.2.1),l.length<=10000) (id p:Int) (m:Nat) (w:(id,(m:Int))∈(ch.map (·.2.1)).flatten) (g:al[m]? =some false) (az:0<=n/\n<=100000):
  aK 56 #[aj A,ak id,ae p] W fun e w'=>e=.returned (ae 0)/\dR w' base A Cb bv pv lv cv bh ch (al.set m true) (pl.set m p) (n+1) N wk/\aB (fun k=>k=A\/pv.ownBlock=some k\/lv.ownBlock=some k) W w':=by
 have F:=af (EG h);have H:=af h;have G:=af (fun W' (d:Below W.heap.size W W')=>p9 A id W' _ bh bv base ((h.below d).cell.2.1) (h.below d).ik rfl (h.below d).bE z.sorted (aQ U) ab);have c:=af z;go_enter func56,ntmps56
 go_wp2_with fail
 refine F.o.mono ?_;rintro e w2 ⟨rfl,f⟩
 go_wp2_with fail
 refine(G.o w2 f).mono ?_;rintro e w3 ⟨k,t,rfl,ht,S,R⟩;have r:=f.trans (R.mono f.size);have a:=af (H.o.below r);have⟨ad,ah,ai,am,an⟩:=a.o.cell;have T:k=(m:Int):=by
  rcases S with⟨y,B,P,Q⟩|⟨-,X⟩
  .rw[gB c.o.perm]at B;have:=mX c.o.ids B w (aQ P);rw[<-Q,this]
  .exact absurd rfl (X _ ((gB c.o.perm _).2 w))
 subst T;have⟨V,aq⟩:=fI.1 g;have x:m<pl.length:=by rw[<-c.o.len];exact V
 obtain⟨u,L,M,ar,au,-,-⟩:=aS a.o.dP aa;obtain⟨v,ac,O,av,aw,-,-⟩:=aS a.o.iP aa;subst M O;have C:=a.o.dP.cellAt m aa;have E:=a.o.iP.cellAt m aa;rw[ib,g]at C;rw[ib,cK x]at E;simp only[eP]at C E;have f4:=a.o.frozen 4;have ax:(m:Int)<(al.length:Int):=aa;have ay:(m:Int)<(pl.length:Int):=aa;have b:=a.o.UG (n+1);have⟨d0,d1,d2,d3,d4⟩:=b.cell;have D:=b.dP.cellAt m aa;have i:=b.iP.cellAt m aa;rw[ib,g]at D;rw[ib]at i;have ao:=b.dP.frozenAt m;have K:=(b.UH rfl m true).W9 rfl m p;have s:=b.UH rfl m true;have j:=s.iP.cellAt m aa;rw[ib]at j;have ap:=s.iP.frozenAt m;have Y:∃q,pl[m]? =some q:=⟨pl[m],cK x⟩;have⟨aA,Z⟩:=Y;rw[Z]at i j;simp only[eP]at D i j;have J:=af K;have I:Hid (aB (fun k=>k=A\/Value.ownBlock (aC v pl.length ac)=some k\/Value.ownBlock (aC u al.length L)=some k) W (((w3.setCell (ag A 4) (.int .i64 (n+1))).setCell (ag u m) (.bool true)).setCell (ag v m) (.int .i64 p)).drew):=
  ((((aB.refl _ W).below r).set _ (.inl (.inl rfl))).set _ (.inl (.inr (.inr rfl)))).set _ (.inl (.inr (.inl rfl)))|>.drew
 go_wp2;go_region
 all_goals
  go_wp2;go_ret;exact⟨rfl,J.o.below (aJ _ _).drew,I.o⟩
end
end
section
open Go.RowKit Go.Maps
def dL (al:List Bool) (x:jv):Bool:=al[x.2.toNat]? ==some true
theorem ry (i:Nat) (hi:i<14):0<2^i/\2^i<=8192:=⟨Nat.wL i,Bt ai (by omega:i<=13)⟩
where Nat.wL (i:Nat):0<2^i:=qK ai
theorem PO (i:Nat) (hi:i<14):wrap64 ((2:Int)^i)=((2^i:Nat):Int):=by
 have h:=ry i hi;rw[show((2:Int)^i)=((2^i:Nat):Int) by rw[Int.natCast_pow];rfl];generalize 2^i=p at*;unfold wrap64;omega
theorem TP (n i:Nat) (hi:i<14) (f:n<=10000):bits .and .i64 (n:Int) ((2^i:Nat):Int)=(if n.testBit i then((2^i:Nat):Int)else 0):=by
 have h:=ry i hi;have b:(BitVec.ofInt 64 (n:Int)).toNat=n:=by
  rw[BitVec.ofInt_natCast,BitVec.toNat_ofNat];exact FK aa
 have c:(BitVec.ofInt 64 ((2^i:Nat):Int)).toNat=2^i:=by
  rw[BitVec.ofInt_natCast,BitVec.toNat_ofNat];exact FK aa
 show IntKind.i64.wrap ((BitVec.ofInt 64 (n:Int) &&& BitVec.ofInt 64 ((2^i:Nat):Int)).toNat:Int)=_;have d:n &&& 2^i=if n.testBit i then 2^i else 0:=by
  apply Nat.eq_of_testBit_eq;intro j;rw[Nat.testBit_and,Nat.testBit_two_pow];by_cases a:i=j
  .subst a;cases e:n.testBit i<;>simp[]
  .cases e:n.testBit i<;>simp[a]
 rw[BitVec.toNat_and,b,c,d];generalize 2^i=p at*;cases n.testBit i<;>simp[IntKind.wrap,IntKind.bits,IntKind.signed];omega
theorem Ii (n i:Nat):(n.testBit i=true->n%2^(i+1)=n%2^i+2^i)/\(n.testBit i=false->n%2^(i+1)=n%2^i):=by
 rw[Nat.testBit_eq_decide_div_mod_eq,Nat.mod_pow_succ];have a:n/2^i%2=0\/n/2^i%2=1:=aa;generalize n/2^i%2=b at*;rcases a with rfl|rfl<;>simp
section
variable {P:Program} {ops:Array Oper} {rest:List Oper} {o:Oper} {a:Act} {Q:Exit->Act->World->Prop}
theorem wM {α:Type} {enc:α->List Value} {sz:Nat} {t e:TypeId} {bytes:Nat} (s:eY P t e sz bytes) {W:World} {ad:Option Addr} {l:List α} {c:Nat} (E:bV enc sz W ad l) (w:l.length<=c) (lo hi:Nat) (q:lo<=hi) (u:hi<=l.length)
  (y:o.guard=none) (x:Operand) (n f:Option Operand) (j:o.op=.slice t x n f none) (m:a.eval x=.slice ad l.length c)
  (g:(n.map a.eval).getD (.int .i64 0)=.int .i64 lo) (b:(f.map a.eval).getD (.int .i64 l.length)=.int .i64 hi)
  (h:∀p,(∀W',bV enc sz W' ad l->bV enc sz W' p ((l.take hi).drop lo))->wpList P ops Q rest (a.put o.dst (.slice p (hi-lo) (c-lo))) W):wpList P ops Q (o::rest) a W:=by
 obtain⟨ht,⟨i,z,A,G,C,D,H⟩,F⟩:=s;refine wpList_plain y fun K v=>?_;have d:=v _ _ (h _ (fun W' B=>F5 B w lo hi u));have hu:∀W',(underlying t).run P W'=.ok (.slice e) W':=fun W'=>qC ht W';have k:∀W',(sizeOf e).run P W'=.ok sz W':=fun W'=>by simp[sizeOf,typeInfo,A,C]
 unfold Oper.wp execOp;have r:hi<=c:=aa;rcases n with _|lw
 .simp only[mh,nC,qA,qM]at g;obtain rfl:lo=0:=aa;rcases f with _|hg
  .simp only[mh,nC,qA,qM]at b;obtain rfl:hi=l.length:=aa;simp only[j,m,mh,Instr.sliceAt,Instr.slice,Instr.sliceBounds,za,hu,k,yV,zb];exact d
  .simp only[eP,ic]at b;simp[j,m,b,Instr.sliceAt,Instr.slice,Instr.sliceBounds,Instr.sliceBound,hu,k,asIntOf,r];simp only[Nat.zero_mul,Cf]at d;exact d
 .simp only[eP,ic]at g;rcases f with _|hg
  .simp only[mh,nC,qA,qM]at b;obtain rfl:hi=l.length:=aa;simp[j,m,g,Instr.sliceAt,Instr.slice,Instr.sliceBounds,Instr.sliceBound,hu,k,asIntOf,q];exact d
  .simp only[eP,ic]at b;simp[j,m,g,b,Instr.sliceAt,Instr.slice,Instr.sliceBounds,Instr.sliceBound,hu,k,asIntOf,q,r];exact d
end
end
section
open Go.RowKit Go.Maps
attribute [local irreducible] wpQuiet
def Xa (W:World) (base Cb:Nat) (wk:Int) (l:List jv) (e:Ending) (w':World):Prop:=
 ∃(DT:Value) (rR:List l8) (LC:Int),e=.returned (ae l.length)/\jr w' base Cb DT rR l.length LC/\kK w' rR/\rR.map (·.2.1)=setC (Lib.bitLen l.length) l/\
  (DT.ownBlock=none\/∃b,DT.ownBlock=some b/\W.heap.size<=b)/\aB (fun k=>k=Cb) W w'/\Nw W.heap.size [] rR/\LC=wrap64 (wk+(l.length:Int))
theorem Si {W:World} {base Cb:Nat} {cv:Value} {ch:List l8} {N wk:Int} (h:jr W base Cb cv ch N wk) (cl:base<=W.heap.size) (a:Option Addr) (l:List jv) (c:Nat) (bb:Nj W a l) (bR:l.length<=c) (aE:l.length<=10000):
  aK 211 #[aj Cb,.slice a l.length c] W (Xa W base Cb wk l):=by
 have aT:=af (ui h);have H:=af h;have bK:=fP aE ai;have bL:Lib.bitLen 10000=14:=ai;rw[bL]at bK;have aZ:=af bb;have a0:l.length<2^Lib.bitLen l.length:=by
  by_cases a7:l.length=0
  .rw[a7];decide
  .exact(bD _ aa a7).2.2
 have bp:=af a0;clear a0;clear h bb;go_enter func211,ntmps211
 go_wp2_with fail
 refine aT.o.mono ?_;rintro e w2 ⟨rfl,B⟩;have C:=af (H.o.below B);obtain⟨bB,bC,bE,bF⟩:=C.o.cell;have f1:=C.o.frozen 1;have Z:Hid (jr (w2.setCell (ag Cb 1) (aM)) base Cb (aM) [] N wk):=iI.MZ (ch:=ch) C.o.blk C.o.hb C.o.ds (cZ _ _ _ _) (by simp[Value.ownBlock]);obtain⟨d0,d1,d2,d3⟩:=Z.o.cell;have f2:=Z.o.frozen 2;have a3:Hid (jr ((w2.setCell (ag Cb 1) (aM)).setCell (ag Cb 2) (.int .i64 l.length)) base Cb (aM) [] l.length wk):=Z.o.Cr _;have a2:Hid (aB (fun k=>k=Cb) W ((w2.setCell (ag Cb 1) (aM)).setCell (ag Cb 2) (.int .i64 l.length))):=(((aB.refl (fun k=>k=Cb) W).below B).set (a:=(ag Cb 1)) _ (.inl rfl)).set (a:=(ag Cb 2)) _ (.inl rfl);have cj:=H.o.lt;clear aT
 go_upto_block 0 with fail
 go_cut []from 19 to 33 (fun w=>∃v,Hid (jr w base Cb v (List.replicate (Lib.bitLen l.length) fZ) l.length wk)/\Hid (v.ownBlock=none\/∃b,v.ownBlock=some b/\W.heap.size<=b)/\Hid (aB (fun k=>k=Cb) W w))
 case first=>
  go_wp2_with fail
  generalize((w2.setCell (ag Cb 1) (aM)).setCell (ag Cb 2) (.int .i64 l.length))=w3 at*
  go_loopw [5] (fun aL wr=>∃(k m:Nat) (v:Value),aL=.int .i64 m/\m<=10000/\Hid (k+Lib.bitLen m=Lib.bitLen l.length)/\Hid (jr wr base Cb v (List.replicate k fZ) l.length wk)/\Hid (v.ownBlock=none\/∃b,v.ownBlock=some b/\W.heap.size<=b)/\Hid (aB (fun k=>k=Cb) W wr)) (fun aL _=>(intOf aL).toNat)
  case atStart=>exact⟨0,l.length,_,rfl,aE,(by show _=_;omega),a3,.inl rfl,a2⟩
  case round=>
   obtain⟨k,m,v,rfl,bX,aY,f,E,s⟩:=hrel;by_cases AQ:m=0
   .subst AQ;obtain rfl:k=Lib.bitLen l.length:=aY.o
    go_wp2_with fail
    go_meet;exact⟨v,f,E,s⟩
   .have aW:Hid (k+1+Lib.bitLen (m/2)=Lib.bitLen l.length):=by
     have:=Lib.bitLen_half m AQ aa;have:=aY.o;show _=_;omega
    have ah:k+1<=14:=by have:=aW.o;omega
    have J:=f.o.row;rw[iM]at J;have b0:=f.o.ne;have cx:(0:Int)<(m:Int):=aa;obtain⟨aw,ax,ay,az⟩:=f.o.cell;have bt:Hid (∀w6,wr.grownBy w6 v.ownBlock->w6.heap[Cb]? =some (Obj.cells #[.bool true,v,ae l.length,ae wk] 290 (0,0))):=fun w6 ac=>(ac.block Cb f.o.lt (fun e=>f.o.ne e.symm)).trans f.o.blk
    go_wp2_with (at_builtin;refine cB LP base J [aM] rfl (by simp[Value.oneCell']) rfl _ _ rfl rfl _ rfl dE aa (by have:=s.o.size;omega) ?_;intro cE w6 bd ac ba;obtain⟨a6,j,rfl,cp,cq,cr,cs⟩:=aS bd aa;have aJ:=bt.o w6 ac;have cC:w6.cell? (ag Cb 1)=some v:=(aI aJ);have cD:w6.frozen? (ag Cb 1)=false:=(aI aJ))
    have ck:=f.o.lt;have b1:w6.ownsRow base 209 1 (aC a6 (k+1) j) (List.replicate (k+1) (fZ:l8)).length ((List.replicate (k+1) (fZ:l8)).map eu):=by
     rw[iM,EA,bJ];exact bd
    have b2:Value.ownBlock (aC a6 (k+1) j)≠some Cb:=by
     rcases ba with h9|h9
     .rw[h9];exact b0
     .rw[h9];simp;omega
    go_roundw
    case rel=>
     refine⟨k+1,m/2,_,by go_num,aa,aW,iI.MZ (ch:=List.replicate k fZ) aJ f.o.hb f.o.ds b1 b2,?_,(s.o.grown ac ?_).set (a:=(ag Cb 1)) _ (.inl rfl)⟩
     .rcases ba with h9|h9
      .rw[h9];exact E
      .exact .inr ⟨_,h9,by have:=s.o.size;simp;omega⟩
     .intro b i;rcases E.o with h9|⟨b4,h9,Q⟩
      .rw[h9]at i;cases i
      .rw[h9]at i;injection i with i;subst i;exact .inr Q
    case measure=>exact bZ
 case rest=>
  obtain⟨v,f,E,s⟩:=hcut;obtain⟨w3,bI⟩:∃w3:World,w3=wc:=⟨_,rfl⟩;subst bI;clear Z a3 a2 bB bC bE bF f1 f2 d0 d1 d2 d3 C B;generalize bM:Lib.bitLen l.length=K at*;obtain⟨x,aF⟩:∃x,x=v.ownBlock:=⟨_,rfl⟩;have a1:Hid (∀W',aB (fun k=>k=Cb\/x=some k) w3 W'->bV iZ 2 W' a l):=fun W' R=>((aZ.o.kept (H.o.fG rfl (s.o.mono (fun k h=>.inl h)))).kept (f.o.fG aF R)).OP;have au:=af aF;clear aF;have ao:=f.o;have bu:Hid (kK w3 (List.replicate K fZ)):=EB _ _;have bq:Hid ((List.replicate K (fZ:l8)).map (·.2.1)=List.replicate K []++[]):=by show _=_;simp
  have bo:Hid (l.length=l.length%2^K):=(FK bp.o).symm;obtain⟨av,P,bh,-,bS,-⟩:=Rd.aD (enc:=eu) ao.row;rw[iM]at bh bS;subst bh;obtain⟨b7,b8,b9,ca⟩:=ao.cell;clear ao
  go_upto_block 2 with fail
  go_cut []from 35 to 64 (fun w=>∃ch1,Hid (jr w base Cb (.slice av K P) ch1 l.length wk)/\Hid (Nw W.heap.size [] ch1)/\Hid (kK w ch1)/\Hid (ch1.map (·.2.1)=setC K l)/\Hid (aB (fun k=>k=Cb\/x=some k) w3 w))
  case first=>
   go_wp2_with fail
   go_loopw [7,6] (fun aH b3 wr=>∃(m:Nat) (ad:Option Addr) (r:List jv) (y:Nat) (ch1:List l8) (T:List (List jv)),aH=.int .i64 ((m:Int)-1)/\b3=.slice ad r.length y/\m<=K/\r.length<=y/\Hid (r.length=l.length%2^m)/\Hid (∀W',aB (fun k=>k=Cb\/x=some k) w3 W'->bV iZ 2 W' ad r)/\
    Hid (jr wr base Cb (.slice av K P) ch1 l.length wk)/\Hid (Nw W.heap.size [] ch1)/\Hid (kK wr ch1)/\Hid (ch1.map (·.2.1)=List.replicate m []++T)/\Hid (setC K l=setC m r++T)/\Hid (aB (fun k=>k=Cb\/x=some k) w3 wr)) (fun aH _ _=>(intOf aH+1).toNat)
   case atStart=>exact⟨K,a,l,c,_,[],by go_num,rfl,aA _,bR,bo,a1,f,Nw.Uq,bu,bq,(by show _=_;simp),aB.refl _ _⟩
   case round=>
    obtain⟨m,ad,r,y,ch1,T,rfl,rfl,bX,bg,X,M,q,L,D,A,Y,t⟩:=hrel;rcases nW m with AQ|AQ
    .subst AQ;have cm:¬(0:Int)<=((0:Nat):Int)-1:=aa
     go_wp2_with fail
     go_meet;exact⟨ch1,q,L,D,(by have d:=A.o;have G:=Y.o;show _=_;rw[d,G];rfl),t⟩
    .obtain⟨k,rfl⟩:∃k,m=k+1:=⟨m-1,aa⟩;have ah:k<14:=aa;have ak:=Ii l.length k;have cw:r.length<=l.length:=by rw[X.o];exact Nat.mod_le _ _
     have bz:=PO k ah;have O:=TP l.length k ah aE;have hp:=ry k ah;have bU:(((k+1:Nat):Int)-1)=(k:Int):=aa;have ct:(0:Int)<=(k:Int):=aa;have aG:ch1.length=K:=by
      have d:=congrArg List.length A.o;have G:=congrArg List.length Y.o;rw[fo,bQ,fo]at G;simp at d;omega
     rw[bU];by_cases i:l.length.testBit k=true
     .rw[i]at O;simp only[gJ]at O;have I:=ak.1 i;rw[<-X.o]at I;have al:2^k<=r.length:=aa;have ar:Hid (setC K l=setC k (r.drop (2^k))++r.take (2^k)::T):=by
       have d:=Y.o;rw[setC,aO al,dW]at d;exact d
      have V:Hid (∀hd:l8,hd.2.1=r.take (2^k)->(ch1.set k hd).map (·.2.1)=List.replicate k []++r.take (2^k)::T):=fun hd h9=>by
       rw[jg,A.o,h9,Hr]
      have aq:Hid ((r.drop (2^k)).length=l.length%2^k):=by
       show _=_;rw[mg];omega
      clear ak i I;generalize S:2^k=p at*;have ap:=af S;clear S;obtain⟨b,off,bH,bP,-⟩:=(M.o wr t.o).get aa;subst bH;obtain⟨g,b5,ab,cn,co,-,-⟩:=aS q.o.row aa;rw[aG]at ab;injection ab with ab _ bG;subst ab bG;obtain⟨aw,ax,ay,az⟩:=q.o.cell;have U:(r.take p).length=p:=by rw[dO];omega
      have an:=af (CR (some (ag b off)) (r.take p) p y wr.drew U ((M.o wr.drew t.o.drew).take p) aa);have cz:(0:Int)<=(p:Int)/\(p:Int)<=(r.length:Int):=aa;have cy:(p:Int)<=(y:Int):=aa;have be:((p:Int)!=0)=true:=by simp only[bne_iff_ne,ne_eq];omega
      go_upto_region 14 with fail
      simp only[bz,O,be]
      go_cut []from 52 to 61 (fun w=>∃F,Hid (jr w base Cb (aC g K P) F l.length wk)/\Hid (Nw W.heap.size [] F)/\Hid (kK w F)/\Hid (F.map (·.2.1)=List.replicate k []++r.take p::T)/\Hid (aB (fun k=>k=Cb\/x=some k) w3 w))
      case first=>
       have bi:aK 204 #[.slice (some (ag b off)) p y] wr.drew fun e w6=>∃u j z,e=.returned (.slice u p j)/\Hid (p<=j)/\Hid (∀a,u=some a->W.heap.size<=a.block)/\Hid (Nj w6 u (r.take p))/\Hid (jr w6 base Cb (aC g K P) ch1 l.length wk)/\Hid (Below wr.drew.heap.size wr.drew w6)/\w6.cell? (ag Cb 1)=some (aC g K P)/\w6.cell? (ag g k)=some z/\w6.frozen? (ag g k)=false:=by
        refine an.o.mono ?_;rintro e w6 ⟨cF,rfl,bc,a9⟩;obtain⟨u,j,rfl,cg,a8,bN⟩:=Nj.aD bc;have am:=q.o.drew.below a9;obtain⟨cc,a5,cd,ce⟩:=am.cell;have J:=am.row;rw[aG]at J;have aR:=J.cellAt k aa;have a4:=J.frozenAt k;rw[cK (show k<(ch1.map eu).length by simp;omega)]at aR;rw[U]at a8;exact⟨u,j,_,by rw[U],a8,(fun a bO=>by have d:=(bc.lt a.block (by rw[bO];rfl)).1;have G:=t.o.size;have cf:=s.o.size;simp at d;omega),bN,am,a9,a5,aR,a4⟩
       clear an;have cu:(k:Int)<(K:Int):=aa
       go_region_with (go_at_call 204;with_reducible refine bi.mono ?_;rintro e w6 ⟨u,j,z,rfl,bm,bj,bx,aV,aU,a5,aR,a4⟩)
       all_goals go_wp2_with fail
       all_goals go_meet
       all_goals
        have bW:Value.slice u p j=eu (u,r.take p,j):=by unfold eu;simp only;rw[U]
        rw[bW];have bT:x=some g:=au.o;exact⟨ch1.set k (u,r.take p,j),aV.o.MX aG.symm k _,L.o.set bj.o,Ht (D.o.kept (W':=w6) fun b b6 fr i=>aP (W:=wr.drew) aU.o i) (aV.o.fG (W':=w6.setCell (ag g k) (eu (u,r.take p,j))) rfl ((aB.refl _ w6).set (a:=(ag g k)) _ (.inl (.inr rfl)))) bx.o (by show(r.take p).length<=j;rw[U];exact bm.o),V.o _ rfl,(((t.o.drew).below aU.o).set (a:=(ag g k)) _ (.inl (.inr bT)))⟩
      case rest=>
       obtain⟨F,bk,bs,bv,br,aX⟩:=hcut;clear an q D A V t aw ax ay az bP be X
       go_wp2_with (refine wM Ih (M.o _ aX.o) bg p r.length al (aA _) rfl _ _ _ rfl rfl rfl rfl ?_;intro bA bf;simp only[iE]at bf)
       go_roundw
       case rel=>exact⟨k,bA,r.drop p,y-p,F,r.take p::T,rfl,(by rw[mg]),aa,(by rw[mg];omega),(by rw[ap.o];exact aq),(fun W' R=>bf W' (M.o W' R)),bk,bs,bv,br,ar,aX⟩
       case measure=>simp[intOf]
     .have B:l.length.testBit k=false:=aQ i;rw[B]at O;simp only[jC,pq]at O;have I:=ak.2 B;rw[<-X.o]at I;have al:¬2^k<=r.length:=by have:=qL l.length (qK (n:=k) (show 0<2 by decide));omega
      have ar:Hid (setC K l=setC k r++[]::T):=by
       have d:=Y.o;rw[setC,aN al,dW]at d;exact d
      have V:Hid (ch1.map (·.2.1)=List.replicate k []++[]::T):=by
       have d:=A.o;rw[sJ,dW]at d;exact d
      have aq:=af I;clear ak i B I;generalize S:2^k=p at*;have ap:=af S;clear S
      go_wp2_with fail
      go_roundw
      case rel=>exact⟨k,ad,r,y,ch1,[]::T,rfl,rfl,aa,bg,by rw[ap.o];exact aq,M,q,L,D,V,ar,t⟩
      case measure=>simp[intOf]
  case rest=>
   obtain⟨ch1,q,L,D,A,t⟩:=hcut;obtain⟨aw,ax,ay,az⟩:=q.o.cell;have cb:=q.o.frozen 3;have bl:=af (q.o.RN (wrap64 (wk+(l.length:Int))));have bw:Hid (kK (wc.setCell (ag Cb 3) (.int .i64 (wrap64 (wk+(l.length:Int))))) ch1):=D.o.kept (q.o.fG rfl ((aB.refl _ wc).set (a:=(ag Cb 3)) _ (.inl (.inl rfl))));have bn:Hid (aB (fun k=>k=Cb) W (wc.setCell (ag Cb 3) (.int .i64 (wrap64 (wk+(l.length:Int)))))):=by
    have cA:=s.o.size;have d:aB (fun k=>k=Cb\/W.heap.size<=k) W wc:=(s.o.mono (fun k h=>.inl h)).trans (t.o.mono (fun k h=>h.imp id (fun h9=>by
     rcases E.o with Q|⟨b,Q,ci⟩
     .rw[au.o,Q]at h9;cases h9
     .rw[au.o,Q]at h9;injection h9 with h9;omega)))
    have G:aB (fun k=>k=Cb) W wc:=⟨d.os,d.tape,d.output,d.size,fun k R bY=>d.block k R (fun h9=>by rcases h9 with h9|h9;exact bY h9;omega)⟩;exact G.set (a:=(ag Cb 3)) _ (.inl rfl)
   clear s t a1 f aZ;go_wp2;go_ret;exact⟨_,ch1,_,rfl,bl.o,bw.o,by rw[bM];exact A.o,E.o,bn.o,L.o,rfl⟩
end
section
open Go.RowKit Go.Maps
theorem jW {α:Type} (CB:List (List α)) (i:Nat):(fw CB i).Perm (CB.take i).flatten:=by
 unfold fw;exact(vP _).flatten
theorem uN {α:Type} (CB:List (List α)) (i:Nat) (x:α) (f:∀h:i<CB.length,CB[i]=[]):(kT CB i x).flatten.Perm (x::CB.flatten):=by
 have b:(List.replicate i ([]:List α)).flatten=[]:=ax;have c:CB.flatten=(CB.take i).flatten++(CB.drop (i+1)).flatten:=by
  by_cases h:i<CB.length
  .have d:CB=CB.take i++(CB[i]::CB.drop (i+1)):=by rw[<-ky h,jd]
   have a:=congrArg List.flatten d;rw[f h,lN,vO,gu]at a;exact a
  .rw[jc aa,o8 aa];simp
 unfold kT;rw[lN,b,gu,vO,c];have e:(fw CB i++[x]).Perm (x::(CB.take i).flatten):=List.perm_append_comm.trans ((jW CB i).cons x);exact e.append_right _
theorem zH {α:Type} (CB:List (List α)) (i:Nat) (hi:i<=CB.length) (h:∀j (a:j<CB.length),j<i->CB[j].length=2^j):(fw CB i).length+1=2^i:=by
 rw[(jW CB i).length_eq]
 induction i with
 |zero=>simp
 |succ k ih=>
  rw[gT aa,lN,bQ];have b:=ih aa (fun j a d=>h j a aa);have c:=h k aa aa;simp only[vO,List.flatten_nil,je];rw[qH];omega
theorem qb {α:Type} (CB:List (List α)) (i:Nat) (x:α) (hi:i<=CB.length):(kT CB i x).length=if i<CB.length then CB.length else i+1:=by
 unfold kT;simp;split<;>omega
theorem qc {α:Type} (CB:List (List α)) (i:Nat) (x:α) (j:Nat) (c:j<(kT CB i x).length):(kT CB i x)[j]=if j<i then[]else if j=i then fw CB i++[x]else CB.getD j []:=by
 have e:(kT CB i x)[j]? =some ((kT CB i x)[j]):=cK c;generalize(kT CB i x)[j]=X at*;unfold kT at e;by_cases a:j<i
 .rw[aO a];rw[mr (aQ a)]at e;simp[a]at e
  first|exact e|exact e.symm
 .rw[aN a];rw[nV aH,iM]at e;by_cases b:j=i
  .rw[aO b];subst b;rw[jh,eG]at e;injection e with e;exact e.symm
  .rw[aN b];rw[show j-i=(j-i-1)+1 by omega,eQ,FC,show i+1+(j-i-1)=j by omega]at e;rw[jA,e];rfl
theorem x8 {l:List Nat} {n:Nat} (h:l.Nodup) (d:∀k∈l,k<n):l.length<=n:=by
 have b:((List.range n).filter fun k=>decide (k∈l)).Nodup:=mD _ List.nodup_range;have c:=(xh h b).2 (fun k=>by
  simp only[bI,vV,bO];exact⟨fun a=>⟨d k a,a⟩,fun a=>a.2⟩)
 rw[c.length_eq];have:=fq (fun k=>decide (k∈l)) (List.range n);simpa using this
theorem kL {f:jv->Int} {l m:List jv} (h:l.Perm m):(l.map f).Nodup↔(m.map f).Nodup:=(h.map f).nodup_iff
theorem Kl (al:List Bool):((List.range al.length).filter fun k=>al[k]? ==some true).length=al.count true:=by
 induction al with
 |nil=>rfl
 |cons b l ih=>
  rw[eH,List.range_succ_eq_map,lT,yY,List.count_cons,<-ih];have e:((fun k=>(b::l)[k]? ==some true)∘Nat.succ)=fun k=>l[k]? ==some true:=rfl;rw[e];cases b<;>simp
theorem Nl {d:List jv} {al:List Bool} (l:∀x∈d,∃k:Nat,x.2=k/\k<al.length) (u:(d.map (·.2)).Nodup) (t:∀k:Nat,al[k]? =some true->∃x∈d,x.2=k):(d.filter (dL al)).length=al.count true:=by
 rw[<-Kl al];have p:((d.filter (dL al)).map fun x=>x.2.toNat).Nodup:=by
  have f:((d.filter (dL al)).map (·.2)).Nodup:=by
   have g:=dF.1 u;exact dF.2 (mD _ g)
  have g:=dF.1 f;refine dF.2 (g.imp_of_mem ?_);intro a b c r n h;obtain⟨k,i,-⟩:=l a (bI.1 c).1;obtain⟨m,e,-⟩:=l b (bI.1 r).1;rw[i,e]at n;simp only[i,e,iD]at h;exact n (by rw[h])
 have f:((List.range al.length).filter fun k=>al[k]? ==some true).Nodup:=mD _ List.nodup_range;have q:=(xh p f).2 (fun k=>by
  simp only[dD,bI,vV];constructor
  .rintro⟨x,⟨j,c⟩,rfl⟩;obtain⟨m,e,s⟩:=l x j;unfold dL at c;rw[e,iD]at c |-;exact⟨s,c⟩
  .rintro⟨i,c⟩;obtain⟨x,j,o⟩:=t k (aQ c);refine⟨x,⟨j,?_⟩,by rw[o,iD]⟩;unfold dL;rw[o,iD];exact c)
 rw[<-q.length_eq,bK]
theorem UI:qa [] [] [] [] 0 0:=by
 refine⟨⟨rfl,ax,⟨rfl,fun i h=>absurd h (kz _)⟩,ax,ax,ax,ax,rfl,rfl,ax,ax,fun i h=>absurd h (kz _),fun i h=>absurd h (kz _)⟩,aa⟩
theorem Sj {CB NB:List (List jv)} {al:List Bool} {pl:List Int} {n N:Int} (h:qa CB NB al pl n N) (m:Nat) (p id:Int) (b:(id,(m:Int))∈CB.flatten) (hd:al[m]? =some false):qa CB NB (al.set m true) (pl.set m p) (n+1) N:=by
 obtain⟨c,d⟩:=fI.1 hd;refine⟨⟨aQ h.len,h.sorted,h.perm,h.ids,fun x f=>by simpa using h.uX x f,h.xZ,?_,?_,h.stored,aQ h.bound,h.small,h.size,h.last⟩,by have:=h.most;omega⟩
 .intro k a;by_cases e:k=m
  .subst e;exact⟨_,b,rfl⟩
  .rw[oC (fun h=>e h.symm)]at a;exact h.live k a
 .rw[List.count_set c,d,h.cnt];simp
theorem LU {CB NB:List (List jv)} {al:List Bool} {pl:List Int} {n N:Int} (h:qa CB NB al pl n N) (m:Nat) (hd:al[m]? =some true):xY CB NB (al.set m false) pl (n-1) N:=by
 obtain⟨b,c⟩:=fI.1 hd;refine⟨aQ h.len,h.sorted,h.perm,h.ids,fun x d=>by simpa using h.uX x d,h.xZ,?_,?_,h.stored,aQ h.bound,h.small,h.size,h.last⟩
 .intro k a;by_cases e:k=m
  .subst e;rw[ve b]at a;cases a
  .rw[oC (fun h=>e h.symm)]at a;exact h.live k a
 .have f:0<al.count true:=List.count_pos_iff.2 (c▸bC b);rw[List.count_set b,c,h.cnt];simp;omega
theorem PQ {CB NB:List (List jv)} {al:List Bool} {pl:List Int} {n N:Int} (h:qa CB NB al pl n N) (id p:Int) (O:∀x∈CB.flatten,x.1≠id) (z:al.length<5000) (i:Nat) (hi:i<=CB.length) (M:∀j (o:j<CB.length),j<i->CB[j]≠[]) (G:∀h:i<CB.length,CB[i]=[])
  (l':List jv) (hp:l'.Perm (fw CB i++[(id,(al.length:Int))])) (P:l'.Pairwise fun p q=>p.1<=q.1):
  qa (kT CB i (id,(al.length:Int))) (List.replicate i []++l'::NB.drop (i+1)) (al++[true]) (pl++[p]) (n+1) (N+1):=by
 have hP:=uN CB i (id,(al.length:Int)) G;have E:=h.len;have Q:=h.perm.1;have K:(kT CB i (id,(al.length:Int))).length=(List.replicate i []++l'::NB.drop (i+1)).length:=by
  rw[qb _ _ _ hi];simp;split<;>omega
 have R:CB.flatten.length<=al.length:=by
  have h1:=h.xZ;have v:(CB.flatten.map fun x=>x.2.toNat).Nodup:=by
   have s:=dF.1 h1;refine dF.2 (s.imp_of_mem ?_);intro a b F z w h9;obtain⟨k,c,-⟩:=h.uX a F;obtain⟨m,r,-⟩:=h.uX b z;rw[c,r]at w;simp only[c,r,iD]at h9;exact w (by rw[h9])
  have s:=x8 v (n:=al.length) (fun k c=>by
   obtain⟨x,hx,rfl⟩:=dD.1 c;obtain⟨m,r,L⟩:=h.uX x hx;rw[r,iD];exact L)
  rwa [bK]at s
 refine⟨⟨by simp[E],?_,⟨K.symm,?_⟩,?_,?_,?_,?_,?_,?_,aH,by rw[hP.length_eq,eH];omega,?_,?_⟩,by have:=h.most;omega⟩
 .intro l g;rcases bW.1 g with h1|h1
  .rw[(BD.1 h1).2];exact List.Pairwise.nil
  .rcases gW.1 h1 with rfl|h1
   .exact P
   .exact h.sorted l (JK h1)
 .intro j h1 v;rw[qc];by_cases f:j<i
  .rw[aO f,rJ (aQ f)];simp
  .rw[aN f,uZ aH];by_cases d:j=i
   .subst d;rw[aO rfl];simp;exact hp
   .rw[aN d];simp only[iM];have C:j-i=(j-i-1)+1:=aa;have H:j<NB.length:=by simp at h1;omega
    have D:(l'::NB.drop (i+1))[j-i]'(by simp at h1 |-;omega)=NB[j]:=by
     rw[<-jH,<-cK,<-cK,C,eQ,FC];congr 1;omega
    rw[D,jA,cK aa,ic];exact h.perm.2 j H aa
 .rw[kL hP,mG,mF];refine⟨fun hx=>?_,h.ids⟩;obtain⟨y,u,e⟩:=dD.1 hx;exact O y u e
 .intro x hx;rcases gW.1 (hP.mem_iff.1 hx)with rfl|hx
  .exact⟨al.length,rfl,ax⟩
  .obtain⟨k,c,t⟩:=h.uX x hx;exact⟨k,c,aH⟩
 .rw[kL hP,mG,mF];refine⟨fun hx=>?_,h.xZ⟩;obtain⟨y,u,e⟩:=dD.1 hx;obtain⟨k,c,t⟩:=h.uX y u;simp only at e;omega
 .intro k c;by_cases t:k<al.length
  .rw[mr t]at c;obtain⟨x,hx,e⟩:=h.live k c;exact⟨x,hP.mem_iff.2 (lM _ hx),e⟩
  .have I:=(fI.1 c).1;simp at I;have:k=al.length:=aa;subst this;exact⟨_,hP.mem_iff.2 (ny),rfl⟩
 .rw[h.cnt];simp
 .rw[hP.length_eq,h.stored];simp
 .intro j o;rw[qc];by_cases f:j<i
  .rw[aO f];left;rfl
  .rw[aN f];by_cases d:j=i
   .subst d;rw[aO rfl];right;rw[bQ,Bq];refine zH CB j hi fun k c J=>?_;rcases h.size k c with h9|h9
    .exact absurd (iC h9) (M k c J)
    .exact h9
   .rw[aN d,jA];have B:j<CB.length:=by rw[qb _ _ _ hi]at o;split at o<;>omega
    rw[cK B,ic];exact h.size j B
 .intro j o g;rw[qc];rw[qb _ _ _ hi]at g;by_cases A:i<CB.length
  .rw[aO A]at g;rw[aN aa];by_cases d:j=i
   .rw[aO d];simp
   .rw[aN d,jA,cK aa,ic];exact h.last j aa g
  .rw[aN A]at g;rw[aN aa,aO aa];simp
theorem LV {CB NB NB':List (List jv)} {al:List Bool} {pl:List Int} {n N:Int} (h:xY CB NB al pl n N) (y:EH NB' (setC (Lib.bitLen ((CB.reverse.flatten).filter (dL al)).length) ((CB.reverse.flatten).filter (dL al)))) (z:∀l∈NB',l.Pairwise fun p q=>p.1<=q.1):
  qa (setC (Lib.bitLen ((CB.reverse.flatten).filter (dL al)).length) ((CB.reverse.flatten).filter (dL al))) NB' al pl n ((CB.reverse.flatten).filter (dL al)).length/\
  (∀id p,iA (setC (Lib.bitLen ((CB.reverse.flatten).filter (dL al)).length) ((CB.reverse.flatten).filter (dL al))).flatten al pl id p↔iA CB.flatten al pl id p):=by
 have o:CB.reverse.flatten.Perm CB.flatten:=(vP CB).flatten;have hF:=o.filter (dL al);have C:((CB.reverse.flatten).filter (dL al)).length=al.count true:=by rw[hF.length_eq];exact Nl h.uX h.xZ h.live
 have B:=h.cnt;have w:((CB.reverse.flatten).filter (dL al)).length<=5000:=by
  have b:=fq (dL al) CB.reverse.flatten;rw[o.length_eq]at b;exact bA b h.small
 generalize A:(CB.reverse.flatten).filter (dL al)=L at*;have m:L.length<2^Lib.bitLen L.length:=by
  by_cases a:L.length=0
  .rw[a];decide
  .exact(bD _ aa a).2.2
 have hP:=(lu _ L m).trans hF;have t:∀x∈CB.flatten.filter (dL al),x∈CB.flatten:=fun x c=>(bI.1 c).1;refine⟨⟨⟨h.len,z,y,?_,?_,?_,?_,h.cnt,?_,h.bound,?_,zq _ _,?_⟩,aa⟩,?_⟩
 .rw[kL hP];exact dF.2 (mD _ (dF.1 h.ids))
 .intro x c;exact h.uX x (t x (hP.mem_iff.1 c))
 .rw[kL hP];exact dF.2 (mD _ (dF.1 h.xZ))
 .intro k s;have⟨x,c,e⟩:=h.live k s;refine⟨x,hP.mem_iff.2 (bI.2 ⟨c,?_⟩),e⟩;unfold dL;rw[e,iD,s];rfl
 .rw[(lu _ L m).length_eq]
 .rw[(lu _ L m).length_eq];exact w
 .intro i hi g;rw[fo]at g;have a:L.length≠0:=by
   intro a;rw[a]at g;rw[show Lib.bitLen 0=0 from rfl]at g;omega
  have r:=bD L.length aa a;have e:Lib.bitLen L.length=i+1:=g.symm;have v:=M0 i L (by rw[e]at r;simpa using r.2.1) (by rw[fo];omega);have d:(setC (Lib.bitLen L.length) L)[i]? =(setC (i+1) L)[i]? :=by rw[e]
  intro u;rw[cK hi,cK (by rw[fo];omega),u]at d;injection d with d;exact v d.symm
 .intro id p;unfold iA;constructor
  .rintro⟨k,b,f,j⟩;exact⟨k,t _ (hP.mem_iff.1 b),f,j⟩
  .rintro⟨k,b,f,j⟩;refine⟨k,hP.mem_iff.2 (bI.2 ⟨b,?_⟩),f,j⟩;unfold dL;rw[iD,f];rfl
theorem Ij {a b:Nat} (h:2^a<=b) (c:b<2^13):a<13:=by
 rcases Nat.lt_or_ge a 13 with h1|h1
 .exact h1
 .have:=Bt (n:=2) ai h1;omega
theorem rz {l:List jv} {CB:List (List jv)} (h:l∈CB):l.length<=CB.flatten.length:=(Fa h).length_le
theorem xY.levels {CB NB:List (List jv)} {al:List Bool} {pl:List Int} {n N:Int} (h:xY CB NB al pl n N):CB.length<=13/\(CB.length≠0->2^(CB.length-1)<=CB.flatten.length):=by
 rcases nW CB.length with h0|h0
 .rw[h0];exact⟨ai,fun h=>absurd rfl h⟩
 .have a:CB.length-1<CB.length:=aa;have c:=h.last _ a aa;have d:CB[CB.length-1].length=2^(CB.length-1):=by
   rcases h.size _ a with h9|h9
   .exact absurd (iC h9) c
   .exact h9
  have b:=rz (bC a);rw[d]at b;have e:=Ij b (by have:=h.small;omega);exact⟨aa,fun _=>b⟩
theorem vC:∀{NB CB:List (List jv)},EH NB CB->NB.flatten.Perm CB.flatten
 |[],[],_=>qE _
 |[],_::_,h=>by cases h.1
 |_::_,[],h=>by cases h.1
 |a::NB,b::CB,h=>by
  rw[vO,vO];exact(h.2 0 ax ax).append (vC (NB:=NB) (CB:=CB) ⟨aQ h.1,fun i c d=>h.2 (i+1) (aQ c) (aQ d)⟩)
theorem xY.TQ {CB NB:List (List jv)} {al:List Bool} {pl:List Int} {n N:Int} (h:xY CB NB al pl n N):NB.length<=13/\NB.flatten.length<=5000/\(∀l∈NB,l.length<=5000)/\CB.flatten.length<=5000:=by
 have c:=h.levels.1;have d:=h.perm.1;have b:=h.small;have e:NB.flatten.length=CB.flatten.length:=(vC h.perm).length_eq;exact⟨aa,aa,fun l a=>by have:=rz a;omega,b⟩
structure EI (CB:List (List jv)) (al:List Bool) (pl:List Int) (D:List (Int×Int)):Prop where
 iff:∀id p,(id,p)∈D↔iA CB.flatten al pl id p
 nodup:(D.map (·.1)).Nodup
 len:D.length=al.count true
theorem EI.new:EI [] [] [] []:=by
 refine⟨fun id p=>⟨fun h=>absurd h iO,?_⟩,qD,rfl⟩;rintro⟨k,h,_⟩;exact absurd h iO
theorem EI.key {CB:List (List jv)} {al:List Bool} {pl:List Int} {D:List (Int×Int)} (h:EI CB al pl D) {id:Int} (hid:id∈D.map (·.1)):∃p,iA CB.flatten al pl id p:=by
 obtain⟨x,a,rfl⟩:=dD.1 hid;exact⟨x.2,(h.iff x.1 x.2).1 a⟩
theorem EI.val {CB NB:List (List jv)} {al:List Bool} {pl:List Int} {n N:Int} {D:List (Int×Int)} (h:EI CB al pl D) (d:xY CB NB al pl n N) {id:Int} {m:Nat} (c:(id,(m:Int))∈CB.flatten) (b:al[m]? =some true):∃p,(id,p)∈D/\pl[m]? =some p:=by
 have a:=(fI.1 b).1;rw[d.len]at a;exact⟨pl[m],(h.iff _ _).2 ⟨m,c,b,cK a⟩,cK a⟩
theorem CW {D:List (Int×Int)} {id p:Int} (h:(D.map (·.1)).Nodup) (f:id∉D.map (·.1)):((D++[(id,p)]).map (·.1)).Nodup:=by
 rw[bJ,oG];refine⟨h,ax,?_⟩;intro a d b c;simp at c;subst c;exact fun e=>f (e▸d)
theorem EI.put {CB CB' NB:List (List jv)} {al:List Bool} {pl:List Int} {n N:Int} {D:List (Int×Int)} (h:EI CB al pl D) (d:xY CB NB al pl n N) {id p:Int} (l:∀x∈CB.flatten,x.1≠id) (hP:CB'.flatten.Perm ((id,(al.length:Int))::CB.flatten)):EI CB' (al++[true]) (pl++[p]) (D++[(id,p)]):=by
 have c:=d.len;refine⟨fun r s=>?_,CW h.nodup (fun hid=>?_),by simp[h.len]⟩
 .rw[bW,h.iff];constructor
  .rintro(⟨k,h1,b,a⟩|h1)
   .have g:=(fI.1 b).1;exact⟨k,hP.mem_iff.2 (lM _ h1),by rw[mr g];exact b,by rw[mr aa];exact a⟩
   .simp at h1;obtain⟨rfl,rfl⟩:=h1;exact⟨al.length,hP.mem_iff.2 ny,ax,by rw[c];simp⟩
  .rintro⟨k,h1,b,a⟩;rcases gW.1 (hP.mem_iff.1 h1)with e|h1
   .right;injection e with f o;have:k=al.length:=aa;subst this;rw[c]at a;simp at a;simp[f,a]
   .left;have⟨m,i,j⟩:=d.uX _ h1;simp only at i;have:k=m:=aa;subst this;rw[mr j]at b;rw[mr aa]at a;exact⟨k,h1,b,a⟩
 .obtain⟨q,k,h1,_⟩:=h.key hid;exact l _ h1 rfl
theorem LW {CB NB:List (List jv)} {al:List Bool} {pl:List Int} {n N:Int} (b:xY CB NB al pl n N) {x y:jv} (c:x∈CB.flatten) (d:y∈CB.flatten) (e:x.2=y.2):x=y:=by
 have a:CB.flatten.Pairwise fun p q=>p.2≠q.2:=dF.1 b.xZ;rcases eZ a c d with h1|h1|h1
 .exact h1
 .exact absurd e h1
 .exact absurd e.symm h1
theorem EI.again {CB NB:List (List jv)} {al:List Bool} {pl:List Int} {n N:Int} {D:List (Int×Int)} (h:EI CB al pl D) (f:xY CB NB al pl n N) {id p:Int} {m:Nat} (d:(id,(m:Int))∈CB.flatten) (hd:al[m]? =some false):EI CB (al.set m true) (pl.set m p) (D++[(id,p)]):=by
 have t:=f.len;have⟨i,l⟩:=fI.1 hd;have j:m<pl.length:=aa;have o:∀q,¬iA CB.flatten al pl id q:=fun q ⟨k,h1,a,b⟩=>by
  have c:(id,(k:Int))=(id,(m:Int)):=mX f.ids h1 d rfl;injection c with _ c;have:k=m:=aa;subst this;rw[hd]at a;cases a
 refine⟨fun s u=>?_,CW h.nodup (fun hid=>?_),?_⟩
 .rw[bW,h.iff];constructor
  .rintro(⟨k,h1,a,b⟩|h1)
   .have g:m≠k:=fun e=>by subst e;rw[hd]at a;cases a
    exact⟨k,h1,by rw[oC g];exact a,by rw[oC g];exact b⟩
   .simp at h1;obtain⟨rfl,rfl⟩:=h1;exact⟨m,d,by rw[ve i],by rw[ve j]⟩
  .rintro⟨k,h1,a,b⟩;by_cases e:k=m
   .subst e;right;have c:(s,(k:Int))=(id,(k:Int)):=LW f h1 d rfl;injection c with c _;rw[ve j]at b;injection b with b;simp[c,b]
   .left;rw[oC (fun h=>e h.symm)]at a b;exact⟨k,h1,a,b⟩
 .obtain⟨q,r⟩:=h.key hid;exact o q r
 .rw[List.count_set i,l];simp[h.len]
theorem PR {D:List (Int×Int)} {id p:Int} (h:(D.map (·.1)).Nodup) (a:(id,p)∈D):(D.filter fun x=>decide (x.1≠id)).length+1=D.length:=by
 induction D with
 |nil=>cases a
 |cons x l ih=>
  rw[mG,mF]at h;rw[lT];by_cases e:x.1=id
  .have b:l.filter (fun x=>decide (x.1≠id))=l:=kV.2 fun y c=>by
    simp only[bO];intro h9;exact h.1 (by rw[e,<-h9];exact sF c)
   rw[aN (by simp[e]),b];rfl
  .rw[aO (by simp[e])];rcases gW.1 a with h9|h9
   .exact absurd (congrArg Prod.fst h9).symm e
   .simp only[eH];rw[ih h.2 h9]
theorem EI.drop {CB NB:List (List jv)} {al:List Bool} {pl:List Int} {n N:Int} {D:List (Int×Int)} (h:EI CB al pl D) (g:xY CB NB al pl n N) {id:Int} {m:Nat} (f:(id,(m:Int))∈CB.flatten) (hd:al[m]? =some true):EI CB (al.set m false) pl (D.filter fun x=>decide (x.1≠id)):=by
 have⟨l,r⟩:=fI.1 hd;refine⟨fun i s=>?_,?_,?_⟩
 .rw[bI,h.iff];constructor
  .rintro⟨⟨k,b,a,d⟩,o⟩;have q:m≠k:=fun e=>by
    subst e;have c:(i,(m:Int))=(id,(m:Int)):=LW g b f rfl;injection c with c _;simp[c]at o
   exact⟨k,b,by rw[oC q];exact a,d⟩
  .rintro⟨k,b,a,d⟩;by_cases e:k=m
   .subst e;rw[ve l]at a;cases a
   .rw[oC (fun h=>e h.symm)]at a;refine⟨⟨k,b,a,d⟩,?_⟩;simp only[bO];intro c;subst c;have j:(i,(k:Int))=(i,(m:Int)):=mX g.ids b f rfl;injection j with _ j;omega
 .exact dF.2 (mD _ (dF.1 h.nodup))
 .obtain⟨p,hp,-⟩:=h.val g f hd;have b:=PR h.nodup hp;rw[List.count_set l,r];have a:=h.len;show _=(al.count true-1)+0;omega
theorem EI.turn {CB CB':List (List jv)} {al:List Bool} {pl:List Int} {D:List (Int×Int)} (h:EI CB al pl D) (a:∀id p,iA CB'.flatten al pl id p↔iA CB.flatten al pl id p):EI CB' al pl D:=⟨fun id p=>(h.iff id p).trans (a id p).symm,h.nodup,h.len⟩
theorem Ik {CB NB:List (List jv)} (hp:EH NB CB) (c:∀(i:Nat) (h:i<CB.length),CB[i].length=0\/CB[i].length=2^i) (d:CB.length<=60):∀k,k<=NB.length->2*D6 (NB.take k)<=k*(k+5)
 |0,_=>by simp[D6]
 |k+1,a=>by
  rw[vB NB k a];have ih:=Ik hp c d k aa;have b:k<CB.length:=by rw[<-hp.1];exact a
  have f:tb NB[k].length<=k+3:=by
   rw[(hp.2 k a b).length_eq];unfold tb;rcases c k b with h|h
   .rw[h];simp
   .rw[h];have g:=Lib.bitLen_le (2^k) (k+1) aa (Nat.pow_lt_pow_right ai aa);split<;>omega
  have e:(k+1)*(k+1+5)=k*(k+5)+2*(k+3):=by
   simp only[nE,jB];omega
  omega
theorem Nn {CB NB:List (List jv)} {al:List Bool} {pl:List Int} {n N:Int} (a:qa CB NB al pl n N):D6 NB<=(Lib.bitLen (2*al.count true+1)+1)*(Lib.bitLen (2*al.count true+1)+1):=by
 have f:=a.levels;have c:=Ik a.perm a.size aa NB.length (aA _);rw[jc (aA _),a.perm.1]at c;have g:=a.most;rw[a.cnt,a.stored]at g;have k:CB.length<=Lib.bitLen (2*al.count true+1):=by
  rcases nW CB.length with h0|h0
  .omega
  .have d:=f.2 aa;have e:al.count true<=al.length:=Fq;have o:=a.bound;have l:=bD (2*al.count true+1) aa aa;generalize Lib.bitLen (2*al.count true+1)=b at*;rcases Nat.lt_or_ge b CB.length with h9|h9
   .have m:=Bt (n:=2) ai (show b<=CB.length-1 by omega);omega
   .exact h9
 generalize Lib.bitLen (2*al.count true+1)=b at*;generalize CB.length=L at*;have d:(L+1)*(L+1)<=(b+1)*(b+1):=Nat.mul_le_mul aa aa;have i:(L+1)*(L+1)=L*L+2*L+1:=by simp only[nE,jB];omega
 have j:L*(L+5)=L*L+5*L:=by rw[jB];omega
 have e:L<=L*L+1:=by
  rcases nW L with h|h
  .omega
  .have:=Nat.le_mul_of_pos_left L h;omega
 omega
end
end Go.Proofs.YtkjdbndekceffaaGreat
