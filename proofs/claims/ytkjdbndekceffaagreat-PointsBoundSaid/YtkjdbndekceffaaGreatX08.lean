/- Made small by a program. -/
import Derived.Test.YtkjdbndekceffaaGreatX07
import Derived.Test.YtkjdbndekceffaaGreatX04
set_option linter.unusedSimpArgs false
set_option linter.unusedVariables false
set_option maxRecDepth 100000
set_option maxHeartbeats 16000000
namespace Go.Proofs.YtkjdbndekceffaaGreat
open Tryz
section
open Go.RowKit Go.Sort Go.Shelf Go.Lib Go.Maps
abbrev ji:=Int×Int
def iN (p:ji):List Value:=[.int .u32 p.1,.int .i64 p.2]
abbrev Q0 (x n:Int):Value:=.agg #[ak x,ae n]
theorem w9 (p:ji):(iN p).length=2:=rfl
theorem BN (p:ji):∀u∈iN p,u.oneCell'=true:=by intro u hu;simp[iN]at hu;rcases hu with rfl|rfl<;>rfl
theorem GJ:eP prog 209 204 2 16:=.mk' (z:=.agg #[ak 0,ae 0]) underlying209 aM rfl ai
theorem KS:eP prog 205 209 1 24:=.mk' (z:=aL) underlying205 aM rfl ai
theorem BO (a:Option Addr) (l:List ji) (n c:Nat) (w:World) (k:l.length=n) (h:bY iN 2 w a l) (m:n<=1000000):
  aK 204 #[.slice a n c] w fun e w'=>∃v,e=.returned v/\w'.ownsRow w.heap.size 204 2 v n (l.flatMap iN)/\Below w.heap.size w w':=by
 subst k;have o:∀(w:World) (a:Option Addr) (n c n' d:Nat),(binOp .eql 209 (.slice a n c) (.slice none n' d)).run prog w=.ok (.bool a.isNone) w:=fun w a n c n' d=>Em w _ _ a n c n' d underlying209;cases a with
 |none=>
  have i:l=[]:=by
   rcases h with h|⟨b,off,h,_⟩
   .exact h
   .cases h
  subst i;go_enter func204,ntmps204;go_wp2;go_ret;exact⟨_,rfl,dx _ _ _ _,aI _ _⟩
 |some ad=>
  have f:=AO (e:=204) (size:=2) w #[] 0 (aB _) (bD _) rfl;have h':bY iN 2 (w.alloc (.cells #[] 204)) (some ad) l:=h.below ((aI _ _).alloc (aB _) _);go_enter func204,ntmps204
  go_wp2_with (at_builtin;refine iU GJ w9 BN w.heap.size f h' rfl _ _ rfl rfl c rfl dJ aa ay ?_;intro p w' g j)
  go_ret;rw[kH,fQ]at g;exact⟨_,rfl,g,dB ((aI _ _).alloc (aB _) _) f j ay (aB _)⟩
def Ml (p q:ji):Int:=jh p.1 q.1
theorem KT (p q:ji):Ml p q<0↔p.1<q.1:=by unfold Ml jh;split<;>(try split)<;>omega
theorem VJ:SWO (ltOf Ml):=yE KT (fun _=>Bg _) (fun _ _ _=>Int.lt_trans) (fun x y z=>aa)
theorem OD (p q:ji) (w:World):aK 206 #[Q0 p.1 p.2,Q0 q.1 q.2] w fun e w'=>e=.returned (ae (Ml p q))/\xK w w':=by
 have a:=ag (fun W=>ER p.1 q.1 W);unfold Ml;generalize jh p.1 q.1=r at*;obtain⟨c,b⟩:=p;obtain⟨f,d⟩:=q;simp only at a;go_enter func206,ntmps206
 go_wp2_with fail
 refine(a.o _).mono ?_;rintro e w1 ⟨rfl,rfl⟩;go_wp2;go_ret;exact⟨rfl,((xK.refl _).alloc _).alloc _⟩
theorem BP:eY 206:=bO func206 aM rfl
theorem Q3 {w:World} {base g c n:Nat} {l:List ji} (j:l.length=n) (o:n<4611686018427387904) (h:w.ownsRow base 204 2 (aA g n c) n (l.flatMap iN)):
  aK 205 #[aA g n c,.func (.func 206) #[] #[]] w fun e w'=>
   e=.returned (.tuple #[])/\∃l':List ji,l'.Perm l/\l'.Pairwise (fun x y=>x.1<=y.1)/\w'.ownsRow base 204 2 (aA g n c) n (l'.flatMap iN)/\w.grownBy w' (some g):=by
 have d:=mZ Tryz.Dp w9 ai isAgg204 sizeOf204 BN Ml VJ 206 #[] BP (fun x y W=>OD x y W) j o h;change aK 205 _ _ _ at d;refine d.mono ?_;rintro e w' ⟨f,l',hp,m,k,i⟩;refine⟨f,l',hp,m.imp fun{a b} h=>?_,k,i⟩;rw[KT]at h;omega
theorem E9 (p:Option Addr) (a:Nat) (b:Value) (w:World):
  aK 205 #[.slice p 0 a,b] w fun e w'=>e=.returned (.tuple #[])/\w'=w:=IG Tryz.Dp p a b w
end
section
open Go.RowKit Go.Maps
theorem UY (p:ji) (x:Int) (L c:Nat) (s:c<=1000000) (W:World) (h:Boxed W L 3 (.int .i64 c)):
  aK 201 #[Q0 p.1 p.2,ak x,aj L] W fun e w'=>e=.returned (ae (jh p.1 x))/\Boxed w' L 3 (.int .i64 ((c+1:Nat):Int))/\Below L W w':=by
 have q:=h.lt;have t:=h.cell;have jm:=h.frozen;have⟨a,b⟩:=p;have d:=(h.alloc (.cells #[ak a,ae b] 204)).set (.int .i64 ((c+1:Nat):Int));have g:Below L W ((W.alloc (.cells #[ak a,ae b] 204)).setCell (af L 0) (.int .i64 ((c+1:Nat):Int))):=Below.setCell (p:=(af L 0)) ((aI L W).alloc (vv q) _) (aB _) _;have f:=(h.set (.int .i64 ((c+1:Nat):Int))).alloc (.cells #[ak a,ae b] 204);have i:Below L W ((W.setCell (af L 0) (.int .i64 ((c+1:Nat):Int))).alloc (.cells #[ak a,ae b] 204)):=((aI _ W).setCell (p:=(af L 0)) (aB _) _).alloc aH _;have j:=ag (fun W=>ER a x W);rw[show((c+1:Nat):Int)=(c:Int)+1 by omega]at d g f i |-;simp only;generalize jh a x=r at*;have k:=ag d;have m:=ag g;have l:=ag f;have n:=ag i;go_enter func201,ntmps201
 go_wp2_with fail
 refine(j.o _).mono ?_;rintro e w1 ⟨rfl,rfl⟩;go_wp2;go_ret
 first
  |exact⟨rfl,k.o,m.o⟩
  |exact⟨rfl,l.o,n.o⟩
def VK (l:List ji) (n:Nat) (x:Int) (L c0:Nat) (W:World) (e:Ending) (w':World):Prop:=
 ∃(k c:Nat) (bb:Bool),e=.returned (.tuple #[ae k,.bool bb])/\k<=n/\(∀t (_:t<l.length),t<k->l[t].1<x)/\(∀t (_:t<l.length),k<=t->x<=l[t].1)/\c<=c0+Lib.bitLen n+(if n=0 then 0 else 1)/\c0<=c/\Boxed w' L 3 (.int .i64 c)/\Below L W w'
theorem VL (a:Option Addr) (l:List ji) (n ah:Nat) (x:Int) (L f:Nat) (P W:World) (av:l.length=n) (au:n<=10000) (ay:f<=100000) (ac:bY iN 2 P a l) (Y:P.heap.size<=L) (Z:Below L P W) (ad:l.Pairwise fun p q=>p.1<=q.1) (am:Boxed W L 3 (.int .i64 f)):
  aK 200 #[.slice a n ah,ak x,.func (.func 201) #[] #[aj L]] W (VK l n x L f W):=by
 subst av;have U:=ag ac;have V:=ag ad;have X:=ag Z;have ao:=eO (show l.length<=10000 from au) ai;have ap:Lib.bitLen 10000=14:=ai;rw[ap]at ao;have T:=ag UY;clear ac ad Z;go_enter func200,ntmps200;go_wp2
 go_loopw [9,10] (fun R S wr=>∃i j c:Nat,R=.int .i64 i/\S=.int .i64 j/\i<=j/\j<=l.length/\Hid (c+Lib.bitLen (j-i)<=f+Lib.bitLen l.length/\f<=c)/\Hid (∀t (_:t<l.length),t<i->l[t].1<x)/\Hid (∀t (_:t<l.length),j<=t->x<=l[t].1)/\Hid (Boxed wr L 3 (.int .i64 c))/\Below L W wr)
  (fun R S _=>(intOf S).toNat-(intOf R).toNat)
 case atStart=>exact⟨0,l.length,f,rfl,rfl,bD _,aB _,(by show _/\_;simp),fun t _ h=>absurd h (kE _),fun t al I=>absurd al aa,am,aI _ _⟩
 case round=>
  obtain⟨i,j,c,rfl,rfl,az,ar,k,M,N,z,u⟩:=hrel;by_cases aA:i<j
  .have K:(i+j)/2<l.length:=aa;obtain⟨b,off,C,an,m⟩:=(U.o.below (B:=L) (X.o.trans u) Y).get aa;have F:=m ((i+j)/2) K 0 aa;have x1:=m ((i+j)/2) K 1 aa;simp only[iN,fZ,dC,dK]at F x1;have aq:c<=1000000:=by have:=k.o;omega
   have s:=ag (T.o l[(i+j)/2] x L c aq wr z.o);have H:Hid (l[(i+j)/2].1<x->∀t (_:t<l.length),t<(i+j)/2+1->l[t].1<x):=fun h t ht I=>by
    rcases Ej.1 I with Q|rfl
    .have:=gQ.1 V.o t ((i+j)/2) ht K Q;omega
    .exact h
   have G:Hid (¬l[(i+j)/2].1<x->∀t (_:t<l.length),(i+j)/2<=t->x<=l[t].1):=fun h t ht I=>by
    rcases Nat.lt_or_eq_of_le I with Q|rfl
    .have:=gQ.1 V.o ((i+j)/2) t K ht Q;omega
    .omega
   have y:=ag C;clear m C z;generalize l[(i+j)/2]=p at*;obtain⟨w,ax⟩:=p;simp only at F x1 s H G;obtain rfl:=y.o;clear y;have g:=k.o;have J:jh w x<0↔w<x:=by unfold jh;split<;>(try split)<;>omega
   generalize jh w x=r at*;by_cases v:w<x
   .have af:=ag (H.o v);have hd:decide (r<0)=true:=by simp[J.2 v]
    have O:Hid (c+1+Lib.bitLen (j-((i+j)/2+1))<=f+Lib.bitLen l.length/\f<=c+1):=by
     have:=zB (d:=j-i) (e:=j-((i+j)/2+1)) aa aa aa;show _/\_;omega
    clear H G k g v J
    go_wp2_with (go_at_call 201;refine s.o.mono ?_;rintro e w' ⟨rfl,D,E⟩)
    go_roundw
    case rel=>exact⟨(i+j)/2+1,j,c+1,by rw[show((i:Int)+(j:Int))/2+1=(((i+j)/2+1:Nat):Int) by omega],rfl,aa,ar,O,af,N,D,u.trans E⟩
    case measure=>exact eT
   .have ae:=ag (G.o v);have hd:decide (r<0)=false:=by simp only[gT];exact fun h=>v (J.1 h)
    have O:Hid (c+1+Lib.bitLen ((i+j)/2-i)<=f+Lib.bitLen l.length/\f<=c+1):=by
     have:=zB (d:=j-i) (e:=(i+j)/2-i) aa aa aa;show _/\_;omega
    clear H G k g v J
    go_wp2_with (go_at_call 201;refine s.o.mono ?_;rintro e w' ⟨rfl,D,E⟩)
    go_roundw
    case rel=>exact⟨i,(i+j)/2,c+1,rfl,by rw[show((i:Int)+(j:Int))/2=(((i+j)/2:Nat):Int) by omega],aa,aa,O,M,ae,D,u.trans E⟩
    case measure=>exact eT
  .obtain rfl:i=j:=aa;have g:=k.o;rw[iR,zA,dK]at g;by_cases ab:i<l.length
   .obtain⟨b,off,C,an,m⟩:=(U.o.below (B:=L) (X.o.trans u) Y).get aa;have F:=m i ab 0 aa;have x1:=m i ab 1 aa;simp only[iN,fZ,dC,dK]at F x1;have s:=ag (T.o l[i] x L c aa wr z.o);have y:=ag C;have aw:¬l.length=0:=aa;clear m C z;generalize l[i]=p at*;obtain⟨w,ax⟩:=p;simp only at F x1 s;obtain rfl:=y.o;clear y;generalize jh w x=r at*;have A:=ag g;clear g k
    go_wp2_with (go_at_call 201;refine s.o.mono ?_;rintro e w' ⟨rfl,D,E⟩)
    go_ret2;exact⟨i,c+1,_,rfl,aa,M.o,N.o,by have:=A.o;rw[aN aw];omega,by have:=A.o;omega,D,u.trans E⟩
   .obtain rfl:i=l.length:=aa;have A:=ag g;clear g k;go_wp2;go_ret2;exact⟨l.length,c,_,rfl,aB _,M.o,N.o,by have:=A.o;omega,by have:=A.o;omega,z.o,u⟩
abbrev lU:=gu ji
abbrev Mm:=LW iN 2 204
abbrev jX:=oO iN 2 204
theorem Mm.aJ {W:World} {base:Nat} {v:Value} {n:Nat} {l:List ji} (h:W.ownsRow base 204 2 v n (l.flatMap iN)):∃a c,v=.slice a l.length c/\n=l.length/\l.length<=c/\Mm W a l:=LW.aJ w9 ai h
def tb (n:Nat):Nat:=if n=0 then 0 else Lib.bitLen n+2
def GK (NB:List (List ji)):Nat:=(NB.map fun l=>tb l.length).sum
theorem De (NB:List (List ji)) (i:Nat) (h:i<NB.length):GK (NB.take (i+1))=GK (NB.take i)+tb NB[i].length:=by
 unfold GK;rw[ic h];simp only[bM,l8,pV,rO,List.sum_cons,List.sum_nil];omega
def VM (NB:List (List ji)) (id:Int) (W:World) (e:Ending) (w':World):Prop:=
 ∃(k:Int) (t:Nat),e=.returned (.tuple #[ae k,ae t])/\t<=GK NB/\((∃x∈NB.flatten,x.1=id/\x.2=k)\/(k=-1/\∀x∈NB.flatten,x.1≠id))/\Below W.heap.size W w'
theorem Tu {NB:List (List ji)} {i:Nat}:GK (NB.take i)<=GK NB:=by
 have h:GK NB=GK (NB.take i)+GK (NB.drop i):=by
  unfold GK;rw[<-rO,<-bM,jJ]
 omega
theorem sJ (A:Nat) (id:Int) (W:World) (NB:List (List ji)) (bh:List lU) (bv:Value) (base:Nat) (aH:W.cell? (af A 1)=some bv) (aR:W.ownsRow base 209 1 bv bh.length (bh.map dW)) (ad:bh.map (·.2.1)=NB) (aV:jX W bh)
  (aW:∀l∈NB,l.Pairwise fun p q=>p.1<=q.1) (ba:NB.length<=1000) (aX:∀l∈NB,l.length<=10000):aK 131 #[aj A,ak id] W (VM NB id W):=by
 have a4:bh.length=NB.length:=by rw[<-ad];simp
 have aA:=ag aW;have Y:=ag aX;have aY:Hid (∀i,GK (NB.take i)<=20*i):=fun i=>by
  unfold GK
  induction i with
  |zero=>simp
  |succ i ih=>
   by_cases hi:i<NB.length
   .rw[ic hi];have f:tb NB[i].length<=20:=by
     unfold tb;have:=eO (Y.o _ (bF hi)) ai;have H:Lib.bitLen 10000=14:=ai;split<;>omega
    simp only[bM,l8,pV,rO,List.sum_cons,List.sum_nil];omega
   .rw[kD aa];rw[kD aa]at ih;omega
 have az:Hid (∀i (hi:i<bh.length) (aT:i<NB.length),bY iN 2 W bh[i].1 NB[i]/\W.heap.size=W.heap.size/\bh[i].2.1=NB[i]):=fun i hi aT=>by
  have ab:bh[i].2.1=NB[i]:=by simp[<-ad]
  exact⟨by rw[<-ab];exact(aV _ (bF hi)).1.NH,rfl,ab⟩
 obtain⟨av,cv,rfl,-,-,aU⟩:=Rd.aJ (enc:=dW) aR;have aq:=ag aU;have a3:=gW W _ aH;go_enter func131,ntmps131;go_wp2
 go_loopw [16] (fun M wr=>∃i c:Nat,M=.int .i64 i/\i<=bh.length/\Hid (Boxed wr W.heap.size 3 (.int .i64 c))/\Hid (c<=GK (NB.take i))/\Hid (∀x∈(NB.take i).flatten,x.1≠id)/\Below W.heap.size W wr) (fun M _=>bh.length-(intOf M).toNat)
 case atStart=>exact⟨0,0,rfl,bD _,Boxed.new _ _ _,bD _,by intro x hx;simp at hx,(aI _ _).alloc (aB _) _⟩
 case round=>
  obtain⟨i,c,rfl,hi,R,j,U,r⟩:=hrel;by_cases ac:i<bh.length
  .have g:i<NB.length:=aa;have aS:c<=100000:=by have f:=j.o;have H:=aY.o i;omega
   have⟨b,off,F,aP,s⟩:=aq.o.get aa;have z:=(r.cell (p:=(af b (off+i))) aP).trans (s i ac);obtain⟨N,-,an⟩:=az.o i ac g;have E:=ag (De NB i g);have T:Hid ((∀x∈NB[i],x.1≠id)->∀x∈(NB.take (i+1)).flatten,x.1≠id):=fun h x hx=>by
    rw[ic g,ll,bT]at hx;rcases hx with hx|hx
    .exact U.o x hx
    .exact h x (aQ hx)
   have aw:Hid (∀x∈NB[i],x∈NB.flatten):=fun x hx=>pJ.2 ⟨_,bF g,hx⟩;have ah:=aA.o _ (bF g);have am:=Y.o _ (bF g);have au:=ag (Tu (NB:=NB) (i:=i+1));have w:=ag F;unfold dW at z;generalize NB[i]=l at*;generalize bh[i]=hd at*;have⟨aD,a,aE⟩:=hd;simp only at an N z;subst an;obtain rfl:=w.o;have ap:=VL aD a a.length aE id W.heap.size c W wr rfl am aS N (aB _) r ah R.o
   go_wp2_with fail
   refine ap.mono ?_;rintro e w2 ⟨k,d,a1,rfl,a8,f,H,K,a7,n,aM⟩;have Q:=r.trans aM;have Z:=ag f;have aC:=ag H;have X:Hid (tb a.length=if a.length=0 then 0 else Lib.bitLen a.length+2):=rfl;have a6:=eO am ai;have a5:Lib.bitLen 10000=14:=ai;by_cases m:k<a.length
   .have ae:¬a.length=0:=aa;rw[aN ae]at K;have aL:=X.o;rw[aN ae]at aL;have aZ:=n.cell;have bc:=n.frozen;have J:=n.set (.int .i64 ((d+1:Nat):Int));have v:=Q.setCell (p:=(af W.heap.size 0)) (aB _) (.int .i64 ((d+1:Nat):Int));obtain⟨a0,bb,F,-,s⟩:=(N.below v).get aa;have O:=s k m 0 aa;have x1:=s k m 1 aa;simp only[iN,fZ,dC,dK]at O x1;have V:Hid (a[k].1≠id->∀x∈a,x.1≠id):=fun h x hx=>by
     obtain⟨t,ht,rfl⟩:=jo hx;by_cases al:t<k
     .have:=Z.o t ht al;omega
     .have aG:=aC.o k m (aB _);rcases Nat.lt_or_eq_of_le (Nat.le_of_not_lt al)with h4|h4
      .have I:=gQ.1 ah k t m ht h4;omega
      .subst h4;exact h
    have ax:=ag (aw.o a[k] (bF m));have w:=ag F;have a9:(k:Int)<(a.length:Int):=aa;rw[show((d+1:Nat):Int)=(d:Int)+1 by omega]at J v O x1;have bd:=J.cell;generalize a[k]=y at*;have⟨P,ao⟩:=y;simp only at O x1 V;obtain rfl:=w.o;have B:=ag J;have S:=ag v;by_cases u:P=id
    .have aF:(P==id)=true:=by simp[u]
     have ar:Hid (∃x∈NB.flatten,x.1=id/\x.2=ao):=⟨_,ax.o,u,rfl⟩;have L:d+1<=GK NB:=by
      have:=j.o;have:=E.o;have:=au.o;omega
     go_wp2;go_region
     all_goals
      go_wp2;go_ret2;exact⟨ao,d+1,rfl,L,.inl ar.o,S.o.drew⟩
    .have aF:(P==id)=false:=by simp[u]
     have D:=ag (T.o (V.o u));have C:Hid (d+1<=GK (NB.take (i+1))):=by
      have:=j.o;have:=E.o;show _<=_;omega
     go_wp2;go_roundw
     case rel=>exact⟨i+1,d+1,by go_num,aa,B,C,D,S.o⟩
     case measure=>exact eT
   .obtain rfl:k=a.length:=aa;have D:Hid (∀x∈(NB.take (i+1)).flatten,x.1≠id):=T.o fun x hx=>by
     obtain⟨t,ht,rfl⟩:=jo hx;have:=Z.o t ht ht;omega
    have C:Hid (d<=GK (NB.take (i+1))):=by
     have aG:=j.o;have h4:=E.o;have I:=X.o;show _<=_;by_cases G:a.length=0
     .rw[aO G]at I K;have a2:Lib.bitLen a.length=0:=by rw[G];rfl
      omega
     .rw[aN G]at I K;omega
    have B:=ag n;go_wp2;go_roundw
    case rel=>exact⟨i+1,d,by go_num,aa,B,C,D,Q⟩
    case measure=>exact eT
  .obtain rfl:i=bh.length:=aa;have aZ:=R.o.cell;have L:c<=GK NB:=by
    have f:=j.o;rw[kD aa]at f;exact f
   have ay:Hid (∀x∈NB.flatten,x.1≠id):=by
    have f:=U.o;rw[kD aa]at f;exact f
   go_wp2;go_region
   all_goals
    go_wp2;go_ret2;exact⟨-1,c,rfl,L,.inr ⟨rfl,ay.o⟩,r.drew⟩
abbrev iW:=@ik ji 290 209 204
theorem UZ:209≠290/\290≠204/\209≠204:=ai
theorem sK {W:World} {base Cb:Nat} {cv:Value} {ch:List lU} {N wk:Int} (h:iW W base Cb cv ch N wk):aK 203 #[aj Cb] W (fw W (.bool false)):=by
 obtain⟨a,-⟩:=h.cell;go_enter func203,ntmps203;go_wp2;go_ret;exact⟨rfl,aI _ _⟩
end
section
open Go.RowKit Go.Maps
attribute [local irreducible] wpQuiet
abbrev VN:=@UH ji 290 209 204 iN 2
theorem Q4 {W:World} {base Cb:Nat} {cv:Value} {ch:List lU} {N wk:Int} (h:iW W base Cb cv ch N wk) (dt:base<=W.heap.size) (ce:jX W ch) (x nn:Int) (dq:0<=N/\N<=100000) (dI:ch.length<=1000) (dM:(ch.map (·.2.1)).flatten.length<=10000):
  aK 132 #[aj Cb,Q0 x nn] W (VN W base Cb cv ch (x,nn) N wk):=by
 have aQ:Below W.heap.size W (W.alloc (.cells #[ak x,ae nn] 204)):=(aI _ _).alloc (aB _) _;have cm:(W.alloc (.cells #[ak x,ae nn] 204)).cell? (af W.heap.size 0)=some (ak x):=by rw[eF _ _ _ _ rfl];rfl
 have x1:(W.alloc (.cells #[ak x,ae nn] 204)).cell? (af W.heap.size 1)=some (ae nn):=by rw[eF _ _ _ _ rfl];rfl
 have bt:=ag (sK (h.below aQ));have H:=ag h;have aU:=ag ce;have bw:=ag aQ;clear h ce aQ;go_enter func132,ntmps132
 go_wp2_with fail
 refine bt.o.mono ?_;rintro e w2 ⟨rfl,ab⟩;have bs:=ag (bw.o.trans (ab.mono ay));have cn:=(ab.cell (p:=(af W.heap.size 0)) ay).trans cm;have y1:=(ab.cell (p:=(af W.heap.size 1)) ay).trans x1;have bh:W.heap.size<w2.heap.size:=by have:=ab.size;simp at this;omega
 have s:=ag (H.o.below bs.o);have bL:=ag cn;have bO:=ag y1;clear cm x1 cn y1 bt bw ab;obtain⟨cG,cH,cI,cJ⟩:=s.o.cell
 go_upto_block 0 with fail
 go_cut [6]from 11 to 30 (fun sv B=>∃i:Nat,sv=.int .i64 i/\Hid (B=w2)/\i<=ch.length/\Hid (∀j (aE:j<ch.length),j<i->ch[j].2.1≠[])/\Hid (∀hi:i<ch.length,ch[i].2.1=[]))
 case first=>
  go_wp2_with fail
  go_loopw [6] (fun bi wr=>∃i:Nat,bi=.int .i64 i/\Hid (wr=w2)/\i<=ch.length/\Hid (∀j (aE:j<ch.length),j<i->ch[j].2.1≠[])) (fun bi _=>ch.length-(intOf bi).toNat)
  case atStart=>exact⟨0,rfl,(by first|rfl|trivial),bD _,fun j _ h=>absurd h (kE _)⟩
  case round=>
   obtain⟨i,rfl,ah,hi,T⟩:=hrel;obtain rfl:wr=w2:=ah.o;clear ah;obtain⟨av,U,rfl,-,-,ad⟩:=Rd.aJ (enc:=dW) s.o.row;by_cases ca:i<ch.length
   .obtain⟨b,off,bP,du,b5⟩:=ad.get aa;have z:=b5 i ca;have M:Hid (ch[i].2.1=[]->∀hi:i<ch.length,ch[i].2.1=[]):=fun h _=>h;have an:Hid (ch[i].2.1≠[]->∀j (aE:j<ch.length),j<i+1->ch[j].2.1≠[]):=fun h j aE c4=>by
     rcases Ej.1 c4 with h9|rfl
     .exact T.o j aE h9
     .exact h
    have bv:=ag bP;unfold dW at z;clear b5 bP ad;generalize ch[i]=hd at*;obtain⟨dj,bl,dl⟩:=hd;simp only at z M an;obtain rfl:=bv.o;clear bv;have dK:(i:Int)<(ch.length:Int):=aa;by_cases X:bl=[]
    .have R:=ag (M.o X);clear M an;subst X
     go_wp2_with fail
     go_meet;exact⟨i,rfl,(by first|rfl|trivial),hi,T,R⟩
    .have R:=ag (an.o X);have c6:0<bl.length:=Aw.2 X;have dw:decide (0<bl.length)=true:=by simp[c6]
     clear X M an
     go_wp2_with fail
     go_roundw
     case rel=>exact⟨i+1,by go_num,(by first|rfl|trivial),aa,R⟩
     case measure=>exact eT
   .have R:Hid (∀hi:i<ch.length,ch[i].2.1=[]):=fun h=>absurd h ca;have dE:¬(i:Int)<(ch.length:Int):=aa
    go_wp2_with fail
    go_meet;exact⟨i,rfl,(by first|rfl|trivial),hi,T,R⟩
 case rest=>
  obtain⟨i,rfl,ah,hi,T,M⟩:=hcut;obtain rfl:wc=w2:=ah.o;clear ah;obtain⟨f,Z⟩:∃f,f=cv.ownBlock:=⟨_,rfl⟩;have dh:Hid (∀k,(k=Cb\/f=some k)->base<=k):=fun k h=>by
   rcases h with rfl|h
   .exact s.o.hb
   .exact(s.o.row.lt k (Z▸h)).1
  have ao:Hid (∀k,f=some k->k<W.heap.size/\k≠Cb):=fun k h=>⟨(H.o.row.lt k (Z▸h)).2,fun e=>H.o.ne (by rw[<-Z,h,e])⟩;have C:=ag Z;have dp:=H.o.lt;obtain⟨av,U,rfl,-,dv,-⟩:=Rd.aJ (enc:=dW) s.o.row;have bH:Hid (ax (fun k=>k=Cb\/f=some k) W wc):=(ax.refl _ _).grown (bN bs.o) ay;have cy:Hid (∀w6,wc.grownBy w6 (Value.ownBlock (.slice av ch.length U))->w6.heap[Cb]? =some (Obj.cells #[.bool true,.slice av ch.length U,ae N,ae wk] 290 (0,0))):=fun w6 w=>(w.block Cb s.o.lt (fun e=>s.o.ne e.symm)).trans s.o.blk;clear Z
  go_upto_if 37 with fail
  go_cut []from 37 to 46 (fun B=>∃V ch1 c aN v,Hid (iW B base Cb V ch1 N wk)/\V=aA c aN v/\aN=ch1.length/\i<aN/\Hid (ch1=ch/\i<ch.length\/ch1=ch++[fK]/\i=ch.length)/\Hid (V.ownBlock=f\/∃b,V.ownBlock=some b/\W.heap.size<=b)/\Hid (c≠W.heap.size)/\Hid (ax (fun k=>k=Cb\/f=some k) W B)/\Hid (ax (fun k=>k=Cb\/f=some k) wc B))
  case first=>
   by_cases c3:i=ch.length
   .subst c3;have cZ:((ch.length:Int)==(ch.length:Int))=true:=ay
    go_wp2_with (at_builtin;refine bZ KS base s.o.row [aL] rfl (by simp[Value.oneCell']) rfl _ _ rfl rfl _ rfl dJ aa aa ?_;intro bm w6 ac w b3;obtain⟨D,l,rfl,dz,dA,dB,dC⟩:=aV ac aa;have bj:=cy.o w6 w;have dO:w6.cell? (af Cb 1)=some (.slice av ch.length U):=(aD bj);have dP:w6.frozen? (af Cb 1)=false:=(aD bj))
    go_meet;have bc:w6.ownsRow base 209 1 (aA D (ch.length+1) l) (ch++[fK]).length ((ch++[fK]).map dW):=by
     rw[bS,bM];exact ac
    have az:(some D=f\/D=wc.heap.size+1):=by
     rcases b3 with h9|h9
     .exact .inl (h9.trans C.o.symm)
     .simp only[Value.ownBlock,jq]at h9;rw[h9];exact .inr ay
    have c1:D≠Cb:=by
     rcases az with h9|h9
     .exact(ao.o D h9.symm).2
     .omega
    refine⟨_,ch++[fK],D,ch.length+1,l,ik.LY (ch:=ch) bj s.o.hb s.o.ds bc (by simpa[Value.ownBlock]using c1),rfl,ay,aa,(by first|exact .inr ⟨rfl,rfl⟩|exact .inr ⟨rfl,trivial⟩),?_,?_,(bH.o.grown w fun k q=>.inl (.inr (C.o.trans q))).set _ (.inl (.inl rfl)),((ax.refl _ wc).grown w fun k q=>.inl (.inr (C.o.trans q))).set _ (.inl (.inl rfl))⟩
    .rcases az with h9|h9
     .exact .inl (by simpa[Value.ownBlock]using h9)
     .exact .inr ⟨D,rfl,aa⟩
    .show D≠W.heap.size;rcases az with h9|h9
     .have:=(ao.o D h9.symm).1;omega
     .omega
   .have cZ:((i:Int)==(ch.length:Int))=false:=by simp only[beq_eq_false_iff_ne];omega
    have b9:i<ch.length:=aa;obtain⟨g,dm,a2,c0,aC,-,-⟩:=aV s.o.row aa;injection a2 with a2 _ cL;subst a2 cL;go_wp2;go_meet;have c2:f=some g:=C.o;exact⟨_,ch,g,ch.length,U,s,rfl,rfl,b9,.inl ⟨rfl,b9⟩,.inl C.o.symm,(by show g≠W.heap.size;have:=(ao.o g c2).1;omega),bH,ax.refl _ _⟩
  case rest=>
   obtain⟨V,ch1,c,aN,v,ai,rfl,rfl,dG,am,aR,cs,cD,ap⟩:=hcut;obtain⟨w3,cP⟩:∃w3:World,w3=wc:=⟨_,rfl⟩;subst cP;have bE:Hid (¬(W.heap.size=Cb\/f=some W.heap.size)):=fun h9=>by
    rcases h9 with h9|h9
    .omega
    .have:=(ao.o _ h9).1;omega
   have cE:Hid (w3.cell? (af W.heap.size 0)=some (ak x)):=(dD (a:=(af W.heap.size 0)) (ap.o.block _ bh bE.o)).trans bL.o;have cF:Hid (w3.cell? (af W.heap.size 1)=some (ae nn)):=(dD (a:=(af W.heap.size 1)) (ap.o.block _ bh bE.o)).trans bO.o;have cf:W.heap.size<w3.heap.size:=bX bh ap.o.size;have c0:c<w3.heap.size:=(ai.o.row.lt c rfl).2;have cq:Hid (∀k (q:k<i) (h1:k<ch1.length) (Y:k<ch.length),ch1[k]=ch[k]):=fun k q h1 Y=>by
    rcases am.o with⟨e,-⟩|⟨e,-⟩
    .subst e;rfl
    .subst e;exact qJ Y
   have cr:Hid (∀W',ax (fun k=>k=Cb\/f=some k) W W'->∀k (q:k<ch.length),bY iN 2 W' ch[k].1 ch[k].2.1):=fun W' cW k q=>((aU.o _ (bF q)).1.kept (H.o.fq C.o cW)).NH;have cw:Hid (∀k (q:k<ch.length),k<i->(((ch.map (·.2.1)).take i).drop k).reverse.flatten=(((ch.map (·.2.1)).take i).drop (k+1)).reverse.flatten++ch[k].2.1):=fun k q dH=>by
    rw[mJ aH];simp
   have bA:Hid (∀k,(((ch.map (·.2.1)).take i).drop k).reverse.flatten.length<=10000):=fun k=>by
    generalize ch.map (·.2.1)=CB at*;have dn:(((CB.take i).drop k).reverse.flatten).length=((CB.take i).drop k).flatten.length:=by simp only[Er,Ey,List.sum_reverse]
    have a1:((CB.take i).take k).flatten++((CB.take i).drop k).flatten=(CB.take i).flatten:=by rw[<-ll,jJ]
    have cM:(CB.take i).flatten++(CB.drop i).flatten=CB.flatten:=by rw[<-ll,jJ]
    have cN:=congrArg List.length a1;have cO:=congrArg List.length cM;rw[bS]at cN cO;omega
   clear bL bO cG cH cI cJ ap
   go_upto_block 2 with fail
   go_cut [7]from 49 to 67 (fun bp B=>Hid (B.ownsRow w3.heap.size 204 2 bp (eU (ch.map (·.2.1)) i).length ((eU (ch.map (·.2.1)) i).flatMap iN))/\Hid (iW B base Cb (aA c ch1.length v) (uo ch1 i 0) N wk)/\Hid (ax (fun k=>k=Cb\/f=some k) W B)/\Hid (ax (fun k=>k=c) w3 B))
   case first=>
    go_wp2_with fail
    go_loopw [8,7] (fun bk bp wr=>∃(k:Nat) (bo:Value),bk=.int .i64 ((k:Int)-1)/\bp=bo/\k<=i/\Hid (wr.ownsRow w3.heap.size 204 2 bo (((ch.map (·.2.1)).take i).drop k).reverse.flatten.length ((((ch.map (·.2.1)).take i).drop k).reverse.flatten.flatMap iN))/\Hid (iW wr base Cb (aA c ch1.length v) (uo ch1 i k) N wk)/\Hid (ax (fun k=>k=Cb\/f=some k) W wr)/\Hid (ax (fun k=>k=c) w3 wr)) (fun bk _ _=>(intOf bk+1).toNat)
    case atStart=>
     refine⟨i,_,rfl,rfl,aB _,?_,?_,cD,ax.refl _ _⟩
     .rw[oC aH];exact dx _ _ _ _
     .rw[KJ];exact ai
    case round=>
     obtain⟨k,bo,rfl,rfl,q,HO,G,S,I⟩:=hrel;rcases qO k with UJ|UJ
     .subst UJ;have dy:¬(0:Int)<=((0:Nat):Int)-1:=aa;rw[kF]at HO
      go_wp2_with fail
      go_meet;exact⟨HO,G,S,I⟩
     .obtain⟨m,rfl⟩:∃m,k=m+1:=⟨k-1,aa⟩;have bb:m<ch.length:=aa;have cb:m<ch1.length:=aa;obtain⟨d0,d1,d2,d3⟩:=G.o.cell;have y:i<=ch1.length:=aa;have be:=G.o.row;rw[iM q y]at be;have z:=be.cellAt m aa;rw[iB,KL y aa,cB cb,cq.o m aa cb bb]at z;simp only[fT]at z;have ad:=cr.o wr S.o m bb;have ba:=cw.o m bb aa;have O:=bA.o m;rw[ba,bS]at O;have c7:=KM (ch1:=ch1) y (show m<i by omega);have c5:=O;generalize(((ch.map (·.2.1)).take i).drop (m+1)).reverse.flatten=L at*;have bz:=ag ba;unfold dW at z;clear ba O;generalize ch[m]=hd at*;obtain⟨dk,dN,cK⟩:=hd;simp only at z ad c5 bz;have A:=HO.o.lt;have cV:=ai.o.lt;have b8:=I.o.size;have dL:(m:Int)<(ch1.length:Int):=aa
      go_wp2_with (at_builtin;refine nH GJ w9 BN w3.heap.size HO.o ad rfl _ _ rfl rfl cK rfl dJ aa b8 ?_;intro bm w6 ac w b3;have E:=G.o.grown w (fun e=>(by have:=(A Cb e).1;omega)) (.inr (fun e=>(by have:=(A c e.symm).1;omega)));obtain⟨f0,f1,f2,f3⟩:=E.cell;have b2:=w.block c aa (fun e=>(by have:=(A c e.symm).1;omega));have dQ:=(dD (a:=(af c m)) b2).trans z;have bQ:=(pq (a:=(af c m)) b2).trans (be.frozenAt m))
      have c8:=ac.lt;have cz:Hid ((w6.setCell (af c m) (aL)).ownsRow w3.heap.size 204 2 bm (((ch.map (·.2.1)).take i).drop m).reverse.flatten.length ((((ch.map (·.2.1)).take i).drop m).reverse.flatten.flatMap iN)):=by
       show World.ownsRow _ _ _ _ _ _ _;rw[bz.o,bS,gX];exact aZ ac fun cT e=>aF (fun a1=>by have:=(c8 cT e).1;simp only at a1;omega)
      have aS:Hid (iW (w6.setCell (af c m) (aL)) base Cb (aA c ch1.length v) (uo ch1 i m) N wk):=by
       have:=E.LX (iM q y).symm m fK;rw[c7]at this;exact this
      have a7:f=some c\/W.heap.size<=c:=by
       rcases aR.o with h9|⟨b,h9,cU⟩
       .exact .inl h9.symm
       .simp only[Value.ownBlock,jq]at h9;exact .inr aa
      have aT:Hid (ax (fun k=>k=Cb\/f=some k) W (w6.setCell (af c m) (aL))):=
       (S.o.grown w (fun b n=>.inr (by have:=(A b n).1;omega))).set _ (by rcases a7 with h9|h9;exact .inl (.inr h9);exact .inr h9)
      have ct:Hid (ax (fun k=>k=c) w3 (w6.setCell (af c m) (aL))):=(I.o.grown w (fun b n=>.inr (A b n).1)).set _ (.inl rfl);go_roundw
      case rel=>exact⟨m,bm,by go_num,rfl,aa,cz,aS,aT,ct⟩
      case measure=>simp[intOf]
   case rest=>
    obtain⟨HO,G,S,I⟩:=hcut;obtain⟨w4,cQ⟩:∃w4:World,w4=wc:=⟨_,rfl⟩;subst cQ;have b8:=I.o.size;have y:i<=ch1.length:=aa;have au:W.heap.size≠c:=fun e=>cs.o e.symm;have bJ:w4.cell? (af W.heap.size 0)=some (ak x):=(dD (a:=(af W.heap.size 0)) (I.o.block _ cf au)).trans cE.o;have bK:w4.cell? (af W.heap.size 1)=some (ae nn):=(dD (a:=(af W.heap.size 1)) (I.o.block _ cf au)).trans cF.o;have O:=bA.o 0;rw[kF]at O;change(eU (ch.map (·.2.1)) i).length<=10000 at O;have bC:=(HO.o.alloc (.cells #[ak x,ae nn] 204)).bu 1;have bx:=(G.o.grown (qM w4 (.cells #[ak x,ae nn] 204) none) ay (.inr (by simp[Value.ownBlock]))).drew;generalize a3:eU (ch.map (·.2.1)) i=d at*;obtain⟨df,w6,aX,bc,aC,az⟩:=jy (ty:=209) (t:=209) (P:=prog) GJ w3.heap.size bC (af w4.heap.size 0) 1 1 [.int .u32 x,.int .i64 nn] rfl (by
     intro j u hu;have cX:((af w4.heap.size 0):Addr).add j=(af w4.heap.size j):=by unfold Addr.add;split<;>simp_all
     rw[cX];have h9:(w4.alloc (.cells #[ak x,ae nn] 204)).cell? (af w4.heap.size j)=some u:=by
      rw[eF _ _ _ _ (by rfl)];simpa using hu
     exact h9) (by simp[Value.oneCell']) dJ aa aH
    have A:=bC.lt;have cV:=ai.o.lt;have E:=bx.grown aC (fun e=>(by have:=(A Cb e).1;omega)) (.inr (fun e=>(by have:=(A c e.symm).1;omega)));have bd:w6.ownsRow w3.heap.size 204 2 df (d.length+1) ((d++[(x,nn)]).flatMap iN):=by
     rw[gX];exact bc
    have cg:=bd.lt;obtain⟨r,l,rfl,-,cY,bT⟩:=Mm.aJ bd;have aG:(d++[(x,nn)]).length=d.length+1:=ay;rw[aG]at aX bd cY cg;have cp:Hid (∀a,r=some a->W.heap.size<=a.block):=fun a a6=>by have:=(cg a.block (by rw[a6];rfl)).1;omega
    obtain⟨f0,f1,f2,f3⟩:=E.cell;have aM:=E.row;rw[iM (bD _) y]at aM;have ck:=aM.cellAt i aa;have bQ:=aM.frozenAt i;have da:i<((uo ch1 i 0).map dW).length:=by rw[bR,iM (bD _) y];omega
    rw[cB da]at ck;have a5:w4.cell? (af Cb 1)=some (aA c ch1.length v)/\w4.cell? (af W.heap.size 0)=some (ak x)/\w4.cell? (af W.heap.size 1)=some (ae nn):=⟨G.o.cell.2.1,bJ,bK⟩;have bU:w4.drew.cell? (af Cb 1)=some (aA c ch1.length v)/\w4.drew.cell? (af W.heap.size 0)=some (ak x)/\w4.drew.cell? (af W.heap.size 1)=some (ae nn):=a5;have b7:=(aI w4.heap.size w4).alloc (aB _) (.cells #[ak x,ae nn] 204);have b0:W.heap.size<w4.heap.size:=aa;have aq:(w4.alloc (.cells #[ak x,ae nn] 204)).drew.cell? (af Cb 1)=some (aA c ch1.length v)/\(w4.alloc (.cells #[ak x,ae nn] 204)).drew.cell? (af W.heap.size 0)=some (ak x)/\(w4.alloc (.cells #[ak x,ae nn] 204)).drew.cell? (af W.heap.size 1)=some (ae nn):=
     ⟨bx.cell.2.1,(b7.cell (p:=(af W.heap.size 0)) b0).trans bJ,(b7.cell (p:=(af W.heap.size 1)) b0).trans bK⟩
    have bW:=aC.block W.heap.size aH (fun e=>by have:=(A _ e.symm).1;omega);have ar:w6.cell? (af Cb 1)=some (aA c ch1.length v)/\w6.cell? (af W.heap.size 0)=some (ak x)/\w6.cell? (af W.heap.size 1)=some (ae nn):=
     ⟨f1,(dD (a:=(af W.heap.size 0)) bW).trans aq.2.1,(dD (a:=(af W.heap.size 1)) bW).trans aq.2.2⟩
    have K:iW (w6.setCell (af c i) (.slice r (d.length+1) l)) base Cb (aA c ch1.length v) ((uo ch1 i 0).set i (r,d++[(x,nn)],l)) N wk:=by
     have:=E.LX (iM (bD _) y).symm i (r,d++[(x,nn)],l);unfold dW at this;rw[aG]at this;exact this
    have bV:(w6.setCell (af c i) (.slice r (d.length+1) l)).cell? (af Cb 1)=some (aA c ch1.length v)/\(w6.setCell (af c i) (.slice r (d.length+1) l)).cell? (af W.heap.size 0)=some (ak x)/\(w6.setCell (af c i) (.slice r (d.length+1) l)).cell? (af W.heap.size 1)=some (ae nn):=
     ⟨K.cell.2.1,(dD (a:=(af W.heap.size 0)) (aF (fun e=>au e.symm))).trans ar.2.1,(dD (a:=(af W.heap.size 1)) (aF (fun e=>au e.symm))).trans ar.2.2⟩
    have dF:(i:Int)<(ch1.length:Int):=aa;generalize((uo ch1 i 0).map dW)[i]=dR at*;go_wp2
    go_hide hQ
    go_region_held3 (fun w'=>w'.cell? (af Cb 1)=some (aA c ch1.length v)/\w'.cell? (af W.heap.size 0)=some (ak x)/\w'.cell? (af W.heap.size 1)=some (ae nn))
     (first|(with_reducible exact a5)|(with_reducible exact bU)|(with_reducible exact aq)|(with_reducible exact ar)|(with_reducible exact bV)|go_keep)
     ((refine gG rfl (.tmp 73) (.tmp 75) rfl aX (by simp[Act.eval]) (by simp[Act.eval]) ?_;try simp only[Act.put,zq,oF,nU]))
    all_goals subst hQ
    clear bV;generalize ci:w6.setCell (af c i) (.slice r (d.length+1) l)=bq at K |-;have Q:=K.Bu (N+1);obtain⟨db,dc,dd,de⟩:=K.cell;have cR:=K.frozen 2;obtain⟨t0,t1,t2,t3⟩:=Q.cell;have cS:=Q.frozen 3;have b4:((uo ch1 i 0).set i (r,d++[(x,nn)],l)).length=ch1.length:=by rw[kM,iM (bD _) y]
    have bf:=Q.row;rw[b4]at bf;have br:=bf.cellAt i aa;have a8:(((uo ch1 i 0).set i (r,d++[(x,nn)],l)).map dW)[i]? =some (.slice r (d.length+1) l):=by
     rw[iB,uq (by rw[iM (bD _) y];omega)];simp[dW]
    rw[a8]at br;have F:=(Q.QJ (wrap64 (wk+((d.length:Int)+1)))).drew;have al:=ag F;clear F;have dr:(-9223372036854775808:Int)<=N+1/\N+1<=9223372036854775807:=aa;have aW:=ag ci;clear ci;clear f0 f1 f2 f3 ck bQ a5 bU aq ar aX;have di:=ag br;have cu:=ag a8;have cA:=ag bT;have a7:f=some c\/W.heap.size<=c:=by
     rcases aR.o with h9|⟨b,h9,cU⟩
     .exact .inl h9.symm
     .simp only[Value.ownBlock,jq]at h9;exact .inr aa
    have aT:Hid (ax (fun k=>k=Cb\/f=some k) W w6):=((S.o.grown (qM w4 (.cells #[ak x,ae nn] 204) none) ay).drew).grown aC (fun b n=>.inr (by have:=(A b n).1;omega));have aS:=ag E;clear a8;go_wp2;go_region;have cx:Hid (ax (fun k=>k=Cb\/some c=some k) w6 ((bq.setCell (af Cb 2) (.int .i64 (N+1))).setCell (af Cb 3) (.int .i64 (wrap64 (wk+((d.length:Int)+1))))).drew):=by
     rw[<-aW.o];exact((((ax.refl _ w6).set _ (.inl (.inr rfl))).set _ (.inl (.inl rfl))).set _ (.inl (.inl rfl))).drew
    have bB:Hid (ax (fun k=>k=Cb\/f=some k) W ((bq.setCell (af Cb 2) (.int .i64 (N+1))).setCell (af Cb 3) (.int .i64 (wrap64 (wk+((d.length:Int)+1))))).drew):=by
     rw[<-aW.o];exact(((aT.o.set _ (by rcases a7 with h9|h9;exact .inl (.inr h9);exact .inr h9)).set _ (.inl (.inl rfl))).set _ (.inl (.inl rfl))).drew
    have F:=al.o;clear br al db dc dd de t0 t1 t2 t3 cR cS K Q aW;generalize c9:((bq.setCell (af Cb 2) (.int .i64 (N+1))).setCell (af Cb 3) (.int .i64 (wrap64 (wk+((d.length:Int)+1))))).drew=cl at*;obtain⟨u0,u1,u2,u3⟩:=F.cell;have bg:=F.row;rw[b4]at bg;have dg:=bg.cellAt i aa;rw[cu.o]at dg;have a4:=cA.o.kept (aS.o.fq rfl cx.o);have cj:=bB.o.size;have co:=BO r (d++[(x,nn)]) (d.length+1) l cl aG a4.NH aa;have al:=ag F;have cC:=ag a4;clear c9 aM bf bg F a4 bT
    go_wp2_with fail
    refine co.mono ?_;rintro e aO ⟨bn,rfl,cd,aw⟩;go_wp2;go_ret2;have bG:ax (fun k=>k=Cb\/f=some k) W aO:=bB.o.below aw;have b6:=H.o.fq C.o bG;refine⟨i,bn,aA c ch1.length v,(uo ch1 i 0).set i (r,d++[(x,nn)],l),_,rfl,hi,T.o,M.o,al.o.below aw,?_,?_,?_,?_,?_,?_,?_⟩
    .have cc:∀b,b<cl.heap.size->bn.ownBlock≠some b:=fun b n e=>by have:=(cd.lt b e).1;omega
     have b1:∀a0:World,(∀(b:Nat) J fr,aO.heap[b]? =some (Obj.cells J 204 fr)->bn.ownBlock≠some b->a0.heap[b]? =aO.heap[b]?)->jX a0 ((uo ch1 i 0).set i (r,d++[(x,nn)],l)):=by
      intro a0 Y h a9;rcases Ad am.o a9 with rfl|rfl|h1
      .exact⟨cC.o.kept fun b J fr n=>(Y b J fr ((aP aw n).trans n) (cc b (aY.1 n).1)).trans (aP aw n),by show(d++[(x,nn)]).length<=l;omega⟩
      .exact⟨.inl rfl,aB _⟩
      .exact⟨(aU.o h h1).1.kept fun b J fr n=>(Y b J fr ((b6 b J fr n).trans n) (cc b (bX (aY.1 n).1 cj))).trans (b6 b J fr n),(aU.o h h1).2⟩
     exact⟨b1 aO (fun _ _ _ _ _=>rfl),b1⟩
    .exact Gj am.o _ (x,nn) (by show d++[(x,nn)]=_;rw[a3])
    .rw[a3,aG];exact bI cd cj
    .rcases aR.o with h9|h9
     .exact .inl (h9.trans C.o)
     .exact .inr h9
    .exact bG.mono fun k q=>q.imp id fun h9=>C.o▸h9
    .intro h a9;rcases Ad am.o a9 with rfl|rfl|h1
     .exact .inr cp.o
     .exact .inr fun a a6=>by cases a6
     .exact .inl h1
    .rw[a3]
end
section
open Go.RowKit Go.Maps
section
variable {W:World} {base Cb:Nat} {cv:Value} {ch:List lU} {N wk:Int}
theorem BQ (h:iW W base Cb cv ch N wk) (f:ch.length<=1000000):aK 209 #[aj Cb] W (fw W (ae ch.length)):=by
 have b:=ag (sK h);have H:=ag h;obtain⟨av,d,rfl,-,-,-⟩:=Rd.aJ (enc:=dW) H.o.row;go_enter func209,ntmps209
 go_wp2_with fail
 refine b.o.mono ?_;rintro e w2 ⟨rfl,a⟩;obtain⟨-,c,-⟩:=(H.o.below a).cell;go_wp2;go_ret;exact⟨rfl,a⟩
theorem Q5 (h:iW W base Cb cv ch N wk):aK 137 #[aj Cb] W (fw W (ae N)):=by
 have b:=ag (sK h);have H:=ag h;go_enter func137,ntmps137
 go_wp2_with fail
 refine b.o.mono ?_;rintro e w2 ⟨rfl,a⟩;obtain⟨-,-,c,-⟩:=(H.o.below a).cell;go_wp2;go_ret;exact⟨rfl,a⟩
theorem BR (h:iW W base Cb cv ch N wk) (t:jX W ch) (B:ch.length<=1000000) (i:Nat) (hi:i<ch.length) (j:ch[i].2.1.length<=1000000):aK 210 #[aj Cb,ae i] W fun e w'=>
  ∃v,e=.returned v/\w'.ownsRow W.heap.size 204 2 v ch[i].2.1.length (ch[i].2.1.flatMap iN)/\Below W.heap.size W w':=by
 have m:=ag (sK h);have H:=ag h;obtain⟨av,w,rfl,-,-,-⟩:=Rd.aJ (enc:=dW) H.o.row;obtain⟨g,x,c,y,z,-,-⟩:=aV H.o.row aa;injection c with c _ q;subst c q;have f:=ag (fun W' (d:Below W.heap.size W W')=>(t _ (bF hi)).1.NH.below d);have b:=ag (fun W' (d:Below W.heap.size W W')=>(show W'.cell? (af g i)=some (dW ch[i]) by
  have:=((H.o.below d).row).cellAt i aa;rw[iB,cB hi]at this;exact this))
 unfold dW at b;have A:(i:Int)<(ch.length:Int):=aa;generalize ch[i]=hd at*;have⟨n,k,p⟩:=hd;simp only at f b j |-;have d1:decide ((i:Int)<0)=false:=ay;go_enter func210,ntmps210
 go_wp2_with fail
 refine m.o.mono ?_;rintro e w2 ⟨rfl,a⟩;obtain⟨-,u,-⟩:=(H.o.below a).cell;have D:=b.o w2 a;have l:=ag (BO n k k.length p w2 rfl (f.o w2 a) j)
 go_wp2_with fail
 refine l.o.mono ?_;rintro e w3 ⟨C,rfl,s,r⟩;have HO:=ag (bI s a.size);go_wp2;go_ret;exact⟨_,rfl,HO.o,a.trans (r.mono a.size)⟩
end
structure dU (W:World) (base A Cb:Nat) (bv pv lv cv:Value) (bh ch:List lU) (al:List Bool) (pl:List Int) (n N wk:Int):Prop where
 hb:base<=A
 blk:W.heap[A]? =some (Obj.cells #[aj Cb,bv,pv,lv,ae n] 207 (0,0))
 fJ:iW W base Cb cv ch N wk
 gN:W.ownsRow base 209 1 bv bh.length (bh.map dW)
 iL:W.ownsRow base 3 1 pv pl.length (pl.map (Value.int .i64))
 dO:W.ownsRow base 4 1 lv al.length (al.map Value.bool)
 bE:jX W bh
 cE:jX W ch
 sep:bv.ownBlock=none\/bv.ownBlock≠cv.ownBlock
section
variable {W:World} {base A Cb:Nat} {bv pv lv cv:Value} {bh ch:List lU} {al:List Bool} {pl:List Int} {n N wk:Int}
theorem dU.cell (h:dU W base A Cb bv pv lv cv bh ch al pl n N wk):
  W.cell? (af A 0)=some (aj Cb)/\W.cell? (af A 1)=some bv/\W.cell? (af A 2)=some pv/\W.cell? (af A 3)=some lv/\W.cell? (af A 4)=some (ae n):=by
 have:=h.blk;refine⟨?_,?_,?_,?_,?_⟩<;>simp[World.cell?,this]
theorem dU.frozen (h:dU W base A Cb bv pv lv cv bh ch al pl n N wk) (j:Nat):W.frozen? (af A j)=false:=by
 have:=h.blk;simp[World.frozen?,this]
theorem dU.lt (h:dU W base A Cb bv pv lv cv bh ch al pl n N wk):A<W.heap.size:=(aY.1 h.blk).1
theorem dU.below {W':World} (h:dU W base A Cb bv pv lv cv bh ch al pl n N wk) (hb:Below W.heap.size W W'):dU W' base A Cb bv pv lv cv bh ch al pl n N wk:=
 ⟨h.hb,(aP hb h.blk).trans h.blk,h.fJ.below hb,az h.gN hb,az h.iL hb,az h.dO hb,h.bE.kept fun b c fr a=>aP hb a,h.cE.kept fun b c fr a=>aP hb a,h.sep⟩
theorem GL (h:dU W base A Cb bv pv lv cv bh ch al pl n N wk):aK 130 #[aj A] W (fw W (.bool false)):=by
 obtain⟨a,-⟩:=h.cell;go_enter func130,ntmps130;go_wp2;go_ret;exact⟨rfl,aI _ _⟩
end
def jk (ES:List ji) (al:List Bool) (pl:List Int) (id p:Int):Prop:=∃k:Nat,(id,(k:Int))∈ES/\al[k]? =some true/\pl[k]? =some p
def GM (NB CB:List (List ji)):Prop:=NB.length=CB.length/\∀(i:Nat) (h:i<NB.length) (h':i<CB.length),NB[i].Perm CB[i]
structure xc (CB NB:List (List ji)) (al:List Bool) (pl:List Int) (n N:Int):Prop where
 len:al.length=pl.length
 sorted:∀l∈NB,l.Pairwise fun p q=>p.1<=q.1
 perm:GM NB CB
 ids:(CB.flatten.map (·.1)).Nodup
 vL:∀x∈CB.flatten,∃k:Nat,x.2=k/\k<al.length
 xe:(CB.flatten.map (·.2)).Nodup
 live:∀k:Nat,al[k]? =some true->∃x∈CB.flatten,x.2=k
 cnt:n=(al.count true:Nat)
 stored:N=(CB.flatten.length:Nat)
 bound:al.length<=5000
 small:CB.flatten.length<=5000
 size:∀(i:Nat) (h:i<CB.length),CB[i].length=0\/CB[i].length=2^i
 last:∀(i:Nat) (h:i<CB.length),i+1=CB.length->CB[i]≠[]
structure q9 (CB NB:List (List ji)) (al:List Bool) (pl:List Int) (n N:Int):Prop extends xc CB NB al pl n N where
 most:N<=2*n
theorem oZ {L:List ji} (h:(L.map (·.1)).Nodup) {x y:ji} (b:x∈L) (c:y∈L) (e:x.1=y.1):x=y:=by
 have a:L.Pairwise fun p q=>p.1≠q.1:=dz.1 h;rcases fo a b c with h1|h1|h1
 .exact h1
 .exact absurd e h1
 .exact absurd e.symm h1
theorem ib {NB CB:List (List ji)} (h:GM NB CB) (x:ji):x∈NB.flatten↔x∈CB.flatten:=by
 simp only[pJ];constructor
 .rintro⟨l,b,c⟩;obtain⟨i,hi,rfl⟩:=jo b;have a:i<CB.length:=by rw[<-h.1];exact hi
  exact⟨CB[i],bF a,(h.2 i hi a).mem_iff.1 c⟩
 .rintro⟨l,b,c⟩;obtain⟨i,a,rfl⟩:=jo b;have hi:i<NB.length:=by rw[h.1];exact a
  exact⟨NB[i],bF hi,(h.2 i hi a).mem_iff.2 c⟩
theorem Mo (W:World):dU ((W.alloc (.cells #[.bool true,aL,ae 0,ae 0] 290)).alloc (.cells #[aj W.heap.size,aL,aL,aL,ae 0] 207)) W.heap.size (W.heap.size+1) W.heap.size (aL) (aL) (aL) (aL) [] [] [] [] 0 0 0 where
 hb:=Nat.le_succ _
 blk:=by
  have:=uJ (W.alloc (.cells #[.bool true,aL,ae 0,ae 0] 290)) (.cells #[aj W.heap.size,aL,aL,aL,ae 0] 207);rw[show(W.alloc (.cells #[.bool true,aL,ae 0,ae 0] 290)).heap.size=W.heap.size+1 by simp]at this;exact this
 fJ:=⟨aB _,UZ,by
  have b:=uJ W (.cells #[.bool true,aL,ae 0,ae 0] 290);exact(bL _ _ _ ay).trans b,dx _ _ _ _⟩
 gN:=dx _ _ _ _
 iL:=dx _ _ _ _
 dO:=dx _ _ _ _
 bE:=fun h a=>by cases a
 cE:=fun h a=>by cases a
 sep:=.inl rfl
theorem OE:q9 [] [] [] [] 0 0 where
 len:=rfl
 sorted:=fun l b=>by cases b
 perm:=⟨rfl,fun i h=>by cases h⟩
 ids:=pQ
 vL:=fun x c=>by cases c
 xe:=pQ
 live:=fun k a=>by cases a
 cnt:=rfl
 stored:=rfl
 most:=ai
 bound:=bD _
 small:=bD _
 size:=fun i h=>by cases h
 last:=fun i h=>by cases h
theorem Tv (W:World):aK 54 #[] W fun e w'=>e=.returned (aj (W.heap.size+1))/\dU w' W.heap.size (W.heap.size+1) W.heap.size (aL) (aL) (aL) (aL) [] [] [] [] 0 0 0/\Below W.heap.size W w':=by
 have H:=ag (Mo W);have a:Hid (Below W.heap.size W ((W.alloc (.cells #[.bool true,aL,ae 0,ae 0] 290)).alloc (.cells #[aj W.heap.size,aL,aL,aL,ae 0] 207))):=((aI _ _).alloc (aB _) _).alloc ay _;go_enter func54,ntmps54;go_wp2;go_ret;exact⟨rfl,H.o,a.o⟩
end
section
open Go.RowKit Go.Maps
attribute [local irreducible] wpQuiet
section
variable {W:World} {base A Cb:Nat} {bv pv lv cv:Value} {bh ch:List lU} {al:List Bool} {pl:List Int} {n N wk:Int}
theorem dU.Tw (h:dU W base A Cb bv pv lv cv bh ch al pl n N wk) (n':Int):dU (W.setCell (af A 4) (.int .i64 n')) base A Cb bv pv lv cv bh ch al pl n' N wk where
 hb:=h.hb
 blk:=by rw[di W A 4 _ _ _ h.blk];rfl
 fJ:=⟨h.fJ.hb,h.fJ.ds,(aF (dY h.blk h.fJ.blk ai)).trans h.fJ.blk,aZ h.fJ.row fun a e=>aF (bn h.fJ.row h.blk ai a e)⟩
 gN:=aZ h.gN fun a e=>aF (bn h.gN h.blk ai a e)
 iL:=aZ h.iL fun a e=>aF (bn h.iL h.blk ai a e)
 dO:=aZ h.dO fun a e=>aF (bn h.dO h.blk ai a e)
 bE:=h.bE.kept fun b d fr c=>aF (dY h.blk c ai)
 cE:=h.cE.kept fun b d fr c=>aF (dY h.blk c ai)
 sep:=h.sep
theorem Ag {e:TypeId} {sz k g c:Nat} {xs:List Value} (h:W.ownsRow base e sz (aA g k c) k xs):∃b,W.heap[g]? =some (Obj.cells b e (0,0)):=by
 rcases h.2 with⟨a,_⟩|⟨i,f,b,a,_,d,_⟩
 .cases a
 .injection a with a;injection a with a;injection a with a _ _;subst a;exact⟨b,d⟩
theorem dU.Tx {g k f:Nat} (h:dU W base A Cb bv pv (aA g k f) cv bh ch al pl n N wk) (d:k=al.length) (m:Nat) (b:Bool):dU (W.setCell (af g m) (.bool b)) base A Cb bv pv (aA g k f) cv bh ch (al.set m b) pl n N wk:=by
 subst d;have⟨i,a⟩:=Ag h.dO;refine⟨h.hb,(aF (dY a h.blk ai)).trans h.blk,⟨h.fJ.hb,h.fJ.ds,(aF (dY a h.fJ.blk ai)).trans h.fJ.blk,aZ h.fJ.row fun c e=>aF (bn h.fJ.row a ai c e)⟩,
  aZ h.gN fun c e=>aF (bn h.gN a ai c e),aZ h.iL fun c e=>aF (bn h.iL a ai c e),?_,
  h.bE.kept fun b i fr d=>aF (dY a d ai),h.cE.kept fun b i fr d=>aF (dY a d ai),h.sep⟩
 rw[kM,kP];exact(h.dO.stored m _).1
theorem dU.VO {g k f:Nat} (h:dU W base A Cb bv (aA g k f) lv cv bh ch al pl n N wk) (d:k=pl.length) (m:Nat) (p:Int):dU (W.setCell (af g m) (.int .i64 p)) base A Cb bv (aA g k f) lv cv bh ch al (pl.set m p) n N wk:=by
 subst d;have⟨i,a⟩:=Ag h.iL;refine⟨h.hb,(aF (dY a h.blk ai)).trans h.blk,⟨h.fJ.hb,h.fJ.ds,(aF (dY a h.fJ.blk ai)).trans h.fJ.blk,aZ h.fJ.row fun c e=>aF (bn h.fJ.row a ai c e)⟩,
  aZ h.gN fun c e=>aF (bn h.gN a ai c e),?_,aZ h.dO fun c e=>aF (bn h.dO a ai c e),
  h.bE.kept fun b i fr d=>aF (dY a d ai),h.cE.kept fun b i fr d=>aF (dY a d ai),h.sep⟩
 rw[kM,kP];exact(h.iL.stored m _).1
theorem Fa (h:dU W base A Cb bv pv lv cv bh ch al pl n N wk) (g:q9 (ch.map (·.2.1)) (bh.map (·.2.1)) al pl n N) (F:bh.length<=1000) (L:∀l∈bh.map (·.2.1),l.length<=10000) (id p M:Int) (G:jk (ch.map (·.2.1)).flatten al pl id M):
  aK 56 #[aj A,ak id,ae p] W (fw W (ae 2)):=by
 have j:=ag (GL h);have H:=ag h;have r:=ag (fun W' (c:Below W.heap.size W W')=>sJ A id W' _ bh bv base ((h.below c).cell.2.1) (h.below c).gN rfl (h.below c).bE g.sorted (aQ F) L);have b:=ag g;have s:=ag G;go_enter func56,ntmps56
 go_wp2_with fail
 refine j.o.mono ?_;rintro e w2 ⟨rfl,d⟩
 go_wp2_with fail
 refine(r.o w2 d).mono ?_;rintro e w3 ⟨k,t,rfl,ht,D,C⟩;have a:=d.trans (C.mono d.size);have⟨m,f,z,X⟩:=s.o;obtain⟨-,-,T,U,-⟩:=(H.o.below a).cell;have E:k=(m:Int):=by
  rcases D with⟨y,i,v,w⟩|⟨-,J⟩
  .rw[ib b.o.perm]at i;have:=oZ b.o.ids i f (aQ v);rw[<-w,this]
  .exact absurd rfl (J _ ((ib b.o.perm _).2 f))
 subst E;have⟨I,B⟩:=fH.1 z;obtain⟨Q,R,rfl,-,-,K⟩:=Rd.aJ (H.o.below a).dO;obtain⟨P,S,u,-,x⟩:=K.get aa;have O:=x m I;rw[B]at O;have V:(m:Int)<(al.length:Int):=aa;have q:=ag u;obtain rfl:=q.o;go_wp2;go_ret;exact⟨rfl,a⟩
theorem Fb (h:dU W base A Cb bv pv lv cv bh ch al pl n N wk) (z:q9 (ch.map (·.2.1)) (bh.map (·.2.1)) al pl n N) (U:bh.length<=1000) (ab:∀l∈bh.map (·.2.1),l.length<=10000) (id p:Int) (m:Nat) (w:(id,(m:Int))∈(ch.map (·.2.1)).flatten) (g:al[m]? =some false) (aB:0<=n/\n<=100000):
  aK 56 #[aj A,ak id,ae p] W fun e w'=>e=.returned (ae 0)/\dU w' base A Cb bv pv lv cv bh ch (al.set m true) (pl.set m p) (n+1) N wk/\ax (fun k=>k=A\/pv.ownBlock=some k\/lv.ownBlock=some k) W w':=by
 have F:=ag (GL h);have H:=ag h;have G:=ag (fun W' (d:Below W.heap.size W W')=>sJ A id W' _ bh bv base ((h.below d).cell.2.1) (h.below d).gN rfl (h.below d).bE z.sorted (aQ U) ab);have c:=ag z;go_enter func56,ntmps56
 go_wp2_with fail
 refine F.o.mono ?_;rintro e w2 ⟨rfl,f⟩
 go_wp2_with fail
 refine(G.o w2 f).mono ?_;rintro e w3 ⟨k,t,rfl,ht,S,R⟩;have r:=f.trans (R.mono f.size);have a:=ag (H.o.below r);have⟨ad,ah,ai,am,an⟩:=a.o.cell;have T:k=(m:Int):=by
  rcases S with⟨y,B,P,Q⟩|⟨-,X⟩
  .rw[ib c.o.perm]at B;have:=oZ c.o.ids B w (aQ P);rw[<-Q,this]
  .exact absurd rfl (X _ ((ib c.o.perm _).2 w))
 subst T;have⟨V,aq⟩:=fH.1 g;have x:m<pl.length:=by rw[<-c.o.len];exact V
 obtain⟨u,L,M,ar,au,-,-⟩:=aV a.o.dO aa;obtain⟨v,ac,O,av,aw,-,-⟩:=aV a.o.iL aa;subst M O;have C:=a.o.dO.cellAt m aa;have E:=a.o.iL.cellAt m aa;rw[iB,g]at C;rw[iB,cB x]at E;simp only[fT]at C E;have f4:=a.o.frozen 4;have ay:(m:Int)<(al.length:Int):=aa;have az:(m:Int)<(pl.length:Int):=aa;have b:=a.o.Tw (n+1);have⟨d0,d1,d2,d3,d4⟩:=b.cell;have D:=b.dO.cellAt m aa;have i:=b.iL.cellAt m aa;rw[iB,g]at D;rw[iB]at i;have ao:=b.dO.frozenAt m;have K:=(b.Tx rfl m true).VO rfl m p;have s:=b.Tx rfl m true;have j:=s.iL.cellAt m aa;rw[iB]at j;have ap:=s.iL.frozenAt m;have Y:∃q,pl[m]? =some q:=⟨pl[m],cB x⟩;have⟨aC,Z⟩:=Y;rw[Z]at i j;simp only[fT]at D i j;have J:=ag K;have I:Hid (ax (fun k=>k=A\/Value.ownBlock (aA v pl.length ac)=some k\/Value.ownBlock (aA u al.length L)=some k) W (((w3.setCell (af A 4) (.int .i64 (n+1))).setCell (af u m) (.bool true)).setCell (af v m) (.int .i64 p)).drew):=
  ((((ax.refl _ W).below r).set _ (.inl (.inl rfl))).set _ (.inl (.inr (.inr rfl)))).set _ (.inl (.inr (.inl rfl)))|>.drew
 go_wp2;go_region
 all_goals
  go_wp2;go_ret;exact⟨rfl,J.o.below (aI _ _).drew,I.o⟩
end
end
section
open Go.RowKit Go.Maps
def dG (al:List Bool) (x:ji):Bool:=al[x.2.toNat]? ==some true
theorem qB (i:Nat) (hi:i<14):0<2^i/\2^i<=8192:=⟨Nat.vM i,Au ai (by omega:i<=13)⟩
where Nat.vM (i:Nat):0<2^i:=pY ai
theorem OG (i:Nat) (hi:i<14):wrap64 ((2:Int)^i)=((2^i:Nat):Int):=by
 have h:=qB i hi;rw[show((2:Int)^i)=((2^i:Nat):Int) by rw[Int.natCast_pow];rfl];generalize 2^i=p at*;unfold wrap64;omega
theorem Sr (n i:Nat) (hi:i<14) (f:n<=10000):bits .and .i64 (n:Int) ((2^i:Nat):Int)=(if n.testBit i then((2^i:Nat):Int)else 0):=by
 have h:=qB i hi;have b:(BitVec.ofInt 64 (n:Int)).toNat=n:=by
  rw[BitVec.ofInt_natCast,BitVec.toNat_ofNat];exact Ez aa
 have c:(BitVec.ofInt 64 ((2^i:Nat):Int)).toNat=2^i:=by
  rw[BitVec.ofInt_natCast,BitVec.toNat_ofNat];exact Ez aa
 show IntKind.i64.wrap ((BitVec.ofInt 64 (n:Int) &&& BitVec.ofInt 64 ((2^i:Nat):Int)).toNat:Int)=_;have d:n &&& 2^i=if n.testBit i then 2^i else 0:=by
  apply Nat.eq_of_testBit_eq;intro j;rw[Nat.testBit_and,Nat.testBit_two_pow];by_cases a:i=j
  .subst a;cases e:n.testBit i<;>simp[]
  .cases e:n.testBit i<;>simp[a]
 rw[BitVec.toNat_and,b,c,d];generalize 2^i=p at*;cases n.testBit i<;>simp[IntKind.wrap,IntKind.bits,IntKind.signed];omega
theorem GN (n i:Nat):(n.testBit i=true->n%2^(i+1)=n%2^i+2^i)/\(n.testBit i=false->n%2^(i+1)=n%2^i):=by
 rw[Nat.testBit_eq_decide_div_mod_eq,Nat.mod_pow_succ];have a:n/2^i%2=0\/n/2^i%2=1:=aa;generalize n/2^i%2=b at*;rcases a with rfl|rfl<;>simp
section
variable {P:Program} {ops:Array Oper} {rest:List Oper} {o:Oper} {a:Act} {Q:Exit->Act->World->Prop}
theorem vN {α:Type} {enc:α->List Value} {sz:Nat} {t e:TypeId} {bytes:Nat} (s:eP P t e sz bytes) {W:World} {ad:Option Addr} {l:List α} {c:Nat} (E:bY enc sz W ad l) (w:l.length<=c) (lo hi:Nat) (q:lo<=hi) (u:hi<=l.length)
  (y:o.guard=none) (x:Operand) (n f:Option Operand) (j:o.op=.slice t x n f none) (m:a.eval x=.slice ad l.length c)
  (g:(n.map a.eval).getD (.int .i64 0)=.int .i64 lo) (b:(f.map a.eval).getD (.int .i64 l.length)=.int .i64 hi)
  (h:∀p,(∀W',bY enc sz W' ad l->bY enc sz W' p ((l.take hi).drop lo))->wpList P ops Q rest (a.put o.dst (.slice p (hi-lo) (c-lo))) W):wpList P ops Q (o::rest) a W:=by
 obtain⟨ht,⟨i,z,A,G,C,D,H⟩,F⟩:=s;refine wpList_plain y fun K v=>?_;have d:=v _ _ (h _ (fun W' B=>EP B w lo hi u));have hu:∀W',(underlying t).run P W'=.ok (.slice e) W':=fun W'=>pO ht W';have k:∀W',(sizeOf e).run P W'=.ok sz W':=fun W'=>by simp[sizeOf,typeInfo,A,C]
 unfold Oper.wp execOp;have r:hi<=c:=aa;rcases n with _|lw
 .simp only[lN,mR,pK,qa]at g;obtain rfl:lo=0:=aa;rcases f with _|hg
  .simp only[lN,mR,pK,qa]at b;obtain rfl:hi=l.length:=aa;simp only[j,m,lN,Instr.sliceAt,Instr.slice,Instr.sliceBounds,yl,hu,k,x8,ym];exact d
  .simp only[fT,gH]at b;simp[j,m,b,Instr.sliceAt,Instr.slice,Instr.sliceBounds,Instr.sliceBound,hu,k,asIntOf,r];simp only[Nat.zero_mul,Nat.sub_zero]at d;exact d
 .simp only[fT,gH]at g;rcases f with _|hg
  .simp only[lN,mR,pK,qa]at b;obtain rfl:hi=l.length:=aa;simp[j,m,g,Instr.sliceAt,Instr.slice,Instr.sliceBounds,Instr.sliceBound,hu,k,asIntOf,q];exact d
  .simp only[fT,gH]at b;simp[j,m,g,b,Instr.sliceAt,Instr.slice,Instr.sliceBounds,Instr.sliceBound,hu,k,asIntOf,q,r];exact d
end
end
section
open Go.RowKit Go.Maps
attribute [local irreducible] wpQuiet
def VP (W:World) (base Cb:Nat) (wk:Int) (l:List ji) (e:Ending) (w':World):Prop:=
 ∃(CW:Value) (qV:List lU) (KI:Int),e=.returned (ae l.length)/\iW w' base Cb CW qV l.length KI/\jX w' qV/\qV.map (·.2.1)=setC (Lib.bitLen l.length) l/\
  (CW.ownBlock=none\/∃b,CW.ownBlock=some b/\W.heap.size<=b)/\ax (fun k=>k=Cb) W w'/\Nw W.heap.size [] qV/\KI=wrap64 (wk+(l.length:Int))
theorem Q6 {W:World} {base Cb:Nat} {cv:Value} {ch:List lU} {N wk:Int} (h:iW W base Cb cv ch N wk) (cl:base<=W.heap.size) (a:Option Addr) (l:List ji) (c:Nat) (bb:Mm W a l) (bQ:l.length<=c) (aE:l.length<=10000):
  aK 211 #[aj Cb,.slice a l.length c] W (VP W base Cb wk l):=by
 have aS:=ag (sK h);have H:=ag h;have bJ:=eO aE ai;have bK:Lib.bitLen 10000=14:=ai;rw[bK]at bJ;have aZ:=ag bb;have a0:l.length<2^Lib.bitLen l.length:=by
  by_cases a7:l.length=0
  .rw[a7];decide
  .exact(bz _ aa a7).2.2
 have bp:=ag a0;clear a0;clear h bb;go_enter func211,ntmps211
 go_wp2_with fail
 refine aS.o.mono ?_;rintro e w2 ⟨rfl,B⟩;have C:=ag (H.o.below B);obtain⟨bC,bD,bE,bF⟩:=C.o.cell;have f1:=C.o.frozen 1;have Z:Hid (iW (w2.setCell (af Cb 1) (aL)) base Cb (aL) [] N wk):=ik.LY (ch:=ch) C.o.blk C.o.hb C.o.ds (dx _ _ _ _) (by simp[Value.ownBlock]);obtain⟨d0,d1,d2,d3⟩:=Z.o.cell;have f2:=Z.o.frozen 2;have a3:Hid (iW ((w2.setCell (af Cb 1) (aL)).setCell (af Cb 2) (.int .i64 l.length)) base Cb (aL) [] l.length wk):=Z.o.Bu _;have a2:Hid (ax (fun k=>k=Cb) W ((w2.setCell (af Cb 1) (aL)).setCell (af Cb 2) (.int .i64 l.length))):=(((ax.refl (fun k=>k=Cb) W).below B).set (a:=(af Cb 1)) _ (.inl rfl)).set (a:=(af Cb 2)) _ (.inl rfl);have cj:=H.o.lt;clear aS
 go_upto_block 0 with fail
 go_cut []from 19 to 33 (fun w=>∃v,Hid (iW w base Cb v (List.replicate (Lib.bitLen l.length) fK) l.length wk)/\Hid (v.ownBlock=none\/∃b,v.ownBlock=some b/\W.heap.size<=b)/\Hid (ax (fun k=>k=Cb) W w))
 case first=>
  go_wp2_with fail
  generalize((w2.setCell (af Cb 1) (aL)).setCell (af Cb 2) (.int .i64 l.length))=w3 at*
  go_loopw [5] (fun aM wr=>∃(k m:Nat) (v:Value),aM=.int .i64 m/\m<=10000/\Hid (k+Lib.bitLen m=Lib.bitLen l.length)/\Hid (iW wr base Cb v (List.replicate k fK) l.length wk)/\Hid (v.ownBlock=none\/∃b,v.ownBlock=some b/\W.heap.size<=b)/\Hid (ax (fun k=>k=Cb) W wr)) (fun aM _=>(intOf aM).toNat)
  case atStart=>exact⟨0,l.length,_,rfl,aE,(by show _=_;omega),a3,.inl rfl,a2⟩
  case round=>
   obtain⟨k,m,v,rfl,bW,aY,f,E,s⟩:=hrel;by_cases zS:m=0
   .subst zS;obtain rfl:k=Lib.bitLen l.length:=aY.o
    go_wp2_with fail
    go_meet;exact⟨v,f,E,s⟩
   .have aW:Hid (k+1+Lib.bitLen (m/2)=Lib.bitLen l.length):=by
     have:=Lib.bitLen_half m zS aa;have:=aY.o;show _=_;omega
    have ah:k+1<=14:=by have:=aW.o;omega
    have J:=f.o.row;rw[iA]at J;have b0:=f.o.ne;have cx:(0:Int)<(m:Int):=aa;obtain⟨aw,ay,az,aC⟩:=f.o.cell;have bt:Hid (∀w6,wr.grownBy w6 v.ownBlock->w6.heap[Cb]? =some (Obj.cells #[.bool true,v,ae l.length,ae wk] 290 (0,0))):=fun w6 ac=>(ac.block Cb f.o.lt (fun e=>f.o.ne e.symm)).trans f.o.blk
    go_wp2_with (at_builtin;refine bZ KS base J [aL] rfl (by simp[Value.oneCell']) rfl _ _ rfl rfl _ rfl dJ aa (by have:=s.o.size;omega) ?_;intro cE w6 bd ac ba;obtain⟨a6,j,rfl,cp,cq,cr,cs⟩:=aV bd aa;have aI:=bt.o w6 ac;have cC:w6.cell? (af Cb 1)=some v:=(aD aI);have cD:w6.frozen? (af Cb 1)=false:=(aD aI))
    have ck:=f.o.lt;have b1:w6.ownsRow base 209 1 (aA a6 (k+1) j) (List.replicate (k+1) (fK:lU)).length ((List.replicate (k+1) (fK:lU)).map dW):=by
     rw[iA,DK,bM];exact bd
    have b2:Value.ownBlock (aA a6 (k+1) j)≠some Cb:=by
     rcases ba with h9|h9
     .rw[h9];exact b0
     .rw[h9];simp;omega
    go_roundw
    case rel=>
     refine⟨k+1,m/2,_,by go_num,aa,aW,ik.LY (ch:=List.replicate k fK) aI f.o.hb f.o.ds b1 b2,?_,(s.o.grown ac ?_).set (a:=(af Cb 1)) _ (.inl rfl)⟩
     .rcases ba with h9|h9
      .rw[h9];exact E
      .exact .inr ⟨_,h9,by have:=s.o.size;simp;omega⟩
     .intro b i;rcases E.o with h9|⟨b4,h9,Q⟩
      .rw[h9]at i;cases i
      .rw[h9]at i;injection i with i;subst i;exact .inr Q
    case measure=>exact eT
 case rest=>
  obtain⟨v,f,E,s⟩:=hcut;obtain⟨w3,bI⟩:∃w3:World,w3=wc:=⟨_,rfl⟩;subst bI;clear Z a3 a2 bC bD bE bF f1 f2 d0 d1 d2 d3 C B;generalize bL:Lib.bitLen l.length=K at*;obtain⟨x,aF⟩:∃x,x=v.ownBlock:=⟨_,rfl⟩;have a1:Hid (∀W',ax (fun k=>k=Cb\/x=some k) w3 W'->bY iN 2 W' a l):=fun W' R=>((aZ.o.kept (H.o.fq rfl (s.o.mono (fun k h=>.inl h)))).kept (f.o.fq aF R)).NH;have au:=ag aF;clear aF;have ao:=f.o;have bu:Hid (jX w3 (List.replicate K fK)):=DL _ _;have bq:Hid ((List.replicate K (fK:lU)).map (·.2.1)=List.replicate K []++[]):=by show _=_;simp
  have bo:Hid (l.length=l.length%2^K):=(Ez bp.o).symm;obtain⟨av,P,bh,-,bR,-⟩:=Rd.aJ (enc:=dW) ao.row;rw[iA]at bh bR;subst bh;obtain⟨b7,b8,b9,ca⟩:=ao.cell;clear ao
  go_upto_block 2 with fail
  go_cut []from 35 to 64 (fun w=>∃ch1,Hid (iW w base Cb (.slice av K P) ch1 l.length wk)/\Hid (Nw W.heap.size [] ch1)/\Hid (jX w ch1)/\Hid (ch1.map (·.2.1)=setC K l)/\Hid (ax (fun k=>k=Cb\/x=some k) w3 w))
  case first=>
   go_wp2_with fail
   go_loopw [7,6] (fun aH b3 wr=>∃(m:Nat) (ad:Option Addr) (r:List ji) (y:Nat) (ch1:List lU) (T:List (List ji)),aH=.int .i64 ((m:Int)-1)/\b3=.slice ad r.length y/\m<=K/\r.length<=y/\Hid (r.length=l.length%2^m)/\Hid (∀W',ax (fun k=>k=Cb\/x=some k) w3 W'->bY iN 2 W' ad r)/\
    Hid (iW wr base Cb (.slice av K P) ch1 l.length wk)/\Hid (Nw W.heap.size [] ch1)/\Hid (jX wr ch1)/\Hid (ch1.map (·.2.1)=List.replicate m []++T)/\Hid (setC K l=setC m r++T)/\Hid (ax (fun k=>k=Cb\/x=some k) w3 wr)) (fun aH _ _=>(intOf aH+1).toNat)
   case atStart=>exact⟨K,a,l,c,_,[],by go_num,rfl,aB _,bQ,bo,a1,f,Nw.Ta,bu,bq,(by show _=_;simp),ax.refl _ _⟩
   case round=>
    obtain⟨m,ad,r,y,ch1,T,rfl,rfl,bW,bg,X,M,q,L,D,A,Y,t⟩:=hrel;rcases qO m with zS|zS
    .subst zS;have cm:¬(0:Int)<=((0:Nat):Int)-1:=aa
     go_wp2_with fail
     go_meet;exact⟨ch1,q,L,D,(by have d:=A.o;have G:=Y.o;show _=_;rw[d,G];rfl),t⟩
    .obtain⟨k,rfl⟩:∃k,m=k+1:=⟨m-1,aa⟩;have ah:k<14:=aa;have ak:=GN l.length k;have cw:r.length<=l.length:=by rw[X.o];exact Nat.mod_le _ _
     have bA:=OG k ah;have O:=Sr l.length k ah aE;have hp:=qB k ah;have bU:(((k+1:Nat):Int)-1)=(k:Int):=aa;have ct:(0:Int)<=(k:Int):=aa;have aG:ch1.length=K:=by
      have d:=congrArg List.length A.o;have G:=congrArg List.length Y.o;rw[eG,bS,eG]at G;simp at d;omega
     rw[bU];by_cases i:l.length.testBit k=true
     .rw[i]at O;simp only[gF]at O;have I:=ak.1 i;rw[<-X.o]at I;have al:2^k<=r.length:=aa;have ar:Hid (setC K l=setC k (r.drop (2^k))++r.take (2^k)::T):=by
       have d:=Y.o;rw[setC,aO al,ed]at d;exact d
      have V:Hid (∀hd:lU,hd.2.1=r.take (2^k)->(ch1.set k hd).map (·.2.1)=List.replicate k []++r.take (2^k)::T):=fun hd h9=>by
       rw[kP,A.o,h9,Gl]
      have aq:Hid ((r.drop (2^k)).length=l.length%2^k):=by
       show _=_;rw[lM];omega
      clear ak i I;generalize S:2^k=p at*;have ap:=ag S;clear S;obtain⟨b,off,bH,bP,-⟩:=(M.o wr t.o).get aa;subst bH;obtain⟨g,b5,ab,cn,co,-,-⟩:=aV q.o.row aa;rw[aG]at ab;injection ab with ab _ bG;subst ab bG;obtain⟨aw,ay,az,aC⟩:=q.o.cell;have U:(r.take p).length=p:=by rw[eH];omega
      have an:=ag (BO (some (af b off)) (r.take p) p y wr.drew U ((M.o wr.drew t.o.drew).take p) aa);have cz:(0:Int)<=(p:Int)/\(p:Int)<=(r.length:Int):=aa;have cy:(p:Int)<=(y:Int):=aa;have be:((p:Int)!=0)=true:=by simp only[bne_iff_ne,ne_eq];omega
      go_upto_region 14 with fail
      simp only[bA,O,be]
      go_cut []from 52 to 61 (fun w=>∃F,Hid (iW w base Cb (aA g K P) F l.length wk)/\Hid (Nw W.heap.size [] F)/\Hid (jX w F)/\Hid (F.map (·.2.1)=List.replicate k []++r.take p::T)/\Hid (ax (fun k=>k=Cb\/x=some k) w3 w))
      case first=>
       have bi:aK 204 #[.slice (some (af b off)) p y] wr.drew fun e w6=>∃u j z,e=.returned (.slice u p j)/\Hid (p<=j)/\Hid (∀a,u=some a->W.heap.size<=a.block)/\Hid (Mm w6 u (r.take p))/\Hid (iW w6 base Cb (aA g K P) ch1 l.length wk)/\Hid (Below wr.drew.heap.size wr.drew w6)/\w6.cell? (af Cb 1)=some (aA g K P)/\w6.cell? (af g k)=some z/\w6.frozen? (af g k)=false:=by
        refine an.o.mono ?_;rintro e w6 ⟨cF,rfl,bc,a9⟩;obtain⟨u,j,rfl,cg,a8,bN⟩:=Mm.aJ bc;have am:=q.o.drew.below a9;obtain⟨cc,a5,cd,ce⟩:=am.cell;have J:=am.row;rw[aG]at J;have aR:=J.cellAt k aa;have a4:=J.frozenAt k;rw[cB (show k<(ch1.map dW).length by simp;omega)]at aR;rw[U]at a8;exact⟨u,j,_,by rw[U],a8,(fun a bO=>by have d:=(bc.lt a.block (by rw[bO];rfl)).1;have G:=t.o.size;have cf:=s.o.size;simp at d;omega),bN,am,a9,a5,aR,a4⟩
       clear an;have cu:(k:Int)<(K:Int):=aa
       go_region_with (go_at_call 204;with_reducible refine bi.mono ?_;rintro e w6 ⟨u,j,z,rfl,bm,bj,bx,aU,aT,a5,aR,a4⟩)
       all_goals go_wp2_with fail
       all_goals go_meet
       all_goals
        have bV:Value.slice u p j=dW (u,r.take p,j):=by unfold dW;simp only;rw[U]
        rw[bV];have bT:x=some g:=au.o;exact⟨ch1.set k (u,r.take p,j),aU.o.LX aG.symm k _,L.o.set bj.o,Gm (D.o.kept (W':=w6) fun b b6 fr i=>aP (W:=wr.drew) aT.o i) (aU.o.fq (W':=w6.setCell (af g k) (dW (u,r.take p,j))) rfl ((ax.refl _ w6).set (a:=(af g k)) _ (.inl (.inr rfl)))) bx.o (by show(r.take p).length<=j;rw[U];exact bm.o),V.o _ rfl,(((t.o.drew).below aT.o).set (a:=(af g k)) _ (.inl (.inr bT)))⟩
      case rest=>
       obtain⟨F,bk,bs,bv,br,aX⟩:=hcut;clear an q D A V t aw ay az aC bP be X
       go_wp2_with (refine vN GJ (M.o _ aX.o) bg p r.length al (aB _) rfl _ _ _ rfl rfl rfl rfl ?_;intro bB bf;simp only[jO]at bf)
       go_roundw
       case rel=>exact⟨k,bB,r.drop p,y-p,F,r.take p::T,rfl,(by rw[lM]),aa,(by rw[lM];omega),(by rw[ap.o];exact aq),(fun W' R=>bf W' (M.o W' R)),bk,bs,bv,br,ar,aX⟩
       case measure=>simp[intOf]
     .have B:l.length.testBit k=false:=aQ i;rw[B]at O;simp only[jC,qP]at O;have I:=ak.2 B;rw[<-X.o]at I;have al:¬2^k<=r.length:=by have:=p9 l.length (pY (n:=k) (show 0<2 by decide));omega
      have ar:Hid (setC K l=setC k r++[]::T):=by
       have d:=Y.o;rw[setC,aN al,ed]at d;exact d
      have V:Hid (ch1.map (·.2.1)=List.replicate k []++[]::T):=by
       have d:=A.o;rw[rA,ed]at d;exact d
      have aq:=ag I;clear ak i B I;generalize S:2^k=p at*;have ap:=ag S;clear S
      go_wp2_with fail
      go_roundw
      case rel=>exact⟨k,ad,r,y,ch1,[]::T,rfl,rfl,aa,bg,by rw[ap.o];exact aq,M,q,L,D,V,ar,t⟩
      case measure=>simp[intOf]
  case rest=>
   obtain⟨ch1,q,L,D,A,t⟩:=hcut;obtain⟨aw,ay,az,aC⟩:=q.o.cell;have cb:=q.o.frozen 3;have bl:=ag (q.o.QJ (wrap64 (wk+(l.length:Int))));have bw:Hid (jX (wc.setCell (af Cb 3) (.int .i64 (wrap64 (wk+(l.length:Int))))) ch1):=D.o.kept (q.o.fq rfl ((ax.refl _ wc).set (a:=(af Cb 3)) _ (.inl (.inl rfl))));have bn:Hid (ax (fun k=>k=Cb) W (wc.setCell (af Cb 3) (.int .i64 (wrap64 (wk+(l.length:Int)))))):=by
    have cA:=s.o.size;have d:ax (fun k=>k=Cb\/W.heap.size<=k) W wc:=(s.o.mono (fun k h=>.inl h)).trans (t.o.mono (fun k h=>h.imp id (fun h9=>by
     rcases E.o with Q|⟨b,Q,ci⟩
     .rw[au.o,Q]at h9;cases h9
     .rw[au.o,Q]at h9;injection h9 with h9;omega)))
    have G:ax (fun k=>k=Cb) W wc:=⟨d.os,d.tape,d.output,d.size,fun k R bX=>d.block k R (fun h9=>by rcases h9 with h9|h9;exact bX h9;omega)⟩;exact G.set (a:=(af Cb 3)) _ (.inl rfl)
   clear s t a1 f aZ;go_wp2;go_ret;exact⟨_,ch1,_,rfl,bl.o,bw.o,by rw[bL];exact A.o,E.o,bn.o,L.o,rfl⟩
end
section
open Go.RowKit Go.Maps
theorem jG {α:Type} (CB:List (List α)) (i:Nat):(eU CB i).Perm (CB.take i).flatten:=by
 unfold eU;exact(uQ _).flatten
theorem tX {α:Type} (CB:List (List α)) (i:Nat) (x:α) (f:∀h:i<CB.length,CB[i]=[]):(kz CB i x).flatten.Perm (x::CB.flatten):=by
 have b:(List.replicate i ([]:List α)).flatten=[]:=ay;have c:CB.flatten=(CB.take i).flatten++(CB.drop (i+1)).flatten:=by
  by_cases h:i<CB.length
  .have d:CB=CB.take i++(CB[i]::CB.drop (i+1)):=by rw[<-mJ h,jJ]
   have a:=congrArg List.flatten d;rw[f h,ll,uP,fQ]at a;exact a
  .rw[kD aa,oC aa];simp
 unfold kz;rw[ll,b,fQ,uP,c];have e:(eU CB i++[x]).Perm (x::(CB.take i).flatten):=List.perm_append_comm.trans ((jG CB i).cons x);exact e.append_right _
theorem yN {α:Type} (CB:List (List α)) (i:Nat) (hi:i<=CB.length) (h:∀j (a:j<CB.length),j<i->CB[j].length=2^j):(eU CB i).length+1=2^i:=by
 rw[(jG CB i).length_eq]
 induction i with
 |zero=>simp
 |succ k ih=>
  rw[ic aa,ll,bS];have b:=ih aa (fun j a d=>h j a aa);have c:=h k aa aa;simp only[uP,List.flatten_nil,iP];rw[nX];omega
theorem o5 {α:Type} (CB:List (List α)) (i:Nat) (x:α) (hi:i<=CB.length):(kz CB i x).length=if i<CB.length then CB.length else i+1:=by
 unfold kz;simp;split<;>omega
theorem o6 {α:Type} (CB:List (List α)) (i:Nat) (x:α) (j:Nat) (c:j<(kz CB i x).length):(kz CB i x)[j]=if j<i then[]else if j=i then eU CB i++[x]else CB.getD j []:=by
 have e:(kz CB i x)[j]? =some ((kz CB i x)[j]):=cB c;generalize(kz CB i x)[j]=X at*;unfold kz at e;by_cases a:j<i
 .rw[aO a];rw[lW (aQ a)]at e;simp[a]at e
  first|exact e|exact e.symm
 .rw[aN a];rw[nD aH,iA]at e;by_cases b:j=i
  .rw[aO b];subst b;rw[iR,fZ]at e;injection e with e;exact e.symm
  .rw[aN b];rw[show j-i=(j-i-1)+1 by omega,dC,Eu,show i+1+(j-i-1)=j by omega]at e;rw[jb,e];rfl
theorem xg {l:List Nat} {n:Nat} (h:l.Nodup) (d:∀k∈l,k<n):l.length<=n:=by
 have b:((List.range n).filter fun k=>decide (k∈l)).Nodup:=lX _ List.nodup_range;have c:=(zo h b).2 (fun k=>by
  simp only[bG,uW,bQ];exact⟨fun a=>⟨d k a,a⟩,fun a=>a.2⟩)
 rw[c.length_eq];have:=fO (fun k=>decide (k∈l)) (List.range n);simpa using this
theorem jY {f:ji->Int} {l m:List ji} (h:l.Perm m):(l.map f).Nodup↔(m.map f).Nodup:=(h.map f).nodup_iff
theorem Jv (al:List Bool):((List.range al.length).filter fun k=>al[k]? ==some true).length=al.count true:=by
 induction al with
 |nil=>rfl
 |cons b l ih=>
  rw[eu,List.range_succ_eq_map,l7,yc,List.count_cons,<-ih];have e:((fun k=>(b::l)[k]? ==some true)∘Nat.succ)=fun k=>l[k]? ==some true:=rfl;rw[e];cases b<;>simp
theorem Mq {d:List ji} {al:List Bool} (l:∀x∈d,∃k:Nat,x.2=k/\k<al.length) (u:(d.map (·.2)).Nodup) (t:∀k:Nat,al[k]? =some true->∃x∈d,x.2=k):(d.filter (dG al)).length=al.count true:=by
 rw[<-Jv al];have p:((d.filter (dG al)).map fun x=>x.2.toNat).Nodup:=by
  have f:((d.filter (dG al)).map (·.2)).Nodup:=by
   have g:=dz.1 u;exact dz.2 (lX _ g)
  have g:=dz.1 f;refine dz.2 (g.imp_of_mem ?_);intro a b c r n h;obtain⟨k,i,-⟩:=l a (bG.1 c).1;obtain⟨m,e,-⟩:=l b (bG.1 r).1;rw[i,e]at n;simp only[i,e,gY]at h;exact n (by rw[h])
 have f:((List.range al.length).filter fun k=>al[k]? ==some true).Nodup:=lX _ List.nodup_range;have q:=(zo p f).2 (fun k=>by
  simp only[dA,bG,uW];constructor
  .rintro⟨x,⟨j,c⟩,rfl⟩;obtain⟨m,e,s⟩:=l x j;unfold dG at c;rw[e,gY]at c |-;exact⟨s,c⟩
  .rintro⟨i,c⟩;obtain⟨x,j,o⟩:=t k (aQ c);refine⟨x,⟨j,?_⟩,by rw[o,gY]⟩;unfold dG;rw[o,gY];exact c)
 rw[<-q.length_eq,bR]
theorem Ty:q9 [] [] [] [] 0 0:=by
 refine⟨⟨rfl,ay,⟨rfl,fun i h=>absurd h (kE _)⟩,ay,ay,ay,ay,rfl,rfl,ay,ay,fun i h=>absurd h (kE _),fun i h=>absurd h (kE _)⟩,aa⟩
theorem Q7 {CB NB:List (List ji)} {al:List Bool} {pl:List Int} {n N:Int} (h:q9 CB NB al pl n N) (m:Nat) (p id:Int) (b:(id,(m:Int))∈CB.flatten) (hd:al[m]? =some false):q9 CB NB (al.set m true) (pl.set m p) (n+1) N:=by
 obtain⟨c,d⟩:=fH.1 hd;refine⟨⟨aQ h.len,h.sorted,h.perm,h.ids,fun x f=>by simpa using h.vL x f,h.xe,?_,?_,h.stored,aQ h.bound,h.small,h.size,h.last⟩,by have:=h.most;omega⟩
 .intro k a;by_cases e:k=m
  .subst e;exact⟨_,b,rfl⟩
  .rw[nS (fun h=>e h.symm)]at a;exact h.live k a
 .rw[List.count_set c,d,h.cnt];simp
theorem KU {CB NB:List (List ji)} {al:List Bool} {pl:List Int} {n N:Int} (h:q9 CB NB al pl n N) (m:Nat) (hd:al[m]? =some true):xc CB NB (al.set m false) pl (n-1) N:=by
 obtain⟨b,c⟩:=fH.1 hd;refine⟨aQ h.len,h.sorted,h.perm,h.ids,fun x d=>by simpa using h.vL x d,h.xe,?_,?_,h.stored,aQ h.bound,h.small,h.size,h.last⟩
 .intro k a;by_cases e:k=m
  .subst e;rw[uq b]at a;cases a
  .rw[nS (fun h=>e h.symm)]at a;exact h.live k a
 .have f:0<al.count true:=List.count_pos_iff.2 (c▸bF b);rw[List.count_set b,c,h.cnt];simp;omega
theorem OH {CB NB:List (List ji)} {al:List Bool} {pl:List Int} {n N:Int} (h:q9 CB NB al pl n N) (id p:Int) (O:∀x∈CB.flatten,x.1≠id) (z:al.length<5000) (i:Nat) (hi:i<=CB.length) (M:∀j (o:j<CB.length),j<i->CB[j]≠[]) (G:∀h:i<CB.length,CB[i]=[])
  (l':List ji) (hp:l'.Perm (eU CB i++[(id,(al.length:Int))])) (P:l'.Pairwise fun p q=>p.1<=q.1):
  q9 (kz CB i (id,(al.length:Int))) (List.replicate i []++l'::NB.drop (i+1)) (al++[true]) (pl++[p]) (n+1) (N+1):=by
 have hP:=tX CB i (id,(al.length:Int)) G;have E:=h.len;have Q:=h.perm.1;have K:(kz CB i (id,(al.length:Int))).length=(List.replicate i []++l'::NB.drop (i+1)).length:=by
  rw[o5 _ _ _ hi];simp;split<;>omega
 have R:CB.flatten.length<=al.length:=by
  have h1:=h.xe;have v:(CB.flatten.map fun x=>x.2.toNat).Nodup:=by
   have s:=dz.1 h1;refine dz.2 (s.imp_of_mem ?_);intro a b F z w h9;obtain⟨k,c,-⟩:=h.vL a F;obtain⟨m,r,-⟩:=h.vL b z;rw[c,r]at w;simp only[c,r,gY]at h9;exact w (by rw[h9])
  have s:=xg v (n:=al.length) (fun k c=>by
   obtain⟨x,hx,rfl⟩:=dA.1 c;obtain⟨m,r,L⟩:=h.vL x hx;rw[r,gY];exact L)
  rwa [bR]at s
 refine⟨⟨by simp[E],?_,⟨K.symm,?_⟩,?_,?_,?_,?_,?_,?_,aH,by rw[hP.length_eq,eu];omega,?_,?_⟩,by have:=h.most;omega⟩
 .intro l g;rcases bT.1 g with h1|h1
  .rw[(AL.1 h1).2];exact List.Pairwise.nil
  .rcases gZ.1 h1 with rfl|h1
   .exact P
   .exact h.sorted l (IV h1)
 .intro j h1 v;rw[o6];by_cases f:j<i
  .rw[aO f,qJ (aQ f)];simp
  .rw[aN f,wu aH];by_cases d:j=i
   .subst d;rw[aO rfl];simp;exact hp
   .rw[aN d];simp only[iA];have C:j-i=(j-i-1)+1:=aa;have H:j<NB.length:=by simp at h1;omega
    have D:(l'::NB.drop (i+1))[j-i]'(by simp at h1 |-;omega)=NB[j]:=by
     rw[<-jq,<-cB,<-cB,C,dC,Eu];congr 1;omega
    rw[D,jb,cB aa,gH];exact h.perm.2 j H aa
 .rw[jY hP,l8,mO];refine⟨fun hx=>?_,h.ids⟩;obtain⟨y,u,e⟩:=dA.1 hx;exact O y u e
 .intro x hx;rcases gZ.1 (hP.mem_iff.1 hx)with rfl|hx
  .exact⟨al.length,rfl,ay⟩
  .obtain⟨k,c,t⟩:=h.vL x hx;exact⟨k,c,aH⟩
 .rw[jY hP,l8,mO];refine⟨fun hx=>?_,h.xe⟩;obtain⟨y,u,e⟩:=dA.1 hx;obtain⟨k,c,t⟩:=h.vL y u;simp only at e;omega
 .intro k c;by_cases t:k<al.length
  .rw[lW t]at c;obtain⟨x,hx,e⟩:=h.live k c;exact⟨x,hP.mem_iff.2 (lh _ hx),e⟩
  .have I:=(fH.1 c).1;simp at I;have:k=al.length:=aa;subst this;exact⟨_,hP.mem_iff.2 (nT),rfl⟩
 .rw[h.cnt];simp
 .rw[hP.length_eq,h.stored];simp
 .intro j o;rw[o6];by_cases f:j<i
  .rw[aO f];left;rfl
  .rw[aN f];by_cases d:j=i
   .subst d;rw[aO rfl];right;rw[bS,Aq];refine yN CB j hi fun k c J=>?_;rcases h.size k c with h9|h9
    .exact absurd (gU h9) (M k c J)
    .exact h9
   .rw[aN d,jb];have B:j<CB.length:=by rw[o5 _ _ _ hi]at o;split at o<;>omega
    rw[cB B,gH];exact h.size j B
 .intro j o g;rw[o6];rw[o5 _ _ _ hi]at g;by_cases A:i<CB.length
  .rw[aO A]at g;rw[aN aa];by_cases d:j=i
   .rw[aO d];simp
   .rw[aN d,jb,cB aa,gH];exact h.last j aa g
  .rw[aN A]at g;rw[aN aa,aO aa];simp
theorem KV {CB NB NB':List (List ji)} {al:List Bool} {pl:List Int} {n N:Int} (h:xc CB NB al pl n N) (y:GM NB' (setC (Lib.bitLen ((CB.reverse.flatten).filter (dG al)).length) ((CB.reverse.flatten).filter (dG al)))) (z:∀l∈NB',l.Pairwise fun p q=>p.1<=q.1):
  q9 (setC (Lib.bitLen ((CB.reverse.flatten).filter (dG al)).length) ((CB.reverse.flatten).filter (dG al))) NB' al pl n ((CB.reverse.flatten).filter (dG al)).length/\
  (∀id p,jk (setC (Lib.bitLen ((CB.reverse.flatten).filter (dG al)).length) ((CB.reverse.flatten).filter (dG al))).flatten al pl id p↔jk CB.flatten al pl id p):=by
 have o:CB.reverse.flatten.Perm CB.flatten:=(uQ CB).flatten;have hF:=o.filter (dG al);have C:((CB.reverse.flatten).filter (dG al)).length=al.count true:=by rw[hF.length_eq];exact Mq h.vL h.xe h.live
 have B:=h.cnt;have w:((CB.reverse.flatten).filter (dG al)).length<=5000:=by
  have b:=fO (dG al) CB.reverse.flatten;rw[o.length_eq]at b;exact bA b h.small
 generalize A:(CB.reverse.flatten).filter (dG al)=L at*;have m:L.length<2^Lib.bitLen L.length:=by
  by_cases a:L.length=0
  .rw[a];decide
  .exact(bz _ aa a).2.2
 have hP:=(kR _ L m).trans hF;have t:∀x∈CB.flatten.filter (dG al),x∈CB.flatten:=fun x c=>(bG.1 c).1;refine⟨⟨⟨h.len,z,y,?_,?_,?_,?_,h.cnt,?_,h.bound,?_,yB _ _,?_⟩,aa⟩,?_⟩
 .rw[jY hP];exact dz.2 (lX _ (dz.1 h.ids))
 .intro x c;exact h.vL x (t x (hP.mem_iff.1 c))
 .rw[jY hP];exact dz.2 (lX _ (dz.1 h.xe))
 .intro k s;have⟨x,c,e⟩:=h.live k s;refine⟨x,hP.mem_iff.2 (bG.2 ⟨c,?_⟩),e⟩;unfold dG;rw[e,gY,s];rfl
 .rw[(kR _ L m).length_eq]
 .rw[(kR _ L m).length_eq];exact w
 .intro i hi g;rw[eG]at g;have a:L.length≠0:=by
   intro a;rw[a]at g;rw[show Lib.bitLen 0=0 from rfl]at g;omega
  have r:=bz L.length aa a;have e:Lib.bitLen L.length=i+1:=g.symm;have v:=LZ i L (by rw[e]at r;simpa using r.2.1) (by rw[eG];omega);have d:(setC (Lib.bitLen L.length) L)[i]? =(setC (i+1) L)[i]? :=by rw[e]
  intro u;rw[cB hi,cB (by rw[eG];omega),u]at d;injection d with d;exact v d.symm
 .intro id p;unfold jk;constructor
  .rintro⟨k,b,f,j⟩;exact⟨k,t _ (hP.mem_iff.1 b),f,j⟩
  .rintro⟨k,b,f,j⟩;refine⟨k,hP.mem_iff.2 (bG.2 ⟨b,?_⟩),f,j⟩;unfold dG;rw[gY,f];rfl
theorem GQ {a b:Nat} (h:2^a<=b) (c:b<2^13):a<13:=by
 rcases Nat.lt_or_ge a 13 with h1|h1
 .exact h1
 .have:=Au (n:=2) ai h1;omega
theorem qC {l:List ji} {CB:List (List ji)} (h:l∈CB):l.length<=CB.flatten.length:=(Eg h).length_le
theorem xc.levels {CB NB:List (List ji)} {al:List Bool} {pl:List Int} {n N:Int} (h:xc CB NB al pl n N):CB.length<=13/\(CB.length≠0->2^(CB.length-1)<=CB.flatten.length):=by
 rcases qO CB.length with h0|h0
 .rw[h0];exact⟨ai,fun h=>absurd rfl h⟩
 .have a:CB.length-1<CB.length:=aa;have c:=h.last _ a aa;have d:CB[CB.length-1].length=2^(CB.length-1):=by
   rcases h.size _ a with h9|h9
   .exact absurd (gU h9) c
   .exact h9
  have b:=qC (bF a);rw[d]at b;have e:=GQ b (by have:=h.small;omega);exact⟨aa,fun _=>b⟩
theorem uC:∀{NB CB:List (List ji)},GM NB CB->NB.flatten.Perm CB.flatten
 |[],[],_=>pR _
 |[],_::_,h=>by cases h.1
 |_::_,[],h=>by cases h.1
 |a::NB,b::CB,h=>by
  rw[uP,uP];exact(h.2 0 ay ay).append (uC (NB:=NB) (CB:=CB) ⟨aQ h.1,fun i c d=>h.2 (i+1) (aQ c) (aQ d)⟩)
theorem xc.Tz {CB NB:List (List ji)} {al:List Bool} {pl:List Int} {n N:Int} (h:xc CB NB al pl n N):NB.length<=13/\NB.flatten.length<=5000/\(∀l∈NB,l.length<=5000)/\CB.flatten.length<=5000:=by
 have c:=h.levels.1;have d:=h.perm.1;have b:=h.small;have e:NB.flatten.length=CB.flatten.length:=(uC h.perm).length_eq;exact⟨aa,aa,fun l a=>by have:=qC a;omega,b⟩
structure DV (CB:List (List ji)) (al:List Bool) (pl:List Int) (D:List (Int×Int)):Prop where
 iff:∀id p,(id,p)∈D↔jk CB.flatten al pl id p
 nodup:(D.map (·.1)).Nodup
 len:D.length=al.count true
theorem DV.new:DV [] [] [] []:=by
 refine⟨fun id p=>⟨fun h=>absurd h iC,?_⟩,pQ,rfl⟩;rintro⟨k,h,_⟩;exact absurd h iC
theorem DV.key {CB:List (List ji)} {al:List Bool} {pl:List Int} {D:List (Int×Int)} (h:DV CB al pl D) {id:Int} (hid:id∈D.map (·.1)):∃p,jk CB.flatten al pl id p:=by
 obtain⟨x,a,rfl⟩:=dA.1 hid;exact⟨x.2,(h.iff x.1 x.2).1 a⟩
theorem DV.val {CB NB:List (List ji)} {al:List Bool} {pl:List Int} {n N:Int} {D:List (Int×Int)} (h:DV CB al pl D) (d:xc CB NB al pl n N) {id:Int} {m:Nat} (c:(id,(m:Int))∈CB.flatten) (b:al[m]? =some true):∃p,(id,p)∈D/\pl[m]? =some p:=by
 have a:=(fH.1 b).1;rw[d.len]at a;exact⟨pl[m],(h.iff _ _).2 ⟨m,c,b,cB a⟩,cB a⟩
theorem BS {D:List (Int×Int)} {id p:Int} (h:(D.map (·.1)).Nodup) (f:id∉D.map (·.1)):((D++[(id,p)]).map (·.1)).Nodup:=by
 rw[bM,pG];refine⟨h,ay,?_⟩;intro a d b c;simp at c;subst c;exact fun e=>f (e▸d)
theorem DV.put {CB CB' NB:List (List ji)} {al:List Bool} {pl:List Int} {n N:Int} {D:List (Int×Int)} (h:DV CB al pl D) (d:xc CB NB al pl n N) {id p:Int} (l:∀x∈CB.flatten,x.1≠id) (hP:CB'.flatten.Perm ((id,(al.length:Int))::CB.flatten)):DV CB' (al++[true]) (pl++[p]) (D++[(id,p)]):=by
 have c:=d.len;refine⟨fun r s=>?_,BS h.nodup (fun hid=>?_),by simp[h.len]⟩
 .rw[bT,h.iff];constructor
  .rintro(⟨k,h1,b,a⟩|h1)
   .have g:=(fH.1 b).1;exact⟨k,hP.mem_iff.2 (lh _ h1),by rw[lW g];exact b,by rw[lW aa];exact a⟩
   .simp at h1;obtain⟨rfl,rfl⟩:=h1;exact⟨al.length,hP.mem_iff.2 nT,ay,by rw[c];simp⟩
  .rintro⟨k,h1,b,a⟩;rcases gZ.1 (hP.mem_iff.1 h1)with e|h1
   .right;injection e with f o;have:k=al.length:=aa;subst this;rw[c]at a;simp at a;simp[f,a]
   .left;have⟨m,i,j⟩:=d.vL _ h1;simp only at i;have:k=m:=aa;subst this;rw[lW j]at b;rw[lW aa]at a;exact⟨k,h1,b,a⟩
 .obtain⟨q,k,h1,_⟩:=h.key hid;exact l _ h1 rfl
theorem KW {CB NB:List (List ji)} {al:List Bool} {pl:List Int} {n N:Int} (b:xc CB NB al pl n N) {x y:ji} (c:x∈CB.flatten) (d:y∈CB.flatten) (e:x.2=y.2):x=y:=by
 have a:CB.flatten.Pairwise fun p q=>p.2≠q.2:=dz.1 b.xe;rcases fo a c d with h1|h1|h1
 .exact h1
 .exact absurd e h1
 .exact absurd e.symm h1
theorem DV.again {CB NB:List (List ji)} {al:List Bool} {pl:List Int} {n N:Int} {D:List (Int×Int)} (h:DV CB al pl D) (f:xc CB NB al pl n N) {id p:Int} {m:Nat} (d:(id,(m:Int))∈CB.flatten) (hd:al[m]? =some false):DV CB (al.set m true) (pl.set m p) (D++[(id,p)]):=by
 have t:=f.len;have⟨i,l⟩:=fH.1 hd;have j:m<pl.length:=aa;have o:∀q,¬jk CB.flatten al pl id q:=fun q ⟨k,h1,a,b⟩=>by
  have c:(id,(k:Int))=(id,(m:Int)):=oZ f.ids h1 d rfl;injection c with _ c;have:k=m:=aa;subst this;rw[hd]at a;cases a
 refine⟨fun s u=>?_,BS h.nodup (fun hid=>?_),?_⟩
 .rw[bT,h.iff];constructor
  .rintro(⟨k,h1,a,b⟩|h1)
   .have g:m≠k:=fun e=>by subst e;rw[hd]at a;cases a
    exact⟨k,h1,by rw[nS g];exact a,by rw[nS g];exact b⟩
   .simp at h1;obtain⟨rfl,rfl⟩:=h1;exact⟨m,d,by rw[uq i],by rw[uq j]⟩
  .rintro⟨k,h1,a,b⟩;by_cases e:k=m
   .subst e;right;have c:(s,(k:Int))=(id,(k:Int)):=KW f h1 d rfl;injection c with c _;rw[uq j]at b;injection b with b;simp[c,b]
   .left;rw[nS (fun h=>e h.symm)]at a b;exact⟨k,h1,a,b⟩
 .obtain⟨q,r⟩:=h.key hid;exact o q r
 .rw[List.count_set i,l];simp[h.len]
theorem OI {D:List (Int×Int)} {id p:Int} (h:(D.map (·.1)).Nodup) (a:(id,p)∈D):(D.filter fun x=>decide (x.1≠id)).length+1=D.length:=by
 induction D with
 |nil=>cases a
 |cons x l ih=>
  rw[l8,mO]at h;rw[l7];by_cases e:x.1=id
  .have b:l.filter (fun x=>decide (x.1≠id))=l:=lY.2 fun y c=>by
    simp only[bQ];intro h9;exact h.1 (by rw[e,<-h9];exact rC c)
   rw[aN (by simp[e]),b];rfl
  .rw[aO (by simp[e])];rcases gZ.1 a with h9|h9
   .exact absurd (congrArg Prod.fst h9).symm e
   .simp only[eu];rw[ih h.2 h9]
theorem DV.drop {CB NB:List (List ji)} {al:List Bool} {pl:List Int} {n N:Int} {D:List (Int×Int)} (h:DV CB al pl D) (g:xc CB NB al pl n N) {id:Int} {m:Nat} (f:(id,(m:Int))∈CB.flatten) (hd:al[m]? =some true):DV CB (al.set m false) pl (D.filter fun x=>decide (x.1≠id)):=by
 have⟨l,r⟩:=fH.1 hd;refine⟨fun i s=>?_,?_,?_⟩
 .rw[bG,h.iff];constructor
  .rintro⟨⟨k,b,a,d⟩,o⟩;have q:m≠k:=fun e=>by
    subst e;have c:(i,(m:Int))=(id,(m:Int)):=KW g b f rfl;injection c with c _;simp[c]at o
   exact⟨k,b,by rw[nS q];exact a,d⟩
  .rintro⟨k,b,a,d⟩;by_cases e:k=m
   .subst e;rw[uq l]at a;cases a
   .rw[nS (fun h=>e h.symm)]at a;refine⟨⟨k,b,a,d⟩,?_⟩;simp only[bQ];intro c;subst c;have j:(i,(k:Int))=(i,(m:Int)):=oZ g.ids b f rfl;injection j with _ j;omega
 .exact dz.2 (lX _ (dz.1 h.nodup))
 .obtain⟨p,hp,-⟩:=h.val g f hd;have b:=OI h.nodup hp;rw[List.count_set l,r];have a:=h.len;show _=(al.count true-1)+0;omega
theorem DV.turn {CB CB':List (List ji)} {al:List Bool} {pl:List Int} {D:List (Int×Int)} (h:DV CB al pl D) (a:∀id p,jk CB'.flatten al pl id p↔jk CB.flatten al pl id p):DV CB' al pl D:=⟨fun id p=>(h.iff id p).trans (a id p).symm,h.nodup,h.len⟩
end
end Go.Proofs.YtkjdbndekceffaaGreat
