/- Made small by a program. -/
import Derived.Test.YtkjdbndekceffaaGreatY07
import Derived.Test.YtkjdbndekceffaaGreatY04
set_option linter.unusedSimpArgs false
set_option linter.unusedVariables false
set_option maxRecDepth 100000
set_option maxHeartbeats 16000000
namespace Go.Proofs.YtkjdbndekceffaaGreat
open Tryz
section
open Go.RowKit Go.Sort Go.Shelf Go.Lib Go.Maps
abbrev iW:=Int×Int
def iK (p:iW):List Value:=[.int .u32 p.1,.int .i64 p.2]
abbrev QE (x n:Int):Value:=.agg #[ak x,ae n]
theorem wU (p:iW):(iK p).length=2:=rfl
theorem Bp (p:iW):∀u∈iK p,u.oneCell'=true:=by intro u hu;simp[iK]at hu;rcases hu with rfl|rfl<;>rfl
theorem Gj:eG prog 209 204 2 16:=.mk' (z:=.agg #[ak 0,ae 0]) underlying209 aN rfl ai
theorem Kq:eG prog 205 209 1 24:=.mk' (z:=aL) underlying205 aN rfl ai
theorem Bq (a:Option Addr) (l:List iW) (n c:Nat) (w:World) (k:l.length=n) (h:bV iK 2 w a l) (m:n<=1000000):
  aK 204 #[.slice a n c] w fun e w'=>∃v,e=.returned v/\w'.ownsRow w.heap.size 204 2 v n (l.flatMap iK)/\Below w.heap.size w w':=by
 subst k;have o:∀(w:World) (a:Option Addr) (n c n' d:Nat),(binOp .eql 209 (.slice a n c) (.slice none n' d)).run prog w=.ok (.bool a.isNone) w:=fun w a n c n' d=>D9 w _ _ a n c n' d underlying209;cases a with
 |none=>
  have i:l=[]:=by
   rcases h with h|⟨b,off,h,_⟩
   .exact h
   .cases h
  subst i;go_enter func204,ntmps204;go_wp2;go_ret;exact⟨_,rfl,dA _ _ _ _,aJ _ _⟩
 |some ad=>
  have f:=Ah (e:=204) (size:=2) w #[] 0 (aB _) (bH _) rfl;have h':bV iK 2 (w.alloc (.cells #[] 204)) (some ad) l:=h.below ((aJ _ _).alloc (aB _) _);go_enter func204,ntmps204
  go_wp2_with (at_builtin;refine iP Gj wU Bp w.heap.size f h' rfl _ _ rfl rfl c rfl dI aa aA ?_;intro p w' g j)
  go_ret;rw[kG,fO]at g;exact⟨_,rfl,g,dB ((aJ _ _).alloc (aB _) _) f j aA (aB _)⟩
def LX (p q:iW):Int:=je p.1 q.1
theorem Kr (p q:iW):LX p q<0↔p.1<q.1:=by unfold LX je;split<;>(try split)<;>omega
theorem Vn:SWO (ltOf LX):=yn Kr (fun _=>AO _) (fun _ _ _=>Int.lt_trans) (fun x y z=>aa)
theorem Oq (p q:iW) (w:World):aK 206 #[QE p.1 p.2,QE q.1 q.2] w fun e w'=>e=.returned (ae (LX p q))/\xx w w':=by
 have a:=ag (fun W=>EG p.1 q.1 W);unfold LX;generalize je p.1 q.1=r at*;obtain⟨c,b⟩:=p;obtain⟨f,d⟩:=q;simp only at a;go_enter func206,ntmps206
 go_wp2_with fail
 refine(a.o _).mono ?_;rintro e w1 ⟨rfl,rfl⟩;go_wp2;go_ret;exact⟨rfl,((xx.refl _).alloc _).alloc _⟩
theorem Br:gF 206:=dh func206 aN rfl
theorem QF {w:World} {base g c n:Nat} {l:List iW} (j:l.length=n) (o:n<4611686018427387904) (h:w.ownsRow base 204 2 (ax g n c) n (l.flatMap iK)):
  aK 205 #[ax g n c,.func (.func 206) #[] #[]] w fun e w'=>
   e=.returned (.tuple #[])/\∃l':List iW,l'.Perm l/\l'.Pairwise (fun x y=>x.1<=y.1)/\w'.ownsRow base 204 2 (ax g n c) n (l'.flatMap iK)/\w.grownBy w' (some g):=by
 have d:=mV Tryz.CZ wU ai isAgg204 sizeOf204 Bp LX Vn 206 #[] Br (fun x y W=>Oq x y W) j o h;change aK 205 _ _ _ at d;refine d.mono ?_;rintro e w' ⟨f,l',hp,m,k,i⟩;refine⟨f,l',hp,m.imp fun{a b} h=>?_,k,i⟩;rw[Kr]at h;omega
theorem EP (p:Option Addr) (a:Nat) (b:Value) (w:World):
  aK 205 #[.slice p 0 a,b] w fun e w'=>e=.returned (.tuple #[])/\w'=w:=H9 Tryz.CZ p a b w
end
section
open Go.RowKit Go.Maps
theorem Uw (p:iW) (x:Int) (L c:Nat) (s:c<=1000000) (W:World) (h:Boxed W L 3 (.int .i64 c)):
  aK 201 #[QE p.1 p.2,ak x,aj L] W fun e w'=>e=.returned (ae (je p.1 x))/\Boxed w' L 3 (.int .i64 ((c+1:Nat):Int))/\Below L W w':=by
 have q:=h.lt;have t:=h.cell;have jh:=h.frozen;have⟨a,b⟩:=p;have d:=(h.alloc (.cells #[ak a,ae b] 204)).set (.int .i64 ((c+1:Nat):Int));have g:Below L W ((W.alloc (.cells #[ak a,ae b] 204)).setCell (af L 0) (.int .i64 ((c+1:Nat):Int))):=Below.setCell (p:=(af L 0)) ((aJ L W).alloc (vg q) _) (aB _) _;have f:=(h.set (.int .i64 ((c+1:Nat):Int))).alloc (.cells #[ak a,ae b] 204);have i:Below L W ((W.setCell (af L 0) (.int .i64 ((c+1:Nat):Int))).alloc (.cells #[ak a,ae b] 204)):=((aJ _ W).setCell (p:=(af L 0)) (aB _) _).alloc aF _;have j:=ag (fun W=>EG a x W);rw[show((c+1:Nat):Int)=(c:Int)+1 by omega]at d g f i |-;simp only;generalize je a x=r at*;have k:=ag d;have m:=ag g;have l:=ag f;have n:=ag i;go_enter func201,ntmps201
 go_wp2_with fail
 refine(j.o _).mono ?_;rintro e w1 ⟨rfl,rfl⟩;go_wp2;go_ret
 first
  |exact⟨rfl,k.o,m.o⟩
  |exact⟨rfl,l.o,n.o⟩
def Vo (l:List iW) (n:Nat) (x:Int) (L c0:Nat) (W:World) (e:Ending) (w':World):Prop:=
 ∃(k c:Nat) (bb:Bool),e=.returned (.tuple #[ae k,.bool bb])/\k<=n/\(∀t (_:t<l.length),t<k->l[t].1<x)/\(∀t (_:t<l.length),k<=t->x<=l[t].1)/\c<=c0+Lib.bitLen n+(if n=0 then 0 else 1)/\c0<=c/\Boxed w' L 3 (.int .i64 c)/\Below L W w'
theorem Vp (a:Option Addr) (l:List iW) (n ah:Nat) (x:Int) (L f:Nat) (P W:World) (av:l.length=n) (au:n<=10000) (ay:f<=100000) (ac:bV iK 2 P a l) (Y:P.heap.size<=L) (Z:Below L P W) (ad:l.Pairwise fun p q=>p.1<=q.1) (am:Boxed W L 3 (.int .i64 f)):
  aK 200 #[.slice a n ah,ak x,.func (.func 201) #[] #[aj L]] W (Vo l n x L f W):=by
 subst av;have U:=ag ac;have V:=ag ad;have X:=ag Z;have ao:=fA (show l.length<=10000 from au) ai;have ap:Lib.bitLen 10000=14:=ai;rw[ap]at ao;have T:=ag Uw;clear ac ad Z;go_enter func200,ntmps200;go_wp2
 go_loopw [9,10] (fun R S wr=>∃i j c:Nat,R=.int .i64 i/\S=.int .i64 j/\i<=j/\j<=l.length/\Hid (c+Lib.bitLen (j-i)<=f+Lib.bitLen l.length/\f<=c)/\Hid (∀t (_:t<l.length),t<i->l[t].1<x)/\Hid (∀t (_:t<l.length),j<=t->x<=l[t].1)/\Hid (Boxed wr L 3 (.int .i64 c))/\Below L W wr)
  (fun R S _=>(intOf S).toNat-(intOf R).toNat)
 case atStart=>exact⟨0,l.length,f,rfl,rfl,bH _,aB _,(by show _/\_;simp),fun t _ h=>absurd h (jL _),fun t al I=>absurd al aa,am,aJ _ _⟩
 case round=>
  obtain⟨i,j,c,rfl,rfl,az,ar,k,M,N,z,u⟩:=hrel;by_cases aA:i<j
  .have K:(i+j)/2<l.length:=aa;obtain⟨b,off,C,an,m⟩:=(U.o.below (B:=L) (X.o.trans u) Y).get aa;have F:=m ((i+j)/2) K 0 aa;have x1:=m ((i+j)/2) K 1 aa;simp only[iK,fG,dx,dH]at F x1;have aq:c<=1000000:=by have:=k.o;omega
   have s:=ag (T.o l[(i+j)/2] x L c aq wr z.o);have H:Hid (l[(i+j)/2].1<x->∀t (_:t<l.length),t<(i+j)/2+1->l[t].1<x):=fun h t ht I=>by
    rcases D7.1 I with Q|rfl
    .have:=fZ.1 V.o t ((i+j)/2) ht K Q;omega
    .exact h
   have G:Hid (¬l[(i+j)/2].1<x->∀t (_:t<l.length),(i+j)/2<=t->x<=l[t].1):=fun h t ht I=>by
    rcases Nat.lt_or_eq_of_le I with Q|rfl
    .have:=fZ.1 V.o ((i+j)/2) t K ht Q;omega
    .omega
   have y:=ag C;clear m C z;generalize l[(i+j)/2]=p at*;obtain⟨w,ax⟩:=p;simp only at F x1 s H G;obtain rfl:=y.o;clear y;have g:=k.o;have J:je w x<0↔w<x:=by unfold je;split<;>(try split)<;>omega
   generalize je w x=r at*;by_cases v:w<x
   .have af:=ag (H.o v);have hd:decide (r<0)=true:=by simp[J.2 v]
    have O:Hid (c+1+Lib.bitLen (j-((i+j)/2+1))<=f+Lib.bitLen l.length/\f<=c+1):=by
     have:=zi (d:=j-i) (e:=j-((i+j)/2+1)) aa aa aa;show _/\_;omega
    clear H G k g v J
    go_wp2_with (go_at_call 201;refine s.o.mono ?_;rintro e w' ⟨rfl,D,E⟩)
    go_roundw
    case rel=>exact⟨(i+j)/2+1,j,c+1,by rw[show((i:Int)+(j:Int))/2+1=(((i+j)/2+1:Nat):Int) by omega],rfl,aa,ar,O,af,N,D,u.trans E⟩
    case measure=>exact dX
   .have ae:=ag (G.o v);have hd:decide (r<0)=false:=by simp only[gY];exact fun h=>v (J.1 h)
    have O:Hid (c+1+Lib.bitLen ((i+j)/2-i)<=f+Lib.bitLen l.length/\f<=c+1):=by
     have:=zi (d:=j-i) (e:=(i+j)/2-i) aa aa aa;show _/\_;omega
    clear H G k g v J
    go_wp2_with (go_at_call 201;refine s.o.mono ?_;rintro e w' ⟨rfl,D,E⟩)
    go_roundw
    case rel=>exact⟨i,(i+j)/2,c+1,rfl,by rw[show((i:Int)+(j:Int))/2=(((i+j)/2:Nat):Int) by omega],aa,aa,O,M,ae,D,u.trans E⟩
    case measure=>exact dX
  .obtain rfl:i=j:=aa;have g:=k.o;rw[iM,zh,dH]at g;by_cases ab:i<l.length
   .obtain⟨b,off,C,an,m⟩:=(U.o.below (B:=L) (X.o.trans u) Y).get aa;have F:=m i ab 0 aa;have x1:=m i ab 1 aa;simp only[iK,fG,dx,dH]at F x1;have s:=ag (T.o l[i] x L c aa wr z.o);have y:=ag C;have aw:¬l.length=0:=aa;clear m C z;generalize l[i]=p at*;obtain⟨w,ax⟩:=p;simp only at F x1 s;obtain rfl:=y.o;clear y;generalize je w x=r at*;have A:=ag g;clear g k
    go_wp2_with (go_at_call 201;refine s.o.mono ?_;rintro e w' ⟨rfl,D,E⟩)
    go_ret2;exact⟨i,c+1,_,rfl,aa,M.o,N.o,by have:=A.o;rw[aM aw];omega,by have:=A.o;omega,D,u.trans E⟩
   .obtain rfl:i=l.length:=aa;have A:=ag g;clear g k;go_wp2;go_ret2;exact⟨l.length,c,_,rfl,aB _,M.o,N.o,by have:=A.o;omega,by have:=A.o;omega,z.o,u⟩
abbrev lH:=gq iW
abbrev LY:=Lu iK 2 204
abbrev jX:=oO iK 2 204
theorem LY.aG {W:World} {base:Nat} {v:Value} {n:Nat} {l:List iW} (h:W.ownsRow base 204 2 v n (l.flatMap iK)):∃a c,v=.slice a l.length c/\n=l.length/\l.length<=c/\LY W a l:=Lu.aG wU ai h
def tb (n:Nat):Nat:=if n=0 then 0 else Lib.bitLen n+2
def CL (NB:List (List iW)):Nat:=(NB.map fun l=>tb l.length).sum
theorem uq (NB:List (List iW)) (i:Nat) (h:i<NB.length):CL (NB.take (i+1))=CL (NB.take i)+tb NB[i].length:=by
 unfold CL;rw[ig h];simp only[bP,lX,pV,Ay,List.sum_cons,List.sum_nil];omega
def Vq (NB:List (List iW)) (id:Int) (W:World) (e:Ending) (w':World):Prop:=
 ∃(k:Int) (t:Nat),e=.returned (.tuple #[ae k,ae t])/\t<=CL NB/\((∃x∈NB.flatten,x.1=id/\x.2=k)\/(k=-1/\∀x∈NB.flatten,x.1≠id))/\Below W.heap.size W w'
theorem SQ {NB:List (List iW)} {i:Nat}:CL (NB.take i)<=CL NB:=by
 have h:CL NB=CL (NB.take i)+CL (NB.drop i):=by
  unfold CL;rw[<-Ay,<-bP,jB]
 omega
theorem oZ (A:Nat) (id:Int) (W:World) (NB:List (List iW)) (bh:List lH) (bv:Value) (base:Nat) (aI:W.cell? (af A 1)=some bv) (aR:W.ownsRow base 209 1 bv bh.length (bh.map dS)) (ad:bh.map (·.2.1)=NB) (aV:jX W bh)
  (aW:∀l∈NB,l.Pairwise fun p q=>p.1<=q.1) (ba:NB.length<=1000) (aX:∀l∈NB,l.length<=10000):aK 131 #[aj A,ak id] W (Vq NB id W):=by
 have a4:bh.length=NB.length:=by rw[<-ad];simp
 have aA:=ag aW;have Y:=ag aX;have aY:Hid (∀i,CL (NB.take i)<=20*i):=fun i=>by
  unfold CL
  induction i with
  |zero=>simp
  |succ i ih=>
   by_cases hi:i<NB.length
   .rw[ig hi];have f:tb NB[i].length<=20:=by
     unfold tb;have:=fA (Y.o _ (bG hi)) ai;have H:Lib.bitLen 10000=14:=ai;split<;>omega
    simp only[bP,lX,pV,Ay,List.sum_cons,List.sum_nil];omega
   .rw[jJ aa];rw[jJ aa]at ih;omega
 have az:Hid (∀i (hi:i<bh.length) (aT:i<NB.length),bV iK 2 W bh[i].1 NB[i]/\W.heap.size=W.heap.size/\bh[i].2.1=NB[i]):=fun i hi aT=>by
  have ab:bh[i].2.1=NB[i]:=by simp[<-ad]
  exact⟨by rw[<-ab];exact(aV _ (bG hi)).1.Nr,rfl,ab⟩
 obtain⟨av,cv,rfl,-,-,aU⟩:=Rd.aG (enc:=dS) aR;have aq:=ag aU;have a3:=gX W _ aI;go_enter func131,ntmps131;go_wp2
 go_loopw [16] (fun M wr=>∃i c:Nat,M=.int .i64 i/\i<=bh.length/\Hid (Boxed wr W.heap.size 3 (.int .i64 c))/\Hid (c<=CL (NB.take i))/\Hid (∀x∈(NB.take i).flatten,x.1≠id)/\Below W.heap.size W wr) (fun M _=>bh.length-(intOf M).toNat)
 case atStart=>exact⟨0,0,rfl,bH _,Boxed.new _ _ _,bH _,by intro x hx;simp at hx,(aJ _ _).alloc (aB _) _⟩
 case round=>
  obtain⟨i,c,rfl,hi,R,j,U,r⟩:=hrel;by_cases ac:i<bh.length
  .have g:i<NB.length:=aa;have aS:c<=100000:=by have f:=j.o;have H:=aY.o i;omega
   have⟨b,off,F,aQ,s⟩:=aq.o.get aa;have z:=(r.cell (p:=(af b (off+i))) aQ).trans (s i ac);obtain⟨N,-,an⟩:=az.o i ac g;have E:=ag (uq NB i g);have T:Hid ((∀x∈NB[i],x.1≠id)->∀x∈(NB.take (i+1)).flatten,x.1≠id):=fun h x hx=>by
    rw[ig g,kY,bO]at hx;rcases hx with hx|hx
    .exact U.o x hx
    .exact h x (aP hx)
   have aw:Hid (∀x∈NB[i],x∈NB.flatten):=fun x hx=>pM.2 ⟨_,bG g,hx⟩;have ah:=aA.o _ (bG g);have am:=Y.o _ (bG g);have au:=ag (SQ (NB:=NB) (i:=i+1));have w:=ag F;unfold dS at z;generalize NB[i]=l at*;generalize bh[i]=hd at*;have⟨aD,a,aE⟩:=hd;simp only at an N z;subst an;obtain rfl:=w.o;have ap:=Vp aD a a.length aE id W.heap.size c W wr rfl am aS N (aB _) r ah R.o
   go_wp2_with fail
   refine ap.mono ?_;rintro e w2 ⟨k,d,a1,rfl,a8,f,H,K,a7,n,aN⟩;have Q:=r.trans aN;have Z:=ag f;have aC:=ag H;have X:Hid (tb a.length=if a.length=0 then 0 else Lib.bitLen a.length+2):=rfl;have a6:=fA am ai;have a5:Lib.bitLen 10000=14:=ai;by_cases m:k<a.length
   .have ae:¬a.length=0:=aa;rw[aM ae]at K;have aL:=X.o;rw[aM ae]at aL;have aZ:=n.cell;have bc:=n.frozen;have J:=n.set (.int .i64 ((d+1:Nat):Int));have v:=Q.setCell (p:=(af W.heap.size 0)) (aB _) (.int .i64 ((d+1:Nat):Int));obtain⟨a0,bb,F,-,s⟩:=(N.below v).get aa;have O:=s k m 0 aa;have x1:=s k m 1 aa;simp only[iK,fG,dx,dH]at O x1;have V:Hid (a[k].1≠id->∀x∈a,x.1≠id):=fun h x hx=>by
     obtain⟨t,ht,rfl⟩:=jb hx;by_cases al:t<k
     .have:=Z.o t ht al;omega
     .have aH:=aC.o k m (aB _);rcases Nat.lt_or_eq_of_le (Nat.le_of_not_lt al)with h4|h4
      .have I:=fZ.1 ah k t m ht h4;omega
      .subst h4;exact h
    have ax:=ag (aw.o a[k] (bG m));have w:=ag F;have a9:(k:Int)<(a.length:Int):=aa;rw[show((d+1:Nat):Int)=(d:Int)+1 by omega]at J v O x1;have bd:=J.cell;generalize a[k]=y at*;have⟨P,ao⟩:=y;simp only at O x1 V;obtain rfl:=w.o;have B:=ag J;have S:=ag v;by_cases u:P=id
    .have aF:(P==id)=true:=by simp[u]
     have ar:Hid (∃x∈NB.flatten,x.1=id/\x.2=ao):=⟨_,ax.o,u,rfl⟩;have L:d+1<=CL NB:=by
      have:=j.o;have:=E.o;have:=au.o;omega
     go_wp2;go_region
     all_goals
      go_wp2;go_ret2;exact⟨ao,d+1,rfl,L,.inl ar.o,S.o.drew⟩
    .have aF:(P==id)=false:=by simp[u]
     have D:=ag (T.o (V.o u));have C:Hid (d+1<=CL (NB.take (i+1))):=by
      have:=j.o;have:=E.o;show _<=_;omega
     go_wp2;go_roundw
     case rel=>exact⟨i+1,d+1,by go_num,aa,B,C,D,S.o⟩
     case measure=>exact dX
   .obtain rfl:k=a.length:=aa;have D:Hid (∀x∈(NB.take (i+1)).flatten,x.1≠id):=T.o fun x hx=>by
     obtain⟨t,ht,rfl⟩:=jb hx;have:=Z.o t ht ht;omega
    have C:Hid (d<=CL (NB.take (i+1))):=by
     have aH:=j.o;have h4:=E.o;have I:=X.o;show _<=_;by_cases G:a.length=0
     .rw[aO G]at I K;have a2:Lib.bitLen a.length=0:=by rw[G];rfl
      omega
     .rw[aM G]at I K;omega
    have B:=ag n;go_wp2;go_roundw
    case rel=>exact⟨i+1,d,by go_num,aa,B,C,D,Q⟩
    case measure=>exact dX
  .obtain rfl:i=bh.length:=aa;have aZ:=R.o.cell;have L:c<=CL NB:=by
    have f:=j.o;rw[jJ aa]at f;exact f
   have ay:Hid (∀x∈NB.flatten,x.1≠id):=by
    have f:=U.o;rw[jJ aa]at f;exact f
   go_wp2;go_region
   all_goals
    go_wp2;go_ret2;exact⟨-1,c,rfl,L,.inr ⟨rfl,ay.o⟩,r.drew⟩
abbrev iU:=@ik iW 290 209 204
theorem Ux:209≠290/\290≠204/\209≠204:=ai
theorem sF {W:World} {base Cb:Nat} {cv:Value} {ch:List lH} {N wk:Int} (h:iU W base Cb cv ch N wk):aK 203 #[aj Cb] W (fV W (.bool false)):=by
 obtain⟨a,-⟩:=h.cell;go_enter func203,ntmps203;go_wp2;go_ret;exact⟨rfl,aJ _ _⟩
end
section
open Go.RowKit Go.Maps
attribute [local irreducible] wpQuiet
abbrev Vr:=@Ui iW 290 209 204 iK 2
theorem QG {W:World} {base Cb:Nat} {cv:Value} {ch:List lH} {N wk:Int} (h:iU W base Cb cv ch N wk) (dr:base<=W.heap.size) (ce:jX W ch) (x nn:Int) (dp:0<=N/\N<=100000) (dH:ch.length<=1000) (dL:(ch.map (·.2.1)).flatten.length<=10000):
  aK 132 #[aj Cb,QE x nn] W (Vr W base Cb cv ch (x,nn) N wk):=by
 have aP:Below W.heap.size W (W.alloc (.cells #[ak x,ae nn] 204)):=(aJ _ _).alloc (aB _) _;have cm:(W.alloc (.cells #[ak x,ae nn] 204)).cell? (af W.heap.size 0)=some (ak x):=by rw[eu _ _ _ _ rfl];rfl
 have x1:(W.alloc (.cells #[ak x,ae nn] 204)).cell? (af W.heap.size 1)=some (ae nn):=by rw[eu _ _ _ _ rfl];rfl
 have bt:=ag (sF (h.below aP));have H:=ag h;have aV:=ag ce;have bv:=ag aP;clear h ce aP;go_enter func132,ntmps132
 go_wp2_with fail
 refine bt.o.mono ?_;rintro e w2 ⟨rfl,ab⟩;have bs:=ag (bv.o.trans (ab.mono aA));have cn:=(ab.cell (p:=(af W.heap.size 0)) aA).trans cm;have y1:=(ab.cell (p:=(af W.heap.size 1)) aA).trans x1;have bh:W.heap.size<w2.heap.size:=by have:=ab.size;simp at this;omega
 have s:=ag (H.o.below bs.o);have bK:=ag cn;have bL:=ag y1;clear cm x1 cn y1 bt bv ab;obtain⟨cF,cG,cH,cI⟩:=s.o.cell
 go_upto_block 0 with fail
 go_cut [6]from 11 to 30 (fun sv B=>∃i:Nat,sv=.int .i64 i/\Hid (B=w2)/\i<=ch.length/\Hid (∀j (aH:j<ch.length),j<i->ch[j].2.1≠[])/\Hid (∀hi:i<ch.length,ch[i].2.1=[]))
 case first=>
  go_wp2_with fail
  go_loopw [6] (fun bi wr=>∃i:Nat,bi=.int .i64 i/\Hid (wr=w2)/\i<=ch.length/\Hid (∀j (aH:j<ch.length),j<i->ch[j].2.1≠[])) (fun bi _=>ch.length-(intOf bi).toNat)
  case atStart=>exact⟨0,rfl,(by first|rfl|trivial),bH _,fun j _ h=>absurd h (jL _)⟩
  case round=>
   obtain⟨i,rfl,ah,hi,T⟩:=hrel;obtain rfl:wr=w2:=ah.o;clear ah;obtain⟨av,U,rfl,-,-,ad⟩:=Rd.aG (enc:=dS) s.o.row;by_cases ca:i<ch.length
   .obtain⟨b,off,bN,dt,b5⟩:=ad.get aa;have z:=b5 i ca;have M:Hid (ch[i].2.1=[]->∀hi:i<ch.length,ch[i].2.1=[]):=fun h _=>h;have an:Hid (ch[i].2.1≠[]->∀j (aH:j<ch.length),j<i+1->ch[j].2.1≠[]):=fun h j aH c3=>by
     rcases D7.1 c3 with h9|rfl
     .exact T.o j aH h9
     .exact h
    have bu:=ag bN;unfold dS at z;clear b5 bN ad;generalize ch[i]=hd at*;obtain⟨di,bl,dk⟩:=hd;simp only at z M an;obtain rfl:=bu.o;clear bu;have dJ:(i:Int)<(ch.length:Int):=aa;by_cases X:bl=[]
    .have R:=ag (M.o X);clear M an;subst X
     go_wp2_with fail
     go_meet;exact⟨i,rfl,(by first|rfl|trivial),hi,T,R⟩
    .have R:=ag (an.o X);have c5:0<bl.length:=Aa.2 X;have dv:decide (0<bl.length)=true:=by simp[c5]
     clear X M an
     go_wp2_with fail
     go_roundw
     case rel=>exact⟨i+1,by go_num,(by first|rfl|trivial),aa,R⟩
     case measure=>exact dX
   .have R:Hid (∀hi:i<ch.length,ch[i].2.1=[]):=fun h=>absurd h ca;have dD:¬(i:Int)<(ch.length:Int):=aa
    go_wp2_with fail
    go_meet;exact⟨i,rfl,(by first|rfl|trivial),hi,T,R⟩
 case rest=>
  obtain⟨i,rfl,ah,hi,T,M⟩:=hcut;obtain rfl:wc=w2:=ah.o;clear ah;obtain⟨f,Z⟩:∃f,f=cv.ownBlock:=⟨_,rfl⟩;have dg:Hid (∀k,(k=Cb\/f=some k)->base<=k):=fun k h=>by
   rcases h with rfl|h
   .exact s.o.hb
   .exact(s.o.row.lt k (Z▸h)).1
  have ao:Hid (∀k,f=some k->k<W.heap.size/\k≠Cb):=fun k h=>⟨(H.o.row.lt k (Z▸h)).2,fun e=>H.o.ne (by rw[<-Z,h,e])⟩;have C:=ag Z;have dn:=H.o.lt;obtain⟨av,U,rfl,-,du,-⟩:=Rd.aG (enc:=dS) s.o.row;have bE:Hid (ay (fun k=>k=Cb\/f=some k) W wc):=(ay.refl _ _).grown (bM bs.o) aA;have cy:Hid (∀w6,wc.grownBy w6 (Value.ownBlock (.slice av ch.length U))->w6.heap[Cb]? =some (Obj.cells #[.bool true,.slice av ch.length U,ae N,ae wk] 290 (0,0))):=fun w6 w=>(w.block Cb s.o.lt (fun e=>s.o.ne e.symm)).trans s.o.blk;clear Z
  go_upto_if 37 with fail
  go_cut []from 37 to 46 (fun B=>∃V ch1 c aN v,Hid (iU B base Cb V ch1 N wk)/\V=ax c aN v/\aN=ch1.length/\i<aN/\Hid (ch1=ch/\i<ch.length\/ch1=ch++[fH]/\i=ch.length)/\Hid (V.ownBlock=f\/∃b,V.ownBlock=some b/\W.heap.size<=b)/\Hid (c≠W.heap.size)/\Hid (ay (fun k=>k=Cb\/f=some k) W B)/\Hid (ay (fun k=>k=Cb\/f=some k) wc B))
  case first=>
   by_cases c2:i=ch.length
   .subst c2;have cY:((ch.length:Int)==(ch.length:Int))=true:=aA
    go_wp2_with (at_builtin;refine bX Kq base s.o.row [aL] rfl (by simp[Value.oneCell']) rfl _ _ rfl rfl _ rfl dI aa aa ?_;intro bm w6 ac w b3;obtain⟨D,l,rfl,dx,dy,dB,dC⟩:=aQ ac aa;have bj:=cy.o w6 w;have dN:w6.cell? (af Cb 1)=some (.slice av ch.length U):=(aD bj);have dO:w6.frozen? (af Cb 1)=false:=(aD bj))
    go_meet;have bc:w6.ownsRow base 209 1 (ax D (ch.length+1) l) (ch++[fH]).length ((ch++[fH]).map dS):=by
     rw[bQ,bP];exact ac
    have az:(some D=f\/D=wc.heap.size+1):=by
     rcases b3 with h9|h9
     .exact .inl (h9.trans C.o.symm)
     .simp only[Value.ownBlock,jk]at h9;rw[h9];exact .inr aA
    have c0:D≠Cb:=by
     rcases az with h9|h9
     .exact(ao.o D h9.symm).2
     .omega
    refine⟨_,ch++[fH],D,ch.length+1,l,ik.Lx (ch:=ch) bj s.o.hb s.o.ds bc (by simpa[Value.ownBlock]using c0),rfl,aA,aa,(by first|exact .inr ⟨rfl,rfl⟩|exact .inr ⟨rfl,trivial⟩),?_,?_,(bE.o.grown w fun k q=>.inl (.inr (C.o.trans q))).set _ (.inl (.inl rfl)),((ay.refl _ wc).grown w fun k q=>.inl (.inr (C.o.trans q))).set _ (.inl (.inl rfl))⟩
    .rcases az with h9|h9
     .exact .inl (by simpa[Value.ownBlock]using h9)
     .exact .inr ⟨D,rfl,aa⟩
    .show D≠W.heap.size;rcases az with h9|h9
     .have:=(ao.o D h9.symm).1;omega
     .omega
   .have cY:((i:Int)==(ch.length:Int))=false:=by simp only[beq_eq_false_iff_ne];omega
    have b9:i<ch.length:=aa;obtain⟨g,dl,a2,cZ,aE,-,-⟩:=aQ s.o.row aa;injection a2 with a2 _ cK;subst a2 cK;go_wp2;go_meet;have c1:f=some g:=C.o;exact⟨_,ch,g,ch.length,U,s,rfl,rfl,b9,.inl ⟨rfl,b9⟩,.inl C.o.symm,(by show g≠W.heap.size;have:=(ao.o g c1).1;omega),bE,ay.refl _ _⟩
  case rest=>
   obtain⟨V,ch1,c,aN,v,ai,rfl,rfl,dF,am,aR,cs,cC,ap⟩:=hcut;obtain⟨w3,cO⟩:∃w3:World,w3=wc:=⟨_,rfl⟩;subst cO;have bC:Hid (¬(W.heap.size=Cb\/f=some W.heap.size)):=fun h9=>by
    rcases h9 with h9|h9
    .omega
    .have:=(ao.o _ h9).1;omega
   have cD:Hid (w3.cell? (af W.heap.size 0)=some (ak x)):=(dz (a:=(af W.heap.size 0)) (ap.o.block _ bh bC.o)).trans bK.o;have cE:Hid (w3.cell? (af W.heap.size 1)=some (ae nn)):=(dz (a:=(af W.heap.size 1)) (ap.o.block _ bh bC.o)).trans bL.o;have cf:W.heap.size<w3.heap.size:=bT bh ap.o.size;have cZ:c<w3.heap.size:=(ai.o.row.lt c rfl).2;have cq:Hid (∀k (q:k<i) (h1:k<ch1.length) (Y:k<ch.length),ch1[k]=ch[k]):=fun k q h1 Y=>by
    rcases am.o with⟨e,-⟩|⟨e,-⟩
    .subst e;rfl
    .subst e;exact qK Y
   have cr:Hid (∀W',ay (fun k=>k=Cb\/f=some k) W W'->∀k (q:k<ch.length),bV iK 2 W' ch[k].1 ch[k].2.1):=fun W' cV k q=>((aV.o _ (bG q)).1.kept (H.o.eZ C.o cV)).Nr;have cw:Hid (∀k (q:k<ch.length),k<i->(((ch.map (·.2.1)).take i).drop k).reverse.flatten=(((ch.map (·.2.1)).take i).drop (k+1)).reverse.flatten++ch[k].2.1):=fun k q dG=>by
    rw[mE aF];simp
   have bz:Hid (∀k,(((ch.map (·.2.1)).take i).drop k).reverse.flatten.length<=10000):=fun k=>by
    generalize ch.map (·.2.1)=CB at*;have dm:(((CB.take i).drop k).reverse.flatten).length=((CB.take i).drop k).flatten.length:=by simp only[Ef,Eo,List.sum_reverse]
    have a1:((CB.take i).take k).flatten++((CB.take i).drop k).flatten=(CB.take i).flatten:=by rw[<-kY,jB]
    have cL:(CB.take i).flatten++(CB.drop i).flatten=CB.flatten:=by rw[<-kY,jB]
    have cM:=congrArg List.length a1;have cN:=congrArg List.length cL;rw[bQ]at cM cN;omega
   clear bK bL cF cG cH cI ap
   go_upto_block 2 with fail
   go_cut [7]from 49 to 67 (fun bp B=>Hid (B.ownsRow w3.heap.size 204 2 bp (eO (ch.map (·.2.1)) i).length ((eO (ch.map (·.2.1)) i).flatMap iK))/\Hid (iU B base Cb (ax c ch1.length v) (tZ ch1 i 0) N wk)/\Hid (ay (fun k=>k=Cb\/f=some k) W B)/\Hid (ay (fun k=>k=c) w3 B))
   case first=>
    go_wp2_with fail
    go_loopw [8,7] (fun bk bp wr=>∃(k:Nat) (va:Value),bk=.int .i64 ((k:Int)-1)/\bp=va/\k<=i/\Hid (wr.ownsRow w3.heap.size 204 2 va (((ch.map (·.2.1)).take i).drop k).reverse.flatten.length ((((ch.map (·.2.1)).take i).drop k).reverse.flatten.flatMap iK))/\Hid (iU wr base Cb (ax c ch1.length v) (tZ ch1 i k) N wk)/\Hid (ay (fun k=>k=Cb\/f=some k) W wr)/\Hid (ay (fun k=>k=c) w3 wr)) (fun bk _ _=>(intOf bk+1).toNat)
    case atStart=>
     refine⟨i,_,rfl,rfl,aB _,?_,?_,cC,ay.refl _ _⟩
     .rw[ow aF];exact dA _ _ _ _
     .rw[Kh];exact ai
    case round=>
     obtain⟨k,va,rfl,rfl,q,HO,G,S,I⟩:=hrel;rcases nC k with Uk|Uk
     .subst Uk;have dw:¬(0:Int)<=((0:Nat):Int)-1:=aa;rw[kE]at HO
      go_wp2_with fail
      go_meet;exact⟨HO,G,S,I⟩
     .obtain⟨m,rfl⟩:∃m,k=m+1:=⟨k-1,aa⟩;have bb:m<ch.length:=aa;have cb:m<ch1.length:=aa;obtain⟨d0,d1,d2,d3⟩:=G.o.cell;have y:i<=ch1.length:=aa;have be:=G.o.row;rw[iJ q y]at be;have z:=be.cellAt m aa;rw[iy,Ki y aa,bZ cb,cq.o m aa cb bb]at z;simp only[fP]at z;have ad:=cr.o wr S.o m bb;have ba:=cw.o m bb aa;have O:=bz.o m;rw[ba,bQ]at O;have c6:=Kj (ch1:=ch1) y (show m<i by omega);have c4:=O;generalize(((ch.map (·.2.1)).take i).drop (m+1)).reverse.flatten=L at*;have bx:=ag ba;unfold dS at z;clear ba O;generalize ch[m]=hd at*;obtain⟨dj,dM,cJ⟩:=hd;simp only at z ad c4 bx;have A:=HO.o.lt;have cU:=ai.o.lt;have b8:=I.o.size;have dK:(m:Int)<(ch1.length:Int):=aa
      go_wp2_with (at_builtin;refine nE Gj wU Bp w3.heap.size HO.o ad rfl _ _ rfl rfl cJ rfl dI aa b8 ?_;intro bm w6 ac w b3;have E:=G.o.grown w (fun e=>(by have:=(A Cb e).1;omega)) (.inr (fun e=>(by have:=(A c e.symm).1;omega)));obtain⟨f0,f1,f2,f3⟩:=E.cell;have b2:=w.block c aa (fun e=>(by have:=(A c e.symm).1;omega));have dP:=(dz (a:=(af c m)) b2).trans z;have bO:=(pE (a:=(af c m)) b2).trans (be.frozenAt m))
      have c7:=ac.lt;have cz:Hid ((w6.setCell (af c m) (aL)).ownsRow w3.heap.size 204 2 bm (((ch.map (·.2.1)).take i).drop m).reverse.flatten.length ((((ch.map (·.2.1)).take i).drop m).reverse.flatten.flatMap iK)):=by
       show World.ownsRow _ _ _ _ _ _ _;rw[bx.o,bQ,gZ];exact aX ac fun cS e=>aC (fun a1=>by have:=(c7 cS e).1;simp only at a1;omega)
      have aS:Hid (iU (w6.setCell (af c m) (aL)) base Cb (ax c ch1.length v) (tZ ch1 i m) N wk):=by
       have:=E.Lv (iJ q y).symm m fH;rw[c6]at this;exact this
      have a7:f=some c\/W.heap.size<=c:=by
       rcases aR.o with h9|⟨b,h9,cT⟩
       .exact .inl h9.symm
       .simp only[Value.ownBlock,jk]at h9;exact .inr aa
      have aU:Hid (ay (fun k=>k=Cb\/f=some k) W (w6.setCell (af c m) (aL))):=
       (S.o.grown w (fun b n=>.inr (by have:=(A b n).1;omega))).set _ (by rcases a7 with h9|h9;exact .inl (.inr h9);exact .inr h9)
      have ct:Hid (ay (fun k=>k=c) w3 (w6.setCell (af c m) (aL))):=(I.o.grown w (fun b n=>.inr (A b n).1)).set _ (.inl rfl);go_roundw
      case rel=>exact⟨m,bm,by go_num,rfl,aa,cz,aS,aU,ct⟩
      case measure=>simp[intOf]
   case rest=>
    obtain⟨HO,G,S,I⟩:=hcut;obtain⟨w4,cP⟩:∃w4:World,w4=wc:=⟨_,rfl⟩;subst cP;have b8:=I.o.size;have y:i<=ch1.length:=aa;have au:W.heap.size≠c:=fun e=>cs.o e.symm;have bF:w4.cell? (af W.heap.size 0)=some (ak x):=(dz (a:=(af W.heap.size 0)) (I.o.block _ cf au)).trans cD.o;have bI:w4.cell? (af W.heap.size 1)=some (ae nn):=(dz (a:=(af W.heap.size 1)) (I.o.block _ cf au)).trans cE.o;have O:=bz.o 0;rw[kE]at O;change(eO (ch.map (·.2.1)) i).length<=10000 at O;have bB:=(HO.o.alloc (.cells #[ak x,ae nn] 204)).bn 1;have bw:=(G.o.grown (qN w4 (.cells #[ak x,ae nn] 204) none) aA (.inr (by simp[Value.ownBlock]))).drew;generalize a3:eO (ch.map (·.2.1)) i=d at*;obtain⟨de,w6,aZ,bc,aE,az⟩:=jo (ty:=209) (t:=209) (P:=prog) Gj w3.heap.size bB (af w4.heap.size 0) 1 1 [.int .u32 x,.int .i64 nn] rfl (by
     intro j u hu;have cW:((af w4.heap.size 0):Addr).add j=(af w4.heap.size j):=by unfold Addr.add;split<;>simp_all
     rw[cW];have h9:(w4.alloc (.cells #[ak x,ae nn] 204)).cell? (af w4.heap.size j)=some u:=by
      rw[eu _ _ _ _ (by rfl)];simpa using hu
     exact h9) (by simp[Value.oneCell']) dI aa aF
    have A:=bB.lt;have cU:=ai.o.lt;have E:=bw.grown aE (fun e=>(by have:=(A Cb e).1;omega)) (.inr (fun e=>(by have:=(A c e.symm).1;omega)));have bd:w6.ownsRow w3.heap.size 204 2 de (d.length+1) ((d++[(x,nn)]).flatMap iK):=by
     rw[gZ];exact bc
    have cg:=bd.lt;obtain⟨r,l,rfl,-,cX,bS⟩:=LY.aG bd;have aI:(d++[(x,nn)]).length=d.length+1:=aA;rw[aI]at aZ bd cX cg;have cp:Hid (∀a,r=some a->W.heap.size<=a.block):=fun a a6=>by have:=(cg a.block (by rw[a6];rfl)).1;omega
    obtain⟨f0,f1,f2,f3⟩:=E.cell;have aM:=E.row;rw[iJ (bH _) y]at aM;have ck:=aM.cellAt i aa;have bO:=aM.frozenAt i;have c9:i<((tZ ch1 i 0).map dS).length:=by rw[bR,iJ (bH _) y];omega
    rw[bZ c9]at ck;have a5:w4.cell? (af Cb 1)=some (ax c ch1.length v)/\w4.cell? (af W.heap.size 0)=some (ak x)/\w4.cell? (af W.heap.size 1)=some (ae nn):=⟨G.o.cell.2.1,bF,bI⟩;have bU:w4.drew.cell? (af Cb 1)=some (ax c ch1.length v)/\w4.drew.cell? (af W.heap.size 0)=some (ak x)/\w4.drew.cell? (af W.heap.size 1)=some (ae nn):=a5;have b7:=(aJ w4.heap.size w4).alloc (aB _) (.cells #[ak x,ae nn] 204);have b0:W.heap.size<w4.heap.size:=aa;have aq:(w4.alloc (.cells #[ak x,ae nn] 204)).drew.cell? (af Cb 1)=some (ax c ch1.length v)/\(w4.alloc (.cells #[ak x,ae nn] 204)).drew.cell? (af W.heap.size 0)=some (ak x)/\(w4.alloc (.cells #[ak x,ae nn] 204)).drew.cell? (af W.heap.size 1)=some (ae nn):=
     ⟨bw.cell.2.1,(b7.cell (p:=(af W.heap.size 0)) b0).trans bF,(b7.cell (p:=(af W.heap.size 1)) b0).trans bI⟩
    have bY:=aE.block W.heap.size aF (fun e=>by have:=(A _ e.symm).1;omega);have ar:w6.cell? (af Cb 1)=some (ax c ch1.length v)/\w6.cell? (af W.heap.size 0)=some (ak x)/\w6.cell? (af W.heap.size 1)=some (ae nn):=
     ⟨f1,(dz (a:=(af W.heap.size 0)) bY).trans aq.2.1,(dz (a:=(af W.heap.size 1)) bY).trans aq.2.2⟩
    have K:iU (w6.setCell (af c i) (.slice r (d.length+1) l)) base Cb (ax c ch1.length v) ((tZ ch1 i 0).set i (r,d++[(x,nn)],l)) N wk:=by
     have:=E.Lv (iJ (bH _) y).symm i (r,d++[(x,nn)],l);unfold dS at this;rw[aI]at this;exact this
    have bW:(w6.setCell (af c i) (.slice r (d.length+1) l)).cell? (af Cb 1)=some (ax c ch1.length v)/\(w6.setCell (af c i) (.slice r (d.length+1) l)).cell? (af W.heap.size 0)=some (ak x)/\(w6.setCell (af c i) (.slice r (d.length+1) l)).cell? (af W.heap.size 1)=some (ae nn):=
     ⟨K.cell.2.1,(dz (a:=(af W.heap.size 0)) (aC (fun e=>au e.symm))).trans ar.2.1,(dz (a:=(af W.heap.size 1)) (aC (fun e=>au e.symm))).trans ar.2.2⟩
    have dE:(i:Int)<(ch1.length:Int):=aa;generalize((tZ ch1 i 0).map dS)[i]=dQ at*;go_wp2
    go_hide hQ
    go_region_held3 (fun w'=>w'.cell? (af Cb 1)=some (ax c ch1.length v)/\w'.cell? (af W.heap.size 0)=some (ak x)/\w'.cell? (af W.heap.size 1)=some (ae nn))
     (first|(with_reducible exact a5)|(with_reducible exact bU)|(with_reducible exact aq)|(with_reducible exact ar)|(with_reducible exact bW)|go_keep)
     ((refine gD rfl (.tmp 73) (.tmp 75) rfl aZ (by simp[Act.eval]) (by simp[Act.eval]) ?_;try simp only[Act.put,y7,oD,nR]))
    all_goals subst hQ
    clear bW;generalize ci:w6.setCell (af c i) (.slice r (d.length+1) l)=bq at K |-;have Q:=K.A7 (N+1);obtain⟨da,db,dc,dd⟩:=K.cell;have cQ:=K.frozen 2;obtain⟨t0,t1,t2,t3⟩:=Q.cell;have cR:=Q.frozen 3;have b4:((tZ ch1 i 0).set i (r,d++[(x,nn)],l)).length=ch1.length:=by rw[kK,iJ (bH _) y]
    have bf:=Q.row;rw[b4]at bf;have br:=bf.cellAt i aa;have a8:(((tZ ch1 i 0).set i (r,d++[(x,nn)],l)).map dS)[i]? =some (.slice r (d.length+1) l):=by
     rw[iy,uh (by rw[iJ (bH _) y];omega)];simp[dS]
    rw[a8]at br;have F:=(Q.Qo (wrap64 (wk+((d.length:Int)+1)))).drew;have al:=ag F;clear F;have dq:(-9223372036854775808:Int)<=N+1/\N+1<=9223372036854775807:=aa;have aW:=ag ci;clear ci;clear f0 f1 f2 f3 ck bO a5 bU aq ar aZ;have dh:=ag br;have cu:=ag a8;have cA:=ag bS;have a7:f=some c\/W.heap.size<=c:=by
     rcases aR.o with h9|⟨b,h9,cT⟩
     .exact .inl h9.symm
     .simp only[Value.ownBlock,jk]at h9;exact .inr aa
    have aU:Hid (ay (fun k=>k=Cb\/f=some k) W w6):=((S.o.grown (qN w4 (.cells #[ak x,ae nn] 204) none) aA).drew).grown aE (fun b n=>.inr (by have:=(A b n).1;omega));have aS:=ag E;clear a8;go_wp2;go_region;have cx:Hid (ay (fun k=>k=Cb\/some c=some k) w6 ((bq.setCell (af Cb 2) (.int .i64 (N+1))).setCell (af Cb 3) (.int .i64 (wrap64 (wk+((d.length:Int)+1))))).drew):=by
     rw[<-aW.o];exact((((ay.refl _ w6).set _ (.inl (.inr rfl))).set _ (.inl (.inl rfl))).set _ (.inl (.inl rfl))).drew
    have bA:Hid (ay (fun k=>k=Cb\/f=some k) W ((bq.setCell (af Cb 2) (.int .i64 (N+1))).setCell (af Cb 3) (.int .i64 (wrap64 (wk+((d.length:Int)+1))))).drew):=by
     rw[<-aW.o];exact(((aU.o.set _ (by rcases a7 with h9|h9;exact .inl (.inr h9);exact .inr h9)).set _ (.inl (.inl rfl))).set _ (.inl (.inl rfl))).drew
    have F:=al.o;clear br al da db dc dd t0 t1 t2 t3 cQ cR K Q aW;generalize c8:((bq.setCell (af Cb 2) (.int .i64 (N+1))).setCell (af Cb 3) (.int .i64 (wrap64 (wk+((d.length:Int)+1))))).drew=cl at*;obtain⟨u0,u1,u2,u3⟩:=F.cell;have bg:=F.row;rw[b4]at bg;have df:=bg.cellAt i aa;rw[cu.o]at df;have a4:=cA.o.kept (aS.o.eZ rfl cx.o);have cj:=bA.o.size;have co:=Bq r (d++[(x,nn)]) (d.length+1) l cl aI a4.Nr aa;have al:=ag F;have cB:=ag a4;clear c8 aM bf bg F a4 bS
    go_wp2_with fail
    refine co.mono ?_;rintro e aO ⟨bo,rfl,cd,aw⟩;go_wp2;go_ret2;have bD:ay (fun k=>k=Cb\/f=some k) W aO:=bA.o.below aw;have b6:=H.o.eZ C.o bD;refine⟨i,bo,ax c ch1.length v,(tZ ch1 i 0).set i (r,d++[(x,nn)],l),_,rfl,hi,T.o,M.o,al.o.below aw,?_,?_,?_,?_,?_,?_,?_⟩
    .have cc:∀b,b<cl.heap.size->bo.ownBlock≠some b:=fun b n e=>by have:=(cd.lt b e).1;omega
     have b1:∀a0:World,(∀(b:Nat) J fr,aO.heap[b]? =some (Obj.cells J 204 fr)->bo.ownBlock≠some b->a0.heap[b]? =aO.heap[b]?)->jX a0 ((tZ ch1 i 0).set i (r,d++[(x,nn)],l)):=by
      intro a0 Y h a9;rcases zM am.o a9 with rfl|rfl|h1
      .exact⟨cB.o.kept fun b J fr n=>(Y b J fr ((aT aw n).trans n) (cc b (aY.1 n).1)).trans (aT aw n),by show(d++[(x,nn)]).length<=l;omega⟩
      .exact⟨.inl rfl,aB _⟩
      .exact⟨(aV.o h h1).1.kept fun b J fr n=>(Y b J fr ((b6 b J fr n).trans n) (cc b (bT (aY.1 n).1 cj))).trans (b6 b J fr n),(aV.o h h1).2⟩
     exact⟨b1 aO (fun _ _ _ _ _=>rfl),b1⟩
    .exact FY am.o _ (x,nn) (by show d++[(x,nn)]=_;rw[a3])
    .rw[a3,aI];exact bJ cd cj
    .rcases aR.o with h9|h9
     .exact .inl (h9.trans C.o)
     .exact .inr h9
    .exact bD.mono fun k q=>q.imp id fun h9=>C.o▸h9
    .intro h a9;rcases zM am.o a9 with rfl|rfl|h1
     .exact .inr cp.o
     .exact .inr fun a a6=>by cases a6
     .exact .inl h1
    .rw[a3]
end
section
open Go.RowKit Go.Maps
section
variable {W:World} {base Cb:Nat} {cv:Value} {ch:List lH} {N wk:Int}
theorem Bt (h:iU W base Cb cv ch N wk) (f:ch.length<=1000000):aK 209 #[aj Cb] W (fV W (ae ch.length)):=by
 have b:=ag (sF h);have H:=ag h;obtain⟨av,d,rfl,-,-,-⟩:=Rd.aG (enc:=dS) H.o.row;go_enter func209,ntmps209
 go_wp2_with fail
 refine b.o.mono ?_;rintro e w2 ⟨rfl,a⟩;obtain⟨-,c,-⟩:=(H.o.below a).cell;go_wp2;go_ret;exact⟨rfl,a⟩
theorem QH (h:iU W base Cb cv ch N wk):aK 137 #[aj Cb] W (fV W (ae N)):=by
 have b:=ag (sF h);have H:=ag h;go_enter func137,ntmps137
 go_wp2_with fail
 refine b.o.mono ?_;rintro e w2 ⟨rfl,a⟩;obtain⟨-,-,c,-⟩:=(H.o.below a).cell;go_wp2;go_ret;exact⟨rfl,a⟩
theorem Bu (h:iU W base Cb cv ch N wk) (t:jX W ch) (B:ch.length<=1000000) (i:Nat) (hi:i<ch.length) (j:ch[i].2.1.length<=1000000):aK 210 #[aj Cb,ae i] W fun e w'=>
  ∃v,e=.returned v/\w'.ownsRow W.heap.size 204 2 v ch[i].2.1.length (ch[i].2.1.flatMap iK)/\Below W.heap.size W w':=by
 have m:=ag (sF h);have H:=ag h;obtain⟨av,w,rfl,-,-,-⟩:=Rd.aG (enc:=dS) H.o.row;obtain⟨g,x,c,y,z,-,-⟩:=aQ H.o.row aa;injection c with c _ q;subst c q;have f:=ag (fun W' (d:Below W.heap.size W W')=>(t _ (bG hi)).1.Nr.below d);have b:=ag (fun W' (d:Below W.heap.size W W')=>(show W'.cell? (af g i)=some (dS ch[i]) by
  have:=((H.o.below d).row).cellAt i aa;rw[iy,bZ hi]at this;exact this))
 unfold dS at b;have A:(i:Int)<(ch.length:Int):=aa;generalize ch[i]=hd at*;have⟨n,k,p⟩:=hd;simp only at f b j |-;have d1:decide ((i:Int)<0)=false:=aA;go_enter func210,ntmps210
 go_wp2_with fail
 refine m.o.mono ?_;rintro e w2 ⟨rfl,a⟩;obtain⟨-,u,-⟩:=(H.o.below a).cell;have D:=b.o w2 a;have l:=ag (Bq n k k.length p w2 rfl (f.o w2 a) j)
 go_wp2_with fail
 refine l.o.mono ?_;rintro e w3 ⟨C,rfl,s,r⟩;have HO:=ag (bJ s a.size);go_wp2;go_ret;exact⟨_,rfl,HO.o,a.trans (r.mono a.size)⟩
end
structure dL (W:World) (base A Cb:Nat) (bv pv lv cv:Value) (bh ch:List lH) (al:List Bool) (pl:List Int) (n N wk:Int):Prop where
 hb:base<=A
 blk:W.heap[A]? =some (Obj.cells #[aj Cb,bv,pv,lv,ae n] 207 (0,0))
 fJ:iU W base Cb cv ch N wk
 gK:W.ownsRow base 209 1 bv bh.length (bh.map dS)
 iC:W.ownsRow base 3 1 pv pl.length (pl.map (Value.int .i64))
 dJ:W.ownsRow base 4 1 lv al.length (al.map Value.bool)
 bE:jX W bh
 cE:jX W ch
 sep:bv.ownBlock=none\/bv.ownBlock≠cv.ownBlock
section
variable {W:World} {base A Cb:Nat} {bv pv lv cv:Value} {bh ch:List lH} {al:List Bool} {pl:List Int} {n N wk:Int}
theorem dL.cell (h:dL W base A Cb bv pv lv cv bh ch al pl n N wk):
  W.cell? (af A 0)=some (aj Cb)/\W.cell? (af A 1)=some bv/\W.cell? (af A 2)=some pv/\W.cell? (af A 3)=some lv/\W.cell? (af A 4)=some (ae n):=by
 have:=h.blk;refine⟨?_,?_,?_,?_,?_⟩<;>simp[World.cell?,this]
theorem dL.frozen (h:dL W base A Cb bv pv lv cv bh ch al pl n N wk) (j:Nat):W.frozen? (af A j)=false:=by
 have:=h.blk;simp[World.frozen?,this]
theorem dL.lt (h:dL W base A Cb bv pv lv cv bh ch al pl n N wk):A<W.heap.size:=(aY.1 h.blk).1
theorem dL.below {W':World} (h:dL W base A Cb bv pv lv cv bh ch al pl n N wk) (hb:Below W.heap.size W W'):dL W' base A Cb bv pv lv cv bh ch al pl n N wk:=
 ⟨h.hb,(aT hb h.blk).trans h.blk,h.fJ.below hb,az h.gK hb,az h.iC hb,az h.dJ hb,h.bE.kept fun b c fr a=>aT hb a,h.cE.kept fun b c fr a=>aT hb a,h.sep⟩
theorem Du (h:dL W base A Cb bv pv lv cv bh ch al pl n N wk):aK 130 #[aj A] W (fV W (.bool false)):=by
 obtain⟨a,-⟩:=h.cell;go_enter func130,ntmps130;go_wp2;go_ret;exact⟨rfl,aJ _ _⟩
end
def gQ (ES:List iW) (al:List Bool) (pl:List Int) (id p:Int):Prop:=∃k:Nat,(id,(k:Int))∈ES/\al[k]? =some true/\pl[k]? =some p
def Dv (NB CB:List (List iW)):Prop:=NB.length=CB.length/\∀(i:Nat) (h:i<NB.length) (h':i<CB.length),NB[i].Perm CB[i]
structure wV (CB NB:List (List iW)) (al:List Bool) (pl:List Int) (n N:Int):Prop where
 len:al.length=pl.length
 sorted:∀l∈NB,l.Pairwise fun p q=>p.1<=q.1
 perm:Dv NB CB
 ids:(CB.flatten.map (·.1)).Nodup
 uf:∀x∈CB.flatten,∃k:Nat,x.2=k/\k<al.length
 wW:(CB.flatten.map (·.2)).Nodup
 live:∀k:Nat,al[k]? =some true->∃x∈CB.flatten,x.2=k
 cnt:n=(al.count true:Nat)
 stored:N=(CB.flatten.length:Nat)
 bound:al.length<=5000
 small:CB.flatten.length<=5000
 size:∀(i:Nat) (h:i<CB.length),CB[i].length=0\/CB[i].length=2^i
 last:∀(i:Nat) (h:i<CB.length),i+1=CB.length->CB[i]≠[]
structure o5 (CB NB:List (List iW)) (al:List Bool) (pl:List Int) (n N:Int):Prop extends wV CB NB al pl n N where
 most:N<=2*n
theorem mo {L:List iW} (h:(L.map (·.1)).Nodup) {x y:iW} (b:x∈L) (c:y∈L) (e:x.1=y.1):x=y:=by
 have a:L.Pairwise fun p q=>p.1≠q.1:=dm.1 h;rcases eB a b c with h1|h1|h1
 .exact h1
 .exact absurd e h1
 .exact absurd e.symm h1
theorem fT {NB CB:List (List iW)} (h:Dv NB CB) (x:iW):x∈NB.flatten↔x∈CB.flatten:=by
 simp only[pM];constructor
 .rintro⟨l,b,c⟩;obtain⟨i,hi,rfl⟩:=jb b;have a:i<CB.length:=by rw[<-h.1];exact hi
  exact⟨CB[i],bG a,(h.2 i hi a).mem_iff.1 c⟩
 .rintro⟨l,b,c⟩;obtain⟨i,a,rfl⟩:=jb b;have hi:i<NB.length:=by rw[h.1];exact a
  exact⟨NB[i],bG hi,(h.2 i hi a).mem_iff.2 c⟩
def Uy (NB CB:List (List iW)) (al:List Bool) (pl:List Int) (id:Int) (W:World) (e:Ending) (w':World):Prop:=
 ∃t:Nat,t<=CL NB/\((∃p,gQ CB.flatten al pl id p/\e=.returned (.tuple #[ae p,.bool true,ae t]))\/((∀p,¬gQ CB.flatten al pl id p)/\e=.returned (.tuple #[ae 0,.bool false,ae t])))/\Below W.heap.size W w'
section
variable {W:World} {base A Cb:Nat} {bv pv lv cv:Value} {bh ch:List lH} {al:List Bool} {pl:List Int} {n N wk:Int}
theorem QI (h:dL W base A Cb bv pv lv cv bh ch al pl n N wk) (v:o5 (ch.map (·.2.1)) (bh.map (·.2.1)) al pl n N) (J:bh.length<=1000) (Q:∀l∈bh.map (·.2.1),l.length<=10000) (id:Int):
  aK 72 #[aj A,ak id] W (Uy (bh.map (·.2.1)) (ch.map (·.2.1)) al pl id W):=by
 have x:=ag (Du h);have H:=ag h;have C:=ag (fun W' (s:Below W.heap.size W W')=>oZ A id W' _ bh bv base ((h.below s).cell.2.1) (h.below s).gK rfl (h.below s).bE v.sorted (aP J) Q);have a:=ag v;clear h v Q;go_enter func72,ntmps72
 go_wp2_with fail
 refine x.o.mono ?_;rintro e w2 ⟨rfl,g⟩
 go_wp2_with fail
 refine(C.o w2 g).mono ?_;rintro e w3 ⟨k,t,rfl,ht,Y,I⟩;have b:=g.trans (I.mono g.size);obtain⟨-,-,af,ah,-⟩:=(H.o.below b).cell;rcases Y with⟨y,c,rfl,rfl⟩|⟨rfl,L⟩
 .rw[fT a.o.perm]at c;obtain⟨m,d,f⟩:=a.o.uf y c;have u:m<pl.length:=by rw[<-a.o.len];exact f
  obtain⟨ac,ad,rfl,-,-,O⟩:=Rd.aG (H.o.below b).dJ;obtain⟨au,av,rfl,-,-,P⟩:=Rd.aG (H.o.below b).iC;obtain⟨ab,ae,D,-,G⟩:=O.get aa;obtain⟨ar,aw,E,-,M⟩:=P.get aa;have ay:=G m f;have az:=M m u;have i:Hid (al[m]=true->∃p,gQ (ch.map (·.2.1)).flatten al pl y.1 p/\p=pl[m]):=fun r=>⟨pl[m],⟨m,by rw[<-d];exact c,by rw[bZ f,r],by rw[bZ u]⟩,rfl⟩;have j:Hid (al[m]=false->∀p,¬gQ (ch.map (·.2.1)).flatten al pl y.1 p):=fun r p ⟨w,q,F,am⟩=>by
   have U:=a.o.ids;have V:y=(y.1,(w:Int)):=mo U c q rfl;have X:m=w:=by have:=congrArg Prod.snd V;rw[d]at this;simp only at this;omega
   subst X;rw[bZ f,r]at F;cases F
  have z:=ag D;have B:=ag E;rw[d];clear G M O P D E;generalize al[m]=T at*;generalize pl[m]=ax at*;obtain rfl:=z.o;obtain rfl:=B.o;clear z B;have an:(m:Int)<(al.length:Int):=aa;have ao:(m:Int)<(pl.length:Int):=aa;have ap:(m:Int)<9223372036854775807:=by have:=a.o.bound;omega
  cases T
  .have Z:=ag (j.o rfl);clear j i d c;go_wp2;go_ret3;exact⟨t,ht,.inr ⟨Z.o,rfl⟩,b⟩
  .obtain⟨aq,K,rfl⟩:=i.o rfl;have R:=ag K;clear j i d c K C x a J f u g I H;have ai:decide ((m:Int)<0)=false:=aA;go_wp2;go_ret3;exact⟨t,ht,.inl ⟨_,R.o,rfl⟩,b⟩
 .have S:Hid (∀p,¬gQ (ch.map (·.2.1)).flatten al pl id p):=fun p ⟨w,q,_⟩=>L _ ((fT a.o.perm _).2 q) rfl;clear L;go_wp2;go_ret3;exact⟨t,ht,.inr ⟨S.o,rfl⟩,b⟩
end
theorem LZ (W:World):dL ((W.alloc (.cells #[.bool true,aL,ae 0,ae 0] 290)).alloc (.cells #[aj W.heap.size,aL,aL,aL,ae 0] 207)) W.heap.size (W.heap.size+1) W.heap.size (aL) (aL) (aL) (aL) [] [] [] [] 0 0 0 where
 hb:=Nat.le_succ _
 blk:=by
  have:=uG (W.alloc (.cells #[.bool true,aL,ae 0,ae 0] 290)) (.cells #[aj W.heap.size,aL,aL,aL,ae 0] 207);rw[show(W.alloc (.cells #[.bool true,aL,ae 0,ae 0] 290)).heap.size=W.heap.size+1 by simp]at this;exact this
 fJ:=⟨aB _,Ux,by
  have b:=uG W (.cells #[.bool true,aL,ae 0,ae 0] 290);exact(bW _ _ _ aA).trans b,dA _ _ _ _⟩
 gK:=dA _ _ _ _
 iC:=dA _ _ _ _
 dJ:=dA _ _ _ _
 bE:=fun h a=>by cases a
 cE:=fun h a=>by cases a
 sep:=.inl rfl
theorem Ot:o5 [] [] [] [] 0 0 where
 len:=rfl
 sorted:=fun l b=>by cases b
 perm:=⟨rfl,fun i h=>by cases h⟩
 ids:=pR
 uf:=fun x c=>by cases c
 wW:=pR
 live:=fun k a=>by cases a
 cnt:=rfl
 stored:=rfl
 most:=ai
 bound:=bH _
 small:=bH _
 size:=fun i h=>by cases h
 last:=fun i h=>by cases h
theorem SS (W:World):aK 54 #[] W fun e w'=>e=.returned (aj (W.heap.size+1))/\dL w' W.heap.size (W.heap.size+1) W.heap.size (aL) (aL) (aL) (aL) [] [] [] [] 0 0 0/\Below W.heap.size W w':=by
 have H:=ag (LZ W);have a:Hid (Below W.heap.size W ((W.alloc (.cells #[.bool true,aL,ae 0,ae 0] 290)).alloc (.cells #[aj W.heap.size,aL,aL,aL,ae 0] 207))):=((aJ _ _).alloc (aB _) _).alloc aA _;go_enter func54,ntmps54;go_wp2;go_ret;exact⟨rfl,H.o,a.o⟩
end
section
open Go.RowKit Go.Maps
attribute [local irreducible] wpQuiet
section
variable {W:World} {base A Cb:Nat} {bv pv lv cv:Value} {bh ch:List lH} {al:List Bool} {pl:List Int} {n N wk:Int}
theorem dL.SV (h:dL W base A Cb bv pv lv cv bh ch al pl n N wk) (n':Int):dL (W.setCell (af A 4) (.int .i64 n')) base A Cb bv pv lv cv bh ch al pl n' N wk where
 hb:=h.hb
 blk:=by rw[dC W A 4 _ _ _ h.blk];rfl
 fJ:=⟨h.fJ.hb,h.fJ.ds,(aC (dV h.blk h.fJ.blk ai)).trans h.fJ.blk,aX h.fJ.row fun a e=>aC (bg h.fJ.row h.blk ai a e)⟩
 gK:=aX h.gK fun a e=>aC (bg h.gK h.blk ai a e)
 iC:=aX h.iC fun a e=>aC (bg h.iC h.blk ai a e)
 dJ:=aX h.dJ fun a e=>aC (bg h.dJ h.blk ai a e)
 bE:=h.bE.kept fun b d fr c=>aC (dV h.blk c ai)
 cE:=h.cE.kept fun b d fr c=>aC (dV h.blk c ai)
 sep:=h.sep
theorem zP {e:TypeId} {sz k g c:Nat} {xs:List Value} (h:W.ownsRow base e sz (ax g k c) k xs):∃b,W.heap[g]? =some (Obj.cells b e (0,0)):=by
 rcases h.2 with⟨a,_⟩|⟨i,f,b,a,_,d,_⟩
 .cases a
 .injection a with a;injection a with a;injection a with a _ _;subst a;exact⟨b,d⟩
theorem dL.SX {g k f:Nat} (h:dL W base A Cb bv pv (ax g k f) cv bh ch al pl n N wk) (d:k=al.length) (m:Nat) (b:Bool):dL (W.setCell (af g m) (.bool b)) base A Cb bv pv (ax g k f) cv bh ch (al.set m b) pl n N wk:=by
 subst d;have⟨i,a⟩:=zP h.dJ;refine⟨h.hb,(aC (dV a h.blk ai)).trans h.blk,⟨h.fJ.hb,h.fJ.ds,(aC (dV a h.fJ.blk ai)).trans h.fJ.blk,aX h.fJ.row fun c e=>aC (bg h.fJ.row a ai c e)⟩,
  aX h.gK fun c e=>aC (bg h.gK a ai c e),aX h.iC fun c e=>aC (bg h.iC a ai c e),?_,
  h.bE.kept fun b i fr d=>aC (dV a d ai),h.cE.kept fun b i fr d=>aC (dV a d ai),h.sep⟩
 rw[kK,kM];exact(h.dJ.stored m _).1
theorem dL.Vs {g k f:Nat} (h:dL W base A Cb bv (ax g k f) lv cv bh ch al pl n N wk) (d:k=pl.length) (m:Nat) (p:Int):dL (W.setCell (af g m) (.int .i64 p)) base A Cb bv (ax g k f) lv cv bh ch al (pl.set m p) n N wk:=by
 subst d;have⟨i,a⟩:=zP h.iC;refine⟨h.hb,(aC (dV a h.blk ai)).trans h.blk,⟨h.fJ.hb,h.fJ.ds,(aC (dV a h.fJ.blk ai)).trans h.fJ.blk,aX h.fJ.row fun c e=>aC (bg h.fJ.row a ai c e)⟩,
  aX h.gK fun c e=>aC (bg h.gK a ai c e),?_,aX h.dJ fun c e=>aC (bg h.dJ a ai c e),
  h.bE.kept fun b i fr d=>aC (dV a d ai),h.cE.kept fun b i fr d=>aC (dV a d ai),h.sep⟩
 rw[kK,kM];exact(h.iC.stored m _).1
theorem ER (h:dL W base A Cb bv pv lv cv bh ch al pl n N wk) (g:o5 (ch.map (·.2.1)) (bh.map (·.2.1)) al pl n N) (F:bh.length<=1000) (L:∀l∈bh.map (·.2.1),l.length<=10000) (id p M:Int) (G:gQ (ch.map (·.2.1)).flatten al pl id M):
  aK 56 #[aj A,ak id,ae p] W (fV W (ae 2)):=by
 have j:=ag (Du h);have H:=ag h;have r:=ag (fun W' (c:Below W.heap.size W W')=>oZ A id W' _ bh bv base ((h.below c).cell.2.1) (h.below c).gK rfl (h.below c).bE g.sorted (aP F) L);have b:=ag g;have s:=ag G;go_enter func56,ntmps56
 go_wp2_with fail
 refine j.o.mono ?_;rintro e w2 ⟨rfl,d⟩
 go_wp2_with fail
 refine(r.o w2 d).mono ?_;rintro e w3 ⟨k,t,rfl,ht,D,C⟩;have a:=d.trans (C.mono d.size);have⟨m,f,z,X⟩:=s.o;obtain⟨-,-,T,U,-⟩:=(H.o.below a).cell;have E:k=(m:Int):=by
  rcases D with⟨y,i,v,w⟩|⟨-,J⟩
  .rw[fT b.o.perm]at i;have:=mo b.o.ids i f (aP v);rw[<-w,this]
  .exact absurd rfl (J _ ((fT b.o.perm _).2 f))
 subst E;have⟨I,B⟩:=fo.1 z;obtain⟨Q,R,rfl,-,-,K⟩:=Rd.aG (H.o.below a).dJ;obtain⟨P,S,u,-,x⟩:=K.get aa;have O:=x m I;rw[B]at O;have V:(m:Int)<(al.length:Int):=aa;have q:=ag u;obtain rfl:=q.o;go_wp2;go_ret;exact⟨rfl,a⟩
theorem ET (h:dL W base A Cb bv pv lv cv bh ch al pl n N wk) (z:o5 (ch.map (·.2.1)) (bh.map (·.2.1)) al pl n N) (U:bh.length<=1000) (ab:∀l∈bh.map (·.2.1),l.length<=10000) (id p:Int) (m:Nat) (w:(id,(m:Int))∈(ch.map (·.2.1)).flatten) (g:al[m]? =some false) (aB:0<=n/\n<=100000):
  aK 56 #[aj A,ak id,ae p] W fun e w'=>e=.returned (ae 0)/\dL w' base A Cb bv pv lv cv bh ch (al.set m true) (pl.set m p) (n+1) N wk/\ay (fun k=>k=A\/pv.ownBlock=some k\/lv.ownBlock=some k) W w':=by
 have F:=ag (Du h);have H:=ag h;have G:=ag (fun W' (d:Below W.heap.size W W')=>oZ A id W' _ bh bv base ((h.below d).cell.2.1) (h.below d).gK rfl (h.below d).bE z.sorted (aP U) ab);have c:=ag z;go_enter func56,ntmps56
 go_wp2_with fail
 refine F.o.mono ?_;rintro e w2 ⟨rfl,f⟩
 go_wp2_with fail
 refine(G.o w2 f).mono ?_;rintro e w3 ⟨k,t,rfl,ht,S,R⟩;have r:=f.trans (R.mono f.size);have a:=ag (H.o.below r);have⟨ad,ah,ai,am,an⟩:=a.o.cell;have T:k=(m:Int):=by
  rcases S with⟨y,B,P,Q⟩|⟨-,X⟩
  .rw[fT c.o.perm]at B;have:=mo c.o.ids B w (aP P);rw[<-Q,this]
  .exact absurd rfl (X _ ((fT c.o.perm _).2 w))
 subst T;have⟨V,aq⟩:=fo.1 g;have x:m<pl.length:=by rw[<-c.o.len];exact V
 obtain⟨u,L,M,ar,au,-,-⟩:=aQ a.o.dJ aa;obtain⟨v,ac,O,av,aw,-,-⟩:=aQ a.o.iC aa;subst M O;have C:=a.o.dJ.cellAt m aa;have E:=a.o.iC.cellAt m aa;rw[iy,g]at C;rw[iy,bZ x]at E;simp only[fP]at C E;have f4:=a.o.frozen 4;have az:(m:Int)<(al.length:Int):=aa;have aA:(m:Int)<(pl.length:Int):=aa;have b:=a.o.SV (n+1);have⟨d0,d1,d2,d3,d4⟩:=b.cell;have D:=b.dJ.cellAt m aa;have i:=b.iC.cellAt m aa;rw[iy,g]at D;rw[iy]at i;have ao:=b.dJ.frozenAt m;have K:=(b.SX rfl m true).Vs rfl m p;have s:=b.SX rfl m true;have j:=s.iC.cellAt m aa;rw[iy]at j;have ap:=s.iC.frozenAt m;have Y:∃q,pl[m]? =some q:=⟨pl[m],bZ x⟩;have⟨aC,Z⟩:=Y;rw[Z]at i j;simp only[fP]at D i j;have J:=ag K;have I:Hid (ay (fun k=>k=A\/Value.ownBlock (ax v pl.length ac)=some k\/Value.ownBlock (ax u al.length L)=some k) W (((w3.setCell (af A 4) (.int .i64 (n+1))).setCell (af u m) (.bool true)).setCell (af v m) (.int .i64 p)).drew):=
  ((((ay.refl _ W).below r).set _ (.inl (.inl rfl))).set _ (.inl (.inr (.inr rfl)))).set _ (.inl (.inr (.inl rfl)))|>.drew
 go_wp2;go_region
 all_goals
  go_wp2;go_ret;exact⟨rfl,J.o.below (aJ _ _).drew,I.o⟩
end
end
section
open Go.RowKit Go.Maps
def dF (al:List Bool) (x:iW):Bool:=al[x.2.toNat]? ==some true
theorem qC (i:Nat) (hi:i<14):0<2^i/\2^i<=8192:=⟨Nat.vJ i,zZ ai (by omega:i<=13)⟩
where Nat.vJ (i:Nat):0<2^i:=p8 ai
theorem Ou (i:Nat) (hi:i<14):wrap64 ((2:Int)^i)=((2^i:Nat):Int):=by
 have h:=qC i hi;rw[show((2:Int)^i)=((2^i:Nat):Int) by rw[Int.natCast_pow];rfl];generalize 2^i=p at*;unfold wrap64;omega
theorem RY (n i:Nat) (hi:i<14) (f:n<=10000):bits .and .i64 (n:Int) ((2^i:Nat):Int)=(if n.testBit i then((2^i:Nat):Int)else 0):=by
 have h:=qC i hi;have b:(BitVec.ofInt 64 (n:Int)).toNat=n:=by
  rw[BitVec.ofInt_natCast,BitVec.toNat_ofNat];exact Ep aa
 have c:(BitVec.ofInt 64 ((2^i:Nat):Int)).toNat=2^i:=by
  rw[BitVec.ofInt_natCast,BitVec.toNat_ofNat];exact Ep aa
 show IntKind.i64.wrap ((BitVec.ofInt 64 (n:Int) &&& BitVec.ofInt 64 ((2^i:Nat):Int)).toNat:Int)=_;have d:n &&& 2^i=if n.testBit i then 2^i else 0:=by
  apply Nat.eq_of_testBit_eq;intro j;rw[Nat.testBit_and,Nat.testBit_two_pow];by_cases a:i=j
  .subst a;cases e:n.testBit i<;>simp[]
  .cases e:n.testBit i<;>simp[a]
 rw[BitVec.toNat_and,b,c,d];generalize 2^i=p at*;cases n.testBit i<;>simp[IntKind.wrap,IntKind.bits,IntKind.signed];omega
theorem Gl (n i:Nat):(n.testBit i=true->n%2^(i+1)=n%2^i+2^i)/\(n.testBit i=false->n%2^(i+1)=n%2^i):=by
 rw[Nat.testBit_eq_decide_div_mod_eq,Nat.mod_pow_succ];have a:n/2^i%2=0\/n/2^i%2=1:=aa;generalize n/2^i%2=b at*;rcases a with rfl|rfl<;>simp
section
variable {P:Program} {ops:Array Oper} {rest:List Oper} {o:Oper} {a:Act} {Q:Exit->Act->World->Prop}
theorem vK {α:Type} {enc:α->List Value} {sz:Nat} {t e:TypeId} {bytes:Nat} (s:eG P t e sz bytes) {W:World} {ad:Option Addr} {l:List α} {c:Nat} (E:bV enc sz W ad l) (w:l.length<=c) (lo hi:Nat) (q:lo<=hi) (u:hi<=l.length)
  (y:o.guard=none) (x:Operand) (n f:Option Operand) (j:o.op=.slice t x n f none) (m:a.eval x=.slice ad l.length c)
  (g:(n.map a.eval).getD (.int .i64 0)=.int .i64 lo) (b:(f.map a.eval).getD (.int .i64 l.length)=.int .i64 hi)
  (h:∀p,(∀W',bV enc sz W' ad l->bV enc sz W' p ((l.take hi).drop lo))->wpList P ops Q rest (a.put o.dst (.slice p (hi-lo) (c-lo))) W):wpList P ops Q (o::rest) a W:=by
 obtain⟨ht,⟨i,z,A,G,C,D,H⟩,F⟩:=s;refine wpList_plain y fun K v=>?_;have d:=v _ _ (h _ (fun W' B=>EF B w lo hi u));have hu:∀W',(underlying t).run P W'=.ok (.slice e) W':=fun W'=>pQ ht W';have k:∀W',(sizeOf e).run P W'=.ok sz W':=fun W'=>by simp[sizeOf,typeInfo,A,C]
 unfold Oper.wp execOp;have r:hi<=c:=aa;rcases n with _|lw
 .simp only[lJ,mK,pO,qb]at g;obtain rfl:lo=0:=aa;rcases f with _|hg
  .simp only[lJ,mK,pO,qb]at b;obtain rfl:hi=l.length:=aa;simp only[j,m,lJ,Instr.sliceAt,Instr.slice,Instr.sliceBounds,xW,hu,k,xN,xX];exact d
  .simp only[fP,gG]at b;simp[j,m,b,Instr.sliceAt,Instr.slice,Instr.sliceBounds,Instr.sliceBound,hu,k,asIntOf,r];simp only[Nat.zero_mul,Nat.sub_zero]at d;exact d
 .simp only[fP,gG]at g;rcases f with _|hg
  .simp only[lJ,mK,pO,qb]at b;obtain rfl:hi=l.length:=aa;simp[j,m,g,Instr.sliceAt,Instr.slice,Instr.sliceBounds,Instr.sliceBound,hu,k,asIntOf,q];exact d
  .simp only[fP,gG]at b;simp[j,m,g,b,Instr.sliceAt,Instr.slice,Instr.sliceBounds,Instr.sliceBound,hu,k,asIntOf,q,r];exact d
end
end
section
open Go.RowKit Go.Maps
attribute [local irreducible] wpQuiet
def Vt (W:World) (base Cb:Nat) (wk:Int) (l:List iW) (e:Ending) (w':World):Prop:=
 ∃(Ct:Value) (qU:List lH) (Kg:Int),e=.returned (ae l.length)/\iU w' base Cb Ct qU l.length Kg/\jX w' qU/\qU.map (·.2.1)=setC (Lib.bitLen l.length) l/\
  (Ct.ownBlock=none\/∃b,Ct.ownBlock=some b/\W.heap.size<=b)/\ay (fun k=>k=Cb) W w'/\Nw W.heap.size [] qU/\Kg=wrap64 (wk+(l.length:Int))
theorem QJ {W:World} {base Cb:Nat} {cv:Value} {ch:List lH} {N wk:Int} (h:iU W base Cb cv ch N wk) (cm:base<=W.heap.size) (a:Option Addr) (l:List iW) (c:Nat) (bb:LY W a l) (bR:l.length<=c) (aE:l.length<=10000):
  aK 211 #[aj Cb,.slice a l.length c] W (Vt W base Cb wk l):=by
 have aS:=ag (sF h);have H:=ag h;have bJ:=fA aE ai;have bK:Lib.bitLen 10000=14:=ai;rw[bK]at bJ;have aZ:=ag bb;have a0:l.length<2^Lib.bitLen l.length:=by
  by_cases a7:l.length=0
  .rw[a7];decide
  .exact(bB _ aa a7).2.2
 have bp:=ag a0;clear a0;clear h bb;go_enter func211,ntmps211
 go_wp2_with fail
 refine aS.o.mono ?_;rintro e w2 ⟨rfl,B⟩;have C:=ag (H.o.below B);obtain⟨bC,bD,bE,bF⟩:=C.o.cell;have f1:=C.o.frozen 1;have Z:Hid (iU (w2.setCell (af Cb 1) (aL)) base Cb (aL) [] N wk):=ik.Lx (ch:=ch) C.o.blk C.o.hb C.o.ds (dA _ _ _ _) (by simp[Value.ownBlock]);obtain⟨d0,d1,d2,d3⟩:=Z.o.cell;have f2:=Z.o.frozen 2;have a3:Hid (iU ((w2.setCell (af Cb 1) (aL)).setCell (af Cb 2) (.int .i64 l.length)) base Cb (aL) [] l.length wk):=Z.o.A7 _;have a2:Hid (ay (fun k=>k=Cb) W ((w2.setCell (af Cb 1) (aL)).setCell (af Cb 2) (.int .i64 l.length))):=(((ay.refl (fun k=>k=Cb) W).below B).set (a:=(af Cb 1)) _ (.inl rfl)).set (a:=(af Cb 2)) _ (.inl rfl);have ck:=H.o.lt;clear aS
 go_upto_block 0 with fail
 go_cut []from 19 to 33 (fun w=>∃v,Hid (iU w base Cb v (List.replicate (Lib.bitLen l.length) fH) l.length wk)/\Hid (v.ownBlock=none\/∃b,v.ownBlock=some b/\W.heap.size<=b)/\Hid (ay (fun k=>k=Cb) W w))
 case first=>
  go_wp2_with fail
  generalize((w2.setCell (af Cb 1) (aL)).setCell (af Cb 2) (.int .i64 l.length))=w3 at*
  go_loopw [5] (fun aN wr=>∃(k m:Nat) (v:Value),aN=.int .i64 m/\m<=10000/\Hid (k+Lib.bitLen m=Lib.bitLen l.length)/\Hid (iU wr base Cb v (List.replicate k fH) l.length wk)/\Hid (v.ownBlock=none\/∃b,v.ownBlock=some b/\W.heap.size<=b)/\Hid (ay (fun k=>k=Cb) W wr)) (fun aN _=>(intOf aN).toNat)
  case atStart=>exact⟨0,l.length,_,rfl,aE,(by show _=_;omega),a3,.inl rfl,a2⟩
  case round=>
   obtain⟨k,m,v,rfl,bY,aY,f,E,s⟩:=hrel;by_cases zz:m=0
   .subst zz;obtain rfl:k=Lib.bitLen l.length:=aY.o
    go_wp2_with fail
    go_meet;exact⟨v,f,E,s⟩
   .have aW:Hid (k+1+Lib.bitLen (m/2)=Lib.bitLen l.length):=by
     have:=Lib.bitLen_half m zz aa;have:=aY.o;show _=_;omega
    have ah:k+1<=14:=by have:=aW.o;omega
    have J:=f.o.row;rw[iw]at J;have b1:=f.o.ne;have cy:(0:Int)<(m:Int):=aa;obtain⟨aw,az,aA,aC⟩:=f.o.cell;have bt:Hid (∀w6,wr.grownBy w6 v.ownBlock->w6.heap[Cb]? =some (Obj.cells #[.bool true,v,ae l.length,ae wk] 290 (0,0))):=fun w6 ac=>(ac.block Cb f.o.lt (fun e=>f.o.ne e.symm)).trans f.o.blk
    go_wp2_with (at_builtin;refine bX Kq base J [aL] rfl (by simp[Value.oneCell']) rfl _ _ rfl rfl _ rfl dI aa (by have:=s.o.size;omega) ?_;intro cE w6 bd ac ba;obtain⟨a6,j,rfl,cq,cr,cs,ct⟩:=aQ bd aa;have aJ:=bt.o w6 ac;have cC:w6.cell? (af Cb 1)=some v:=(aD aJ);have cD:w6.frozen? (af Cb 1)=false:=(aD aJ))
    have cl:=f.o.lt;have b2:w6.ownsRow base 209 1 (ax a6 (k+1) j) (List.replicate (k+1) (fH:lH)).length ((List.replicate (k+1) (fH:lH)).map dS):=by
     rw[iw,Dn,bP];exact bd
    have b3:Value.ownBlock (ax a6 (k+1) j)≠some Cb:=by
     rcases ba with h9|h9
     .rw[h9];exact b1
     .rw[h9];simp;omega
    go_roundw
    case rel=>
     refine⟨k+1,m/2,_,by go_num,aa,aW,ik.Lx (ch:=List.replicate k fH) aJ f.o.hb f.o.ds b2 b3,?_,(s.o.grown ac ?_).set (a:=(af Cb 1)) _ (.inl rfl)⟩
     .rcases ba with h9|h9
      .rw[h9];exact E
      .exact .inr ⟨_,h9,by have:=s.o.size;simp;omega⟩
     .intro b i;rcases E.o with h9|⟨b5,h9,Q⟩
      .rw[h9]at i;cases i
      .rw[h9]at i;injection i with i;subst i;exact .inr Q
    case measure=>exact dX
 case rest=>
  obtain⟨v,f,E,s⟩:=hcut;obtain⟨w3,bI⟩:∃w3:World,w3=wc:=⟨_,rfl⟩;subst bI;clear Z a3 a2 bC bD bE bF f1 f2 d0 d1 d2 d3 C B;generalize bL:Lib.bitLen l.length=K at*;obtain⟨x,aF⟩:∃x,x=v.ownBlock:=⟨_,rfl⟩;have a1:Hid (∀W',ay (fun k=>k=Cb\/x=some k) w3 W'->bV iK 2 W' a l):=fun W' R=>((aZ.o.kept (H.o.eZ rfl (s.o.mono (fun k h=>.inl h)))).kept (f.o.eZ aF R)).Nr;have au:=ag aF;clear aF;have ao:=f.o;have bu:Hid (jX w3 (List.replicate K fH)):=Dp _ _;have bq:Hid ((List.replicate K (fH:lH)).map (·.2.1)=List.replicate K []++[]):=by show _=_;simp
  have bo:Hid (l.length=l.length%2^K):=(Ep bp.o).symm;obtain⟨av,P,bh,-,bS,-⟩:=Rd.aG (enc:=dS) ao.row;rw[iw]at bh bS;subst bh;obtain⟨b8,b9,ca,cb⟩:=ao.cell;clear ao
  go_upto_block 2 with fail
  go_cut []from 35 to 64 (fun w=>∃ch1,Hid (iU w base Cb (.slice av K P) ch1 l.length wk)/\Hid (Nw W.heap.size [] ch1)/\Hid (jX w ch1)/\Hid (ch1.map (·.2.1)=setC K l)/\Hid (ay (fun k=>k=Cb\/x=some k) w3 w))
  case first=>
   go_wp2_with fail
   go_loopw [7,6] (fun aI b4 wr=>∃(m:Nat) (ad:Option Addr) (r:List iW) (y:Nat) (ch1:List lH) (T:List (List iW)),aI=.int .i64 ((m:Int)-1)/\b4=.slice ad r.length y/\m<=K/\r.length<=y/\Hid (r.length=l.length%2^m)/\Hid (∀W',ay (fun k=>k=Cb\/x=some k) w3 W'->bV iK 2 W' ad r)/\
    Hid (iU wr base Cb (.slice av K P) ch1 l.length wk)/\Hid (Nw W.heap.size [] ch1)/\Hid (jX wr ch1)/\Hid (ch1.map (·.2.1)=List.replicate m []++T)/\Hid (setC K l=setC m r++T)/\Hid (ay (fun k=>k=Cb\/x=some k) w3 wr)) (fun aI _ _=>(intOf aI+1).toNat)
   case atStart=>exact⟨K,a,l,c,_,[],by go_num,rfl,aB _,bR,bo,a1,f,Nw.Sy,bu,bq,(by show _=_;simp),ay.refl _ _⟩
   case round=>
    obtain⟨m,ad,r,y,ch1,T,rfl,rfl,bY,bg,X,M,q,L,D,A,Y,t⟩:=hrel;rcases nC m with zz|zz
    .subst zz;have cn:¬(0:Int)<=((0:Nat):Int)-1:=aa
     go_wp2_with fail
     go_meet;exact⟨ch1,q,L,D,(by have d:=A.o;have G:=Y.o;show _=_;rw[d,G];rfl),t⟩
    .obtain⟨k,rfl⟩:∃k,m=k+1:=⟨m-1,aa⟩;have ah:k<14:=aa;have ak:=Gl l.length k;have cx:r.length<=l.length:=by rw[X.o];exact Nat.mod_le _ _
     have bz:=Ou k ah;have O:=RY l.length k ah aE;have hp:=qC k ah;have bU:(((k+1:Nat):Int)-1)=(k:Int):=aa;have cu:(0:Int)<=(k:Int):=aa;have aH:ch1.length=K:=by
      have d:=congrArg List.length A.o;have G:=congrArg List.length Y.o;rw[eD,bQ,eD]at G;simp at d;omega
     rw[bU];by_cases i:l.length.testBit k=true
     .rw[i]at O;simp only[gN]at O;have I:=ak.1 i;rw[<-X.o]at I;have al:2^k<=r.length:=aa;have ar:Hid (setC K l=setC k (r.drop (2^k))++r.take (2^k)::T):=by
       have d:=Y.o;rw[setC,aO al,dY]at d;exact d
      have V:Hid (∀hd:lH,hd.2.1=r.take (2^k)->(ch1.set k hd).map (·.2.1)=List.replicate k []++r.take (2^k)::T):=fun hd h9=>by
       rw[kM,A.o,h9,FZ]
      have aq:Hid ((r.drop (2^k)).length=l.length%2^k):=by
       show _=_;rw[mJ];omega
      clear ak i I;generalize S:2^k=p at*;have ap:=ag S;clear S;obtain⟨b,off,bH,bO,-⟩:=(M.o wr t.o).get aa;subst bH;obtain⟨g,b6,ab,co,cp,-,-⟩:=aQ q.o.row aa;rw[aH]at ab;injection ab with ab _ bG;subst ab bG;obtain⟨aw,az,aA,aC⟩:=q.o.cell;have U:(r.take p).length=p:=by rw[eX];omega
      have an:=ag (Bq (some (af b off)) (r.take p) p y wr.drew U ((M.o wr.drew t.o.drew).take p) aa);have cA:(0:Int)<=(p:Int)/\(p:Int)<=(r.length:Int):=aa;have cz:(p:Int)<=(y:Int):=aa;have be:((p:Int)!=0)=true:=by simp only[bne_iff_ne,ne_eq];omega
      go_upto_region 14 with fail
      simp only[bz,O,be]
      go_cut []from 52 to 61 (fun w=>∃F,Hid (iU w base Cb (ax g K P) F l.length wk)/\Hid (Nw W.heap.size [] F)/\Hid (jX w F)/\Hid (F.map (·.2.1)=List.replicate k []++r.take p::T)/\Hid (ay (fun k=>k=Cb\/x=some k) w3 w))
      case first=>
       have bi:aK 204 #[.slice (some (af b off)) p y] wr.drew fun e w6=>∃u j z,e=.returned (.slice u p j)/\Hid (p<=j)/\Hid (∀a,u=some a->W.heap.size<=a.block)/\Hid (LY w6 u (r.take p))/\Hid (iU w6 base Cb (ax g K P) ch1 l.length wk)/\Hid (Below wr.drew.heap.size wr.drew w6)/\w6.cell? (af Cb 1)=some (ax g K P)/\w6.cell? (af g k)=some z/\w6.frozen? (af g k)=false:=by
        refine an.o.mono ?_;rintro e w6 ⟨cF,rfl,bc,a9⟩;obtain⟨u,j,rfl,ci,a8,bM⟩:=LY.aG bc;have am:=q.o.drew.below a9;obtain⟨cd,a5,ce,cf⟩:=am.cell;have J:=am.row;rw[aH]at J;have aR:=J.cellAt k aa;have a4:=J.frozenAt k;rw[bZ (show k<(ch1.map dS).length by simp;omega)]at aR;rw[U]at a8;exact⟨u,j,_,by rw[U],a8,(fun a bN=>by have d:=(bc.lt a.block (by rw[bN];rfl)).1;have G:=t.o.size;have cg:=s.o.size;simp at d;omega),bM,am,a9,a5,aR,a4⟩
       clear an;have cw:(k:Int)<(K:Int):=aa
       go_region_with (go_at_call 204;with_reducible refine bi.mono ?_;rintro e w6 ⟨u,j,z,rfl,bm,bj,bx,aV,aU,a5,aR,a4⟩)
       all_goals go_wp2_with fail
       all_goals go_meet
       all_goals
        have bW:Value.slice u p j=dS (u,r.take p,j):=by unfold dS;simp only;rw[U]
        rw[bW];have bT:x=some g:=au.o;exact⟨ch1.set k (u,r.take p,j),aV.o.Lv aH.symm k _,L.o.set bj.o,F3 (D.o.kept (W':=w6) fun b b7 fr i=>aT (W:=wr.drew) aU.o i) (aV.o.eZ (W':=w6.setCell (af g k) (dS (u,r.take p,j))) rfl ((ay.refl _ w6).set (a:=(af g k)) _ (.inl (.inr rfl)))) bx.o (by show(r.take p).length<=j;rw[U];exact bm.o),V.o _ rfl,(((t.o.drew).below aU.o).set (a:=(af g k)) _ (.inl (.inr bT)))⟩
      case rest=>
       obtain⟨F,bk,bs,bv,br,aX⟩:=hcut;clear an q D A V t aw az aA aC bO be X
       go_wp2_with (refine vK Gj (M.o _ aX.o) bg p r.length al (aB _) rfl _ _ _ rfl rfl rfl rfl ?_;intro bA bf;simp only[jK]at bf)
       go_roundw
       case rel=>exact⟨k,bA,r.drop p,y-p,F,r.take p::T,rfl,(by rw[mJ]),aa,(by rw[mJ];omega),(by rw[ap.o];exact aq),(fun W' R=>bf W' (M.o W' R)),bk,bs,bv,br,ar,aX⟩
       case measure=>simp[intOf]
     .have B:l.length.testBit k=false:=aP i;rw[B]at O;simp only[jO,qP]at O;have I:=ak.2 B;rw[<-X.o]at I;have al:¬2^k<=r.length:=by have:=qa l.length (p8 (n:=k) (show 0<2 by decide));omega
      have ar:Hid (setC K l=setC k r++[]::T):=by
       have d:=Y.o;rw[setC,aM al,dY]at d;exact d
      have V:Hid (ch1.map (·.2.1)=List.replicate k []++[]::T):=by
       have d:=A.o;rw[ry,dY]at d;exact d
      have aq:=ag I;clear ak i B I;generalize S:2^k=p at*;have ap:=ag S;clear S
      go_wp2_with fail
      go_roundw
      case rel=>exact⟨k,ad,r,y,ch1,[]::T,rfl,rfl,aa,bg,by rw[ap.o];exact aq,M,q,L,D,V,ar,t⟩
      case measure=>simp[intOf]
  case rest=>
   obtain⟨ch1,q,L,D,A,t⟩:=hcut;obtain⟨aw,az,aA,aC⟩:=q.o.cell;have cc:=q.o.frozen 3;have bl:=ag (q.o.Qo (wrap64 (wk+(l.length:Int))));have bw:Hid (jX (wc.setCell (af Cb 3) (.int .i64 (wrap64 (wk+(l.length:Int))))) ch1):=D.o.kept (q.o.eZ rfl ((ay.refl _ wc).set (a:=(af Cb 3)) _ (.inl (.inl rfl))));have bn:Hid (ay (fun k=>k=Cb) W (wc.setCell (af Cb 3) (.int .i64 (wrap64 (wk+(l.length:Int)))))):=by
    have cB:=s.o.size;have d:ay (fun k=>k=Cb\/W.heap.size<=k) W wc:=(s.o.mono (fun k h=>.inl h)).trans (t.o.mono (fun k h=>h.imp id (fun h9=>by
     rcases E.o with Q|⟨b,Q,cj⟩
     .rw[au.o,Q]at h9;cases h9
     .rw[au.o,Q]at h9;injection h9 with h9;omega)))
    have G:ay (fun k=>k=Cb) W wc:=⟨d.os,d.tape,d.output,d.size,fun k R b0=>d.block k R (fun h9=>by rcases h9 with h9|h9;exact b0 h9;omega)⟩;exact G.set (a:=(af Cb 3)) _ (.inl rfl)
   clear s t a1 f aZ;go_wp2;go_ret;exact⟨_,ch1,_,rfl,bl.o,bw.o,by rw[bL];exact A.o,E.o,bn.o,L.o,rfl⟩
end
section
open Go.RowKit Go.Maps
theorem jy {α:Type} (CB:List (List α)) (i:Nat):(eO CB i).Perm (CB.take i).flatten:=by
 unfold eO;exact(uN _).flatten
theorem tJ {α:Type} (CB:List (List α)) (i:Nat) (x:α) (f:∀h:i<CB.length,CB[i]=[]):(kC CB i x).flatten.Perm (x::CB.flatten):=by
 have b:(List.replicate i ([]:List α)).flatten=[]:=aA;have c:CB.flatten=(CB.take i).flatten++(CB.drop (i+1)).flatten:=by
  by_cases h:i<CB.length
  .have d:CB=CB.take i++(CB[i]::CB.drop (i+1)):=by rw[<-mE h,jB]
   have a:=congrArg List.flatten d;rw[f h,kY,uM,fO]at a;exact a
  .rw[jJ aa,ow aa];simp
 unfold kC;rw[kY,b,fO,uM,c];have e:(eO CB i++[x]).Perm (x::(CB.take i).flatten):=List.perm_append_comm.trans ((jy CB i).cons x);exact e.append_right _
theorem yD {α:Type} (CB:List (List α)) (i:Nat) (hi:i<=CB.length) (h:∀j (a:j<CB.length),j<i->CB[j].length=2^j):(eO CB i).length+1=2^i:=by
 rw[(jy CB i).length_eq]
 induction i with
 |zero=>simp
 |succ k ih=>
  rw[ig aa,kY,bQ];have b:=ih aa (fun j a d=>h j a aa);have c:=h k aa aa;simp only[uM,List.flatten_nil,iL];rw[pW];omega
theorem o6 {α:Type} (CB:List (List α)) (i:Nat) (x:α) (hi:i<=CB.length):(kC CB i x).length=if i<CB.length then CB.length else i+1:=by
 unfold kC;simp;split<;>omega
theorem o7 {α:Type} (CB:List (List α)) (i:Nat) (x:α) (j:Nat) (c:j<(kC CB i x).length):(kC CB i x)[j]=if j<i then[]else if j=i then eO CB i++[x]else CB.getD j []:=by
 have e:(kC CB i x)[j]? =some ((kC CB i x)[j]):=bZ c;generalize(kC CB i x)[j]=X at*;unfold kC at e;by_cases a:j<i
 .rw[aO a];rw[lQ (aP a)]at e;simp[a]at e
  first|exact e|exact e.symm
 .rw[aM a];rw[nz aF,iw]at e;by_cases b:j=i
  .rw[aO b];subst b;rw[iM,fG]at e;injection e with e;exact e.symm
  .rw[aM b];rw[show j-i=(j-i-1)+1 by omega,dx,Ej,show i+1+(j-i-1)=j by omega]at e;rw[ja,e];rfl
theorem wX {l:List Nat} {n:Nat} (h:l.Nodup) (d:∀k∈l,k<n):l.length<=n:=by
 have b:((List.range n).filter fun k=>decide (k∈l)).Nodup:=lS _ List.nodup_range;have c:=(y5 h b).2 (fun k=>by
  simp only[bD,uV,bN];exact⟨fun a=>⟨d k a,a⟩,fun a=>a.2⟩)
 rw[c.length_eq];have:=gV (fun k=>decide (k∈l)) (List.range n);simpa using this
theorem jY {f:iW->Int} {l m:List iW} (h:l.Perm m):(l.map f).Nodup↔(m.map f).Nodup:=(h.map f).nodup_iff
theorem I8 (al:List Bool):((List.range al.length).filter fun k=>al[k]? ==some true).length=al.count true:=by
 induction al with
 |nil=>rfl
 |cons b l ih=>
  rw[ed,List.range_succ_eq_map,lW,xP,List.count_cons,<-ih];have e:((fun k=>(b::l)[k]? ==some true)∘Nat.succ)=fun k=>l[k]? ==some true:=rfl;rw[e];cases b<;>simp
theorem L6 {d:List iW} {al:List Bool} (l:∀x∈d,∃k:Nat,x.2=k/\k<al.length) (u:(d.map (·.2)).Nodup) (t:∀k:Nat,al[k]? =some true->∃x∈d,x.2=k):(d.filter (dF al)).length=al.count true:=by
 rw[<-I8 al];have p:((d.filter (dF al)).map fun x=>x.2.toNat).Nodup:=by
  have f:((d.filter (dF al)).map (·.2)).Nodup:=by
   have g:=dm.1 u;exact dm.2 (lS _ g)
  have g:=dm.1 f;refine dm.2 (g.imp_of_mem ?_);intro a b c r n h;obtain⟨k,i,-⟩:=l a (bD.1 c).1;obtain⟨m,e,-⟩:=l b (bD.1 r).1;rw[i,e]at n;simp only[i,e,ib]at h;exact n (by rw[h])
 have f:((List.range al.length).filter fun k=>al[k]? ==some true).Nodup:=lS _ List.nodup_range;have q:=(y5 p f).2 (fun k=>by
  simp only[cu,bD,uV];constructor
  .rintro⟨x,⟨j,c⟩,rfl⟩;obtain⟨m,e,s⟩:=l x j;unfold dF at c;rw[e,ib]at c |-;exact⟨s,c⟩
  .rintro⟨i,c⟩;obtain⟨x,j,o⟩:=t k (aP c);refine⟨x,⟨j,?_⟩,by rw[o,ib]⟩;unfold dF;rw[o,ib];exact c)
 rw[<-q.length_eq,bR]
theorem SY:o5 [] [] [] [] 0 0:=by
 refine⟨⟨rfl,aA,⟨rfl,fun i h=>absurd h (jL _)⟩,aA,aA,aA,aA,rfl,rfl,aA,aA,fun i h=>absurd h (jL _),fun i h=>absurd h (jL _)⟩,aa⟩
theorem QK {CB NB:List (List iW)} {al:List Bool} {pl:List Int} {n N:Int} (h:o5 CB NB al pl n N) (m:Nat) (p id:Int) (b:(id,(m:Int))∈CB.flatten) (hd:al[m]? =some false):o5 CB NB (al.set m true) (pl.set m p) (n+1) N:=by
 obtain⟨c,d⟩:=fo.1 hd;refine⟨⟨aP h.len,h.sorted,h.perm,h.ids,fun x f=>by simpa using h.uf x f,h.wW,?_,?_,h.stored,aP h.bound,h.small,h.size,h.last⟩,by have:=h.most;omega⟩
 .intro k a;by_cases e:k=m
  .subst e;exact⟨_,b,rfl⟩
  .rw[nP (fun h=>e h.symm)]at a;exact h.live k a
 .rw[List.count_set c,d,h.cnt];simp
theorem Kt {CB NB:List (List iW)} {al:List Bool} {pl:List Int} {n N:Int} (h:o5 CB NB al pl n N) (m:Nat) (hd:al[m]? =some true):wV CB NB (al.set m false) pl (n-1) N:=by
 obtain⟨b,c⟩:=fo.1 hd;refine⟨aP h.len,h.sorted,h.perm,h.ids,fun x d=>by simpa using h.uf x d,h.wW,?_,?_,h.stored,aP h.bound,h.small,h.size,h.last⟩
 .intro k a;by_cases e:k=m
  .subst e;rw[uh b]at a;cases a
  .rw[nP (fun h=>e h.symm)]at a;exact h.live k a
 .have f:0<al.count true:=List.count_pos_iff.2 (c▸bG b);rw[List.count_set b,c,h.cnt];simp;omega
theorem Ov {CB NB:List (List iW)} {al:List Bool} {pl:List Int} {n N:Int} (h:o5 CB NB al pl n N) (id p:Int) (O:∀x∈CB.flatten,x.1≠id) (z:al.length<5000) (i:Nat) (hi:i<=CB.length) (M:∀j (o:j<CB.length),j<i->CB[j]≠[]) (G:∀h:i<CB.length,CB[i]=[])
  (l':List iW) (hp:l'.Perm (eO CB i++[(id,(al.length:Int))])) (P:l'.Pairwise fun p q=>p.1<=q.1):
  o5 (kC CB i (id,(al.length:Int))) (List.replicate i []++l'::NB.drop (i+1)) (al++[true]) (pl++[p]) (n+1) (N+1):=by
 have hP:=tJ CB i (id,(al.length:Int)) G;have E:=h.len;have Q:=h.perm.1;have K:(kC CB i (id,(al.length:Int))).length=(List.replicate i []++l'::NB.drop (i+1)).length:=by
  rw[o6 _ _ _ hi];simp;split<;>omega
 have R:CB.flatten.length<=al.length:=by
  have h1:=h.wW;have v:(CB.flatten.map fun x=>x.2.toNat).Nodup:=by
   have s:=dm.1 h1;refine dm.2 (s.imp_of_mem ?_);intro a b F z w h9;obtain⟨k,c,-⟩:=h.uf a F;obtain⟨m,r,-⟩:=h.uf b z;rw[c,r]at w;simp only[c,r,ib]at h9;exact w (by rw[h9])
  have s:=wX v (n:=al.length) (fun k c=>by
   obtain⟨x,hx,rfl⟩:=cu.1 c;obtain⟨m,r,L⟩:=h.uf x hx;rw[r,ib];exact L)
  rwa [bR]at s
 refine⟨⟨by simp[E],?_,⟨K.symm,?_⟩,?_,?_,?_,?_,?_,?_,aF,by rw[hP.length_eq,ed];omega,?_,?_⟩,by have:=h.most;omega⟩
 .intro l g;rcases bO.1 g with h1|h1
  .rw[(Ag.1 h1).2];exact List.Pairwise.nil
  .rcases ic.1 h1 with rfl|h1
   .exact P
   .exact h.sorted l (Il h1)
 .intro j h1 v;rw[o7];by_cases f:j<i
  .rw[aO f,qK (aP f)];simp
  .rw[aM f,vX aF];by_cases d:j=i
   .subst d;rw[aO rfl];simp;exact hp
   .rw[aM d];simp only[iw];have C:j-i=(j-i-1)+1:=aa;have H:j<NB.length:=by simp at h1;omega
    have D:(l'::NB.drop (i+1))[j-i]'(by simp at h1 |-;omega)=NB[j]:=by
     rw[<-jk,<-bZ,<-bZ,C,dx,Ej];congr 1;omega
    rw[D,ja,bZ aa,gG];exact h.perm.2 j H aa
 .rw[jY hP,lX,mH];refine⟨fun hx=>?_,h.ids⟩;obtain⟨y,u,e⟩:=cu.1 hx;exact O y u e
 .intro x hx;rcases ic.1 (hP.mem_iff.1 hx)with rfl|hx
  .exact⟨al.length,rfl,aA⟩
  .obtain⟨k,c,t⟩:=h.uf x hx;exact⟨k,c,aF⟩
 .rw[jY hP,lX,mH];refine⟨fun hx=>?_,h.wW⟩;obtain⟨y,u,e⟩:=cu.1 hx;obtain⟨k,c,t⟩:=h.uf y u;simp only at e;omega
 .intro k c;by_cases t:k<al.length
  .rw[lQ t]at c;obtain⟨x,hx,e⟩:=h.live k c;exact⟨x,hP.mem_iff.2 (kX _ hx),e⟩
  .have I:=(fo.1 c).1;simp at I;have:k=al.length:=aa;subst this;exact⟨_,hP.mem_iff.2 (nQ),rfl⟩
 .rw[h.cnt];simp
 .rw[hP.length_eq,h.stored];simp
 .intro j o;rw[o7];by_cases f:j<i
  .rw[aO f];left;rfl
  .rw[aM f];by_cases d:j=i
   .subst d;rw[aO rfl];right;rw[bQ,zX];refine yD CB j hi fun k c J=>?_;rcases h.size k c with h9|h9
    .exact absurd (gU h9) (M k c J)
    .exact h9
   .rw[aM d,ja];have B:j<CB.length:=by rw[o6 _ _ _ hi]at o;split at o<;>omega
    rw[bZ B,gG];exact h.size j B
 .intro j o g;rw[o7];rw[o6 _ _ _ hi]at g;by_cases A:i<CB.length
  .rw[aO A]at g;rw[aM aa];by_cases d:j=i
   .rw[aO d];simp
   .rw[aM d,ja,bZ aa,gG];exact h.last j aa g
  .rw[aM A]at g;rw[aM aa,aO aa];simp
theorem Ku {CB NB NB':List (List iW)} {al:List Bool} {pl:List Int} {n N:Int} (h:wV CB NB al pl n N) (y:Dv NB' (setC (Lib.bitLen ((CB.reverse.flatten).filter (dF al)).length) ((CB.reverse.flatten).filter (dF al)))) (z:∀l∈NB',l.Pairwise fun p q=>p.1<=q.1):
  o5 (setC (Lib.bitLen ((CB.reverse.flatten).filter (dF al)).length) ((CB.reverse.flatten).filter (dF al))) NB' al pl n ((CB.reverse.flatten).filter (dF al)).length/\
  (∀id p,gQ (setC (Lib.bitLen ((CB.reverse.flatten).filter (dF al)).length) ((CB.reverse.flatten).filter (dF al))).flatten al pl id p↔gQ CB.flatten al pl id p):=by
 have o:CB.reverse.flatten.Perm CB.flatten:=(uN CB).flatten;have hF:=o.filter (dF al);have C:((CB.reverse.flatten).filter (dF al)).length=al.count true:=by rw[hF.length_eq];exact L6 h.uf h.wW h.live
 have B:=h.cnt;have w:((CB.reverse.flatten).filter (dF al)).length<=5000:=by
  have b:=gV (dF al) CB.reverse.flatten;rw[o.length_eq]at b;exact bA b h.small
 generalize A:(CB.reverse.flatten).filter (dF al)=L at*;have m:L.length<2^Lib.bitLen L.length:=by
  by_cases a:L.length=0
  .rw[a];decide
  .exact(bB _ aa a).2.2
 have hP:=(kQ _ L m).trans hF;have t:∀x∈CB.flatten.filter (dF al),x∈CB.flatten:=fun x c=>(bD.1 c).1;refine⟨⟨⟨h.len,z,y,?_,?_,?_,?_,h.cnt,?_,h.bound,?_,yj _ _,?_⟩,aa⟩,?_⟩
 .rw[jY hP];exact dm.2 (lS _ (dm.1 h.ids))
 .intro x c;exact h.uf x (t x (hP.mem_iff.1 c))
 .rw[jY hP];exact dm.2 (lS _ (dm.1 h.wW))
 .intro k s;have⟨x,c,e⟩:=h.live k s;refine⟨x,hP.mem_iff.2 (bD.2 ⟨c,?_⟩),e⟩;unfold dF;rw[e,ib,s];rfl
 .rw[(kQ _ L m).length_eq]
 .rw[(kQ _ L m).length_eq];exact w
 .intro i hi g;rw[eD]at g;have a:L.length≠0:=by
   intro a;rw[a]at g;rw[show Lib.bitLen 0=0 from rfl]at g;omega
  have r:=bB L.length aa a;have e:Lib.bitLen L.length=i+1:=g.symm;have v:=LA i L (by rw[e]at r;simpa using r.2.1) (by rw[eD];omega);have d:(setC (Lib.bitLen L.length) L)[i]? =(setC (i+1) L)[i]? :=by rw[e]
  intro u;rw[bZ hi,bZ (by rw[eD];omega),u]at d;injection d with d;exact v d.symm
 .intro id p;unfold gQ;constructor
  .rintro⟨k,b,f,j⟩;exact⟨k,t _ (hP.mem_iff.1 b),f,j⟩
  .rintro⟨k,b,f,j⟩;refine⟨k,hP.mem_iff.2 (bD.2 ⟨b,?_⟩),f,j⟩;unfold dF;rw[ib,f];rfl
theorem Gm {a b:Nat} (h:2^a<=b) (c:b<2^13):a<13:=by
 rcases Nat.lt_or_ge a 13 with h1|h1
 .exact h1
 .have:=zZ (n:=2) ai h1;omega
theorem qD {l:List iW} {CB:List (List iW)} (h:l∈CB):l.length<=CB.flatten.length:=(DZ h).length_le
theorem wV.levels {CB NB:List (List iW)} {al:List Bool} {pl:List Int} {n N:Int} (h:wV CB NB al pl n N):CB.length<=13/\(CB.length≠0->2^(CB.length-1)<=CB.flatten.length):=by
 rcases nC CB.length with h0|h0
 .rw[h0];exact⟨ai,fun h=>absurd rfl h⟩
 .have a:CB.length-1<CB.length:=aa;have c:=h.last _ a aa;have d:CB[CB.length-1].length=2^(CB.length-1):=by
   rcases h.size _ a with h9|h9
   .exact absurd (gU h9) c
   .exact h9
  have b:=qD (bG a);rw[d]at b;have e:=Gm b (by have:=h.small;omega);exact⟨aa,fun _=>b⟩
theorem uu:∀{NB CB:List (List iW)},Dv NB CB->NB.flatten.Perm CB.flatten
 |[],[],_=>nS _
 |[],_::_,h=>by cases h.1
 |_::_,[],h=>by cases h.1
 |a::NB,b::CB,h=>by
  rw[uM,uM];exact(h.2 0 aA aA).append (uu (NB:=NB) (CB:=CB) ⟨aP h.1,fun i c d=>h.2 (i+1) (aP c) (aP d)⟩)
theorem wV.RZ {CB NB:List (List iW)} {al:List Bool} {pl:List Int} {n N:Int} (h:wV CB NB al pl n N):NB.length<=13/\NB.flatten.length<=5000/\(∀l∈NB,l.length<=5000)/\CB.flatten.length<=5000:=by
 have c:=h.levels.1;have d:=h.perm.1;have b:=h.small;have e:NB.flatten.length=CB.flatten.length:=(uu h.perm).length_eq;exact⟨aa,aa,fun l a=>by have:=qD a;omega,b⟩
structure Dw (CB:List (List iW)) (al:List Bool) (pl:List Int) (D:List (Int×Int)):Prop where
 iff:∀id p,(id,p)∈D↔gQ CB.flatten al pl id p
 nodup:(D.map (·.1)).Nodup
 len:D.length=al.count true
theorem Dw.new:Dw [] [] [] []:=by
 refine⟨fun id p=>⟨fun h=>absurd h iA,?_⟩,pR,rfl⟩;rintro⟨k,h,_⟩;exact absurd h iA
theorem Dw.key {CB:List (List iW)} {al:List Bool} {pl:List Int} {D:List (Int×Int)} (h:Dw CB al pl D) {id:Int} (hid:id∈D.map (·.1)):∃p,gQ CB.flatten al pl id p:=by
 obtain⟨x,a,rfl⟩:=cu.1 hid;exact⟨x.2,(h.iff x.1 x.2).1 a⟩
theorem Dw.val {CB NB:List (List iW)} {al:List Bool} {pl:List Int} {n N:Int} {D:List (Int×Int)} (h:Dw CB al pl D) (d:wV CB NB al pl n N) {id:Int} {m:Nat} (c:(id,(m:Int))∈CB.flatten) (b:al[m]? =some true):∃p,(id,p)∈D/\pl[m]? =some p:=by
 have a:=(fo.1 b).1;rw[d.len]at a;exact⟨pl[m],(h.iff _ _).2 ⟨m,c,b,bZ a⟩,bZ a⟩
theorem Bv {D:List (Int×Int)} {id p:Int} (h:(D.map (·.1)).Nodup) (f:id∉D.map (·.1)):((D++[(id,p)]).map (·.1)).Nodup:=by
 rw[bP,pJ];refine⟨h,aA,?_⟩;intro a d b c;simp at c;subst c;exact fun e=>f (e▸d)
theorem Dw.put {CB CB' NB:List (List iW)} {al:List Bool} {pl:List Int} {n N:Int} {D:List (Int×Int)} (h:Dw CB al pl D) (d:wV CB NB al pl n N) {id p:Int} (l:∀x∈CB.flatten,x.1≠id) (hP:CB'.flatten.Perm ((id,(al.length:Int))::CB.flatten)):Dw CB' (al++[true]) (pl++[p]) (D++[(id,p)]):=by
 have c:=d.len;refine⟨fun r s=>?_,Bv h.nodup (fun hid=>?_),by simp[h.len]⟩
 .rw[bO,h.iff];constructor
  .rintro(⟨k,h1,b,a⟩|h1)
   .have g:=(fo.1 b).1;exact⟨k,hP.mem_iff.2 (kX _ h1),by rw[lQ g];exact b,by rw[lQ aa];exact a⟩
   .simp at h1;obtain⟨rfl,rfl⟩:=h1;exact⟨al.length,hP.mem_iff.2 nQ,aA,by rw[c];simp⟩
  .rintro⟨k,h1,b,a⟩;rcases ic.1 (hP.mem_iff.1 h1)with e|h1
   .right;injection e with f o;have:k=al.length:=aa;subst this;rw[c]at a;simp at a;simp[f,a]
   .left;have⟨m,i,j⟩:=d.uf _ h1;simp only at i;have:k=m:=aa;subst this;rw[lQ j]at b;rw[lQ aa]at a;exact⟨k,h1,b,a⟩
 .obtain⟨q,k,h1,_⟩:=h.key hid;exact l _ h1 rfl
theorem Kv {CB NB:List (List iW)} {al:List Bool} {pl:List Int} {n N:Int} (b:wV CB NB al pl n N) {x y:iW} (c:x∈CB.flatten) (d:y∈CB.flatten) (e:x.2=y.2):x=y:=by
 have a:CB.flatten.Pairwise fun p q=>p.2≠q.2:=dm.1 b.wW;rcases eB a c d with h1|h1|h1
 .exact h1
 .exact absurd e h1
 .exact absurd e.symm h1
theorem Dw.again {CB NB:List (List iW)} {al:List Bool} {pl:List Int} {n N:Int} {D:List (Int×Int)} (h:Dw CB al pl D) (f:wV CB NB al pl n N) {id p:Int} {m:Nat} (d:(id,(m:Int))∈CB.flatten) (hd:al[m]? =some false):Dw CB (al.set m true) (pl.set m p) (D++[(id,p)]):=by
 have t:=f.len;have⟨i,l⟩:=fo.1 hd;have j:m<pl.length:=aa;have o:∀q,¬gQ CB.flatten al pl id q:=fun q ⟨k,h1,a,b⟩=>by
  have c:(id,(k:Int))=(id,(m:Int)):=mo f.ids h1 d rfl;injection c with _ c;have:k=m:=aa;subst this;rw[hd]at a;cases a
 refine⟨fun s u=>?_,Bv h.nodup (fun hid=>?_),?_⟩
 .rw[bO,h.iff];constructor
  .rintro(⟨k,h1,a,b⟩|h1)
   .have g:m≠k:=fun e=>by subst e;rw[hd]at a;cases a
    exact⟨k,h1,by rw[nP g];exact a,by rw[nP g];exact b⟩
   .simp at h1;obtain⟨rfl,rfl⟩:=h1;exact⟨m,d,by rw[uh i],by rw[uh j]⟩
  .rintro⟨k,h1,a,b⟩;by_cases e:k=m
   .subst e;right;have c:(s,(k:Int))=(id,(k:Int)):=Kv f h1 d rfl;injection c with c _;rw[uh j]at b;injection b with b;simp[c,b]
   .left;rw[nP (fun h=>e h.symm)]at a b;exact⟨k,h1,a,b⟩
 .obtain⟨q,r⟩:=h.key hid;exact o q r
 .rw[List.count_set i,l];simp[h.len]
theorem Ow {D:List (Int×Int)} {id p:Int} (h:(D.map (·.1)).Nodup) (a:(id,p)∈D):(D.filter fun x=>decide (x.1≠id)).length+1=D.length:=by
 induction D with
 |nil=>cases a
 |cons x l ih=>
  rw[lX,mH]at h;rw[lW];by_cases e:x.1=id
  .have b:l.filter (fun x=>decide (x.1≠id))=l:=mF.2 fun y c=>by
    simp only[bN];intro h9;exact h.1 (by rw[e,<-h9];exact rf c)
   rw[aM (by simp[e]),b];rfl
  .rw[aO (by simp[e])];rcases ic.1 a with h9|h9
   .exact absurd (congrArg Prod.fst h9).symm e
   .simp only[ed];rw[ih h.2 h9]
theorem Dw.drop {CB NB:List (List iW)} {al:List Bool} {pl:List Int} {n N:Int} {D:List (Int×Int)} (h:Dw CB al pl D) (g:wV CB NB al pl n N) {id:Int} {m:Nat} (f:(id,(m:Int))∈CB.flatten) (hd:al[m]? =some true):Dw CB (al.set m false) pl (D.filter fun x=>decide (x.1≠id)):=by
 have⟨l,r⟩:=fo.1 hd;refine⟨fun i s=>?_,?_,?_⟩
 .rw[bD,h.iff];constructor
  .rintro⟨⟨k,b,a,d⟩,o⟩;have q:m≠k:=fun e=>by
    subst e;have c:(i,(m:Int))=(id,(m:Int)):=Kv g b f rfl;injection c with c _;simp[c]at o
   exact⟨k,b,by rw[nP q];exact a,d⟩
  .rintro⟨k,b,a,d⟩;by_cases e:k=m
   .subst e;rw[uh l]at a;cases a
   .rw[nP (fun h=>e h.symm)]at a;refine⟨⟨k,b,a,d⟩,?_⟩;simp only[bN];intro c;subst c;have j:(i,(k:Int))=(i,(m:Int)):=mo g.ids b f rfl;injection j with _ j;omega
 .exact dm.2 (lS _ (dm.1 h.nodup))
 .obtain⟨p,hp,-⟩:=h.val g f hd;have b:=Ow h.nodup hp;rw[List.count_set l,r];have a:=h.len;show _=(al.count true-1)+0;omega
theorem Dw.turn {CB CB':List (List iW)} {al:List Bool} {pl:List Int} {D:List (Int×Int)} (h:Dw CB al pl D) (a:∀id p,gQ CB'.flatten al pl id p↔gQ CB.flatten al pl id p):Dw CB' al pl D:=⟨fun id p=>(h.iff id p).trans (a id p).symm,h.nodup,h.len⟩
theorem Gn {CB NB:List (List iW)} (hp:Dv NB CB) (c:∀(i:Nat) (h:i<CB.length),CB[i].length=0\/CB[i].length=2^i) (d:CB.length<=60):∀k,k<=NB.length->2*CL (NB.take k)<=k*(k+5)
 |0,_=>by simp[CL]
 |k+1,a=>by
  rw[uq NB k a];have ih:=Gn hp c d k aa;have b:k<CB.length:=by rw[<-hp.1];exact a
  have f:tb NB[k].length<=k+3:=by
   rw[(hp.2 k a b).length_eq];unfold tb;rcases c k b with h|h
   .rw[h];simp
   .rw[h];have g:=Lib.bitLen_le (2^k) (k+1) aa (Nat.pow_lt_pow_right ai aa);split<;>omega
  have e:(k+1)*(k+1+5)=k*(k+5)+2*(k+3):=by
   simp only[mM,jc];omega
  omega
theorem L8 {CB NB:List (List iW)} {al:List Bool} {pl:List Int} {n N:Int} (a:o5 CB NB al pl n N):CL NB<=(Lib.bitLen (2*al.count true+1)+1)*(Lib.bitLen (2*al.count true+1)+1):=by
 have f:=a.levels;have c:=Gn a.perm a.size aa NB.length (aB _);rw[jJ (aB _),a.perm.1]at c;have g:=a.most;rw[a.cnt,a.stored]at g;have k:CB.length<=Lib.bitLen (2*al.count true+1):=by
  rcases nC CB.length with h0|h0
  .omega
  .have d:=f.2 aa;have e:al.count true<=al.length:=Ea;have o:=a.bound;have l:=bB (2*al.count true+1) aa aa;generalize Lib.bitLen (2*al.count true+1)=b at*;rcases Nat.lt_or_ge b CB.length with h9|h9
   .have m:=zZ (n:=2) ai (show b<=CB.length-1 by omega);omega
   .exact h9
 generalize Lib.bitLen (2*al.count true+1)=b at*;generalize CB.length=L at*;have d:(L+1)*(L+1)<=(b+1)*(b+1):=Nat.mul_le_mul aa aa;have i:(L+1)*(L+1)=L*L+2*L+1:=by simp only[mM,jc];omega
 have j:L*(L+5)=L*L+5*L:=by rw[jc];omega
 have e:L<=L*L+1:=by
  rcases nC L with h|h
  .omega
  .have:=Nat.le_mul_of_pos_left L h;omega
 omega
end
end Go.Proofs.YtkjdbndekceffaaGreat
