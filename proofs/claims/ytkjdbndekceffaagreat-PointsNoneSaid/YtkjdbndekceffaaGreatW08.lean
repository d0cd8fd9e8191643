/- Made small by a program. -/
import Derived.Test.YtkjdbndekceffaaGreatW07
import Derived.Test.YtkjdbndekceffaaGreatW04
set_option linter.unusedSimpArgs false
set_option linter.unusedVariables false
set_option maxRecDepth 100000
set_option maxHeartbeats 16000000
namespace Go.Proofs.YtkjdbndekceffaaGreat
open Tryz
section
open Go.RowKit Go.Sort Go.Shelf Go.Lib Go.Maps
abbrev iR:=Int×Int
def iC (p:iR):List Value:=[.int .u32 p.1,.int .i64 p.2]
abbrev Pv (x n:Int):Value:=.agg #[ai x,aa n]
theorem vP (p:iR):(iC p).length=2:=rfl
theorem Am (p:iR):∀u∈iC p,u.oneCell'=true:=by intro u hu;simp[iC]at hu;rcases hu with rfl|rfl<;>rfl
theorem Fw:eH prog 209 204 2 16:=.mk' (z:=.agg #[ai 0,aa 0]) underlying209 (by kernel_rfl) rfl (by decide)
theorem JA:eH prog 205 209 1 24:=.mk' (z:=aG) underlying205 (by kernel_rfl) rfl (by decide)
theorem Ao (a:Option Addr) (l:List iR) (n c:Nat) (w:World) (k:l.length=n) (h:cz iC 2 w a l) (m:n<=1000000):
  aH 204 #[.slice a n c] w fun e w'=>∃v,e=.returned v/\w'.ownsRow w.heap.size 204 2 v n (l.flatMap iC)/\Below w.heap.size w w':=by
 subst k;have o:∀(w:World) (a:Option Addr) (n c n' d:Nat),(binOp .eql 209 (.slice a n c) (.slice none n' d)).run prog w=.ok (.bool a.isNone) w:=fun w a n c n' d=>C9 w _ _ a n c n' d underlying209;cases a with
 |none=>
  have i:l=[]:=by
   rcases h with h|⟨b,off,h,_⟩
   .exact h
   .cases h
  subst i;go_enter func204,ntmps204;go_wp2;go_ret;exact⟨_,rfl,dz _ _ _ _,aB _ _⟩
 |some ad=>
  have f:=zt (e:=204) (size:=2) w #[] 0 (ay _) (bf _) rfl;have h':cz iC 2 (w.alloc (.cells #[] 204)) (some ad) l:=h.below ((aB _ _).alloc (ay _) _);go_enter func204,ntmps204
  go_wp2_with (at_builtin;refine iH Fw vP Am w.heap.size f h' rfl _ _ rfl rfl c rfl (by unfold maxLen;omega) (by omega) (by simp) ?_;intro p w' g j)
  go_ret;rw[jU,fK]at g;exact⟨_,rfl,g,dB ((aB _ _).alloc (ay _) _) f j (by simp) (ay _)⟩
def KS (p q:iR):Int:=iQ p.1 q.1
theorem JB (p q:iR):KS p q<0↔p.1<q.1:=by unfold KS iQ;split<;>(try split)<;>omega
theorem Uh:SWO (ltOf KS):=xD JB (fun _=>zP _) (fun _ _ _=>Int.lt_trans) (fun x y z=>by omega)
theorem Nb (p q:iR) (w:World):aH 206 #[Pv p.1 p.2,Pv q.1 q.2] w fun e w'=>e=.returned (aa (KS p q))/\wF w w':=by
 have a:=af (fun W=>DU p.1 q.1 W);unfold KS;generalize iQ p.1 q.1=r at*;obtain⟨c,b⟩:=p;obtain⟨f,d⟩:=q;simp only at a;go_enter func206,ntmps206
 go_wp2_with fail
 refine(a.o _).mono ?_;rintro e w1 ⟨rfl,rfl⟩;go_wp2;go_ret;exact⟨rfl,((wF.refl _).alloc _).alloc _⟩
theorem Ap:∀args w,(callFunc 206 args).run prog w=.ok (.enter 206 args) w:=cK func206 (by kernel_rfl) rfl
theorem Pw {w:World} {base g c n:Nat} {l:List iR} (j:l.length=n) (o:n<4611686018427387904) (h:w.ownsRow base 204 2 (aj g n c) n (l.flatMap iC)):
  aH 205 #[aj g n c,.func (.func 206) #[] #[]] w fun e w'=>
   e=.returned (.tuple #[])/\∃l':List iR,l'.Perm l/\l'.Pairwise (fun x y=>x.1<=y.1)/\w'.ownsRow base 204 2 (aj g n c) n (l'.flatMap iC)/\w.grownBy w' (some g):=by
 have d:=mf Tryz.BU vP (by decide) isAgg204 sizeOf204 Am KS Uh 206 #[] Ap (fun x y W=>Nb x y W) j o h;change aH 205 _ _ _ at d;refine d.mono ?_;rintro e w' ⟨f,l',hp,m,k,i⟩;refine⟨f,l',hp,m.imp fun{a b} h=>?_,k,i⟩;rw[JB]at h;omega
theorem D8 (p:Option Addr) (a:Nat) (b:Value) (w:World):
  aH 205 #[.slice p 0 a,b] w fun e w'=>e=.returned (.tuple #[])/\w'=w:=GI Tryz.BU p a b w
end
section
open Go.RowKit Go.Maps
theorem Tg (p:iR) (x:Int) (L c:Nat) (s:c<=1000000) (W:World) (h:Boxed W L 3 (.int .i64 c)):
  aH 201 #[Pv p.1 p.2,ai x,ah L] W fun e w'=>e=.returned (aa (iQ p.1 x))/\Boxed w' L 3 (.int .i64 ((c+1:Nat):Int))/\Below L W w':=by
 have q:=h.lt;have t:=h.cell;have iU:=h.frozen;have⟨a,b⟩:=p;have d:=(h.alloc (.cells #[ai a,aa b] 204)).set (.int .i64 ((c+1:Nat):Int));have g:Below L W ((W.alloc (.cells #[ai a,aa b] 204)).setCell (ae L 0) (.int .i64 ((c+1:Nat):Int))):=Below.setCell (p:=(ae L 0)) ((aB L W).alloc (um q) _) (ay _) _;have f:=(h.set (.int .i64 ((c+1:Nat):Int))).alloc (.cells #[ai a,aa b] 204);have i:Below L W ((W.setCell (ae L 0) (.int .i64 ((c+1:Nat):Int))).alloc (.cells #[ai a,aa b] 204)):=((aB _ W).setCell (p:=(ae L 0)) (ay _) _).alloc (by simp;omega) _;have j:=af (fun W=>DU a x W);rw[show((c+1:Nat):Int)=(c:Int)+1 by omega]at d g f i |-;simp only;generalize iQ a x=r at*;have k:=af d;have m:=af g;have l:=af f;have n:=af i;go_enter func201,ntmps201
 go_wp2_with fail
 refine(j.o _).mono ?_;rintro e w1 ⟨rfl,rfl⟩;go_wp2;go_ret
 first
  |exact⟨rfl,k.o,m.o⟩
  |exact⟨rfl,l.o,n.o⟩
def Ui (l:List iR) (n:Nat) (x:Int) (L c0:Nat) (W:World) (e:Ending) (w':World):Prop:=
 ∃(k c:Nat) (bb:Bool),e=.returned (.tuple #[aa k,.bool bb])/\k<=n/\(∀t (_:t<l.length),t<k->l[t].1<x)/\(∀t (_:t<l.length),k<=t->x<=l[t].1)/\c<=c0+Lib.bitLen n+(if n=0 then 0 else 1)/\c0<=c/\Boxed w' L 3 (.int .i64 c)/\Below L W w'
theorem Uj (a:Option Addr) (l:List iR) (n ag:Nat) (x:Int) (L f:Nat) (P W:World) (ar:l.length=n) (aq:n<=10000) (aw:f<=100000) (ab:cz iC 2 P a l) (Y:P.heap.size<=L) (Z:Below L P W) (ac:l.Pairwise fun p q=>p.1<=q.1) (ak:Boxed W L 3 (.int .i64 f)):
  aH 200 #[.slice a n ag,ai x,.func (.func 201) #[] #[ah L]] W (Ui l n x L f W):=by
 subst ar;have U:=af ab;have V:=af ac;have X:=af Z;have am:=fw (show l.length<=10000 from aq) (by decide);have an:Lib.bitLen 10000=14:=by decide
 rw[an]at am;have T:=af Tg;clear ab ac Z;go_enter func200,ntmps200;go_wp2
 go_loopw [9,10] (fun R S wr=>∃i j c:Nat,R=.int .i64 i/\S=.int .i64 j/\i<=j/\j<=l.length/\Hid (c+Lib.bitLen (j-i)<=f+Lib.bitLen l.length/\f<=c)/\Hid (∀t (_:t<l.length),t<i->l[t].1<x)/\Hid (∀t (_:t<l.length),j<=t->x<=l[t].1)/\Hid (Boxed wr L 3 (.int .i64 c))/\Below L W wr)
  (fun R S _=>(intOf S).toNat-(intOf R).toNat)
 case atStart=>exact⟨0,l.length,f,rfl,rfl,bf _,ay _,(by show _/\_;simp),fun t _ h=>absurd h (jR _),fun t aj I=>absurd aj (by omega),ak,aB _ _⟩
 case round=>
  obtain⟨i,j,c,rfl,rfl,ax,ap,k,M,N,z,u⟩:=hrel;by_cases az:i<j
  .have K:(i+j)/2<l.length:=by omega
   obtain⟨b,off,C,al,m⟩:=(U.o.below (B:=L) (X.o.trans u) Y).get (by omega);have F:=m ((i+j)/2) K 0 (by omega);have x1:=m ((i+j)/2) K 1 (by omega);simp only[iC,aM,aN,dM]at F x1;have ao:c<=1000000:=by have:=k.o;omega
   have s:=af (T.o l[(i+j)/2] x L c ao wr z.o);have H:Hid (l[(i+j)/2].1<x->∀t (_:t<l.length),t<(i+j)/2+1->l[t].1<x):=fun h t ht I=>by
    rcases CZ.1 I with Q|rfl
    .have:=gH.1 V.o t ((i+j)/2) ht K Q;omega
    .exact h
   have G:Hid (¬l[(i+j)/2].1<x->∀t (_:t<l.length),(i+j)/2<=t->x<=l[t].1):=fun h t ht I=>by
    rcases Nat.lt_or_eq_of_le I with Q|rfl
    .have:=gH.1 V.o ((i+j)/2) t K ht Q;omega
    .omega
   have y:=af C;clear m C z;generalize l[(i+j)/2]=p at*;obtain⟨w,av⟩:=p;simp only at F x1 s H G;obtain rfl:=y.o;clear y;have g:=k.o;have J:iQ w x<0↔w<x:=by unfold iQ;split<;>(try split)<;>omega
   generalize iQ w x=r at*;by_cases v:w<x
   .have ae:=af (H.o v);have hd:decide (r<0)=true:=by simp[J.2 v]
    have O:Hid (c+1+Lib.bitLen (j-((i+j)/2+1))<=f+Lib.bitLen l.length/\f<=c+1):=by
     have:=yD (d:=j-i) (e:=j-((i+j)/2+1)) (by omega) (by omega) (by omega);show _/\_;omega
    clear H G k g v J
    go_wp2_with (go_at_call 201;refine s.o.mono ?_;rintro e w' ⟨rfl,D,E⟩)
    go_roundw
    case rel=>exact⟨(i+j)/2+1,j,c+1,by rw[show((i:Int)+(j:Int))/2+1=(((i+j)/2+1:Nat):Int) by omega],rfl,by omega,ap,O,ae,N,D,u.trans E⟩
    case measure=>simp[intOf];omega
   .have ad:=af (G.o v);have hd:decide (r<0)=false:=by simp only[iA];exact fun h=>v (J.1 h)
    have O:Hid (c+1+Lib.bitLen ((i+j)/2-i)<=f+Lib.bitLen l.length/\f<=c+1):=by
     have:=yD (d:=j-i) (e:=(i+j)/2-i) (by omega) (by omega) (by omega);show _/\_;omega
    clear H G k g v J
    go_wp2_with (go_at_call 201;refine s.o.mono ?_;rintro e w' ⟨rfl,D,E⟩)
    go_roundw
    case rel=>exact⟨i,(i+j)/2,c+1,rfl,by rw[show((i:Int)+(j:Int))/2=(((i+j)/2:Nat):Int) by omega],by omega,by omega,O,M,ad,D,u.trans E⟩
    case measure=>simp[intOf];omega
  .obtain rfl:i=j:=by omega
   have g:=k.o;rw[kE,yC,dM]at g;by_cases aa:i<l.length
   .obtain⟨b,off,C,al,m⟩:=(U.o.below (B:=L) (X.o.trans u) Y).get (by omega);have F:=m i aa 0 (by omega);have x1:=m i aa 1 (by omega);simp only[iC,aM,aN,dM]at F x1;have s:=af (T.o l[i] x L c (by omega) wr z.o);have y:=af C;have au:¬l.length=0:=by omega
    clear m C z;generalize l[i]=p at*;obtain⟨w,av⟩:=p;simp only at F x1 s;obtain rfl:=y.o;clear y;generalize iQ w x=r at*;have A:=af g;clear g k
    go_wp2_with (go_at_call 201;refine s.o.mono ?_;rintro e w' ⟨rfl,D,E⟩)
    go_ret2;exact⟨i,c+1,_,rfl,by omega,M.o,N.o,by have:=A.o;rw[aI au];omega,by have:=A.o;omega,D,u.trans E⟩
   .obtain rfl:i=l.length:=by omega
    have A:=af g;clear g k;go_wp2;go_ret2;exact⟨l.length,c,_,rfl,ay _,M.o,N.o,by have:=A.o;omega,by have:=A.o;omega,z.o,u⟩
abbrev kX:=fT iR
abbrev KT:=Ky iC 2 204
abbrev jI:=nV iC 2 204
theorem KT.aC {W:World} {base:Nat} {v:Value} {n:Nat} {l:List iR} (h:W.ownsRow base 204 2 v n (l.flatMap iC)):∃a c,v=.slice a l.length c/\n=l.length/\l.length<=c/\KT W a l:=Ky.aC vP (by decide) h
def tb (n:Nat):Nat:=if n=0 then 0 else Lib.bitLen n+2
def Fx (NB:List (List iR)):Nat:=(NB.map fun l=>tb l.length).sum
theorem BH (NB:List (List iR)) (i:Nat) (h:i<NB.length):Fx (NB.take (i+1))=Fx (NB.take i)+tb NB[i].length:=by
 unfold Fx;rw[dZ h];simp only[bS,lC,oN,zI,List.sum_cons,List.sum_nil];omega
def Uk (NB:List (List iR)) (id:Int) (W:World) (e:Ending) (w':World):Prop:=
 ∃(k:Int) (t:Nat),e=.returned (.tuple #[aa k,aa t])/\t<=Fx NB/\((∃x∈NB.flatten,x.1=id/\x.2=k)\/(k=-1/\∀x∈NB.flatten,x.1≠id))/\Below W.heap.size W w'
theorem Rq {NB:List (List iR)} {i:Nat}:Fx (NB.take i)<=Fx NB:=by
 have h:Fx NB=Fx (NB.take i)+Fx (NB.drop i):=by
  unfold Fx;rw[<-zI,<-bS,ji]
 omega
theorem vQ (A:Nat) (id:Int) (W:World) (NB:List (List iR)) (bh:List kX) (bv:Value) (base:Nat) (aJ:W.cell? (ae A 1)=some bv) (aQ:W.ownsRow base 209 1 bv bh.length (bh.map dQ)) (ac:bh.map (·.2.1)=NB) (aU:jI W bh)
  (aV:∀l∈NB,l.Pairwise fun p q=>p.1<=q.1) (a9:NB.length<=1000) (aW:∀l∈NB,l.length<=10000):aH 131 #[ah A,ai id] W (Uk NB id W):=by
 have a3:bh.length=NB.length:=by rw[<-ac];simp
 have az:=af aV;have Y:=af aW;have aX:Hid (∀i,Fx (NB.take i)<=20*i):=fun i=>by
  unfold Fx
  induction i with
  |zero=>simp
  |succ i ih=>
   by_cases hi:i<NB.length
   .rw[dZ hi];have f:tb NB[i].length<=20:=by
     unfold tb;have:=fw (Y.o _ (bN hi)) (by decide);have H:Lib.bitLen 10000=14:=by decide
     split<;>omega
    simp only[bS,lC,oN,zI,List.sum_cons,List.sum_nil];omega
   .rw[jQ (by omega)];rw[jQ (by omega)]at ih;omega
 have ax:Hid (∀i (hi:i<bh.length) (aS:i<NB.length),cz iC 2 W bh[i].1 NB[i]/\W.heap.size=W.heap.size/\bh[i].2.1=NB[i]):=fun i hi aS=>by
  have aa:bh[i].2.1=NB[i]:=by simp[<-ac]
  exact⟨by rw[<-aa];exact(aU _ (bN hi)).1.Mi,rfl,aa⟩
 obtain⟨av,cv,rfl,-,-,aT⟩:=Rd.aC (enc:=dQ) aQ;have ao:=af aT;have a2:=gW W _ aJ;go_enter func131,ntmps131;go_wp2
 go_loopw [16] (fun M wr=>∃i c:Nat,M=.int .i64 i/\i<=bh.length/\Hid (Boxed wr W.heap.size 3 (.int .i64 c))/\Hid (c<=Fx (NB.take i))/\Hid (∀x∈(NB.take i).flatten,x.1≠id)/\Below W.heap.size W wr) (fun M _=>bh.length-(intOf M).toNat)
 case atStart=>exact⟨0,0,rfl,bf _,Boxed.new _ _ _,bf _,by intro x hx;simp at hx,(aB _ _).alloc (ay _) _⟩
 case round=>
  obtain⟨i,c,rfl,hi,R,j,U,r⟩:=hrel;by_cases ab:i<bh.length
  .have g:i<NB.length:=by omega
   have aR:c<=100000:=by have f:=j.o;have H:=aX.o i;omega
   have⟨b,off,F,aP,s⟩:=ao.o.get (by omega);have z:=(r.cell (p:=(ae b (off+i))) aP).trans (s i ab);obtain⟨N,-,al⟩:=ax.o i ab g;have E:=af (BH NB i g);have T:Hid ((∀x∈NB[i],x.1≠id)->∀x∈(NB.take (i+1)).flatten,x.1≠id):=fun h x hx=>by
    rw[dZ g,kD,bT]at hx;rcases hx with hx|hx
    .exact U.o x hx
    .exact h x (by simpa using hx)
   have ar:Hid (∀x∈NB[i],x∈NB.flatten):=fun x hx=>oH.2 ⟨_,bN g,hx⟩;have ag:=az.o _ (bN g);have ak:=Y.o _ (bN g);have aq:=af (Rq (NB:=NB) (i:=i+1));have w:=af F;unfold dQ at z;generalize NB[i]=l at*;generalize bh[i]=hd at*;have⟨aD,a,aE⟩:=hd;simp only at al N z;subst al;obtain rfl:=w.o;have an:=Uj aD a a.length aE id W.heap.size c W wr rfl ak aR N (ay _) r ag R.o
   go_wp2_with fail
   refine an.mono ?_;rintro e w2 ⟨k,d,a0,rfl,a7,f,H,K,a6,n,aO⟩;have Q:=r.trans aO;have Z:=af f;have aA:=af H;have X:Hid (tb a.length=if a.length=0 then 0 else Lib.bitLen a.length+2):=rfl;have a5:=fw ak (by decide);have a4:Lib.bitLen 10000=14:=by decide
   by_cases m:k<a.length
   .have ad:¬a.length=0:=by omega
    rw[aI ad]at K;have aL:=X.o;rw[aI ad]at aL;have aY:=n.cell;have bb:=n.frozen;have J:=n.set (.int .i64 ((d+1:Nat):Int));have v:=Q.setCell (p:=(ae W.heap.size 0)) (ay _) (.int .i64 ((d+1:Nat):Int));obtain⟨aZ,ba,F,-,s⟩:=(N.below v).get (by omega);have O:=s k m 0 (by omega);have x1:=s k m 1 (by omega);simp only[iC,aM,aN,dM]at O x1;have V:Hid (a[k].1≠id->∀x∈a,x.1≠id):=fun h x hx=>by
     obtain⟨t,ht,rfl⟩:=jk hx;by_cases aj:t<k
     .have:=Z.o t ht aj;omega
     .have aG:=aA.o k m (ay _);rcases Nat.lt_or_eq_of_le (Nat.le_of_not_lt aj)with h4|h4
      .have I:=gH.1 ag k t m ht h4;omega
      .subst h4;exact h
    have au:=af (ar.o a[k] (bN m));have w:=af F;have a8:(k:Int)<(a.length:Int):=by omega
    rw[show((d+1:Nat):Int)=(d:Int)+1 by omega]at J v O x1;have bc:=J.cell;generalize a[k]=y at*;have⟨P,am⟩:=y;simp only at O x1 V;obtain rfl:=w.o;have B:=af J;have S:=af v;by_cases u:P=id
    .have aF:(P==id)=true:=by simp[u]
     have ap:Hid (∃x∈NB.flatten,x.1=id/\x.2=am):=⟨_,au.o,u,rfl⟩;have L:d+1<=Fx NB:=by
      have:=j.o;have:=E.o;have:=aq.o;omega
     go_wp2;go_region
     all_goals
      go_wp2;go_ret2;exact⟨am,d+1,rfl,L,.inl ap.o,S.o.drew⟩
    .have aF:(P==id)=false:=by simp[u]
     have D:=af (T.o (V.o u));have C:Hid (d+1<=Fx (NB.take (i+1))):=by
      have:=j.o;have:=E.o;show _<=_;omega
     go_wp2;go_roundw
     case rel=>exact⟨i+1,d+1,by go_num,by omega,B,C,D,S.o⟩
     case measure=>simp[intOf];omega
   .obtain rfl:k=a.length:=by omega
    have D:Hid (∀x∈(NB.take (i+1)).flatten,x.1≠id):=T.o fun x hx=>by
     obtain⟨t,ht,rfl⟩:=jk hx;have:=Z.o t ht ht;omega
    have C:Hid (d<=Fx (NB.take (i+1))):=by
     have aG:=j.o;have h4:=E.o;have I:=X.o;show _<=_;by_cases G:a.length=0
     .rw[aK G]at I K;have a1:Lib.bitLen a.length=0:=by rw[G];rfl
      omega
     .rw[aI G]at I K;omega
    have B:=af n;go_wp2;go_roundw
    case rel=>exact⟨i+1,d,by go_num,by omega,B,C,D,Q⟩
    case measure=>simp[intOf];omega
  .obtain rfl:i=bh.length:=by omega
   have aY:=R.o.cell;have L:c<=Fx NB:=by
    have f:=j.o;rw[jQ (by omega)]at f;exact f
   have aw:Hid (∀x∈NB.flatten,x.1≠id):=by
    have f:=U.o;rw[jQ (by omega)]at f;exact f
   go_wp2;go_region
   all_goals
    go_wp2;go_ret2;exact⟨-1,c,rfl,L,.inr ⟨rfl,aw.o⟩,r.drew⟩
abbrev iK:=@gQ iR 290 209 204
theorem Ti:209≠290/\290≠204/\209≠204:=by decide
theorem rC {W:World} {base Cb:Nat} {cv:Value} {ch:List kX} {N wk:Int} (h:iK W base Cb cv ch N wk):aH 203 #[ah Cb] W (eY W (.bool false)):=by
 obtain⟨a,-⟩:=h.cell;go_enter func203,ntmps203;go_wp2;go_ret;exact⟨rfl,aB _ _⟩
end
section
open Go.RowKit Go.Maps
attribute [local irreducible] wpQuiet
abbrev Ul:=@SK iR 290 209 204 iC 2
theorem Px {W:World} {base Cb:Nat} {cv:Value} {ch:List kX} {N wk:Int} (h:iK W base Cb cv ch N wk) (dn:base<=W.heap.size) (ca:jI W ch) (x nn:Int) (dl:0<=N/\N<=100000) (dF:ch.length<=1000) (dI:(ch.map (·.2.1)).flatten.length<=10000):
  aH 132 #[ah Cb,Pv x nn] W (Ul W base Cb cv ch (x,nn) N wk):=by
 have aM:Below W.heap.size W (W.alloc (.cells #[ai x,aa nn] 204)):=(aB _ _).alloc (ay _) _;have ci:(W.alloc (.cells #[ai x,aa nn] 204)).cell? (ae W.heap.size 0)=some (ai x):=by rw[ed _ _ _ _ rfl];rfl
 have x1:(W.alloc (.cells #[ai x,aa nn] 204)).cell? (ae W.heap.size 1)=some (aa nn):=by rw[ed _ _ _ _ rfl];rfl
 have bs:=af (rC (h.below aM));have H:=af h;have aS:=af ca;have bu:=af aM;clear h ca aM;go_enter func132,ntmps132
 go_wp2_with fail
 refine bs.o.mono ?_;rintro e w2 ⟨rfl,ab⟩;have br:=af (bu.o.trans (ab.mono (by simp)));have cj:=(ab.cell (p:=(ae W.heap.size 0)) (by simp)).trans ci;have y1:=(ab.cell (p:=(ae W.heap.size 1)) (by simp)).trans x1;have be:W.heap.size<w2.heap.size:=by have:=ab.size;simp at this;omega
 have s:=af (H.o.below br.o);have bI:=af cj;have bJ:=af y1;clear ci x1 cj y1 bs bu ab;obtain⟨cC,cD,cE,cF⟩:=s.o.cell
 go_upto_block 0 with fail
 go_cut [6]from 11 to 30 (fun sv B=>∃i:Nat,sv=.int .i64 i/\Hid (B=w2)/\i<=ch.length/\Hid (∀j (aE:j<ch.length),j<i->ch[j].2.1≠[])/\Hid (∀hi:i<ch.length,ch[i].2.1=[]))
 case first=>
  go_wp2_with fail
  go_loopw [6] (fun bg wr=>∃i:Nat,bg=.int .i64 i/\Hid (wr=w2)/\i<=ch.length/\Hid (∀j (aE:j<ch.length),j<i->ch[j].2.1≠[])) (fun bg _=>ch.length-(intOf bg).toNat)
  case atStart=>exact⟨0,rfl,(by first|rfl|trivial),bf _,fun j _ h=>absurd h (jR _)⟩
  case round=>
   obtain⟨i,rfl,ag,hi,T⟩:=hrel;obtain rfl:wr=w2:=ag.o;clear ag;obtain⟨av,U,rfl,-,-,ad⟩:=Rd.aC (enc:=dQ) s.o.row;by_cases b6:i<ch.length
   .obtain⟨b,off,bK,dp,b1⟩:=ad.get (by omega);have z:=b1 i b6;have M:Hid (ch[i].2.1=[]->∀hi:i<ch.length,ch[i].2.1=[]):=fun h _=>h;have an:Hid (ch[i].2.1≠[]->∀j (aE:j<ch.length),j<i+1->ch[j].2.1≠[]):=fun h j aE c0=>by
     rcases CZ.1 c0 with h9|rfl
     .exact T.o j aE h9
     .exact h
    have bt:=af bK;unfold dQ at z;clear b1 bK ad;generalize ch[i]=hd at*;obtain⟨df,bj,dh⟩:=hd;simp only at z M an;obtain rfl:=bt.o;clear bt;have dG:(i:Int)<(ch.length:Int):=by omega
    by_cases X:bj=[]
    .have R:=af (M.o X);clear M an;subst X
     go_wp2_with fail
     go_meet;exact⟨i,rfl,(by first|rfl|trivial),hi,T,R⟩
    .have R:=af (an.o X);have c2:0<bj.length:=Df.2 X;have dr:decide (0<bj.length)=true:=by simp[c2]
     clear X M an
     go_wp2_with fail
     go_roundw
     case rel=>exact⟨i+1,by go_num,(by first|rfl|trivial),by omega,R⟩
     case measure=>simp[intOf];omega
   .have R:Hid (∀hi:i<ch.length,ch[i].2.1=[]):=fun h=>absurd h b6;have dA:¬(i:Int)<(ch.length:Int):=by omega
    go_wp2_with fail
    go_meet;exact⟨i,rfl,(by first|rfl|trivial),hi,T,R⟩
 case rest=>
  obtain⟨i,rfl,ag,hi,T,M⟩:=hcut;obtain rfl:wc=w2:=ag.o;clear ag;obtain⟨f,Z⟩:∃f,f=cv.ownBlock:=⟨_,rfl⟩;have dd:Hid (∀k,(k=Cb\/f=some k)->base<=k):=fun k h=>by
   rcases h with rfl|h
   .exact s.o.hb
   .exact(s.o.row.lt k (Z▸h)).1
  have ao:Hid (∀k,f=some k->k<W.heap.size/\k≠Cb):=fun k h=>⟨(H.o.row.lt k (Z▸h)).2,fun e=>H.o.ne (by rw[<-Z,h,e])⟩;have C:=af Z;have dk:=H.o.lt;obtain⟨av,U,rfl,-,dq,-⟩:=Rd.aC (enc:=dQ) s.o.row;have bF:Hid (au (fun k=>k=Cb\/f=some k) W wc):=(au.refl _ _).grown (bQ br.o) (by simp);have ct:Hid (∀w6,wc.grownBy w6 (Value.ownBlock (.slice av ch.length U))->w6.heap[Cb]? =some (Obj.cells #[.bool true,.slice av ch.length U,aa N,aa wk] 290 (0,0))):=fun w6 w=>(w.block Cb s.o.lt (fun e=>s.o.ne e.symm)).trans s.o.blk;clear Z
  go_upto_if 37 with fail
  go_cut []from 37 to 46 (fun B=>∃V ch1 c aJ v,Hid (iK B base Cb V ch1 N wk)/\V=aj c aJ v/\aJ=ch1.length/\i<aJ/\Hid (ch1=ch/\i<ch.length\/ch1=ch++[fF]/\i=ch.length)/\Hid (V.ownBlock=f\/∃b,V.ownBlock=some b/\W.heap.size<=b)/\Hid (c≠W.heap.size)/\Hid (au (fun k=>k=Cb\/f=some k) W B)/\Hid (au (fun k=>k=Cb\/f=some k) wc B))
  case first=>
   by_cases cZ:i=ch.length
   .subst cZ;have cV:((ch.length:Int)==(ch.length:Int))=true:=by simp
    go_wp2_with (at_builtin;refine bZ JA base s.o.row [aG] rfl (by simp[Value.oneCell']) rfl _ _ rfl rfl _ rfl (by unfold maxLen;omega) (by omega) (by omega) ?_;intro bk w6 ac w bY;obtain⟨D,l,rfl,du,dv,dx,dy⟩:=aQ ac (by omega);have bh:=ct.o w6 w;have dK:w6.cell? (ae Cb 1)=some (.slice av ch.length U):=(by simp[World.cell?,bh]);have dL:w6.frozen? (ae Cb 1)=false:=(by simp[World.frozen?,bh]))
    go_meet;have a9:w6.ownsRow base 209 1 (aj D (ch.length+1) l) (ch++[fF]).length ((ch++[fF]).map dQ):=by
     rw[bq,bS];exact ac
    have aA:(some D=f\/D=wc.heap.size+1):=by
     rcases bY with h9|h9
     .exact .inl (h9.trans C.o.symm)
     .simp only[Value.ownBlock,iV]at h9;rw[h9];exact .inr (by simp)
    have cX:D≠Cb:=by
     rcases aA with h9|h9
     .exact(ao.o D h9.symm).2
     .omega
    refine⟨_,ch++[fF],D,ch.length+1,l,gQ.KA (ch:=ch) bh s.o.hb s.o.ds a9 (by simpa[Value.ownBlock]using cX),rfl,by simp,by omega,(by first|exact .inr ⟨rfl,rfl⟩|exact .inr ⟨rfl,trivial⟩),?_,?_,(bF.o.grown w fun k q=>.inl (.inr (C.o.trans q))).set _ (.inl (.inl rfl)),((au.refl _ wc).grown w fun k q=>.inl (.inr (C.o.trans q))).set _ (.inl (.inl rfl))⟩
    .rcases aA with h9|h9
     .exact .inl (by simpa[Value.ownBlock]using h9)
     .exact .inr ⟨D,rfl,by omega⟩
    .show D≠W.heap.size;rcases aA with h9|h9
     .have:=(ao.o D h9.symm).1;omega
     .omega
   .have cV:((i:Int)==(ch.length:Int))=false:=by simp only[beq_eq_false_iff_ne];omega
    have b5:i<ch.length:=by omega
    obtain⟨g,di,aY,cW,aD,-,-⟩:=aQ s.o.row (by omega);injection aY with aY _ cH;subst aY cH;go_wp2;go_meet;have cY:f=some g:=C.o;exact⟨_,ch,g,ch.length,U,s,rfl,rfl,b5,.inl ⟨rfl,b5⟩,.inl C.o.symm,(by show g≠W.heap.size;have:=(ao.o g cY).1;omega),bF,au.refl _ _⟩
  case rest=>
   obtain⟨V,ch1,c,aJ,v,ak,rfl,rfl,dC,am,aN,co,cy,ap⟩:=hcut;obtain⟨w3,cL⟩:∃w3:World,w3=wc:=⟨_,rfl⟩;subst cL;have bD:Hid (¬(W.heap.size=Cb\/f=some W.heap.size)):=fun h9=>by
    rcases h9 with h9|h9
    .omega
    .have:=(ao.o _ h9).1;omega
   have cA:Hid (w3.cell? (ae W.heap.size 0)=some (ai x)):=(dD (a:=(ae W.heap.size 0)) (ap.o.block _ be bD.o)).trans bI.o;have cB:Hid (w3.cell? (ae W.heap.size 1)=some (aa nn)):=(dD (a:=(ae W.heap.size 1)) (ap.o.block _ be bD.o)).trans bJ.o;have cb:W.heap.size<w3.heap.size:=bB be ap.o.size;have cW:c<w3.heap.size:=(ak.o.row.lt c rfl).2;have cm:Hid (∀k (q:k<i) (h1:k<ch1.length) (Y:k<ch.length),ch1[k]=ch[k]):=fun k q h1 Y=>by
    rcases am.o with⟨e,-⟩|⟨e,-⟩
    .subst e;rfl
    .subst e;exact p9 Y
   have cn:Hid (∀W',au (fun k=>k=Cb\/f=some k) W W'->∀k (q:k<ch.length),cz iC 2 W' ch[k].1 ch[k].2.1):=fun W' cS k q=>((aS.o _ (bN q)).1.kept (H.o.eU C.o cS)).Mi;have cr:Hid (∀k (q:k<ch.length),k<i->(((ch.map (·.2.1)).take i).drop k).reverse.flatten=(((ch.map (·.2.1)).take i).drop (k+1)).reverse.flatten++ch[k].2.1):=fun k q dE=>by
    rw[kZ (by simp;omega)];simp
   have bx:Hid (∀k,(((ch.map (·.2.1)).take i).drop k).reverse.flatten.length<=10000):=fun k=>by
    generalize ch.map (·.2.1)=CB at*;have dj:(((CB.take i).drop k).reverse.flatten).length=((CB.take i).drop k).flatten.length:=by simp only[Dg,Dq,List.sum_reverse]
    have aX:((CB.take i).take k).flatten++((CB.take i).drop k).flatten=(CB.take i).flatten:=by rw[<-kD,ji]
    have cI:(CB.take i).flatten++(CB.drop i).flatten=CB.flatten:=by rw[<-kD,ji]
    have cJ:=congrArg List.length aX;have cK:=congrArg List.length cI;rw[bq]at cJ cK;omega
   clear bI bJ cC cD cE cF ap
   go_upto_block 2 with fail
   go_cut [7]from 49 to 67 (fun bn B=>Hid (B.ownsRow w3.heap.size 204 2 bn (eF (ch.map (·.2.1)) i).length ((eF (ch.map (·.2.1)) i).flatMap iC))/\Hid (iK B base Cb (aj c ch1.length v) (sH ch1 i 0) N wk)/\Hid (au (fun k=>k=Cb\/f=some k) W B)/\Hid (au (fun k=>k=c) w3 B))
   case first=>
    go_wp2_with fail
    go_loopw [8,7] (fun bi bn wr=>∃(k:Nat) (bm:Value),bi=.int .i64 ((k:Int)-1)/\bn=bm/\k<=i/\Hid (wr.ownsRow w3.heap.size 204 2 bm (((ch.map (·.2.1)).take i).drop k).reverse.flatten.length ((((ch.map (·.2.1)).take i).drop k).reverse.flatten.flatMap iC))/\Hid (iK wr base Cb (aj c ch1.length v) (sH ch1 i k) N wk)/\Hid (au (fun k=>k=Cb\/f=some k) W wr)/\Hid (au (fun k=>k=c) w3 wr)) (fun bi _ _=>(intOf bi+1).toNat)
    case atStart=>
     refine⟨i,_,rfl,rfl,ay _,?_,?_,cy,au.refl _ _⟩
     .rw[nL (by simp;omega)];exact dz _ _ _ _
     .rw[Jq];exact ak
    case round=>
     obtain⟨k,bm,rfl,rfl,q,HO,G,S,I⟩:=hrel;rcases qf k with SN|SN
     .subst SN;have dt:¬(0:Int)<=((0:Nat):Int)-1:=by omega
      rw[nk]at HO
      go_wp2_with fail
      go_meet;exact⟨HO,G,S,I⟩
     .obtain⟨m,rfl⟩:∃m,k=m+1:=⟨k-1,by omega⟩;have a8:m<ch.length:=by omega
      have b7:m<ch1.length:=by omega
      obtain⟨d0,d1,d2,d3⟩:=G.o.cell;have y:i<=ch1.length:=by omega
      have bb:=G.o.row;rw[iB q y]at bb;have z:=bb.cellAt m (by omega);rw[gY,Jr y (by omega),dw b7,cm.o m (by omega) b7 a8]at z;simp only[aO]at z;have ad:=cn.o wr S.o m a8;have a7:=cr.o m a8 (by omega);have O:=bx.o m;rw[a7,bq]at O;have c3:=Js (ch1:=ch1) y (show m<i by omega);have c1:=O;generalize(((ch.map (·.2.1)).take i).drop (m+1)).reverse.flatten=L at*;have bw:=af a7;unfold dQ at z;clear a7 O;generalize ch[m]=hd at*;obtain⟨dg,dJ,cG⟩:=hd;simp only at z ad c1 bw;have A:=HO.o.lt;have cR:=ak.o.lt;have b4:=I.o.size;have dH:(m:Int)<(ch1.length:Int):=by omega
      go_wp2_with (at_builtin;refine mJ Fw vP Am w3.heap.size HO.o ad rfl _ _ rfl rfl cG rfl (by unfold maxLen;omega) (by omega) b4 ?_;intro bk w6 ac w bY;have E:=G.o.grown w (fun e=>(by have:=(A Cb e).1;omega)) (.inr (fun e=>(by have:=(A c e.symm).1;omega)));obtain⟨f0,f1,f2,f3⟩:=E.cell;have bW:=w.block c (by omega) (fun e=>(by have:=(A c e.symm).1;omega));have dM:=(dD (a:=(ae c m)) bW).trans z;have bM:=(oz (a:=(ae c m)) bW).trans (bb.frozenAt m))
      have c4:=ac.lt;have cu:Hid ((w6.setCell (ae c m) (aG)).ownsRow w3.heap.size 204 2 bk (((ch.map (·.2.1)).take i).drop m).reverse.flatten.length ((((ch.map (·.2.1)).take i).drop m).reverse.flatten.flatMap iC)):=by
       show World.ownsRow _ _ _ _ _ _ _;rw[bw.o,bq,gM];exact aV ac fun cP e=>az (fun aX=>by have:=(c4 cP e).1;simp only at aX;omega)
      have aP:Hid (iK (w6.setCell (ae c m) (aG)) base Cb (aj c ch1.length v) (sH ch1 i m) N wk):=by
       have:=E.Kz (iB q y).symm m fF;rw[c3]at this;exact this
      have a4:f=some c\/W.heap.size<=c:=by
       rcases aN.o with h9|⟨b,h9,cQ⟩
       .exact .inl h9.symm
       .simp only[Value.ownBlock,iV]at h9;exact .inr (by omega)
      have aR:Hid (au (fun k=>k=Cb\/f=some k) W (w6.setCell (ae c m) (aG))):=
       (S.o.grown w (fun b n=>.inr (by have:=(A b n).1;omega))).set _ (by rcases a4 with h9|h9;exact .inl (.inr h9);exact .inr h9)
      have cp:Hid (au (fun k=>k=c) w3 (w6.setCell (ae c m) (aG))):=(I.o.grown w (fun b n=>.inr (A b n).1)).set _ (.inl rfl);go_roundw
      case rel=>exact⟨m,bk,by go_num,rfl,by omega,cu,aP,aR,cp⟩
      case measure=>simp[intOf]
   case rest=>
    obtain⟨HO,G,S,I⟩:=hcut;obtain⟨w4,cM⟩:∃w4:World,w4=wc:=⟨_,rfl⟩;subst cM;have b4:=I.o.size;have y:i<=ch1.length:=by omega
    have aw:W.heap.size≠c:=fun e=>co.o e.symm;have bG:w4.cell? (ae W.heap.size 0)=some (ai x):=(dD (a:=(ae W.heap.size 0)) (I.o.block _ cb aw)).trans cA.o;have bH:w4.cell? (ae W.heap.size 1)=some (aa nn):=(dD (a:=(ae W.heap.size 1)) (I.o.block _ cb aw)).trans cB.o;have O:=bx.o 0;rw[nk]at O;change(eF (ch.map (·.2.1)) i).length<=10000 at O;have bA:=(HO.o.alloc (.cells #[ai x,aa nn] 204)).bC 1;have bv:=(G.o.grown (qc w4 (.cells #[ai x,aa nn] 204) none) (by simp) (.inr (by simp[Value.ownBlock]))).drew;generalize a0:eF (ch.map (·.2.1)) i=d at*;obtain⟨db,w6,aU,a9,aD,aA⟩:=iY (ty:=209) (t:=209) (P:=prog) Fw w3.heap.size bA (ae w4.heap.size 0) 1 1 [.int .u32 x,.int .i64 nn] rfl (by
     intro j u hu;have cT:((ae w4.heap.size 0):Addr).add j=(ae w4.heap.size j):=by unfold Addr.add;split<;>simp_all
     rw[cT];have h9:(w4.alloc (.cells #[ai x,aa nn] 204)).cell? (ae w4.heap.size j)=some u:=by
      rw[ed _ _ _ _ (by rfl)];simpa using hu
     exact h9) (by simp[Value.oneCell']) (by unfold maxLen;omega) (by omega) (by simp;omega)
    have A:=bA.lt;have cR:=ak.o.lt;have E:=bv.grown aD (fun e=>(by have:=(A Cb e).1;omega)) (.inr (fun e=>(by have:=(A c e.symm).1;omega)));have ba:w6.ownsRow w3.heap.size 204 2 db (d.length+1) ((d++[(x,nn)]).flatMap iC):=by
     rw[gM];exact a9
    have cc:=ba.lt;obtain⟨r,l,rfl,-,cU,bO⟩:=KT.aC ba;have aF:(d++[(x,nn)]).length=d.length+1:=by simp
    rw[aF]at aU ba cU cc;have cl:Hid (∀a,r=some a->W.heap.size<=a.block):=fun a a3=>by have:=(cc a.block (by rw[a3];rfl)).1;omega
    obtain⟨f0,f1,f2,f3⟩:=E.cell;have aI:=E.row;rw[iB (bf _) y]at aI;have cf:=aI.cellAt i (by omega);have bM:=aI.frozenAt i;have c6:i<((sH ch1 i 0).map dQ).length:=by rw[bX,iB (bf _) y];omega
    rw[dw c6]at cf;have a2:w4.cell? (ae Cb 1)=some (aj c ch1.length v)/\w4.cell? (ae W.heap.size 0)=some (ai x)/\w4.cell? (ae W.heap.size 1)=some (aa nn):=⟨G.o.cell.2.1,bG,bH⟩;have bP:w4.drew.cell? (ae Cb 1)=some (aj c ch1.length v)/\w4.drew.cell? (ae W.heap.size 0)=some (ai x)/\w4.drew.cell? (ae W.heap.size 1)=some (aa nn):=a2;have b3:=(aB w4.heap.size w4).alloc (ay _) (.cells #[ai x,aa nn] 204);have bU:W.heap.size<w4.heap.size:=by omega
    have aq:(w4.alloc (.cells #[ai x,aa nn] 204)).drew.cell? (ae Cb 1)=some (aj c ch1.length v)/\(w4.alloc (.cells #[ai x,aa nn] 204)).drew.cell? (ae W.heap.size 0)=some (ai x)/\(w4.alloc (.cells #[ai x,aa nn] 204)).drew.cell? (ae W.heap.size 1)=some (aa nn):=
     ⟨bv.cell.2.1,(b3.cell (p:=(ae W.heap.size 0)) bU).trans bG,(b3.cell (p:=(ae W.heap.size 1)) bU).trans bH⟩
    have bT:=aD.block W.heap.size (by simp;omega) (fun e=>by have:=(A _ e.symm).1;omega);have ar:w6.cell? (ae Cb 1)=some (aj c ch1.length v)/\w6.cell? (ae W.heap.size 0)=some (ai x)/\w6.cell? (ae W.heap.size 1)=some (aa nn):=
     ⟨f1,(dD (a:=(ae W.heap.size 0)) bT).trans aq.2.1,(dD (a:=(ae W.heap.size 1)) bT).trans aq.2.2⟩
    have K:iK (w6.setCell (ae c i) (.slice r (d.length+1) l)) base Cb (aj c ch1.length v) ((sH ch1 i 0).set i (r,d++[(x,nn)],l)) N wk:=by
     have:=E.Kz (iB (bf _) y).symm i (r,d++[(x,nn)],l);unfold dQ at this;rw[aF]at this;exact this
    have bR:(w6.setCell (ae c i) (.slice r (d.length+1) l)).cell? (ae Cb 1)=some (aj c ch1.length v)/\(w6.setCell (ae c i) (.slice r (d.length+1) l)).cell? (ae W.heap.size 0)=some (ai x)/\(w6.setCell (ae c i) (.slice r (d.length+1) l)).cell? (ae W.heap.size 1)=some (aa nn):=
     ⟨K.cell.2.1,(dD (a:=(ae W.heap.size 0)) (az (fun e=>aw e.symm))).trans ar.2.1,(dD (a:=(ae W.heap.size 1)) (az (fun e=>aw e.symm))).trans ar.2.2⟩
    have dB:(i:Int)<(ch1.length:Int):=by omega
    generalize((sH ch1 i 0).map dQ)[i]=dN at*;go_wp2
    go_hide hQ
    go_region_held3 (fun w'=>w'.cell? (ae Cb 1)=some (aj c ch1.length v)/\w'.cell? (ae W.heap.size 0)=some (ai x)/\w'.cell? (ae W.heap.size 1)=some (aa nn))
     (first|(with_reducible exact a2)|(with_reducible exact bP)|(with_reducible exact aq)|(with_reducible exact ar)|(with_reducible exact bR)|go_keep)
     ((refine gm rfl (.tmp 73) (.tmp 75) rfl aU (by simp[Act.eval]) (by simp[Act.eval]) ?_;try simp only[Act.put,yw,nN,ng]))
    all_goals subst hQ
    clear bR;generalize cd:w6.setCell (ae c i) (.slice r (d.length+1) l)=bo at K |-;have Q:=K.zY (N+1);obtain⟨c7,c8,c9,da⟩:=K.cell;have cN:=K.frozen 2;obtain⟨t0,t1,t2,t3⟩:=Q.cell;have cO:=Q.frozen 3;have b0:((sH ch1 i 0).set i (r,d++[(x,nn)],l)).length=ch1.length:=by rw[jY,iB (bf _) y]
    have bc:=Q.row;rw[b0]at bc;have bp:=bc.cellAt i (by omega);have a5:(((sH ch1 i 0).set i (r,d++[(x,nn)],l)).map dQ)[i]? =some (.slice r (d.length+1) l):=by
     rw[gY,sJ (by rw[iB (bf _) y];omega)];simp[dQ]
    rw[a5]at bp;have F:=(Q.O6 (wrap64 (wk+((d.length:Int)+1)))).drew;have al:=af F;clear F;have dm:(-9223372036854775808:Int)<=N+1/\N+1<=9223372036854775807:=by omega
    have aT:=af cd;clear cd;clear f0 f1 f2 f3 cf bM a2 bP aq ar aU;have de:=af bp;have cq:=af a5;have cw:=af bO;have a4:f=some c\/W.heap.size<=c:=by
     rcases aN.o with h9|⟨b,h9,cQ⟩
     .exact .inl h9.symm
     .simp only[Value.ownBlock,iV]at h9;exact .inr (by omega)
    have aR:Hid (au (fun k=>k=Cb\/f=some k) W w6):=((S.o.grown (qc w4 (.cells #[ai x,aa nn] 204) none) (by simp)).drew).grown aD (fun b n=>.inr (by have:=(A b n).1;omega));have aP:=af E;clear a5;go_wp2;go_region;have cs:Hid (au (fun k=>k=Cb\/some c=some k) w6 ((bo.setCell (ae Cb 2) (.int .i64 (N+1))).setCell (ae Cb 3) (.int .i64 (wrap64 (wk+((d.length:Int)+1))))).drew):=by
     rw[<-aT.o];exact((((au.refl _ w6).set _ (.inl (.inr rfl))).set _ (.inl (.inl rfl))).set _ (.inl (.inl rfl))).drew
    have bz:Hid (au (fun k=>k=Cb\/f=some k) W ((bo.setCell (ae Cb 2) (.int .i64 (N+1))).setCell (ae Cb 3) (.int .i64 (wrap64 (wk+((d.length:Int)+1))))).drew):=by
     rw[<-aT.o];exact(((aR.o.set _ (by rcases a4 with h9|h9;exact .inl (.inr h9);exact .inr h9)).set _ (.inl (.inl rfl))).set _ (.inl (.inl rfl))).drew
    have F:=al.o;clear bp al c7 c8 c9 da t0 t1 t2 t3 cN cO K Q aT;generalize c5:((bo.setCell (ae Cb 2) (.int .i64 (N+1))).setCell (ae Cb 3) (.int .i64 (wrap64 (wk+((d.length:Int)+1))))).drew=cg at*;obtain⟨u0,u1,u2,u3⟩:=F.cell;have bd:=F.row;rw[b0]at bd;have dc:=bd.cellAt i (by omega);rw[cq.o]at dc;have a1:=cw.o.kept (aP.o.eU rfl cs.o);have ce:=bz.o.size;have ck:=Ao r (d++[(x,nn)]) (d.length+1) l cg aF a1.Mi (by omega);have al:=af F;have cx:=af a1;clear c5 aI bc bd F a1 bO
    go_wp2_with fail
    refine ck.mono ?_;rintro e aK ⟨bl,rfl,b9,ax⟩;go_wp2;go_ret2;have bE:au (fun k=>k=Cb\/f=some k) W aK:=bz.o.below ax;have b2:=H.o.eU C.o bE;refine⟨i,bl,aj c ch1.length v,(sH ch1 i 0).set i (r,d++[(x,nn)],l),_,rfl,hi,T.o,M.o,al.o.below ax,?_,?_,?_,?_,?_,?_,?_⟩
    .have b8:∀b,b<cg.heap.size->bl.ownBlock≠some b:=fun b n e=>by have:=(b9.lt b e).1;omega
     have bV:∀aW:World,(∀(b:Nat) J fr,aK.heap[b]? =some (Obj.cells J 204 fr)->bl.ownBlock≠some b->aW.heap[b]? =aK.heap[b]?)->jI aW ((sH ch1 i 0).set i (r,d++[(x,nn)],l)):=by
      intro aW Y h a6;rcases yY am.o a6 with rfl|rfl|h1
      .exact⟨cx.o.kept fun b J fr n=>(Y b J fr ((aL ax n).trans n) (b8 b (aZ.1 n).1)).trans (aL ax n),by show(d++[(x,nn)]).length<=l;omega⟩
      .exact⟨.inl rfl,ay _⟩
      .exact⟨(aS.o h h1).1.kept fun b J fr n=>(Y b J fr ((b2 b J fr n).trans n) (b8 b (bB (aZ.1 n).1 ce))).trans (b2 b J fr n),(aS.o h h1).2⟩
     exact⟨bV aK (fun _ _ _ _ _=>rfl),bV⟩
    .exact EY am.o _ (x,nn) (by show d++[(x,nn)]=_;rw[a0])
    .rw[a0,aF];exact bL b9 ce
    .rcases aN.o with h9|h9
     .exact .inl (h9.trans C.o)
     .exact .inr h9
    .exact bE.mono fun k q=>q.imp id fun h9=>C.o▸h9
    .intro h a6;rcases yY am.o a6 with rfl|rfl|h1
     .exact .inr cl.o
     .exact .inr fun a a3=>by cases a3
     .exact .inl h1
    .rw[a0]
end
section
open Go.RowKit Go.Maps
section
variable {W:World} {base Cb:Nat} {cv:Value} {ch:List kX} {N wk:Int}
theorem Aq (h:iK W base Cb cv ch N wk) (f:ch.length<=1000000):aH 209 #[ah Cb] W (eY W (aa ch.length)):=by
 have b:=af (rC h);have H:=af h;obtain⟨av,d,rfl,-,-,-⟩:=Rd.aC (enc:=dQ) H.o.row;go_enter func209,ntmps209
 go_wp2_with fail
 refine b.o.mono ?_;rintro e w2 ⟨rfl,a⟩;obtain⟨-,c,-⟩:=(H.o.below a).cell;go_wp2;go_ret;exact⟨rfl,a⟩
theorem Py (h:iK W base Cb cv ch N wk):aH 137 #[ah Cb] W (eY W (aa N)):=by
 have b:=af (rC h);have H:=af h;go_enter func137,ntmps137
 go_wp2_with fail
 refine b.o.mono ?_;rintro e w2 ⟨rfl,a⟩;obtain⟨-,-,c,-⟩:=(H.o.below a).cell;go_wp2;go_ret;exact⟨rfl,a⟩
theorem Ar (h:iK W base Cb cv ch N wk) (t:jI W ch) (B:ch.length<=1000000) (i:Nat) (hi:i<ch.length) (j:ch[i].2.1.length<=1000000):aH 210 #[ah Cb,aa i] W fun e w'=>
  ∃v,e=.returned v/\w'.ownsRow W.heap.size 204 2 v ch[i].2.1.length (ch[i].2.1.flatMap iC)/\Below W.heap.size W w':=by
 have m:=af (rC h);have H:=af h;obtain⟨av,w,rfl,-,-,-⟩:=Rd.aC (enc:=dQ) H.o.row;obtain⟨g,x,c,y,z,-,-⟩:=aQ H.o.row (by omega);injection c with c _ q;subst c q;have f:=af (fun W' (d:Below W.heap.size W W')=>(t _ (bN hi)).1.Mi.below d);have b:=af (fun W' (d:Below W.heap.size W W')=>(show W'.cell? (ae g i)=some (dQ ch[i]) by
  have:=((H.o.below d).row).cellAt i (by omega);rw[gY,dw hi]at this;exact this))
 unfold dQ at b;have A:(i:Int)<(ch.length:Int):=by omega
 generalize ch[i]=hd at*;have⟨n,k,p⟩:=hd;simp only at f b j |-;have d1:decide ((i:Int)<0)=false:=by simp
 go_enter func210,ntmps210
 go_wp2_with fail
 refine m.o.mono ?_;rintro e w2 ⟨rfl,a⟩;obtain⟨-,u,-⟩:=(H.o.below a).cell;have D:=b.o w2 a;have l:=af (Ao n k k.length p w2 rfl (f.o w2 a) j)
 go_wp2_with fail
 refine l.o.mono ?_;rintro e w3 ⟨C,rfl,s,r⟩;have HO:=af (bL s a.size);go_wp2;go_ret;exact⟨_,rfl,HO.o,a.trans (r.mono a.size)⟩
end
structure dR (W:World) (base A Cb:Nat) (bv pv lv cv:Value) (bh ch:List kX) (al:List Bool) (pl:List Int) (n N wk:Int):Prop where
 hb:base<=A
 blk:W.heap[A]? =some (Obj.cells #[ah Cb,bv,pv,lv,aa n] 207 (0,0))
 fH:iK W base Cb cv ch N wk
 gI:W.ownsRow base 209 1 bv bh.length (bh.map dQ)
 iq:W.ownsRow base 3 1 pv pl.length (pl.map (Value.int .i64))
 dP:W.ownsRow base 4 1 lv al.length (al.map Value.bool)
 bE:jI W bh
 cE:jI W ch
 sep:bv.ownBlock=none\/bv.ownBlock≠cv.ownBlock
section
variable {W:World} {base A Cb:Nat} {bv pv lv cv:Value} {bh ch:List kX} {al:List Bool} {pl:List Int} {n N wk:Int}
theorem dR.cell (h:dR W base A Cb bv pv lv cv bh ch al pl n N wk):
  W.cell? (ae A 0)=some (ah Cb)/\W.cell? (ae A 1)=some bv/\W.cell? (ae A 2)=some pv/\W.cell? (ae A 3)=some lv/\W.cell? (ae A 4)=some (aa n):=by
 have:=h.blk;refine⟨?_,?_,?_,?_,?_⟩<;>simp[World.cell?,this]
theorem dR.frozen (h:dR W base A Cb bv pv lv cv bh ch al pl n N wk) (j:Nat):W.frozen? (ae A j)=false:=by
 have:=h.blk;simp[World.frozen?,this]
theorem dR.lt (h:dR W base A Cb bv pv lv cv bh ch al pl n N wk):A<W.heap.size:=(aZ.1 h.blk).1
theorem dR.below {W':World} (h:dR W base A Cb bv pv lv cv bh ch al pl n N wk) (hb:Below W.heap.size W W'):dR W' base A Cb bv pv lv cv bh ch al pl n N wk:=
 ⟨h.hb,(aL hb h.blk).trans h.blk,h.fH.below hb,ax h.gI hb,ax h.iq hb,ax h.dP hb,h.bE.kept fun b c fr a=>aL hb a,h.cE.kept fun b c fr a=>aL hb a,h.sep⟩
theorem JC (h:dR W base A Cb bv pv lv cv bh ch al pl n N wk):aH 130 #[ah A] W (eY W (.bool false)):=by
 obtain⟨a,-⟩:=h.cell;go_enter func130,ntmps130;go_wp2;go_ret;exact⟨rfl,aB _ _⟩
end
def je (ES:List iR) (al:List Bool) (pl:List Int) (id p:Int):Prop:=∃k:Nat,(id,(k:Int))∈ES/\al[k]? =some true/\pl[k]? =some p
def Fy (NB CB:List (List iR)):Prop:=NB.length=CB.length/\∀(i:Nat) (h:i<NB.length) (h':i<CB.length),NB[i].Perm CB[i]
structure vR (CB NB:List (List iR)) (al:List Bool) (pl:List Int) (n N:Int):Prop where
 len:al.length=pl.length
 sorted:∀l∈NB,l.Pairwise fun p q=>p.1<=q.1
 perm:Fy NB CB
 ids:(CB.flatten.map (·.1)).Nodup
 vS:∀x∈CB.flatten,∃k:Nat,x.2=k/\k<al.length
 vT:(CB.flatten.map (·.2)).Nodup
 live:∀k:Nat,al[k]? =some true->∃x∈CB.flatten,x.2=k
 cnt:n=(al.count true:Nat)
 stored:N=(CB.flatten.length:Nat)
 bound:al.length<=5000
 small:CB.flatten.length<=5000
 size:∀(i:Nat) (h:i<CB.length),CB[i].length=0\/CB[i].length=2^i
 last:∀(i:Nat) (h:i<CB.length),i+1=CB.length->CB[i]≠[]
structure rD (CB NB:List (List iR)) (al:List Bool) (pl:List Int) (n N:Int):Prop extends vR CB NB al pl n N where
 most:N<=2*n
theorem oh {L:List iR} (h:(L.map (·.1)).Nodup) {x y:iR} (b:x∈L) (c:y∈L) (e:x.1=y.1):x=y:=by
 have a:L.Pairwise fun p q=>p.1≠q.1:=dE.1 h;rcases fE a b c with h1|h1|h1
 .exact h1
 .exact absurd e h1
 .exact absurd e.symm h1
theorem iL {NB CB:List (List iR)} (h:Fy NB CB) (x:iR):x∈NB.flatten↔x∈CB.flatten:=by
 simp only[oH];constructor
 .rintro⟨l,b,c⟩;obtain⟨i,hi,rfl⟩:=jk b;have a:i<CB.length:=by rw[<-h.1];exact hi
  exact⟨CB[i],bN a,(h.2 i hi a).mem_iff.1 c⟩
 .rintro⟨l,b,c⟩;obtain⟨i,a,rfl⟩:=jk b;have hi:i<NB.length:=by rw[h.1];exact a
  exact⟨NB[i],bN hi,(h.2 i hi a).mem_iff.2 c⟩
theorem KU (W:World):dR ((W.alloc (.cells #[.bool true,aG,aa 0,aa 0] 290)).alloc (.cells #[ah W.heap.size,aG,aG,aG,aa 0] 207)) W.heap.size (W.heap.size+1) W.heap.size (aG) (aG) (aG) (aG) [] [] [] [] 0 0 0 where
 hb:=Nat.le_succ _
 blk:=by
  have:=tC (W.alloc (.cells #[.bool true,aG,aa 0,aa 0] 290)) (.cells #[ah W.heap.size,aG,aG,aG,aa 0] 207);rw[show(W.alloc (.cells #[.bool true,aG,aa 0,aa 0] 290)).heap.size=W.heap.size+1 by simp]at this;exact this
 fH:=⟨ay _,Ti,by
  have b:=tC W (.cells #[.bool true,aG,aa 0,aa 0] 290);exact(bY _ _ _ (by simp)).trans b,dz _ _ _ _⟩
 gI:=dz _ _ _ _
 iq:=dz _ _ _ _
 dP:=dz _ _ _ _
 bE:=fun h a=>by cases a
 cE:=fun h a=>by cases a
 sep:=.inl rfl
theorem Nc:rD [] [] [] [] 0 0 where
 len:=rfl
 sorted:=fun l b=>by cases b
 perm:=⟨rfl,fun i h=>by cases h⟩
 ids:=oK
 vS:=fun x c=>by cases c
 vT:=oK
 live:=fun k a=>by cases a
 cnt:=rfl
 stored:=rfl
 most:=by decide
 bound:=bf _
 small:=bf _
 size:=fun i h=>by cases h
 last:=fun i h=>by cases h
theorem Rs (W:World):aH 54 #[] W fun e w'=>e=.returned (ah (W.heap.size+1))/\dR w' W.heap.size (W.heap.size+1) W.heap.size (aG) (aG) (aG) (aG) [] [] [] [] 0 0 0/\Below W.heap.size W w':=by
 have H:=af (KU W);have a:Hid (Below W.heap.size W ((W.alloc (.cells #[.bool true,aG,aa 0,aa 0] 290)).alloc (.cells #[ah W.heap.size,aG,aG,aG,aa 0] 207))):=((aB _ _).alloc (ay _) _).alloc (by simp) _;go_enter func54,ntmps54;go_wp2;go_ret;exact⟨rfl,H.o,a.o⟩
end
section
open Go.RowKit Go.Maps
attribute [local irreducible] wpQuiet
section
variable {W:World} {base A Cb:Nat} {bv pv lv cv:Value} {bh ch:List kX} {al:List Bool} {pl:List Int} {n N wk:Int}
theorem dR.Rt (h:dR W base A Cb bv pv lv cv bh ch al pl n N wk) (n':Int):dR (W.setCell (ae A 4) (.int .i64 n')) base A Cb bv pv lv cv bh ch al pl n' N wk where
 hb:=h.hb
 blk:=by rw[dA W A 4 _ _ _ h.blk];rfl
 fH:=⟨h.fH.hb,h.fH.ds,(az (dU h.blk h.fH.blk (by decide))).trans h.fH.blk,aV h.fH.row fun a e=>az (bz h.fH.row h.blk (by decide) a e)⟩
 gI:=aV h.gI fun a e=>az (bz h.gI h.blk (by decide) a e)
 iq:=aV h.iq fun a e=>az (bz h.iq h.blk (by decide) a e)
 dP:=aV h.dP fun a e=>az (bz h.dP h.blk (by decide) a e)
 bE:=h.bE.kept fun b d fr c=>az (dU h.blk c (by decide))
 cE:=h.cE.kept fun b d fr c=>az (dU h.blk c (by decide))
 sep:=h.sep
theorem y7 {e:TypeId} {sz k g c:Nat} {xs:List Value} (h:W.ownsRow base e sz (aj g k c) k xs):∃b,W.heap[g]? =some (Obj.cells b e (0,0)):=by
 rcases h.2 with⟨a,_⟩|⟨i,f,b,a,_,d,_⟩
 .cases a
 .injection a with a;injection a with a;injection a with a _ _;subst a;exact⟨b,d⟩
theorem dR.Ru {g k f:Nat} (h:dR W base A Cb bv pv (aj g k f) cv bh ch al pl n N wk) (d:k=al.length) (m:Nat) (b:Bool):dR (W.setCell (ae g m) (.bool b)) base A Cb bv pv (aj g k f) cv bh ch (al.set m b) pl n N wk:=by
 subst d;have⟨i,a⟩:=y7 h.dP;refine⟨h.hb,(az (dU a h.blk (by decide))).trans h.blk,⟨h.fH.hb,h.fH.ds,(az (dU a h.fH.blk (by decide))).trans h.fH.blk,aV h.fH.row fun c e=>az (bz h.fH.row a (by decide) c e)⟩,
  aV h.gI fun c e=>az (bz h.gI a (by decide) c e),aV h.iq fun c e=>az (bz h.iq a (by decide) c e),?_,
  h.bE.kept fun b i fr d=>az (dU a d (by decide)),h.cE.kept fun b i fr d=>az (dU a d (by decide)),h.sep⟩
 rw[jY,j3];exact(h.dP.stored m _).1
theorem dR.Um {g k f:Nat} (h:dR W base A Cb bv (aj g k f) lv cv bh ch al pl n N wk) (d:k=pl.length) (m:Nat) (p:Int):dR (W.setCell (ae g m) (.int .i64 p)) base A Cb bv (aj g k f) lv cv bh ch al (pl.set m p) n N wk:=by
 subst d;have⟨i,a⟩:=y7 h.iq;refine⟨h.hb,(az (dU a h.blk (by decide))).trans h.blk,⟨h.fH.hb,h.fH.ds,(az (dU a h.fH.blk (by decide))).trans h.fH.blk,aV h.fH.row fun c e=>az (bz h.fH.row a (by decide) c e)⟩,
  aV h.gI fun c e=>az (bz h.gI a (by decide) c e),?_,aV h.dP fun c e=>az (bz h.dP a (by decide) c e),
  h.bE.kept fun b i fr d=>az (dU a d (by decide)),h.cE.kept fun b i fr d=>az (dU a d (by decide)),h.sep⟩
 rw[jY,j3];exact(h.iq.stored m _).1
theorem D9 (h:dR W base A Cb bv pv lv cv bh ch al pl n N wk) (g:rD (ch.map (·.2.1)) (bh.map (·.2.1)) al pl n N) (F:bh.length<=1000) (L:∀l∈bh.map (·.2.1),l.length<=10000) (id p M:Int) (G:je (ch.map (·.2.1)).flatten al pl id M):
  aH 56 #[ah A,ai id,aa p] W (eY W (aa 2)):=by
 have j:=af (JC h);have H:=af h;have r:=af (fun W' (c:Below W.heap.size W W')=>vQ A id W' _ bh bv base ((h.below c).cell.2.1) (h.below c).gI rfl (h.below c).bE g.sorted (by simpa using F) L);have b:=af g;have s:=af G;go_enter func56,ntmps56
 go_wp2_with fail
 refine j.o.mono ?_;rintro e w2 ⟨rfl,d⟩
 go_wp2_with fail
 refine(r.o w2 d).mono ?_;rintro e w3 ⟨k,t,rfl,ht,D,C⟩;have a:=d.trans (C.mono d.size);have⟨m,f,z,X⟩:=s.o;obtain⟨-,-,T,U,-⟩:=(H.o.below a).cell;have E:k=(m:Int):=by
  rcases D with⟨y,i,v,w⟩|⟨-,J⟩
  .rw[iL b.o.perm]at i;have:=oh b.o.ids i f (by simpa using v);rw[<-w,this]
  .exact absurd rfl (J _ ((iL b.o.perm _).2 f))
 subst E;have⟨I,B⟩:=fC.1 z;obtain⟨Q,R,rfl,-,-,K⟩:=Rd.aC (H.o.below a).dP;obtain⟨P,S,u,-,x⟩:=K.get (by omega);have O:=x m I;rw[B]at O;have V:(m:Int)<(al.length:Int):=by omega
 have q:=af u;obtain rfl:=q.o;go_wp2;go_ret;exact⟨rfl,a⟩
theorem Ea (h:dR W base A Cb bv pv lv cv bh ch al pl n N wk) (z:rD (ch.map (·.2.1)) (bh.map (·.2.1)) al pl n N) (U:bh.length<=1000) (ab:∀l∈bh.map (·.2.1),l.length<=10000) (id p:Int) (m:Nat) (w:(id,(m:Int))∈(ch.map (·.2.1)).flatten) (g:al[m]? =some false) (aA:0<=n/\n<=100000):
  aH 56 #[ah A,ai id,aa p] W fun e w'=>e=.returned (aa 0)/\dR w' base A Cb bv pv lv cv bh ch (al.set m true) (pl.set m p) (n+1) N wk/\au (fun k=>k=A\/pv.ownBlock=some k\/lv.ownBlock=some k) W w':=by
 have F:=af (JC h);have H:=af h;have G:=af (fun W' (d:Below W.heap.size W W')=>vQ A id W' _ bh bv base ((h.below d).cell.2.1) (h.below d).gI rfl (h.below d).bE z.sorted (by simpa using U) ab);have c:=af z;go_enter func56,ntmps56
 go_wp2_with fail
 refine F.o.mono ?_;rintro e w2 ⟨rfl,f⟩
 go_wp2_with fail
 refine(G.o w2 f).mono ?_;rintro e w3 ⟨k,t,rfl,ht,S,R⟩;have r:=f.trans (R.mono f.size);have a:=af (H.o.below r);have⟨ad,ag,ak,am,an⟩:=a.o.cell;have T:k=(m:Int):=by
  rcases S with⟨y,B,P,Q⟩|⟨-,X⟩
  .rw[iL c.o.perm]at B;have:=oh c.o.ids B w (by simpa using P);rw[<-Q,this]
  .exact absurd rfl (X _ ((iL c.o.perm _).2 w))
 subst T;have⟨V,aq⟩:=fC.1 g;have x:m<pl.length:=by rw[<-c.o.len];exact V
 obtain⟨u,L,M,ar,av,-,-⟩:=aQ a.o.dP (by omega);obtain⟨v,ac,O,aw,ax,-,-⟩:=aQ a.o.iq (by omega);subst M O;have C:=a.o.dP.cellAt m (by omega);have E:=a.o.iq.cellAt m (by omega);rw[gY,g]at C;rw[gY,dw x]at E;simp only[aO]at C E;have f4:=a.o.frozen 4;have ay:(m:Int)<(al.length:Int):=by omega
 have az:(m:Int)<(pl.length:Int):=by omega
 have b:=a.o.Rt (n+1);have⟨d0,d1,d2,d3,d4⟩:=b.cell;have D:=b.dP.cellAt m (by omega);have i:=b.iq.cellAt m (by omega);rw[gY,g]at D;rw[gY]at i;have ao:=b.dP.frozenAt m;have K:=(b.Ru rfl m true).Um rfl m p;have s:=b.Ru rfl m true;have j:=s.iq.cellAt m (by omega);rw[gY]at j;have ap:=s.iq.frozenAt m;have Y:∃q,pl[m]? =some q:=⟨pl[m],dw x⟩;have⟨aC,Z⟩:=Y;rw[Z]at i j;simp only[aO]at D i j;have J:=af K;have I:Hid (au (fun k=>k=A\/Value.ownBlock (aj v pl.length ac)=some k\/Value.ownBlock (aj u al.length L)=some k) W (((w3.setCell (ae A 4) (.int .i64 (n+1))).setCell (ae u m) (.bool true)).setCell (ae v m) (.int .i64 p)).drew):=
  ((((au.refl _ W).below r).set _ (.inl (.inl rfl))).set _ (.inl (.inr (.inr rfl)))).set _ (.inl (.inr (.inl rfl)))|>.drew
 go_wp2;go_region
 all_goals
  go_wp2;go_ret;exact⟨rfl,J.o.below (aB _ _).drew,I.o⟩
end
end
section
open Go.RowKit Go.Maps
def dG (al:List Bool) (x:iR):Bool:=al[x.2.toNat]? ==some true
theorem pO (i:Nat) (hi:i<14):0<2^i/\2^i<=8192:=⟨Nat.uG i,Da (by decide) (by omega:i<=13)⟩
where Nat.uG (i:Nat):0<2^i:=oV (by decide)
theorem Nf (i:Nat) (hi:i<14):wrap64 ((2:Int)^i)=((2^i:Nat):Int):=by
 have h:=pO i hi;rw[show((2:Int)^i)=((2^i:Nat):Int) by rw[Int.natCast_pow];rfl];generalize 2^i=p at*;unfold wrap64;omega
theorem QM (n i:Nat) (hi:i<14) (f:n<=10000):bits .and .i64 (n:Int) ((2^i:Nat):Int)=(if n.testBit i then((2^i:Nat):Int)else 0):=by
 have h:=pO i hi;have b:(BitVec.ofInt 64 (n:Int)).toNat=n:=by
  rw[BitVec.ofInt_natCast,BitVec.toNat_ofNat];exact Dr (by omega)
 have c:(BitVec.ofInt 64 ((2^i:Nat):Int)).toNat=2^i:=by
  rw[BitVec.ofInt_natCast,BitVec.toNat_ofNat];exact Dr (by omega)
 show IntKind.i64.wrap ((BitVec.ofInt 64 (n:Int) &&& BitVec.ofInt 64 ((2^i:Nat):Int)).toNat:Int)=_;have d:n &&& 2^i=if n.testBit i then 2^i else 0:=by
  apply Nat.eq_of_testBit_eq;intro j;rw[Nat.testBit_and,Nat.testBit_two_pow];by_cases a:i=j
  .subst a;cases e:n.testBit i<;>simp[]
  .cases e:n.testBit i<;>simp[a]
 rw[BitVec.toNat_and,b,c,d];generalize 2^i=p at*;cases n.testBit i<;>simp[IntKind.wrap,IntKind.bits,IntKind.signed];omega
theorem QN (n i:Nat):n.testBit i=decide (2^i<=n%2^(i+1)):=by
 rw[Nat.testBit_eq_decide_div_mod_eq,Nat.mod_pow_succ];have c:n%2^i<2^i:=nz _ (oV (by decide));have a:n/2^i%2=0\/n/2^i%2=1:=by omega
 generalize n/2^i%2=b at*;generalize n%2^i=r at*;generalize 2^i=p at*;rcases a with rfl|rfl
 .have:¬p<=r+p*0:=by omega
  rw[Dt this];rfl
 .have:p<=r+p*1:=by omega
  simp[]
theorem Fz (n i:Nat):(n.testBit i=true->n%2^(i+1)=n%2^i+2^i)/\(n.testBit i=false->n%2^(i+1)=n%2^i):=by
 rw[Nat.testBit_eq_decide_div_mod_eq,Nat.mod_pow_succ];have a:n/2^i%2=0\/n/2^i%2=1:=by omega
 generalize n/2^i%2=b at*;rcases a with rfl|rfl<;>simp
section
variable {P:Program} {ops:Array Oper} {rest:List Oper} {o:Oper} {a:Act} {Q:Exit->Act->World->Prop}
theorem Au {α:Type} {enc:α->List Value} {sz:Nat} {t e:TypeId} {bytes:Nat} (s:eH P t e sz bytes) {W:World} {ad:Option Addr} {l:List α} {c:Nat} (E:cz enc sz W ad l) (w:l.length<=c) (lo hi:Nat) (q:lo<=hi) (u:hi<=l.length)
  (y:o.guard=none) (x:Operand) (n f:Option Operand) (j:o.op=.slice t x n f none) (m:a.eval x=.slice ad l.length c)
  (g:(n.map a.eval).getD (.int .i64 0)=.int .i64 lo) (b:(f.map a.eval).getD (.int .i64 l.length)=.int .i64 hi)
  (h:∀p,(∀W',cz enc sz W' ad l->cz enc sz W' p ((l.take hi).drop lo))->wpList P ops Q rest (a.put o.dst (.slice p (hi-lo) (c-lo))) W):wpList P ops Q (o::rest) a W:=by
 obtain⟨ht,⟨i,z,A,G,C,D,H⟩,F⟩:=s;refine wpList_plain y fun K v=>?_;have d:=v _ _ (h _ (fun W' B=>DT B w lo hi u));have hu:∀W',(underlying t).run P W'=.ok (.slice e) W':=fun W'=>oJ ht W';have k:∀W',(sizeOf e).run P W'=.ok sz W':=fun W'=>by simp[sizeOf,typeInfo,A,C]
 unfold Oper.wp execOp;have r:hi<=c:=by omega
 rcases n with _|lw
 .simp only[kT,l6,oI,oW]at g;obtain rfl:lo=0:=by omega
  rcases f with _|hg
  .simp only[kT,l6,oI,oW]at b;obtain rfl:hi=l.length:=by omega
   simp only[j,m,kT,Instr.sliceAt,Instr.slice,Instr.sliceBounds,xe,hu,k,wU,xg];exact d
  .simp only[aO,gq]at b;simp[j,m,b,Instr.sliceAt,Instr.slice,Instr.sliceBounds,Instr.sliceBound,hu,k,asIntOf,r];simp only[Nat.zero_mul,Nat.sub_zero]at d;exact d
 .simp only[aO,gq]at g;rcases f with _|hg
  .simp only[kT,l6,oI,oW]at b;obtain rfl:hi=l.length:=by omega
   simp[j,m,g,Instr.sliceAt,Instr.slice,Instr.sliceBounds,Instr.sliceBound,hu,k,asIntOf,q];exact d
  .simp only[aO,gq]at b;simp[j,m,g,b,Instr.sliceAt,Instr.slice,Instr.sliceBounds,Instr.sliceBound,hu,k,asIntOf,q,r];exact d
end
end
section
open Go.RowKit Go.Maps
attribute [local irreducible] wpQuiet
def Un (W:World) (base Cb:Nat) (wk:Int) (l:List iR) (e:Ending) (w':World):Prop:=
 ∃(Bw:Value) (qj:List kX) (Jp:Int),e=.returned (aa l.length)/\iK w' base Cb Bw qj l.length Jp/\jI w' qj/\qj.map (·.2.1)=setC (Lib.bitLen l.length) l/\
  (Bw.ownBlock=none\/∃b,Bw.ownBlock=some b/\W.heap.size<=b)/\au (fun k=>k=Cb) W w'/\Nw W.heap.size [] qj/\Jp=wrap64 (wk+(l.length:Int))
theorem Pz {W:World} {base Cb:Nat} {cv:Value} {ch:List kX} {N wk:Int} (h:iK W base Cb cv ch N wk) (cf:base<=W.heap.size) (a:Option Addr) (l:List iR) (c:Nat) (a7:KT W a l) (bL:l.length<=c) (aB:l.length<=10000):
  aH 211 #[ah Cb,.slice a l.length c] W (Un W base Cb wk l):=by
 have aO:=af (rC h);have H:=af h;have bF:=fw aB (by decide);have bG:Lib.bitLen 10000=14:=by decide
 rw[bG]at bF;have aV:=af a7;have aW:l.length<2^Lib.bitLen l.length:=by
  by_cases a3:l.length=0
  .rw[a3];decide
  .exact(bM _ (by omega) a3).2.2
 have bl:=af aW;clear aW;clear h a7;go_enter func211,ntmps211
 go_wp2_with fail
 refine aO.o.mono ?_;rintro e w2 ⟨rfl,B⟩;have C:=af (H.o.below B);obtain⟨bx,bz,bA,bB⟩:=C.o.cell;have f1:=C.o.frozen 1;have Z:Hid (iK (w2.setCell (ae Cb 1) (aG)) base Cb (aG) [] N wk):=gQ.KA (ch:=ch) C.o.blk C.o.hb C.o.ds (dz _ _ _ _) (by simp[Value.ownBlock]);obtain⟨d0,d1,d2,d3⟩:=Z.o.cell;have f2:=Z.o.frozen 2;have aZ:Hid (iK ((w2.setCell (ae Cb 1) (aG)).setCell (ae Cb 2) (.int .i64 l.length)) base Cb (aG) [] l.length wk):=Z.o.zY _;have aY:Hid (au (fun k=>k=Cb) W ((w2.setCell (ae Cb 1) (aG)).setCell (ae Cb 2) (.int .i64 l.length))):=(((au.refl (fun k=>k=Cb) W).below B).set (a:=(ae Cb 1)) _ (.inl rfl)).set (a:=(ae Cb 2)) _ (.inl rfl);have cd:=H.o.lt;clear aO
 go_upto_block 0 with fail
 go_cut []from 19 to 33 (fun w=>∃v,Hid (iK w base Cb v (List.replicate (Lib.bitLen l.length) fF) l.length wk)/\Hid (v.ownBlock=none\/∃b,v.ownBlock=some b/\W.heap.size<=b)/\Hid (au (fun k=>k=Cb) W w))
 case first=>
  go_wp2_with fail
  generalize((w2.setCell (ae Cb 1) (aG)).setCell (ae Cb 2) (.int .i64 l.length))=w3 at*
  go_loopw [5] (fun aM wr=>∃(k m:Nat) (v:Value),aM=.int .i64 m/\m<=10000/\Hid (k+Lib.bitLen m=Lib.bitLen l.length)/\Hid (iK wr base Cb v (List.replicate k fF) l.length wk)/\Hid (v.ownBlock=none\/∃b,v.ownBlock=some b/\W.heap.size<=b)/\Hid (au (fun k=>k=Cb) W wr)) (fun aM _=>(intOf aM).toNat)
  case atStart=>exact⟨0,l.length,_,rfl,aB,(by show _=_;omega),aZ,.inl rfl,aY⟩
  case round=>
   obtain⟨k,m,v,rfl,bR,aU,f,E,s⟩:=hrel;by_cases yO:m=0
   .subst yO;obtain rfl:k=Lib.bitLen l.length:=aU.o
    go_wp2_with fail
    go_meet;exact⟨v,f,E,s⟩
   .have aS:Hid (k+1+Lib.bitLen (m/2)=Lib.bitLen l.length):=by
     have:=Lib.bitLen_half m yO (by omega);have:=aU.o;show _=_;omega
    have ag:k+1<=14:=by have:=aS.o;omega
    have J:=f.o.row;rw[gX]at J;have bU:=f.o.ne;have cr:(0:Int)<(m:Int):=by omega
    obtain⟨aw,ax,az,aA⟩:=f.o.cell;have bp:Hid (∀w6,wr.grownBy w6 v.ownBlock->w6.heap[Cb]? =some (Obj.cells #[.bool true,v,aa l.length,aa wk] 290 (0,0))):=fun w6 ac=>(ac.block Cb f.o.lt (fun e=>f.o.ne e.symm)).trans f.o.blk
    go_wp2_with (at_builtin;refine bZ JA base J [aG] rfl (by simp[Value.oneCell']) rfl _ _ rfl rfl _ rfl (by unfold maxLen;omega) (by omega) (by have:=s.o.size;omega) ?_;intro cy w6 a9 ac a6;obtain⟨a2,j,rfl,ck,cl,cm,cn⟩:=aQ a9 (by omega);have aJ:=bp.o w6 ac;have cw:w6.cell? (ae Cb 1)=some v:=(by simp[World.cell?,aJ]);have cx:w6.frozen? (ae Cb 1)=false:=(by simp[World.frozen?,aJ]))
    have ce:=f.o.lt;have bV:w6.ownsRow base 209 1 (aj a2 (k+1) j) (List.replicate (k+1) (fF:kX)).length ((List.replicate (k+1) (fF:kX)).map dQ):=by
     rw[gX,Co,bS];exact a9
    have bW:Value.ownBlock (aj a2 (k+1) j)≠some Cb:=by
     rcases a6 with h9|h9
     .rw[h9];exact bU
     .rw[h9];simp;omega
    go_roundw
    case rel=>
     refine⟨k+1,m/2,_,by go_num,by omega,aS,gQ.KA (ch:=List.replicate k fF) aJ f.o.hb f.o.ds bV bW,?_,(s.o.grown ac ?_).set (a:=(ae Cb 1)) _ (.inl rfl)⟩
     .rcases a6 with h9|h9
      .rw[h9];exact E
      .exact .inr ⟨_,h9,by have:=s.o.size;simp;omega⟩
     .intro b i;rcases E.o with h9|⟨bY,h9,Q⟩
      .rw[h9]at i;cases i
      .rw[h9]at i;injection i with i;subst i;exact .inr Q
    case measure=>simp[intOf];omega
 case rest=>
  obtain⟨v,f,E,s⟩:=hcut;obtain⟨w3,bE⟩:∃w3:World,w3=wc:=⟨_,rfl⟩;subst bE;clear Z aZ aY bx bz bA bB f1 f2 d0 d1 d2 d3 C B;generalize bH:Lib.bitLen l.length=K at*;obtain⟨x,aD⟩:∃x,x=v.ownBlock:=⟨_,rfl⟩;have aX:Hid (∀W',au (fun k=>k=Cb\/x=some k) w3 W'->cz iC 2 W' a l):=fun W' R=>((aV.o.kept (H.o.eU rfl (s.o.mono (fun k h=>.inl h)))).kept (f.o.eU aD R)).Mi;have ar:=af aD;clear aD;have an:=f.o;have br:Hid (jI w3 (List.replicate K fF)):=Cq _ _;have bm:Hid ((List.replicate K (fF:kX)).map (·.2.1)=List.replicate K []++[]):=by show _=_;simp
  have bk:Hid (l.length=l.length%2^K):=(Dr bl.o).symm;obtain⟨av,P,bd,-,bN,-⟩:=Rd.aC (enc:=dQ) an.row;rw[gX]at bd bN;subst bd;obtain⟨b2,b3,b4,b5⟩:=an.cell;clear an
  go_upto_block 2 with fail
  go_cut []from 35 to 64 (fun w=>∃ch1,Hid (iK w base Cb (.slice av K P) ch1 l.length wk)/\Hid (Nw W.heap.size [] ch1)/\Hid (jI w ch1)/\Hid (ch1.map (·.2.1)=setC K l)/\Hid (au (fun k=>k=Cb\/x=some k) w3 w))
  case first=>
   go_wp2_with fail
   go_loopw [7,6] (fun aF bX wr=>∃(m:Nat) (ad:Option Addr) (r:List iR) (y:Nat) (ch1:List kX) (T:List (List iR)),aF=.int .i64 ((m:Int)-1)/\bX=.slice ad r.length y/\m<=K/\r.length<=y/\Hid (r.length=l.length%2^m)/\Hid (∀W',au (fun k=>k=Cb\/x=some k) w3 W'->cz iC 2 W' ad r)/\
    Hid (iK wr base Cb (.slice av K P) ch1 l.length wk)/\Hid (Nw W.heap.size [] ch1)/\Hid (jI wr ch1)/\Hid (ch1.map (·.2.1)=List.replicate m []++T)/\Hid (setC K l=setC m r++T)/\Hid (au (fun k=>k=Cb\/x=some k) w3 wr)) (fun aF _ _=>(intOf aF+1).toNat)
   case atStart=>exact⟨K,a,l,c,_,[],by go_num,rfl,ay _,bL,bk,aX,f,Nw.Rb,br,bm,(by show _=_;simp),au.refl _ _⟩
   case round=>
    obtain⟨m,ad,r,y,ch1,T,rfl,rfl,bR,bc,X,M,q,L,D,A,Y,t⟩:=hrel;rcases qf m with yO|yO
    .subst yO;have cg:¬(0:Int)<=((0:Nat):Int)-1:=by omega
     go_wp2_with fail
     go_meet;exact⟨ch1,q,L,D,(by have d:=A.o;have G:=Y.o;show _=_;rw[d,G];rfl),t⟩
    .obtain⟨k,rfl⟩:∃k,m=k+1:=⟨m-1,by omega⟩;have ag:k<14:=by omega
     have ai:=Fz l.length k;have cq:r.length<=l.length:=by rw[X.o];exact Nat.mod_le _ _
     have bv:=Nf k ag;have O:=QM l.length k ag aB;have hp:=pO k ag;have bP:(((k+1:Nat):Int)-1)=(k:Int):=by omega
     have co:(0:Int)<=(k:Int):=by omega
     have aE:ch1.length=K:=by
      have d:=congrArg List.length A.o;have G:=congrArg List.length Y.o;rw[ek,bq,ek]at G;simp at d;omega
     rw[bP];by_cases i:l.length.testBit k=true
     .rw[i]at O;simp only[gD]at O;have I:=ai.1 i;rw[<-X.o]at I;have ak:2^k<=r.length:=by omega
      have aq:Hid (setC K l=setC k (r.drop (2^k))++r.take (2^k)::T):=by
       have d:=Y.o;rw[setC,aK ak,dW]at d;exact d
      have V:Hid (∀hd:kX,hd.2.1=r.take (2^k)->(ch1.set k hd).map (·.2.1)=List.replicate k []++r.take (2^k)::T):=fun hd h9=>by
       rw[j3,A.o,h9,EZ]
      have ap:Hid ((r.drop (2^k)).length=l.length%2^k):=by
       show _=_;rw[kS];omega
      clear ai i I;generalize S:2^k=p at*;have ao:=af S;clear S;obtain⟨b,off,bD,bK,-⟩:=(M.o wr t.o).get (by omega);subst bD;obtain⟨g,b0,ab,ci,cj,-,-⟩:=aQ q.o.row (by omega);rw[aE]at ab;injection ab with ab _ bC;subst ab bC;obtain⟨aw,ax,az,aA⟩:=q.o.cell;have U:(r.take p).length=p:=by rw[eB];omega
      have am:=af (Ao (some (ae b off)) (r.take p) p y wr.drew U ((M.o wr.drew t.o.drew).take p) (by omega));have ct:(0:Int)<=(p:Int)/\(p:Int)<=(r.length:Int):=by omega
      have cs:(p:Int)<=(y:Int):=by omega
      have ba:((p:Int)!=0)=true:=by simp only[bne_iff_ne,ne_eq];omega
      go_upto_region 14 with fail
      simp only[bv,O,ba]
      go_cut []from 52 to 61 (fun w=>∃F,Hid (iK w base Cb (aj g K P) F l.length wk)/\Hid (Nw W.heap.size [] F)/\Hid (jI w F)/\Hid (F.map (·.2.1)=List.replicate k []++r.take p::T)/\Hid (au (fun k=>k=Cb\/x=some k) w3 w))
      case first=>
       have be:aH 204 #[.slice (some (ae b off)) p y] wr.drew fun e w6=>∃u j z,e=.returned (.slice u p j)/\Hid (p<=j)/\Hid (∀a,u=some a->W.heap.size<=a.block)/\Hid (KT w6 u (r.take p))/\Hid (iK w6 base Cb (aj g K P) ch1 l.length wk)/\Hid (Below wr.drew.heap.size wr.drew w6)/\w6.cell? (ae Cb 1)=some (aj g K P)/\w6.cell? (ae g k)=some z/\w6.frozen? (ae g k)=false:=by
        refine am.o.mono ?_;rintro e w6 ⟨cA,rfl,a8,a5⟩;obtain⟨u,j,rfl,cb,a4,bI⟩:=KT.aC a8;have al:=q.o.drew.below a5;obtain⟨b7,a1,b8,b9⟩:=al.cell;have J:=al.row;rw[aE]at J;have aN:=J.cellAt k (by omega);have a0:=J.frozenAt k;rw[dw (show k<(ch1.map dQ).length by simp;omega)]at aN;rw[U]at a4;exact⟨u,j,_,by rw[U],a4,(fun a bJ=>by have d:=(a8.lt a.block (by rw[bJ];rfl)).1;have G:=t.o.size;have ca:=s.o.size;simp at d;omega),bI,al,a5,a1,aN,a0⟩
       clear am;have cp:(k:Int)<(K:Int):=by omega
       go_region_with (go_at_call 204;with_reducible refine be.mono ?_;rintro e w6 ⟨u,j,z,rfl,bi,bf,bu,aR,aP,a1,aN,a0⟩)
       all_goals go_wp2_with fail
       all_goals go_meet
       all_goals
        have bQ:Value.slice u p j=dQ (u,r.take p,j):=by unfold dQ;simp only;rw[U]
        rw[bQ];have bO:x=some g:=ar.o;exact⟨ch1.set k (u,r.take p,j),aR.o.Kz aE.symm k _,L.o.set bf.o,E5 (D.o.kept (W':=w6) fun b b1 fr i=>aL (W:=wr.drew) aP.o i) (aR.o.eU (W':=w6.setCell (ae g k) (dQ (u,r.take p,j))) rfl ((au.refl _ w6).set (a:=(ae g k)) _ (.inl (.inr rfl)))) bu.o (by show(r.take p).length<=j;rw[U];exact bi.o),V.o _ rfl,(((t.o.drew).below aP.o).set (a:=(ae g k)) _ (.inl (.inr bO)))⟩
      case rest=>
       obtain⟨F,bg,bo,bs,bn,aT⟩:=hcut;clear am q D A V t aw ax az aA bK ba X
       go_wp2_with (refine Au Fw (M.o _ aT.o) bc p r.length ak (ay _) rfl _ _ _ rfl rfl rfl rfl ?_;intro bw bb;simp only[jy]at bb)
       go_roundw
       case rel=>exact⟨k,bw,r.drop p,y-p,F,r.take p::T,rfl,(by rw[kS]),by omega,(by rw[kS];omega),(by rw[ao.o];exact ap),(fun W' R=>bb W' (M.o W' R)),bg,bo,bs,bn,aq,aT⟩
       case measure=>simp[intOf]
     .have B:l.length.testBit k=false:=by simpa using i
      rw[B]at O;simp only[jA,qg]at O;have I:=ai.2 B;rw[<-X.o]at I;have ak:¬2^k<=r.length:=by have:=nz l.length (oV (n:=k) (show 0<2 by decide));omega
      have aq:Hid (setC K l=setC k r++[]::T):=by
       have d:=Y.o;rw[setC,aI ak,dW]at d;exact d
      have V:Hid (ch1.map (·.2.1)=List.replicate k []++[]::T):=by
       have d:=A.o;rw[qD,dW]at d;exact d
      have ap:=af I;clear ai i B I;generalize S:2^k=p at*;have ao:=af S;clear S
      go_wp2_with fail
      go_roundw
      case rel=>exact⟨k,ad,r,y,ch1,[]::T,rfl,rfl,by omega,bc,by rw[ao.o];exact ap,M,q,L,D,V,aq,t⟩
      case measure=>simp[intOf]
  case rest=>
   obtain⟨ch1,q,L,D,A,t⟩:=hcut;obtain⟨aw,ax,az,aA⟩:=q.o.cell;have b6:=q.o.frozen 3;have bh:=af (q.o.O6 (wrap64 (wk+(l.length:Int))));have bt:Hid (jI (wc.setCell (ae Cb 3) (.int .i64 (wrap64 (wk+(l.length:Int))))) ch1):=D.o.kept (q.o.eU rfl ((au.refl _ wc).set (a:=(ae Cb 3)) _ (.inl (.inl rfl))));have bj:Hid (au (fun k=>k=Cb) W (wc.setCell (ae Cb 3) (.int .i64 (wrap64 (wk+(l.length:Int)))))):=by
    have cu:=s.o.size;have d:au (fun k=>k=Cb\/W.heap.size<=k) W wc:=(s.o.mono (fun k h=>.inl h)).trans (t.o.mono (fun k h=>h.imp id (fun h9=>by
     rcases E.o with Q|⟨b,Q,cc⟩
     .rw[ar.o,Q]at h9;cases h9
     .rw[ar.o,Q]at h9;injection h9 with h9;omega)))
    have G:au (fun k=>k=Cb) W wc:=⟨d.os,d.tape,d.output,d.size,fun k R bT=>d.block k R (fun h9=>by rcases h9 with h9|h9;exact bT h9;omega)⟩;exact G.set (a:=(ae Cb 3)) _ (.inl rfl)
   clear s t aX f aV;go_wp2;go_ret;exact⟨_,ch1,_,rfl,bh.o,bt.o,by rw[bH];exact A.o,E.o,bj.o,L.o,rfl⟩
end
section
open Go.RowKit Go.Maps
theorem jg {α:Type} (CB:List (List α)) (i:Nat):(eF CB i).Perm (CB.take i).flatten:=by
 unfold eF;exact(tO _).flatten
theorem r9 {α:Type} (CB:List (List α)) (i:Nat) (x:α) (f:∀h:i<CB.length,CB[i]=[]):(jO CB i x).flatten.Perm (x::CB.flatten):=by
 have b:(List.replicate i ([]:List α)).flatten=[]:=by simp
 have c:CB.flatten=(CB.take i).flatten++(CB.drop (i+1)).flatten:=by
  by_cases h:i<CB.length
  .have d:CB=CB.take i++(CB[i]::CB.drop (i+1)):=by rw[<-kZ h,ji]
   have a:=congrArg List.flatten d;rw[f h,kD,tN,fK]at a;exact a
  .rw[jQ (by omega),nL (by omega)];simp
 unfold jO;rw[kD,b,fK,tN,c];have e:(eF CB i++[x]).Perm (x::(CB.take i).flatten):=List.perm_append_comm.trans ((jg CB i).cons x);exact e.append_right _
theorem xO {α:Type} (CB:List (List α)) (i:Nat) (hi:i<=CB.length) (h:∀j (a:j<CB.length),j<i->CB[j].length=2^j):(eF CB i).length+1=2^i:=by
 rw[(jg CB i).length_eq]
 induction i with
 |zero=>simp
 |succ k ih=>
  rw[dZ (by omega),kD,bq];have b:=ih (by omega) (fun j a d=>h j a (by omega));have c:=h k (by omega) (by omega);simp only[tN,List.flatten_nil,iE];rw[oO];omega
theorem om {α:Type} (CB:List (List α)) (i:Nat) (x:α) (hi:i<=CB.length):(jO CB i x).length=if i<CB.length then CB.length else i+1:=by
 unfold jO;simp;split<;>omega
theorem oo {α:Type} (CB:List (List α)) (i:Nat) (x:α) (j:Nat) (c:j<(jO CB i x).length):(jO CB i x)[j]=if j<i then[]else if j=i then eF CB i++[x]else CB.getD j []:=by
 have e:(jO CB i x)[j]? =some ((jO CB i x)[j]):=dw c;generalize(jO CB i x)[j]=X at*;unfold jO at e;by_cases a:j<i
 .rw[aK a];rw[kY (by simpa using a)]at e;simp[a]at e
  first|exact e|exact e.symm
 .rw[aI a];rw[mG (by simp;omega),gX]at e;by_cases b:j=i
  .rw[aK b];subst b;rw[kE,aM]at e;injection e with e;exact e.symm
  .rw[aI b];rw[show j-i=(j-i-1)+1 by omega,aN,Dk,show i+1+(j-i-1)=j by omega]at e;rw[iO,e];rfl
theorem vU {l:List Nat} {n:Nat} (h:l.Nodup) (d:∀k∈l,k<n):l.length<=n:=by
 have b:((List.range n).filter fun k=>decide (k∈l)).Nodup:=lg _ List.nodup_range;have c:=(yu h b).2 (fun k=>by
  simp only[bK,ug,bW];exact⟨fun a=>⟨d k a,a⟩,fun a=>a.2⟩)
 rw[c.length_eq];have:=gK (fun k=>decide (k∈l)) (List.range n);simpa using this
theorem jJ {f:iR->Int} {l m:List iR} (h:l.Perm m):(l.map f).Nodup↔(m.map f).Nodup:=(h.map f).nodup_iff
theorem Ib (al:List Bool):((List.range al.length).filter fun k=>al[k]? ==some true).length=al.count true:=by
 induction al with
 |nil=>rfl
 |cons b l ih=>
  rw[dY,List.range_succ_eq_map,lu,wW,List.count_cons,<-ih];have e:((fun k=>(b::l)[k]? ==some true)∘Nat.succ)=fun k=>l[k]? ==some true:=rfl;rw[e];cases b<;>simp
theorem KV {d:List iR} {al:List Bool} (l:∀x∈d,∃k:Nat,x.2=k/\k<al.length) (u:(d.map (·.2)).Nodup) (t:∀k:Nat,al[k]? =some true->∃x∈d,x.2=k):(d.filter (dG al)).length=al.count true:=by
 rw[<-Ib al];have p:((d.filter (dG al)).map fun x=>x.2.toNat).Nodup:=by
  have f:((d.filter (dG al)).map (·.2)).Nodup:=by
   have g:=dE.1 u;exact dE.2 (lg _ g)
  have g:=dE.1 f;refine dE.2 (g.imp_of_mem ?_);intro a b c r n h;obtain⟨k,i,-⟩:=l a (bK.1 c).1;obtain⟨m,e,-⟩:=l b (bK.1 r).1;rw[i,e]at n;simp only[i,e,gN]at h;exact n (by rw[h])
 have f:((List.range al.length).filter fun k=>al[k]? ==some true).Nodup:=lg _ List.nodup_range;have q:=(yu p f).2 (fun k=>by
  simp only[dI,bK,ug];constructor
  .rintro⟨x,⟨j,c⟩,rfl⟩;obtain⟨m,e,s⟩:=l x j;unfold dG at c;rw[e,gN]at c |-;exact⟨s,c⟩
  .rintro⟨i,c⟩;obtain⟨x,j,o⟩:=t k (by simpa using c);refine⟨x,⟨j,?_⟩,by rw[o,gN]⟩;unfold dG;rw[o,gN];exact c)
 rw[<-q.length_eq,bX]
theorem Rv:rD [] [] [] [] 0 0:=by
 refine⟨⟨rfl,by simp,⟨rfl,fun i h=>absurd h (jR _)⟩,by simp,by simp,by simp,by simp,rfl,rfl,by simp,by simp,fun i h=>absurd h (jR _),fun i h=>absurd h (jR _)⟩,by omega⟩
theorem PD {CB NB:List (List iR)} {al:List Bool} {pl:List Int} {n N:Int} (h:rD CB NB al pl n N) (m:Nat) (p id:Int) (b:(id,(m:Int))∈CB.flatten) (hd:al[m]? =some false):rD CB NB (al.set m true) (pl.set m p) (n+1) N:=by
 obtain⟨c,d⟩:=fC.1 hd;refine⟨⟨by simpa using h.len,h.sorted,h.perm,h.ids,fun x f=>by simpa using h.vS x f,h.vT,?_,?_,h.stored,by simpa using h.bound,h.small,h.size,h.last⟩,by have:=h.most;omega⟩
 .intro k a;by_cases e:k=m
  .subst e;exact⟨_,b,rfl⟩
  .rw[mY (fun h=>e h.symm)]at a;exact h.live k a
 .rw[List.count_set c,d,h.cnt];simp
theorem JD {CB NB:List (List iR)} {al:List Bool} {pl:List Int} {n N:Int} (h:rD CB NB al pl n N) (m:Nat) (hd:al[m]? =some true):vR CB NB (al.set m false) pl (n-1) N:=by
 obtain⟨b,c⟩:=fC.1 hd;refine⟨by simpa using h.len,h.sorted,h.perm,h.ids,fun x d=>by simpa using h.vS x d,h.vT,?_,?_,h.stored,by simpa using h.bound,h.small,h.size,h.last⟩
 .intro k a;by_cases e:k=m
  .subst e;rw[sJ b]at a;cases a
  .rw[mY (fun h=>e h.symm)]at a;exact h.live k a
 .have f:0<al.count true:=List.count_pos_iff.2 (c▸bN b);rw[List.count_set b,c,h.cnt];simp;omega
theorem Ng {CB NB:List (List iR)} {al:List Bool} {pl:List Int} {n N:Int} (h:rD CB NB al pl n N) (id p:Int) (O:∀x∈CB.flatten,x.1≠id) (z:al.length<5000) (i:Nat) (hi:i<=CB.length) (M:∀j (o:j<CB.length),j<i->CB[j]≠[]) (G:∀h:i<CB.length,CB[i]=[])
  (l':List iR) (hp:l'.Perm (eF CB i++[(id,(al.length:Int))])) (P:l'.Pairwise fun p q=>p.1<=q.1):
  rD (jO CB i (id,(al.length:Int))) (List.replicate i []++l'::NB.drop (i+1)) (al++[true]) (pl++[p]) (n+1) (N+1):=by
 have hP:=r9 CB i (id,(al.length:Int)) G;have E:=h.len;have Q:=h.perm.1;have K:(jO CB i (id,(al.length:Int))).length=(List.replicate i []++l'::NB.drop (i+1)).length:=by
  rw[om _ _ _ hi];simp;split<;>omega
 have R:CB.flatten.length<=al.length:=by
  have h1:=h.vT;have v:(CB.flatten.map fun x=>x.2.toNat).Nodup:=by
   have s:=dE.1 h1;refine dE.2 (s.imp_of_mem ?_);intro a b F z w h9;obtain⟨k,c,-⟩:=h.vS a F;obtain⟨m,r,-⟩:=h.vS b z;rw[c,r]at w;simp only[c,r,gN]at h9;exact w (by rw[h9])
  have s:=vU v (n:=al.length) (fun k c=>by
   obtain⟨x,hx,rfl⟩:=dI.1 c;obtain⟨m,r,L⟩:=h.vS x hx;rw[r,gN];exact L)
  rwa [bX]at s
 refine⟨⟨by simp[E],?_,⟨K.symm,?_⟩,?_,?_,?_,?_,?_,?_,by simp;omega,by rw[hP.length_eq,dY];omega,?_,?_⟩,by have:=h.most;omega⟩
 .intro l g;rcases bT.1 g with h1|h1
  .rw[(zq.1 h1).2];exact List.Pairwise.nil
  .rcases gP.1 h1 with rfl|h1
   .exact P
   .exact h.sorted l (GV h1)
 .intro j h1 v;rw[oo];by_cases f:j<i
  .rw[aK f,p9 (by simpa using f)];simp
  .rw[aI f,uT (by simp;omega)];by_cases d:j=i
   .subst d;rw[aK rfl];simp;exact hp
   .rw[aI d];simp only[gX];have C:j-i=(j-i-1)+1:=by omega
    have H:j<NB.length:=by simp at h1;omega
    have D:(l'::NB.drop (i+1))[j-i]'(by simp at h1 |-;omega)=NB[j]:=by
     rw[<-iV,<-dw,<-dw,C,aN,Dk];congr 1;omega
    rw[D,iO,dw (by omega),gq];exact h.perm.2 j H (by omega)
 .rw[jJ hP,lC,lY];refine⟨fun hx=>?_,h.ids⟩;obtain⟨y,u,e⟩:=dI.1 hx;exact O y u e
 .intro x hx;rcases gP.1 (hP.mem_iff.1 hx)with rfl|hx
  .exact⟨al.length,rfl,by simp⟩
  .obtain⟨k,c,t⟩:=h.vS x hx;exact⟨k,c,by simp;omega⟩
 .rw[jJ hP,lC,lY];refine⟨fun hx=>?_,h.vT⟩;obtain⟨y,u,e⟩:=dI.1 hx;obtain⟨k,c,t⟩:=h.vS y u;simp only at e;omega
 .intro k c;by_cases t:k<al.length
  .rw[kY t]at c;obtain⟨x,hx,e⟩:=h.live k c;exact⟨x,hP.mem_iff.2 (kC _ hx),e⟩
  .have I:=(fC.1 c).1;simp at I;have:k=al.length:=by omega
   subst this;exact⟨_,hP.mem_iff.2 (mZ),rfl⟩
 .rw[h.cnt];simp
 .rw[hP.length_eq,h.stored];simp
 .intro j o;rw[oo];by_cases f:j<i
  .rw[aK f];left;rfl
  .rw[aI f];by_cases d:j=i
   .subst d;rw[aK rfl];right;rw[bq,zh];refine xO CB j hi fun k c J=>?_;rcases h.size k c with h9|h9
    .exact absurd (gJ h9) (M k c J)
    .exact h9
   .rw[aI d,iO];have B:j<CB.length:=by rw[om _ _ _ hi]at o;split at o<;>omega
    rw[dw B,gq];exact h.size j B
 .intro j o g;rw[oo];rw[om _ _ _ hi]at g;by_cases A:i<CB.length
  .rw[aK A]at g;rw[aI (by omega)];by_cases d:j=i
   .rw[aK d];simp
   .rw[aI d,iO,dw (by omega),gq];exact h.last j (by omega) g
  .rw[aI A]at g;rw[aI (by omega),aK (by omega)];simp
theorem JE {CB NB NB':List (List iR)} {al:List Bool} {pl:List Int} {n N:Int} (h:vR CB NB al pl n N) (y:Fy NB' (setC (Lib.bitLen ((CB.reverse.flatten).filter (dG al)).length) ((CB.reverse.flatten).filter (dG al)))) (z:∀l∈NB',l.Pairwise fun p q=>p.1<=q.1):
  rD (setC (Lib.bitLen ((CB.reverse.flatten).filter (dG al)).length) ((CB.reverse.flatten).filter (dG al))) NB' al pl n ((CB.reverse.flatten).filter (dG al)).length/\
  (∀id p,je (setC (Lib.bitLen ((CB.reverse.flatten).filter (dG al)).length) ((CB.reverse.flatten).filter (dG al))).flatten al pl id p↔je CB.flatten al pl id p):=by
 have o:CB.reverse.flatten.Perm CB.flatten:=(tO CB).flatten;have hF:=o.filter (dG al);have C:((CB.reverse.flatten).filter (dG al)).length=al.count true:=by rw[hF.length_eq];exact KV h.vS h.vT h.live
 have B:=h.cnt;have w:((CB.reverse.flatten).filter (dG al)).length<=5000:=by
  have b:=gK (dG al) CB.reverse.flatten;rw[o.length_eq]at b;exact bJ b h.small
 generalize A:(CB.reverse.flatten).filter (dG al)=L at*;have m:L.length<2^Lib.bitLen L.length:=by
  by_cases a:L.length=0
  .rw[a];decide
  .exact(bM _ (by omega) a).2.2
 have hP:=(j5 _ L m).trans hF;have t:∀x∈CB.flatten.filter (dG al),x∈CB.flatten:=fun x c=>(bK.1 c).1;refine⟨⟨⟨h.len,z,y,?_,?_,?_,?_,h.cnt,?_,h.bound,?_,xA _ _,?_⟩,by omega⟩,?_⟩
 .rw[jJ hP];exact dE.2 (lg _ (dE.1 h.ids))
 .intro x c;exact h.vS x (t x (hP.mem_iff.1 c))
 .rw[jJ hP];exact dE.2 (lg _ (dE.1 h.vT))
 .intro k s;have⟨x,c,e⟩:=h.live k s;refine⟨x,hP.mem_iff.2 (bK.2 ⟨c,?_⟩),e⟩;unfold dG;rw[e,gN,s];rfl
 .rw[(j5 _ L m).length_eq]
 .rw[(j5 _ L m).length_eq];exact w
 .intro i hi g;rw[ek]at g;have a:L.length≠0:=by
   intro a;rw[a]at g;rw[show Lib.bitLen 0=0 from rfl]at g;omega
  have r:=bM L.length (by omega) a;have e:Lib.bitLen L.length=i+1:=g.symm;have v:=KC i L (by rw[e]at r;simpa using r.2.1) (by rw[ek];omega);have d:(setC (Lib.bitLen L.length) L)[i]? =(setC (i+1) L)[i]? :=by rw[e]
  intro u;rw[dw hi,dw (by rw[ek];omega),u]at d;injection d with d;exact v d.symm
 .intro id p;unfold je;constructor
  .rintro⟨k,b,f,j⟩;exact⟨k,t _ (hP.mem_iff.1 b),f,j⟩
  .rintro⟨k,b,f,j⟩;refine⟨k,hP.mem_iff.2 (bK.2 ⟨b,?_⟩),f,j⟩;unfold dG;rw[gN,f];rfl
theorem FB {a b:Nat} (h:2^a<=b) (c:b<2^13):a<13:=by
 rcases Nat.lt_or_ge a 13 with h1|h1
 .exact h1
 .have:=Da (n:=2) (by decide) h1;omega
theorem pQ {l:List iR} {CB:List (List iR)} (h:l∈CB):l.length<=CB.flatten.length:=(CW h).length_le
theorem vR.levels {CB NB:List (List iR)} {al:List Bool} {pl:List Int} {n N:Int} (h:vR CB NB al pl n N):CB.length<=13/\(CB.length≠0->2^(CB.length-1)<=CB.flatten.length):=by
 rcases qf CB.length with h0|h0
 .rw[h0];exact⟨by decide,fun h=>absurd rfl h⟩
 .have a:CB.length-1<CB.length:=by omega
  have c:=h.last _ a (by omega);have d:CB[CB.length-1].length=2^(CB.length-1):=by
   rcases h.size _ a with h9|h9
   .exact absurd (gJ h9) c
   .exact h9
  have b:=pQ (bN a);rw[d]at b;have e:=FB b (by have:=h.small;omega);exact⟨by omega,fun _=>b⟩
theorem sS:∀{NB CB:List (List iR)},Fy NB CB->NB.flatten.Perm CB.flatten
 |[],[],_=>oL _
 |[],_::_,h=>by cases h.1
 |_::_,[],h=>by cases h.1
 |a::NB,b::CB,h=>by
  rw[tN,tN];exact(h.2 0 (by simp) (by simp)).append (sS (NB:=NB) (CB:=CB) ⟨by simpa using h.1,fun i c d=>h.2 (i+1) (by simpa using c) (by simpa using d)⟩)
theorem vR.Sy {CB NB:List (List iR)} {al:List Bool} {pl:List Int} {n N:Int} (h:vR CB NB al pl n N):NB.length<=13/\NB.flatten.length<=5000/\(∀l∈NB,l.length<=5000)/\CB.flatten.length<=5000:=by
 have c:=h.levels.1;have d:=h.perm.1;have b:=h.small;have e:NB.flatten.length=CB.flatten.length:=(sS h.perm).length_eq;exact⟨by omega,by omega,fun l a=>by have:=pQ a;omega,b⟩
structure Cu (CB:List (List iR)) (al:List Bool) (pl:List Int) (D:List (Int×Int)):Prop where
 iff:∀id p,(id,p)∈D↔je CB.flatten al pl id p
 nodup:(D.map (·.1)).Nodup
 len:D.length=al.count true
theorem Cu.new:Cu [] [] [] []:=by
 refine⟨fun id p=>⟨fun h=>absurd h gZ,?_⟩,oK,rfl⟩;rintro⟨k,h,_⟩;exact absurd h gZ
theorem Cu.key {CB:List (List iR)} {al:List Bool} {pl:List Int} {D:List (Int×Int)} (h:Cu CB al pl D) {id:Int} (hid:id∈D.map (·.1)):∃p,je CB.flatten al pl id p:=by
 obtain⟨x,a,rfl⟩:=dI.1 hid;exact⟨x.2,(h.iff x.1 x.2).1 a⟩
theorem Cu.val {CB NB:List (List iR)} {al:List Bool} {pl:List Int} {n N:Int} {D:List (Int×Int)} (h:Cu CB al pl D) (d:vR CB NB al pl n N) {id:Int} {m:Nat} (c:(id,(m:Int))∈CB.flatten) (b:al[m]? =some true):∃p,(id,p)∈D/\pl[m]? =some p:=by
 have a:=(fC.1 b).1;rw[d.len]at a;exact⟨pl[m],(h.iff _ _).2 ⟨m,c,b,dw a⟩,dw a⟩
theorem Av {D:List (Int×Int)} {id p:Int} (h:(D.map (·.1)).Nodup) (f:id∉D.map (·.1)):((D++[(id,p)]).map (·.1)).Nodup:=by
 rw[bS,oF];refine⟨h,by simp,?_⟩;intro a d b c;simp at c;subst c;exact fun e=>f (e▸d)
theorem Cu.put {CB CB' NB:List (List iR)} {al:List Bool} {pl:List Int} {n N:Int} {D:List (Int×Int)} (h:Cu CB al pl D) (d:vR CB NB al pl n N) {id p:Int} (l:∀x∈CB.flatten,x.1≠id) (hP:CB'.flatten.Perm ((id,(al.length:Int))::CB.flatten)):Cu CB' (al++[true]) (pl++[p]) (D++[(id,p)]):=by
 have c:=d.len;refine⟨fun r s=>?_,Av h.nodup (fun hid=>?_),by simp[h.len]⟩
 .rw[bT,h.iff];constructor
  .rintro(⟨k,h1,b,a⟩|h1)
   .have g:=(fC.1 b).1;exact⟨k,hP.mem_iff.2 (kC _ h1),by rw[kY g];exact b,by rw[kY (by omega)];exact a⟩
   .simp at h1;obtain⟨rfl,rfl⟩:=h1;exact⟨al.length,hP.mem_iff.2 mZ,by simp,by rw[c];simp⟩
  .rintro⟨k,h1,b,a⟩;rcases gP.1 (hP.mem_iff.1 h1)with e|h1
   .right;injection e with f o;have:k=al.length:=by omega
    subst this;rw[c]at a;simp at a;simp[f,a]
   .left;have⟨m,i,j⟩:=d.vS _ h1;simp only at i;have:k=m:=by omega
    subst this;rw[kY j]at b;rw[kY (by omega)]at a;exact⟨k,h1,b,a⟩
 .obtain⟨q,k,h1,_⟩:=h.key hid;exact l _ h1 rfl
theorem JF {CB NB:List (List iR)} {al:List Bool} {pl:List Int} {n N:Int} (b:vR CB NB al pl n N) {x y:iR} (c:x∈CB.flatten) (d:y∈CB.flatten) (e:x.2=y.2):x=y:=by
 have a:CB.flatten.Pairwise fun p q=>p.2≠q.2:=dE.1 b.vT;rcases fE a c d with h1|h1|h1
 .exact h1
 .exact absurd e h1
 .exact absurd e.symm h1
theorem Cu.again {CB NB:List (List iR)} {al:List Bool} {pl:List Int} {n N:Int} {D:List (Int×Int)} (h:Cu CB al pl D) (f:vR CB NB al pl n N) {id p:Int} {m:Nat} (d:(id,(m:Int))∈CB.flatten) (hd:al[m]? =some false):Cu CB (al.set m true) (pl.set m p) (D++[(id,p)]):=by
 have t:=f.len;have⟨i,l⟩:=fC.1 hd;have j:m<pl.length:=by omega
 have o:∀q,¬je CB.flatten al pl id q:=fun q ⟨k,h1,a,b⟩=>by
  have c:(id,(k:Int))=(id,(m:Int)):=oh f.ids h1 d rfl;injection c with _ c;have:k=m:=by omega
  subst this;rw[hd]at a;cases a
 refine⟨fun s u=>?_,Av h.nodup (fun hid=>?_),?_⟩
 .rw[bT,h.iff];constructor
  .rintro(⟨k,h1,a,b⟩|h1)
   .have g:m≠k:=fun e=>by subst e;rw[hd]at a;cases a
    exact⟨k,h1,by rw[mY g];exact a,by rw[mY g];exact b⟩
   .simp at h1;obtain⟨rfl,rfl⟩:=h1;exact⟨m,d,by rw[sJ i],by rw[sJ j]⟩
  .rintro⟨k,h1,a,b⟩;by_cases e:k=m
   .subst e;right;have c:(s,(k:Int))=(id,(k:Int)):=JF f h1 d rfl;injection c with c _;rw[sJ j]at b;injection b with b;simp[c,b]
   .left;rw[mY (fun h=>e h.symm)]at a b;exact⟨k,h1,a,b⟩
 .obtain⟨q,r⟩:=h.key hid;exact o q r
 .rw[List.count_set i,l];simp[h.len]
theorem Nh {D:List (Int×Int)} {id p:Int} (h:(D.map (·.1)).Nodup) (a:(id,p)∈D):(D.filter fun x=>decide (x.1≠id)).length+1=D.length:=by
 induction D with
 |nil=>cases a
 |cons x l ih=>
  rw[lC,lY]at h;rw[lu];by_cases e:x.1=id
  .have b:l.filter (fun x=>decide (x.1≠id))=l:=mH.2 fun y c=>by
    simp only[bW];intro h9;exact h.1 (by rw[e,<-h9];exact tJ c)
   rw[aI (by simp[e]),b];rfl
  .rw[aK (by simp[e])];rcases gP.1 a with h9|h9
   .exact absurd (congrArg Prod.fst h9).symm e
   .simp only[dY];rw[ih h.2 h9]
theorem Cu.drop {CB NB:List (List iR)} {al:List Bool} {pl:List Int} {n N:Int} {D:List (Int×Int)} (h:Cu CB al pl D) (g:vR CB NB al pl n N) {id:Int} {m:Nat} (f:(id,(m:Int))∈CB.flatten) (hd:al[m]? =some true):Cu CB (al.set m false) pl (D.filter fun x=>decide (x.1≠id)):=by
 have⟨l,r⟩:=fC.1 hd;refine⟨fun i s=>?_,?_,?_⟩
 .rw[bK,h.iff];constructor
  .rintro⟨⟨k,b,a,d⟩,o⟩;have q:m≠k:=fun e=>by
    subst e;have c:(i,(m:Int))=(id,(m:Int)):=JF g b f rfl;injection c with c _;simp[c]at o
   exact⟨k,b,by rw[mY q];exact a,d⟩
  .rintro⟨k,b,a,d⟩;by_cases e:k=m
   .subst e;rw[sJ l]at a;cases a
   .rw[mY (fun h=>e h.symm)]at a;refine⟨⟨k,b,a,d⟩,?_⟩;simp only[bW];intro c;subst c;have j:(i,(k:Int))=(i,(m:Int)):=oh g.ids b f rfl;injection j with _ j;omega
 .exact dE.2 (lg _ (dE.1 h.nodup))
 .obtain⟨p,hp,-⟩:=h.val g f hd;have b:=Nh h.nodup hp;rw[List.count_set l,r];have a:=h.len;show _=(al.count true-1)+0;omega
theorem Cu.turn {CB CB':List (List iR)} {al:List Bool} {pl:List Int} {D:List (Int×Int)} (h:Cu CB al pl D) (a:∀id p,je CB'.flatten al pl id p↔je CB.flatten al pl id p):Cu CB' al pl D:=⟨fun id p=>(h.iff id p).trans (a id p).symm,h.nodup,h.len⟩
end
end Go.Proofs.YtkjdbndekceffaaGreat
