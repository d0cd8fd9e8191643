/- Made small by a program. -/
import Derived.Test.YtkjdbndekceffaaGreatZ07
import Derived.Test.YtkjdbndekceffaaGreatZ04
set_option linter.unusedSimpArgs false
set_option linter.unusedVariables false
set_option maxRecDepth 100000
set_option maxHeartbeats 16000000
namespace Go.Proofs.YtkjdbndekceffaaGreat
open Tryz
section
open Go.RowKit Go.Sort Go.Shelf Go.Lib Go.Maps
abbrev je:=Int×Int
def iL (p:je):List Value:=[.int .u32 p.1,.int .i64 p.2]
abbrev QJ (x n:Int):Value:=.agg #[ay x,af n]
theorem wU (p:je):(iL p).length=2:=rfl
theorem Bw (p:je):∀u∈iL p,u.oneCell'=true:=by intro u hu;simp[iL]at hu;rcases hu with rfl|rfl<;>rfl
theorem Gm:eD prog 209 204 2 16:=.mk' (z:=.agg #[ay 0,af 0]) underlying209 aO rfl ai
theorem Ku:eD prog 205 209 1 24:=.mk' (z:=aL) underlying205 aO rfl ai
theorem Bz (a:Option Addr) (l:List je) (n c:Nat) (w:World) (k:l.length=n) (h:bQ iL 2 w a l) (m:n<=1000000):
  aK 204 #[.slice a n c] w fun e w'=>∃v,e=.returned v/\w'.ownsRow w.heap.size 204 2 v n (l.flatMap iL)/\Below w.heap.size w w':=by
 subst k;have o:∀(w:World) (a:Option Addr) (n c n' d:Nat),(binOp .eql 209 (.slice a n c) (.slice none n' d)).run prog w=.ok (.bool a.isNone) w:=fun w a n c n' d=>Ea w _ _ a n c n' d underlying209;cases a with
 |none=>
  have i:l=[]:=by
   rcases h with h|⟨b,off,h,_⟩
   .exact h
   .cases h
  subst i;go_enter func204,ntmps204;go_wp2;go_ret;exact⟨_,rfl,dw _ _ _ _,aJ _ _⟩
 |some ad=>
  have f:=Am (e:=204) (size:=2) w #[] 0 (aB _) (aX _) rfl;have h':bQ iL 2 (w.alloc (.cells #[] 204)) (some ad) l:=h.below ((aJ _ _).alloc (aB _) _);go_enter func204,ntmps204
  go_wp2_with (at_builtin;refine iO Gm wU Bw w.heap.size f h' rfl _ _ rfl rfl c rfl dD aa aA ?_;intro p w' g j)
  go_ret;rw[jL,fO]at g;exact⟨_,rfl,g,dB ((aJ _ _).alloc (aB _) _) f j aA (aB _)⟩
def LY (p q:je):Int:=jd p.1 q.1
theorem Kv (p q:je):LY p q<0↔p.1<q.1:=by unfold LY jd;split<;>(try split)<;>omega
theorem Vo:SWO (ltOf LY):=yn Kv (fun _=>AX _) (fun _ _ _=>Int.lt_trans) (fun x y z=>aa)
theorem Ov (p q:je) (w:World):aK 206 #[QJ p.1 p.2,QJ q.1 q.2] w fun e w'=>e=.returned (af (LY p q))/\xz w w':=by
 have a:=ag (fun W=>EH p.1 q.1 W);unfold LY;generalize jd p.1 q.1=r at*;obtain⟨c,b⟩:=p;obtain⟨f,d⟩:=q;simp only at a;go_enter func206,ntmps206
 go_wp2_with fail
 refine(a.o _).mono ?_;rintro e w1 ⟨rfl,rfl⟩;go_wp2;go_ret;exact⟨rfl,((xz.refl _).alloc _).alloc _⟩
theorem BA:gF 206:=di func206 aO rfl
theorem QK {w:World} {base g c n:Nat} {l:List je} (j:l.length=n) (o:n<4611686018427387904) (h:w.ownsRow base 204 2 (au g n c) n (l.flatMap iL)):
  aK 205 #[au g n c,.func (.func 206) #[] #[]] w fun e w'=>
   e=.returned (.tuple #[])/\∃l':List je,l'.Perm l/\l'.Pairwise (fun x y=>x.1<=y.1)/\w'.ownsRow base 204 2 (au g n c) n (l'.flatMap iL)/\w.grownBy w' (some g):=by
 have d:=mV Tryz.Da wU ai isAgg204 sizeOf204 Bw LY Vo 206 #[] BA (fun x y W=>Ov x y W) j o h;change aK 205 _ _ _ at d;refine d.mono ?_;rintro e w' ⟨f,l',hp,m,k,i⟩;refine⟨f,l',hp,m.imp fun{a b} h=>?_,k,i⟩;rw[Kv]at h;omega
theorem EP (p:Option Addr) (a:Nat) (b:Value) (w:World):
  aK 205 #[.slice p 0 a,b] w fun e w'=>e=.returned (.tuple #[])/\w'=w:=Ig Tryz.Da p a b w
end
section
open Go.RowKit Go.Maps
theorem Uv (p:je) (x:Int) (L c:Nat) (s:c<=1000000) (W:World) (h:Boxed W L 3 (.int .i64 c)):
  aK 201 #[QJ p.1 p.2,ay x,aj L] W fun e w'=>e=.returned (af (jd p.1 x))/\Boxed w' L 3 (.int .i64 ((c+1:Nat):Int))/\Below L W w':=by
 have q:=h.lt;have t:=h.cell;have iW:=h.frozen;have⟨a,b⟩:=p;have d:=(h.alloc (.cells #[ay a,af b] 204)).set (.int .i64 ((c+1:Nat):Int));have g:Below L W ((W.alloc (.cells #[ay a,af b] 204)).setCell (ae L 0) (.int .i64 ((c+1:Nat):Int))):=Below.setCell (p:=(ae L 0)) ((aJ L W).alloc (uY q) _) (aB _) _;have f:=(h.set (.int .i64 ((c+1:Nat):Int))).alloc (.cells #[ay a,af b] 204);have i:Below L W ((W.setCell (ae L 0) (.int .i64 ((c+1:Nat):Int))).alloc (.cells #[ay a,af b] 204)):=((aJ _ W).setCell (p:=(ae L 0)) (aB _) _).alloc aD _;have j:=ag (fun W=>EH a x W);rw[show((c+1:Nat):Int)=(c:Int)+1 by omega]at d g f i |-;simp only;generalize jd a x=r at*;have k:=ag d;have m:=ag g;have l:=ag f;have n:=ag i;go_enter func201,ntmps201
 go_wp2_with fail
 refine(j.o _).mono ?_;rintro e w1 ⟨rfl,rfl⟩;go_wp2;go_ret
 first
  |exact⟨rfl,k.o,m.o⟩
  |exact⟨rfl,l.o,n.o⟩
def Vp (l:List je) (n:Nat) (x:Int) (L c0:Nat) (W:World) (e:Ending) (w':World):Prop:=
 ∃(k c:Nat) (bb:Bool),e=.returned (.tuple #[af k,.bool bb])/\k<=n/\(∀t (_:t<l.length),t<k->l[t].1<x)/\(∀t (_:t<l.length),k<=t->x<=l[t].1)/\c<=c0+Lib.bitLen n+(if n=0 then 0 else 1)/\c0<=c/\Boxed w' L 3 (.int .i64 c)/\Below L W w'
theorem Vq (a:Option Addr) (l:List je) (n ah:Nat) (x:Int) (L f:Nat) (P W:World) (au:l.length=n) (ar:n<=10000) (ax:f<=100000) (ac:bQ iL 2 P a l) (Y:P.heap.size<=L) (Z:Below L P W) (ad:l.Pairwise fun p q=>p.1<=q.1) (al:Boxed W L 3 (.int .i64 f)):
  aK 200 #[.slice a n ah,ay x,.func (.func 201) #[] #[aj L]] W (Vp l n x L f W):=by
 subst au;have U:=ag ac;have V:=ag ad;have X:=ag Z;have an:=fu (show l.length<=10000 from ar) ai;have ao:Lib.bitLen 10000=14:=ai;rw[ao]at an;have T:=ag Uv;clear ac ad Z;go_enter func200,ntmps200;go_wp2
 go_loopw [9,10] (fun R S wr=>∃i j c:Nat,R=.int .i64 i/\S=.int .i64 j/\i<=j/\j<=l.length/\Hid (c+Lib.bitLen (j-i)<=f+Lib.bitLen l.length/\f<=c)/\Hid (∀t (_:t<l.length),t<i->l[t].1<x)/\Hid (∀t (_:t<l.length),j<=t->x<=l[t].1)/\Hid (Boxed wr L 3 (.int .i64 c))/\Below L W wr)
  (fun R S _=>(intOf S).toNat-(intOf R).toNat)
 case atStart=>exact⟨0,l.length,f,rfl,rfl,aX _,aB _,(by show _/\_;simp),fun t _ h=>absurd h (kC _),fun t ak I=>absurd ak aa,al,aJ _ _⟩
 case round=>
  obtain⟨i,j,c,rfl,rfl,az,aq,k,M,N,z,u⟩:=hrel;by_cases aA:i<j
  .have K:(i+j)/2<l.length:=aa;obtain⟨b,off,C,am,m⟩:=(U.o.below (B:=L) (X.o.trans u) Y).get aa;have F:=m ((i+j)/2) K 0 aa;have x1:=m ((i+j)/2) K 1 aa;simp only[iL,fw,fD,dx]at F x1;have ap:c<=1000000:=by have:=k.o;omega
   have s:=ag (T.o l[(i+j)/2] x L c ap wr z.o);have H:Hid (l[(i+j)/2].1<x->∀t (_:t<l.length),t<(i+j)/2+1->l[t].1<x):=fun h t ht I=>by
    rcases D8.1 I with Q|rfl
    .have:=gQ.1 V.o t ((i+j)/2) ht K Q;omega
    .exact h
   have G:Hid (¬l[(i+j)/2].1<x->∀t (_:t<l.length),(i+j)/2<=t->x<=l[t].1):=fun h t ht I=>by
    rcases Nat.lt_or_eq_of_le I with Q|rfl
    .have:=gQ.1 V.o ((i+j)/2) t K ht Q;omega
    .omega
   have y:=ag C;clear m C z;generalize l[(i+j)/2]=p at*;obtain⟨w,aw⟩:=p;simp only at F x1 s H G;obtain rfl:=y.o;clear y;have g:=k.o;have J:jd w x<0↔w<x:=by unfold jd;split<;>(try split)<;>omega
   generalize jd w x=r at*;by_cases v:w<x
   .have af:=ag (H.o v);have hd:decide (r<0)=true:=by simp[J.2 v]
    have O:Hid (c+1+Lib.bitLen (j-((i+j)/2+1))<=f+Lib.bitLen l.length/\f<=c+1):=by
     have:=zn (d:=j-i) (e:=j-((i+j)/2+1)) aa aa aa;show _/\_;omega
    clear H G k g v J
    go_wp2_with (go_at_call 201;refine s.o.mono ?_;rintro e w' ⟨rfl,D,E⟩)
    go_roundw
    case rel=>exact⟨(i+j)/2+1,j,c+1,by rw[show((i:Int)+(j:Int))/2+1=(((i+j)/2+1:Nat):Int) by omega],rfl,aa,aq,O,af,N,D,u.trans E⟩
    case measure=>exact dU
   .have ae:=ag (G.o v);have hd:decide (r<0)=false:=by simp only[iI];exact fun h=>v (J.1 h)
    have O:Hid (c+1+Lib.bitLen ((i+j)/2-i)<=f+Lib.bitLen l.length/\f<=c+1):=by
     have:=zn (d:=j-i) (e:=(i+j)/2-i) aa aa aa;show _/\_;omega
    clear H G k g v J
    go_wp2_with (go_at_call 201;refine s.o.mono ?_;rintro e w' ⟨rfl,D,E⟩)
    go_roundw
    case rel=>exact⟨i,(i+j)/2,c+1,rfl,by rw[show((i:Int)+(j:Int))/2=(((i+j)/2:Nat):Int) by omega],aa,aa,O,M,ae,D,u.trans E⟩
    case measure=>exact dU
  .obtain rfl:i=j:=aa;have g:=k.o;rw[kZ,zm,dx]at g;by_cases ab:i<l.length
   .obtain⟨b,off,C,am,m⟩:=(U.o.below (B:=L) (X.o.trans u) Y).get aa;have F:=m i ab 0 aa;have x1:=m i ab 1 aa;simp only[iL,fw,fD,dx]at F x1;have s:=ag (T.o l[i] x L c aa wr z.o);have y:=ag C;have av:¬l.length=0:=aa;clear m C z;generalize l[i]=p at*;obtain⟨w,aw⟩:=p;simp only at F x1 s;obtain rfl:=y.o;clear y;generalize jd w x=r at*;have A:=ag g;clear g k
    go_wp2_with (go_at_call 201;refine s.o.mono ?_;rintro e w' ⟨rfl,D,E⟩)
    go_ret2;exact⟨i,c+1,_,rfl,aa,M.o,N.o,by have:=A.o;rw[aM av];omega,by have:=A.o;omega,D,u.trans E⟩
   .obtain rfl:i=l.length:=aa;have A:=ag g;clear g k;go_wp2;go_ret2;exact⟨l.length,c,_,rfl,aB _,M.o,N.o,by have:=A.o;omega,by have:=A.o;omega,z.o,u⟩
abbrev lQ:=gp je
abbrev LZ:=Lv iL 2 204
abbrev jW:=oM iL 2 204
theorem LZ.aI {W:World} {base:Nat} {v:Value} {n:Nat} {l:List je} (h:W.ownsRow base 204 2 v n (l.flatMap iL)):∃a c,v=.slice a l.length c/\n=l.length/\l.length<=c/\LZ W a l:=Lv.aI wU ai h
def tb (n:Nat):Nat:=if n=0 then 0 else Lib.bitLen n+2
def Gn (NB:List (List je)):Nat:=(NB.map fun l=>tb l.length).sum
theorem CQ (NB:List (List je)) (i:Nat) (h:i<NB.length):Gn (NB.take (i+1))=Gn (NB.take i)+tb NB[i].length:=by
 unfold Gn;rw[gW h];simp only[bL,jK,pJ,AO,List.sum_cons,List.sum_nil];omega
def Vr (NB:List (List je)) (id:Int) (W:World) (e:Ending) (w':World):Prop:=
 ∃(k:Int) (t:Nat),e=.returned (.tuple #[af k,af t])/\t<=Gn NB/\((∃x∈NB.flatten,x.1=id/\x.2=k)\/(k=-1/\∀x∈NB.flatten,x.1≠id))/\Below W.heap.size W w'
theorem SN {NB:List (List je)} {i:Nat}:Gn (NB.take i)<=Gn NB:=by
 have h:Gn NB=Gn (NB.take i)+Gn (NB.drop i):=by
  unfold Gn;rw[<-AO,<-bL,jB]
 omega
theorem sH (A:Nat) (id:Int) (W:World) (NB:List (List je)) (bh:List lQ) (bv:Value) (base:Nat) (aG:W.cell? (ae A 1)=some bv) (aQ:W.ownsRow base 209 1 bv bh.length (bh.map dR)) (ad:bh.map (·.2.1)=NB) (aU:jW W bh)
  (aV:∀l∈NB,l.Pairwise fun p q=>p.1<=q.1) (ba:NB.length<=1000) (aW:∀l∈NB,l.length<=10000):aK 131 #[aj A,ay id] W (Vr NB id W):=by
 have a4:bh.length=NB.length:=by rw[<-ad];simp
 have aA:=ag aV;have Y:=ag aW;have aY:Hid (∀i,Gn (NB.take i)<=20*i):=fun i=>by
  unfold Gn
  induction i with
  |zero=>simp
  |succ i ih=>
   by_cases hi:i<NB.length
   .rw[gW hi];have f:tb NB[i].length<=20:=by
     unfold tb;have:=fu (Y.o _ (bB hi)) ai;have H:Lib.bitLen 10000=14:=ai;split<;>omega
    simp only[bL,jK,pJ,AO,List.sum_cons,List.sum_nil];omega
   .rw[ky aa];rw[ky aa]at ih;omega
 have az:Hid (∀i (hi:i<bh.length) (aS:i<NB.length),bQ iL 2 W bh[i].1 NB[i]/\W.heap.size=W.heap.size/\bh[i].2.1=NB[i]):=fun i hi aS=>by
  have ab:bh[i].2.1=NB[i]:=by simp[<-ad]
  exact⟨by rw[<-ab];exact(aU _ (bB hi)).1.Nu,rfl,ab⟩
 obtain⟨av,cv,rfl,-,-,aT⟩:=Rd.aI (enc:=dR) aQ;have ap:=ag aT;have a3:=gY W _ aG;go_enter func131,ntmps131;go_wp2
 go_loopw [16] (fun M wr=>∃i c:Nat,M=.int .i64 i/\i<=bh.length/\Hid (Boxed wr W.heap.size 3 (.int .i64 c))/\Hid (c<=Gn (NB.take i))/\Hid (∀x∈(NB.take i).flatten,x.1≠id)/\Below W.heap.size W wr) (fun M _=>bh.length-(intOf M).toNat)
 case atStart=>exact⟨0,0,rfl,aX _,Boxed.new _ _ _,aX _,by intro x hx;simp at hx,(aJ _ _).alloc (aB _) _⟩
 case round=>
  obtain⟨i,c,rfl,hi,R,j,U,r⟩:=hrel;by_cases ac:i<bh.length
  .have g:i<NB.length:=aa;have aR:c<=100000:=by have f:=j.o;have H:=aY.o i;omega
   have⟨b,off,F,aO,s⟩:=ap.o.get aa;have z:=(r.cell (p:=(ae b (off+i))) aO).trans (s i ac);obtain⟨N,-,am⟩:=az.o i ac g;have E:=ag (CQ NB i g);have T:Hid ((∀x∈NB[i],x.1≠id)->∀x∈(NB.take (i+1)).flatten,x.1≠id):=fun h x hx=>by
    rw[gW g,kW,bP]at hx;rcases hx with hx|hx
    .exact U.o x hx
    .exact h x (aP hx)
   have au:Hid (∀x∈NB[i],x∈NB.flatten):=fun x hx=>pz.2 ⟨_,bB g,hx⟩;have ah:=aA.o _ (bB g);have al:=Y.o _ (bB g);have ar:=ag (SN (NB:=NB) (i:=i+1));have w:=ag F;unfold dR at z;generalize NB[i]=l at*;generalize bh[i]=hd at*;have⟨aC,a,aD⟩:=hd;simp only at am N z;subst am;obtain rfl:=w.o;have ao:=Vq aC a a.length aD id W.heap.size c W wr rfl al aR N (aB _) r ah R.o
   go_wp2_with fail
   refine ao.mono ?_;rintro e w2 ⟨k,d,a1,rfl,a8,f,H,K,a7,n,aL⟩;have Q:=r.trans aL;have Z:=ag f;have K2:=ag H;have X:Hid (tb a.length=if a.length=0 then 0 else Lib.bitLen a.length+2):=rfl;have a6:=fu al ai;have a5:Lib.bitLen 10000=14:=ai;by_cases m:k<a.length
   .have af:¬a.length=0:=aa;rw[aM af]at K;have aH:=X.o;rw[aM af]at aH;have aZ:=n.cell;have bc:=n.frozen;have J:=n.set (.int .i64 ((d+1:Nat):Int));have v:=Q.setCell (p:=(ae W.heap.size 0)) (aB _) (.int .i64 ((d+1:Nat):Int));obtain⟨a0,bb,F,-,s⟩:=(N.below v).get aa;have O:=s k m 0 aa;have x1:=s k m 1 aa;simp only[iL,fw,fD,dx]at O x1;have V:Hid (a[k].1≠id->∀x∈a,x.1≠id):=fun h x hx=>by
     obtain⟨t,ht,rfl⟩:=jb hx;by_cases ak:t<k
     .have:=Z.o t ht ak;omega
     .have aF:=K2.o k m (aB _);rcases Nat.lt_or_eq_of_le (Nat.le_of_not_lt ak)with h4|h4
      .have I:=gQ.1 ah k t m ht h4;omega
      .subst h4;exact h
    have aw:=ag (au.o a[k] (bB m));have w:=ag F;have a9:(k:Int)<(a.length:Int):=aa;rw[show((d+1:Nat):Int)=(d:Int)+1 by omega]at J v O x1;have bd:=J.cell;generalize a[k]=y at*;have⟨P,an⟩:=y;simp only at O x1 V;obtain rfl:=w.o;have B:=ag J;have S:=ag v;by_cases u:P=id
    .have aE:(P==id)=true:=by simp[u]
     have aq:Hid (∃x∈NB.flatten,x.1=id/\x.2=an):=⟨_,aw.o,u,rfl⟩;have L:d+1<=Gn NB:=by
      have:=j.o;have:=E.o;have:=ar.o;omega
     go_wp2;go_region
     all_goals
      go_wp2;go_ret2;exact⟨an,d+1,rfl,L,.inl aq.o,S.o.drew⟩
    .have aE:(P==id)=false:=by simp[u]
     have D:=ag (T.o (V.o u));have C:Hid (d+1<=Gn (NB.take (i+1))):=by
      have:=j.o;have:=E.o;show _<=_;omega
     go_wp2;go_roundw
     case rel=>exact⟨i+1,d+1,by go_num,aa,B,C,D,S.o⟩
     case measure=>exact dU
   .obtain rfl:k=a.length:=aa;have D:Hid (∀x∈(NB.take (i+1)).flatten,x.1≠id):=T.o fun x hx=>by
     obtain⟨t,ht,rfl⟩:=jb hx;have:=Z.o t ht ht;omega
    have C:Hid (d<=Gn (NB.take (i+1))):=by
     have aF:=j.o;have h4:=E.o;have I:=X.o;show _<=_;by_cases G:a.length=0
     .rw[aN G]at I K;have a2:Lib.bitLen a.length=0:=by rw[G];rfl
      omega
     .rw[aM G]at I K;omega
    have B:=ag n;go_wp2;go_roundw
    case rel=>exact⟨i+1,d,by go_num,aa,B,C,D,Q⟩
    case measure=>exact dU
  .obtain rfl:i=bh.length:=aa;have aZ:=R.o.cell;have L:c<=Gn NB:=by
    have f:=j.o;rw[ky aa]at f;exact f
   have ax:Hid (∀x∈NB.flatten,x.1≠id):=by
    have f:=U.o;rw[ky aa]at f;exact f
   go_wp2;go_region
   all_goals
    go_wp2;go_ret2;exact⟨-1,c,rfl,L,.inr ⟨rfl,ax.o⟩,r.drew⟩
abbrev iV:=@ik je 290 209 204
theorem Uw:209≠290/\290≠204/\209≠204:=ai
theorem sI {W:World} {base Cb:Nat} {cv:Value} {ch:List lQ} {N wk:Int} (h:iV W base Cb cv ch N wk):aK 203 #[aj Cb] W (fV W (.bool false)):=by
 obtain⟨a,-⟩:=h.cell;go_enter func203,ntmps203;go_wp2;go_ret;exact⟨rfl,aJ _ _⟩
end
section
open Go.RowKit Go.Maps
attribute [local irreducible] wpQuiet
abbrev Vs:=@Uh je 290 209 204 iL 2
theorem QL {W:World} {base Cb:Nat} {cv:Value} {ch:List lQ} {N wk:Int} (h:iV W base Cb cv ch N wk) (dr:base<=W.heap.size) (cd:jW W ch) (x nn:Int) (dp:0<=N/\N<=100000) (dI:ch.length<=1000) (dL:(ch.map (·.2.1)).flatten.length<=10000):
  aK 132 #[aj Cb,QJ x nn] W (Vs W base Cb cv ch (x,nn) N wk):=by
 have aP:Below W.heap.size W (W.alloc (.cells #[ay x,af nn] 204)):=(aJ _ _).alloc (aB _) _;have cl:(W.alloc (.cells #[ay x,af nn] 204)).cell? (ae W.heap.size 0)=some (ay x):=by rw[ek _ _ _ _ rfl];rfl
 have x1:(W.alloc (.cells #[ay x,af nn] 204)).cell? (ae W.heap.size 1)=some (af nn):=by rw[ek _ _ _ _ rfl];rfl
 have bv:=ag (sI (h.below aP));have H:=ag h;have aV:=ag cd;have bx:=ag aP;clear h cd aP;go_enter func132,ntmps132
 go_wp2_with fail
 refine bv.o.mono ?_;rintro e w2 ⟨rfl,ab⟩;have bu:=ag (bx.o.trans (ab.mono aA));have cm:=(ab.cell (p:=(ae W.heap.size 0)) aA).trans cl;have y1:=(ab.cell (p:=(ae W.heap.size 1)) aA).trans x1;have bi:W.heap.size<w2.heap.size:=by have:=ab.size;simp at this;omega
 have s:=ag (H.o.below bu.o);have bK:=ag cm;have bM:=ag y1;clear cl x1 cm y1 bv bx ab;obtain⟨cF,cG,cH,cI⟩:=s.o.cell
 go_upto_block 0 with fail
 go_cut [6]from 11 to 30 (fun sv B=>∃i:Nat,sv=.int .i64 i/\Hid (B=w2)/\i<=ch.length/\Hid (∀j (aF:j<ch.length),j<i->ch[j].2.1≠[])/\Hid (∀hi:i<ch.length,ch[i].2.1=[]))
 case first=>
  go_wp2_with fail
  go_loopw [6] (fun bj wr=>∃i:Nat,bj=.int .i64 i/\Hid (wr=w2)/\i<=ch.length/\Hid (∀j (aF:j<ch.length),j<i->ch[j].2.1≠[])) (fun bj _=>ch.length-(intOf bj).toNat)
  case atStart=>exact⟨0,rfl,(by first|rfl|trivial),aX _,fun j _ h=>absurd h (kC _)⟩
  case round=>
   obtain⟨i,rfl,ah,hi,T⟩:=hrel;obtain rfl:wr=w2:=ah.o;clear ah;obtain⟨av,U,rfl,-,-,ad⟩:=Rd.aI (enc:=dR) s.o.row;by_cases b9:i<ch.length
   .obtain⟨b,off,bO,dt,b4⟩:=ad.get aa;have z:=b4 i b9;have M:Hid (ch[i].2.1=[]->∀hi:i<ch.length,ch[i].2.1=[]):=fun h _=>h;have am:Hid (ch[i].2.1≠[]->∀j (aF:j<ch.length),j<i+1->ch[j].2.1≠[]):=fun h j aF c3=>by
     rcases D8.1 c3 with h9|rfl
     .exact T.o j aF h9
     .exact h
    have bw:=ag bO;unfold dR at z;clear b4 bO ad;generalize ch[i]=hd at*;obtain⟨di,bm,dk⟩:=hd;simp only at z M am;obtain rfl:=bw.o;clear bw;have dJ:(i:Int)<(ch.length:Int):=aa;by_cases X:bm=[]
    .have R:=ag (M.o X);clear M am;subst X
     go_wp2_with fail
     go_meet;exact⟨i,rfl,(by first|rfl|trivial),hi,T,R⟩
    .have R:=ag (am.o X);have c5:0<bm.length:=xI.2 X;have dv:decide (0<bm.length)=true:=by simp[c5]
     clear X M am
     go_wp2_with fail
     go_roundw
     case rel=>exact⟨i+1,by go_num,(by first|rfl|trivial),aa,R⟩
     case measure=>exact dU
   .have R:Hid (∀hi:i<ch.length,ch[i].2.1=[]):=fun h=>absurd h b9;have dE:¬(i:Int)<(ch.length:Int):=aa
    go_wp2_with fail
    go_meet;exact⟨i,rfl,(by first|rfl|trivial),hi,T,R⟩
 case rest=>
  obtain⟨i,rfl,ah,hi,T,M⟩:=hcut;obtain rfl:wc=w2:=ah.o;clear ah;obtain⟨f,Z⟩:∃f,f=cv.ownBlock:=⟨_,rfl⟩;have dg:Hid (∀k,(k=Cb\/f=some k)->base<=k):=fun k h=>by
   rcases h with rfl|h
   .exact s.o.hb
   .exact(s.o.row.lt k (Z▸h)).1
  have an:Hid (∀k,f=some k->k<W.heap.size/\k≠Cb):=fun k h=>⟨(H.o.row.lt k (Z▸h)).2,fun e=>H.o.ne (by rw[<-Z,h,e])⟩;have C:=ag Z;have dn:=H.o.lt;obtain⟨av,U,rfl,-,du,-⟩:=Rd.aI (enc:=dR) s.o.row;have K2:Hid (ax (fun k=>k=Cb\/f=some k) W wc):=(ax.refl _ _).grown (bN bu.o) aA;have cx:Hid (∀w6,wc.grownBy w6 (Value.ownBlock (.slice av ch.length U))->w6.heap[Cb]? =some (Obj.cells #[.bool true,.slice av ch.length U,af N,af wk] 290 (0,0))):=fun w6 w=>(w.block Cb s.o.lt (fun e=>s.o.ne e.symm)).trans s.o.blk;clear Z
  go_upto_if 37 with fail
  go_cut []from 37 to 46 (fun B=>∃V ch1 c aN v,Hid (iV B base Cb V ch1 N wk)/\V=au c aN v/\aN=ch1.length/\i<aN/\Hid (ch1=ch/\i<ch.length\/ch1=ch++[fG]/\i=ch.length)/\Hid (V.ownBlock=f\/∃b,V.ownBlock=some b/\W.heap.size<=b)/\Hid (c≠W.heap.size)/\Hid (ax (fun k=>k=Cb\/f=some k) W B)/\Hid (ax (fun k=>k=Cb\/f=some k) wc B))
  case first=>
   by_cases c2:i=ch.length
   .subst c2;have cY:((ch.length:Int)==(ch.length:Int))=true:=aA
    go_wp2_with (at_builtin;refine bW Ku base s.o.row [aL] rfl (by simp[Value.oneCell']) rfl _ _ rfl rfl _ rfl dD aa aa ?_;intro bn w6 ac w b2;obtain⟨D,l,rfl,dy,dA,dB,dC⟩:=aU ac aa;have bk:=cx.o w6 w;have dN:w6.cell? (ae Cb 1)=some (.slice av ch.length U):=(aG bk);have dO:w6.frozen? (ae Cb 1)=false:=(aG bk))
    go_meet;have bd:w6.ownsRow base 209 1 (au D (ch.length+1) l) (ch++[fG]).length ((ch++[fG]).map dR):=by
     rw[bS,bL];exact ac
    have az:(some D=f\/D=wc.heap.size+1):=by
     rcases b2 with h9|h9
     .exact .inl (h9.trans C.o.symm)
     .simp only[Value.ownBlock,ji]at h9;rw[h9];exact .inr aA
    have c0:D≠Cb:=by
     rcases az with h9|h9
     .exact(an.o D h9.symm).2
     .omega
    refine⟨_,ch++[fG],D,ch.length+1,l,ik.LA (ch:=ch) bk s.o.hb s.o.ds bd (by simpa[Value.ownBlock]using c0),rfl,aA,aa,(by first|exact .inr ⟨rfl,rfl⟩|exact .inr ⟨rfl,trivial⟩),?_,?_,(K2.o.grown w fun k q=>.inl (.inr (C.o.trans q))).set _ (.inl (.inl rfl)),((ax.refl _ wc).grown w fun k q=>.inl (.inr (C.o.trans q))).set _ (.inl (.inl rfl))⟩
    .rcases az with h9|h9
     .exact .inl (by simpa[Value.ownBlock]using h9)
     .exact .inr ⟨D,rfl,aa⟩
    .show D≠W.heap.size;rcases az with h9|h9
     .have:=(an.o D h9.symm).1;omega
     .omega
   .have cY:((i:Int)==(ch.length:Int))=false:=by simp only[beq_eq_false_iff_ne];omega
    have b8:i<ch.length:=aa;obtain⟨g,dl,a3,cZ,aE,-,-⟩:=aU s.o.row aa;injection a3 with a3 _ cK;subst a3 cK;go_wp2;go_meet;have c1:f=some g:=C.o;exact⟨_,ch,g,ch.length,U,s,rfl,rfl,b8,.inl ⟨rfl,b8⟩,.inl C.o.symm,(by show g≠W.heap.size;have:=(an.o g c1).1;omega),K2,ax.refl _ _⟩
  case rest=>
   obtain⟨V,ch1,c,aN,v,ai,rfl,rfl,dG,al,aQ,cr,cC,ao⟩:=hcut;obtain⟨w3,cO⟩:∃w3:World,w3=wc:=⟨_,rfl⟩;subst cO;have bF:Hid (¬(W.heap.size=Cb\/f=some W.heap.size)):=fun h9=>by
    rcases h9 with h9|h9
    .omega
    .have:=(an.o _ h9).1;omega
   have cD:Hid (w3.cell? (ae W.heap.size 0)=some (ay x)):=(dz (a:=(ae W.heap.size 0)) (ao.o.block _ bi bF.o)).trans bK.o;have cE:Hid (w3.cell? (ae W.heap.size 1)=some (af nn)):=(dz (a:=(ae W.heap.size 1)) (ao.o.block _ bi bF.o)).trans bM.o;have ce:W.heap.size<w3.heap.size:=bR bi ao.o.size;have cZ:c<w3.heap.size:=(ai.o.row.lt c rfl).2;have cp:Hid (∀k (q:k<i) (h1:k<ch1.length) (Y:k<ch.length),ch1[k]=ch[k]):=fun k q h1 Y=>by
    rcases al.o with⟨e,-⟩|⟨e,-⟩
    .subst e;rfl
    .subst e;exact qF Y
   have cq:Hid (∀W',ax (fun k=>k=Cb\/f=some k) W W'->∀k (q:k<ch.length),bQ iL 2 W' ch[k].1 ch[k].2.1):=fun W' cV k q=>((aV.o _ (bB q)).1.kept (H.o.eX C.o cV)).Nu;have cu:Hid (∀k (q:k<ch.length),k<i->(((ch.map (·.2.1)).take i).drop k).reverse.flatten=(((ch.map (·.2.1)).take i).drop (k+1)).reverse.flatten++ch[k].2.1):=fun k q dH=>by
    rw[jJ aD];simp
   have bC:Hid (∀k,(((ch.map (·.2.1)).take i).drop k).reverse.flatten.length<=10000):=fun k=>by
    generalize ch.map (·.2.1)=CB at*;have dm:(((CB.take i).drop k).reverse.flatten).length=((CB.take i).drop k).flatten.length:=by simp only[Eg,Ep,List.sum_reverse]
    have a2:((CB.take i).take k).flatten++((CB.take i).drop k).flatten=(CB.take i).flatten:=by rw[<-kW,jB]
    have cL:(CB.take i).flatten++(CB.drop i).flatten=CB.flatten:=by rw[<-kW,jB]
    have cM:=congrArg List.length a2;have cN:=congrArg List.length cL;rw[bS]at cM cN;omega
   clear bK bM cF cG cH cI ao
   go_upto_block 2 with fail
   go_cut [7]from 49 to 67 (fun br B=>Hid (B.ownsRow w3.heap.size 204 2 br (eG (ch.map (·.2.1)) i).length ((eG (ch.map (·.2.1)) i).flatMap iL))/\Hid (iV B base Cb (au c ch1.length v) (ug ch1 i 0) N wk)/\Hid (ax (fun k=>k=Cb\/f=some k) W B)/\Hid (ax (fun k=>k=c) w3 B))
   case first=>
    go_wp2_with fail
    go_loopw [8,7] (fun bl br wr=>∃(k:Nat) (bp:Value),bl=.int .i64 ((k:Int)-1)/\br=bp/\k<=i/\Hid (wr.ownsRow w3.heap.size 204 2 bp (((ch.map (·.2.1)).take i).drop k).reverse.flatten.length ((((ch.map (·.2.1)).take i).drop k).reverse.flatten.flatMap iL))/\Hid (iV wr base Cb (au c ch1.length v) (ug ch1 i k) N wk)/\Hid (ax (fun k=>k=Cb\/f=some k) W wr)/\Hid (ax (fun k=>k=c) w3 wr)) (fun bl _ _=>(intOf bl+1).toNat)
    case atStart=>
     refine⟨i,_,rfl,rfl,aB _,?_,?_,cC,ax.refl _ _⟩
     .rw[ou aD];exact dw _ _ _ _
     .rw[Kk];exact ai
    case round=>
     obtain⟨k,bp,rfl,rfl,q,HO,G,S,I⟩:=hrel;rcases qL k with Uj|Uj
     .subst Uj;have dx:¬(0:Int)<=((0:Nat):Int)-1:=aa;rw[lK]at HO
      go_wp2_with fail
      go_meet;exact⟨HO,G,S,I⟩
     .obtain⟨m,rfl⟩:∃m,k=m+1:=⟨k-1,aa⟩;have bc:m<ch.length:=aa;have ca:m<ch1.length:=aa;obtain⟨d0,d1,d2,d3⟩:=G.o.cell;have y:i<=ch1.length:=aa;have bf:=G.o.row;rw[iK q y]at bf;have z:=bf.cellAt m aa;rw[iy,Kl y aa,cz ca,cp.o m aa ca bc]at z;simp only[fP]at z;have ad:=cq.o wr S.o m bc;have bb:=cu.o m bc aa;have O:=bC.o m;rw[bb,bS]at O;have c6:=Km (ch1:=ch1) y (show m<i by omega);have c4:=O;generalize(((ch.map (·.2.1)).take i).drop (m+1)).reverse.flatten=L at*;have bA:=ag bb;unfold dR at z;clear bb O;generalize ch[m]=hd at*;obtain⟨dj,dM,cJ⟩:=hd;simp only at z ad c4 bA;have A:=HO.o.lt;have cU:=ai.o.lt;have b7:=I.o.size;have dK:(m:Int)<(ch1.length:Int):=aa
      go_wp2_with (at_builtin;refine nC Gm wU Bw w3.heap.size HO.o ad rfl _ _ rfl rfl cJ rfl dD aa b7 ?_;intro bn w6 ac w b2;have E:=G.o.grown w (fun e=>(by have:=(A Cb e).1;omega)) (.inr (fun e=>(by have:=(A c e.symm).1;omega)));obtain⟨f0,f1,f2,f3⟩:=E.cell;have b1:=w.block c aa (fun e=>(by have:=(A c e.symm).1;omega));have dP:=(dz (a:=(ae c m)) b1).trans z;have bP:=(vY (a:=(ae c m)) b1).trans (bf.frozenAt m))
      have c7:=ac.lt;have cy:Hid ((w6.setCell (ae c m) (aL)).ownsRow w3.heap.size 204 2 bn (((ch.map (·.2.1)).take i).drop m).reverse.flatten.length ((((ch.map (·.2.1)).take i).drop m).reverse.flatten.flatMap iL)):=by
       show World.ownsRow _ _ _ _ _ _ _;rw[bA.o,bS,gZ];exact aY ac fun cS e=>aC (fun a2=>by have:=(c7 cS e).1;simp only at a2;omega)
      have aR:Hid (iV (w6.setCell (ae c m) (aL)) base Cb (au c ch1.length v) (ug ch1 i m) N wk):=by
       have:=E.Lx (iK q y).symm m fG;rw[c6]at this;exact this
      have a8:f=some c\/W.heap.size<=c:=by
       rcases aQ.o with h9|⟨b,h9,cT⟩
       .exact .inl h9.symm
       .simp only[Value.ownBlock,ji]at h9;exact .inr aa
      have aT:Hid (ax (fun k=>k=Cb\/f=some k) W (w6.setCell (ae c m) (aL))):=
       (S.o.grown w (fun b n=>.inr (by have:=(A b n).1;omega))).set _ (by rcases a8 with h9|h9;exact .inl (.inr h9);exact .inr h9)
      have cs:Hid (ax (fun k=>k=c) w3 (w6.setCell (ae c m) (aL))):=(I.o.grown w (fun b n=>.inr (A b n).1)).set _ (.inl rfl);go_roundw
      case rel=>exact⟨m,bn,by go_num,rfl,aa,cy,aR,aT,cs⟩
      case measure=>simp[intOf]
   case rest=>
    obtain⟨HO,G,S,I⟩:=hcut;obtain⟨w4,cP⟩:∃w4:World,w4=wc:=⟨_,rfl⟩;subst cP;have b7:=I.o.size;have y:i<=ch1.length:=aa;have ar:W.heap.size≠c:=fun e=>cr.o e.symm;have bI:w4.cell? (ae W.heap.size 0)=some (ay x):=(dz (a:=(ae W.heap.size 0)) (I.o.block _ ce ar)).trans cD.o;have bJ:w4.cell? (ae W.heap.size 1)=some (af nn):=(dz (a:=(ae W.heap.size 1)) (I.o.block _ ce ar)).trans cE.o;have O:=bC.o 0;rw[lK]at O;change(eG (ch.map (·.2.1)) i).length<=10000 at O;have bE:=(HO.o.alloc (.cells #[ay x,af nn] 204)).bq 1;have bz:=(G.o.grown (qI w4 (.cells #[ay x,af nn] 204) none) aA (.inr (by simp[Value.ownBlock]))).drew;generalize a4:eG (ch.map (·.2.1)) i=d at*;obtain⟨de,w6,a0,bd,aE,az⟩:=jo (ty:=209) (t:=209) (P:=prog) Gm w3.heap.size bE (ae w4.heap.size 0) 1 1 [.int .u32 x,.int .i64 nn] rfl (by
     intro j u hu;have cW:((ae w4.heap.size 0):Addr).add j=(ae w4.heap.size j):=by unfold Addr.add;split<;>simp_all
     rw[cW];have h9:(w4.alloc (.cells #[ay x,af nn] 204)).cell? (ae w4.heap.size j)=some u:=by
      rw[ek _ _ _ _ (by rfl)];simpa using hu
     exact h9) (by simp[Value.oneCell']) dD aa aD
    have A:=bE.lt;have cU:=ai.o.lt;have E:=bz.grown aE (fun e=>(by have:=(A Cb e).1;omega)) (.inr (fun e=>(by have:=(A c e.symm).1;omega)));have be:w6.ownsRow w3.heap.size 204 2 de (d.length+1) ((d++[(x,nn)]).flatMap iL):=by
     rw[gZ];exact bd
    have cf:=be.lt;obtain⟨r,l,rfl,-,cX,bU⟩:=LZ.aI be;have aH:(d++[(x,nn)]).length=d.length+1:=aA;rw[aH]at a0 be cX cf;have co:Hid (∀a,r=some a->W.heap.size<=a.block):=fun a a7=>by have:=(cf a.block (by rw[a7];rfl)).1;omega
    obtain⟨f0,f1,f2,f3⟩:=E.cell;have aM:=E.row;rw[iK (aX _) y]at aM;have cj:=aM.cellAt i aa;have bP:=aM.frozenAt i;have c9:i<((ug ch1 i 0).map dR).length:=by rw[bT,iK (aX _) y];omega
    rw[cz c9]at cj;have a6:w4.cell? (ae Cb 1)=some (au c ch1.length v)/\w4.cell? (ae W.heap.size 0)=some (ay x)/\w4.cell? (ae W.heap.size 1)=some (af nn):=⟨G.o.cell.2.1,bI,bJ⟩;have bV:w4.drew.cell? (ae Cb 1)=some (au c ch1.length v)/\w4.drew.cell? (ae W.heap.size 0)=some (ay x)/\w4.drew.cell? (ae W.heap.size 1)=some (af nn):=a6;have b6:=(aJ w4.heap.size w4).alloc (aB _) (.cells #[ay x,af nn] 204);have bZ:W.heap.size<w4.heap.size:=aa;have ap:(w4.alloc (.cells #[ay x,af nn] 204)).drew.cell? (ae Cb 1)=some (au c ch1.length v)/\(w4.alloc (.cells #[ay x,af nn] 204)).drew.cell? (ae W.heap.size 0)=some (ay x)/\(w4.alloc (.cells #[ay x,af nn] 204)).drew.cell? (ae W.heap.size 1)=some (af nn):=
     ⟨bz.cell.2.1,(b6.cell (p:=(ae W.heap.size 0)) bZ).trans bI,(b6.cell (p:=(ae W.heap.size 1)) bZ).trans bJ⟩
    have bY:=aE.block W.heap.size aD (fun e=>by have:=(A _ e.symm).1;omega);have aq:w6.cell? (ae Cb 1)=some (au c ch1.length v)/\w6.cell? (ae W.heap.size 0)=some (ay x)/\w6.cell? (ae W.heap.size 1)=some (af nn):=
     ⟨f1,(dz (a:=(ae W.heap.size 0)) bY).trans ap.2.1,(dz (a:=(ae W.heap.size 1)) bY).trans ap.2.2⟩
    have K:iV (w6.setCell (ae c i) (.slice r (d.length+1) l)) base Cb (au c ch1.length v) ((ug ch1 i 0).set i (r,d++[(x,nn)],l)) N wk:=by
     have:=E.Lx (iK (aX _) y).symm i (r,d++[(x,nn)],l);unfold dR at this;rw[aH]at this;exact this
    have bX:(w6.setCell (ae c i) (.slice r (d.length+1) l)).cell? (ae Cb 1)=some (au c ch1.length v)/\(w6.setCell (ae c i) (.slice r (d.length+1) l)).cell? (ae W.heap.size 0)=some (ay x)/\(w6.setCell (ae c i) (.slice r (d.length+1) l)).cell? (ae W.heap.size 1)=some (af nn):=
     ⟨K.cell.2.1,(dz (a:=(ae W.heap.size 0)) (aC (fun e=>ar e.symm))).trans aq.2.1,(dz (a:=(ae W.heap.size 1)) (aC (fun e=>ar e.symm))).trans aq.2.2⟩
    have dF:(i:Int)<(ch1.length:Int):=aa;generalize((ug ch1 i 0).map dR)[i]=dQ at*;go_wp2
    go_hide hQ
    go_region_held3 (fun w'=>w'.cell? (ae Cb 1)=some (au c ch1.length v)/\w'.cell? (ae W.heap.size 0)=some (ay x)/\w'.cell? (ae W.heap.size 1)=some (af nn))
     (first|(with_reducible exact a6)|(with_reducible exact bV)|(with_reducible exact ap)|(with_reducible exact aq)|(with_reducible exact bX)|go_keep)
     ((refine gB rfl (.tmp 73) (.tmp 75) rfl a0 (by simp[Act.eval]) (by simp[Act.eval]) ?_;try simp only[Act.put,zb,oz,nQ]))
    all_goals subst hQ
    clear bX;generalize cg:w6.setCell (ae c i) (.slice r (d.length+1) l)=bs at K |-;have Q:=K.Be (N+1);obtain⟨da,db,dc,dd⟩:=K.cell;have cQ:=K.frozen 2;obtain⟨t0,t1,t2,t3⟩:=Q.cell;have cR:=Q.frozen 3;have b3:((ug ch1 i 0).set i (r,d++[(x,nn)],l)).length=ch1.length:=by rw[kI,iK (aX _) y]
    have bg:=Q.row;rw[b3]at bg;have bt:=bg.cellAt i aa;have a9:(((ug ch1 i 0).set i (r,d++[(x,nn)],l)).map dR)[i]? =some (.slice r (d.length+1) l):=by
     rw[iy,uh (by rw[iK (aX _) y];omega)];simp[dR]
    rw[a9]at bt;have F:=(Q.Qt (wrap64 (wk+((d.length:Int)+1)))).drew;have ak:=ag F;clear F;have dq:(-9223372036854775808:Int)<=N+1/\N+1<=9223372036854775807:=aa;have aW:=ag cg;clear cg;clear f0 f1 f2 f3 cj bP a6 bV ap aq a0;have dh:=ag bt;have ct:=ag a9;have cA:=ag bU;have a8:f=some c\/W.heap.size<=c:=by
     rcases aQ.o with h9|⟨b,h9,cT⟩
     .exact .inl h9.symm
     .simp only[Value.ownBlock,ji]at h9;exact .inr aa
    have aT:Hid (ax (fun k=>k=Cb\/f=some k) W w6):=((S.o.grown (qI w4 (.cells #[ay x,af nn] 204) none) aA).drew).grown aE (fun b n=>.inr (by have:=(A b n).1;omega));have aR:=ag E;clear a9;go_wp2;go_region;have cw:Hid (ax (fun k=>k=Cb\/some c=some k) w6 ((bs.setCell (ae Cb 2) (.int .i64 (N+1))).setCell (ae Cb 3) (.int .i64 (wrap64 (wk+((d.length:Int)+1))))).drew):=by
     rw[<-aW.o];exact((((ax.refl _ w6).set _ (.inl (.inr rfl))).set _ (.inl (.inl rfl))).set _ (.inl (.inl rfl))).drew
    have bD:Hid (ax (fun k=>k=Cb\/f=some k) W ((bs.setCell (ae Cb 2) (.int .i64 (N+1))).setCell (ae Cb 3) (.int .i64 (wrap64 (wk+((d.length:Int)+1))))).drew):=by
     rw[<-aW.o];exact(((aT.o.set _ (by rcases a8 with h9|h9;exact .inl (.inr h9);exact .inr h9)).set _ (.inl (.inl rfl))).set _ (.inl (.inl rfl))).drew
    have F:=ak.o;clear bt ak da db dc dd t0 t1 t2 t3 cQ cR K Q aW;generalize c8:((bs.setCell (ae Cb 2) (.int .i64 (N+1))).setCell (ae Cb 3) (.int .i64 (wrap64 (wk+((d.length:Int)+1))))).drew=ck at*;obtain⟨u0,u1,u2,u3⟩:=F.cell;have bh:=F.row;rw[b3]at bh;have df:=bh.cellAt i aa;rw[ct.o]at df;have a5:=cA.o.kept (aR.o.eX rfl cw.o);have ci:=bD.o.size;have cn:=Bz r (d++[(x,nn)]) (d.length+1) l ck aH a5.Nu aa;have ak:=ag F;have cB:=ag a5;clear c8 aM bg bh F a5 bU
    go_wp2_with fail
    refine cn.mono ?_;rintro e aO ⟨bo,rfl,cc,aw⟩;go_wp2;go_ret2;have bG:ax (fun k=>k=Cb\/f=some k) W aO:=bD.o.below aw;have b5:=H.o.eX C.o bG;refine⟨i,bo,au c ch1.length v,(ug ch1 i 0).set i (r,d++[(x,nn)],l),_,rfl,hi,T.o,M.o,ak.o.below aw,?_,?_,?_,?_,?_,?_,?_⟩
    .have cb:∀b,b<ck.heap.size->bo.ownBlock≠some b:=fun b n e=>by have:=(cc.lt b e).1;omega
     have b0:∀a1:World,(∀(b:Nat) J fr,aO.heap[b]? =some (Obj.cells J 204 fr)->bo.ownBlock≠some b->a1.heap[b]? =aO.heap[b]?)->jW a1 ((ug ch1 i 0).set i (r,d++[(x,nn)],l)):=by
      intro a1 Y h ba;rcases zS al.o ba with rfl|rfl|h1
      .exact⟨cB.o.kept fun b J fr n=>(Y b J fr ((aS aw n).trans n) (cb b (aZ.1 n).1)).trans (aS aw n),by show(d++[(x,nn)]).length<=l;omega⟩
      .exact⟨.inl rfl,aB _⟩
      .exact⟨(aV.o h h1).1.kept fun b J fr n=>(Y b J fr ((b5 b J fr n).trans n) (cb b (bR (aZ.1 n).1 ci))).trans (b5 b J fr n),(aV.o h h1).2⟩
     exact⟨b0 aO (fun _ _ _ _ _=>rfl),b0⟩
    .exact FY al.o _ (x,nn) (by show d++[(x,nn)]=_;rw[a4])
    .rw[a4,aH];exact bH cc ci
    .rcases aQ.o with h9|h9
     .exact .inl (h9.trans C.o)
     .exact .inr h9
    .exact bG.mono fun k q=>q.imp id fun h9=>C.o▸h9
    .intro h ba;rcases zS al.o ba with rfl|rfl|h1
     .exact .inr co.o
     .exact .inr fun a a7=>by cases a7
     .exact .inl h1
    .rw[a4]
end
section
open Go.RowKit Go.Maps
section
variable {W:World} {base Cb:Nat} {cv:Value} {ch:List lQ} {N wk:Int}
theorem BB (h:iV W base Cb cv ch N wk) (f:ch.length<=1000000):aK 209 #[aj Cb] W (fV W (af ch.length)):=by
 have b:=ag (sI h);have H:=ag h;obtain⟨av,d,rfl,-,-,-⟩:=Rd.aI (enc:=dR) H.o.row;go_enter func209,ntmps209
 go_wp2_with fail
 refine b.o.mono ?_;rintro e w2 ⟨rfl,a⟩;obtain⟨-,c,-⟩:=(H.o.below a).cell;go_wp2;go_ret;exact⟨rfl,a⟩
theorem QM (h:iV W base Cb cv ch N wk):aK 137 #[aj Cb] W (fV W (af N)):=by
 have b:=ag (sI h);have H:=ag h;go_enter func137,ntmps137
 go_wp2_with fail
 refine b.o.mono ?_;rintro e w2 ⟨rfl,a⟩;obtain⟨-,-,c,-⟩:=(H.o.below a).cell;go_wp2;go_ret;exact⟨rfl,a⟩
theorem BC (h:iV W base Cb cv ch N wk) (t:jW W ch) (B:ch.length<=1000000) (i:Nat) (hi:i<ch.length) (j:ch[i].2.1.length<=1000000):aK 210 #[aj Cb,af i] W fun e w'=>
  ∃v,e=.returned v/\w'.ownsRow W.heap.size 204 2 v ch[i].2.1.length (ch[i].2.1.flatMap iL)/\Below W.heap.size W w':=by
 have m:=ag (sI h);have H:=ag h;obtain⟨av,w,rfl,-,-,-⟩:=Rd.aI (enc:=dR) H.o.row;obtain⟨g,x,c,y,z,-,-⟩:=aU H.o.row aa;injection c with c _ q;subst c q;have f:=ag (fun W' (d:Below W.heap.size W W')=>(t _ (bB hi)).1.Nu.below d);have b:=ag (fun W' (d:Below W.heap.size W W')=>(show W'.cell? (ae g i)=some (dR ch[i]) by
  have:=((H.o.below d).row).cellAt i aa;rw[iy,cz hi]at this;exact this))
 unfold dR at b;have A:(i:Int)<(ch.length:Int):=aa;generalize ch[i]=hd at*;have⟨n,k,p⟩:=hd;simp only at f b j |-;have d1:decide ((i:Int)<0)=false:=aA;go_enter func210,ntmps210
 go_wp2_with fail
 refine m.o.mono ?_;rintro e w2 ⟨rfl,a⟩;obtain⟨-,u,-⟩:=(H.o.below a).cell;have D:=b.o w2 a;have l:=ag (Bz n k k.length p w2 rfl (f.o w2 a) j)
 go_wp2_with fail
 refine l.o.mono ?_;rintro e w3 ⟨C,rfl,s,r⟩;have HO:=ag (bH s a.size);go_wp2;go_ret;exact⟨_,rfl,HO.o,a.trans (r.mono a.size)⟩
end
structure dQ (W:World) (base A Cb:Nat) (bv pv lv cv:Value) (bh ch:List lQ) (al:List Bool) (pl:List Int) (n N wk:Int):Prop where
 hb:base<=A
 blk:W.heap[A]? =some (Obj.cells #[aj Cb,bv,pv,lv,af n] 207 (0,0))
 fI:iV W base Cb cv ch N wk
 gM:W.ownsRow base 209 1 bv bh.length (bh.map dR)
 iF:W.ownsRow base 3 1 pv pl.length (pl.map (Value.int .i64))
 dL:W.ownsRow base 4 1 lv al.length (al.map Value.bool)
 bE:jW W bh
 cE:jW W ch
 sep:bv.ownBlock=none\/bv.ownBlock≠cv.ownBlock
section
variable {W:World} {base A Cb:Nat} {bv pv lv cv:Value} {bh ch:List lQ} {al:List Bool} {pl:List Int} {n N wk:Int}
theorem dQ.cell (h:dQ W base A Cb bv pv lv cv bh ch al pl n N wk):
  W.cell? (ae A 0)=some (aj Cb)/\W.cell? (ae A 1)=some bv/\W.cell? (ae A 2)=some pv/\W.cell? (ae A 3)=some lv/\W.cell? (ae A 4)=some (af n):=by
 have:=h.blk;refine⟨?_,?_,?_,?_,?_⟩<;>simp[World.cell?,this]
theorem dQ.frozen (h:dQ W base A Cb bv pv lv cv bh ch al pl n N wk) (j:Nat):W.frozen? (ae A j)=false:=by
 have:=h.blk;simp[World.frozen?,this]
theorem dQ.lt (h:dQ W base A Cb bv pv lv cv bh ch al pl n N wk):A<W.heap.size:=(aZ.1 h.blk).1
theorem dQ.below {W':World} (h:dQ W base A Cb bv pv lv cv bh ch al pl n N wk) (hb:Below W.heap.size W W'):dQ W' base A Cb bv pv lv cv bh ch al pl n N wk:=
 ⟨h.hb,(aS hb h.blk).trans h.blk,h.fI.below hb,az h.gM hb,az h.iF hb,az h.dL hb,h.bE.kept fun b c fr a=>aS hb a,h.cE.kept fun b c fr a=>aS hb a,h.sep⟩
theorem Gp (h:dQ W base A Cb bv pv lv cv bh ch al pl n N wk):aK 130 #[aj A] W (fV W (.bool false)):=by
 obtain⟨a,-⟩:=h.cell;go_enter func130,ntmps130;go_wp2;go_ret;exact⟨rfl,aJ _ _⟩
end
def jg (ES:List je) (al:List Bool) (pl:List Int) (id p:Int):Prop:=∃k:Nat,(id,(k:Int))∈ES/\al[k]? =some true/\pl[k]? =some p
def Gq (NB CB:List (List je)):Prop:=NB.length=CB.length/\∀(i:Nat) (h:i<NB.length) (h':i<CB.length),NB[i].Perm CB[i]
structure wV (CB NB:List (List je)) (al:List Bool) (pl:List Int) (n N:Int):Prop where
 len:al.length=pl.length
 sorted:∀l∈NB,l.Pairwise fun p q=>p.1<=q.1
 perm:Gq NB CB
 ids:(CB.flatten.map (·.1)).Nodup
 vI:∀x∈CB.flatten,∃k:Nat,x.2=k/\k<al.length
 wW:(CB.flatten.map (·.2)).Nodup
 live:∀k:Nat,al[k]? =some true->∃x∈CB.flatten,x.2=k
 cnt:n=(al.count true:Nat)
 stored:N=(CB.flatten.length:Nat)
 bound:al.length<=5000
 small:CB.flatten.length<=5000
 size:∀(i:Nat) (h:i<CB.length),CB[i].length=0\/CB[i].length=2^i
 last:∀(i:Nat) (h:i<CB.length),i+1=CB.length->CB[i]≠[]
structure qY (CB NB:List (List je)) (al:List Bool) (pl:List Int) (n N:Int):Prop extends wV CB NB al pl n N where
 most:N<=2*n
theorem oV {L:List je} (h:(L.map (·.1)).Nodup) {x y:je} (b:x∈L) (c:y∈L) (e:x.1=y.1):x=y:=by
 have a:L.Pairwise fun p q=>p.1≠q.1:=dA.1 h;rcases eU a b c with h1|h1|h1
 .exact h1
 .exact absurd e h1
 .exact absurd e.symm h1
theorem ic {NB CB:List (List je)} (h:Gq NB CB) (x:je):x∈NB.flatten↔x∈CB.flatten:=by
 simp only[pz];constructor
 .rintro⟨l,b,c⟩;obtain⟨i,hi,rfl⟩:=jb b;have a:i<CB.length:=by rw[<-h.1];exact hi
  exact⟨CB[i],bB a,(h.2 i hi a).mem_iff.1 c⟩
 .rintro⟨l,b,c⟩;obtain⟨i,a,rfl⟩:=jb b;have hi:i<NB.length:=by rw[h.1];exact a
  exact⟨NB[i],bB hi,(h.2 i hi a).mem_iff.2 c⟩
theorem L6 (W:World):dQ ((W.alloc (.cells #[.bool true,aL,af 0,af 0] 290)).alloc (.cells #[aj W.heap.size,aL,aL,aL,af 0] 207)) W.heap.size (W.heap.size+1) W.heap.size (aL) (aL) (aL) (aL) [] [] [] [] 0 0 0 where
 hb:=Nat.le_succ _
 blk:=by
  have:=uE (W.alloc (.cells #[.bool true,aL,af 0,af 0] 290)) (.cells #[aj W.heap.size,aL,aL,aL,af 0] 207);rw[show(W.alloc (.cells #[.bool true,aL,af 0,af 0] 290)).heap.size=W.heap.size+1 by simp]at this;exact this
 fI:=⟨aB _,Uw,by
  have b:=uE W (.cells #[.bool true,aL,af 0,af 0] 290);exact(bY _ _ _ aA).trans b,dw _ _ _ _⟩
 gM:=dw _ _ _ _
 iF:=dw _ _ _ _
 dL:=dw _ _ _ _
 bE:=fun h a=>by cases a
 cE:=fun h a=>by cases a
 sep:=.inl rfl
theorem Ow:qY [] [] [] [] 0 0 where
 len:=rfl
 sorted:=fun l b=>by cases b
 perm:=⟨rfl,fun i h=>by cases h⟩
 ids:=nS
 vI:=fun x c=>by cases c
 wW:=nS
 live:=fun k a=>by cases a
 cnt:=rfl
 stored:=rfl
 most:=ai
 bound:=aX _
 small:=aX _
 size:=fun i h=>by cases h
 last:=fun i h=>by cases h
theorem SQ (W:World):aK 54 #[] W fun e w'=>e=.returned (aj (W.heap.size+1))/\dQ w' W.heap.size (W.heap.size+1) W.heap.size (aL) (aL) (aL) (aL) [] [] [] [] 0 0 0/\Below W.heap.size W w':=by
 have H:=ag (L6 W);have a:Hid (Below W.heap.size W ((W.alloc (.cells #[.bool true,aL,af 0,af 0] 290)).alloc (.cells #[aj W.heap.size,aL,aL,aL,af 0] 207))):=((aJ _ _).alloc (aB _) _).alloc aA _;go_enter func54,ntmps54;go_wp2;go_ret;exact⟨rfl,H.o,a.o⟩
end
section
open Go.RowKit Go.Maps
attribute [local irreducible] wpQuiet
section
variable {W:World} {base A Cb:Nat} {bv pv lv cv:Value} {bh ch:List lQ} {al:List Bool} {pl:List Int} {n N wk:Int}
theorem dQ.SS (h:dQ W base A Cb bv pv lv cv bh ch al pl n N wk) (n':Int):dQ (W.setCell (ae A 4) (.int .i64 n')) base A Cb bv pv lv cv bh ch al pl n' N wk where
 hb:=h.hb
 blk:=by rw[dC W A 4 _ _ _ h.blk];rfl
 fI:=⟨h.fI.hb,h.fI.ds,(aC (dV h.blk h.fI.blk ai)).trans h.fI.blk,aY h.fI.row fun a e=>aC (bn h.fI.row h.blk ai a e)⟩
 gM:=aY h.gM fun a e=>aC (bn h.gM h.blk ai a e)
 iF:=aY h.iF fun a e=>aC (bn h.iF h.blk ai a e)
 dL:=aY h.dL fun a e=>aC (bn h.dL h.blk ai a e)
 bE:=h.bE.kept fun b d fr c=>aC (dV h.blk c ai)
 cE:=h.cE.kept fun b d fr c=>aC (dV h.blk c ai)
 sep:=h.sep
theorem zW {e:TypeId} {sz k g c:Nat} {xs:List Value} (h:W.ownsRow base e sz (au g k c) k xs):∃b,W.heap[g]? =some (Obj.cells b e (0,0)):=by
 rcases h.2 with⟨a,_⟩|⟨i,f,b,a,_,d,_⟩
 .cases a
 .injection a with a;injection a with a;injection a with a _ _;subst a;exact⟨b,d⟩
theorem dQ.SV {g k f:Nat} (h:dQ W base A Cb bv pv (au g k f) cv bh ch al pl n N wk) (d:k=al.length) (m:Nat) (b:Bool):dQ (W.setCell (ae g m) (.bool b)) base A Cb bv pv (au g k f) cv bh ch (al.set m b) pl n N wk:=by
 subst d;have⟨i,a⟩:=zW h.dL;refine⟨h.hb,(aC (dV a h.blk ai)).trans h.blk,⟨h.fI.hb,h.fI.ds,(aC (dV a h.fI.blk ai)).trans h.fI.blk,aY h.fI.row fun c e=>aC (bn h.fI.row a ai c e)⟩,
  aY h.gM fun c e=>aC (bn h.gM a ai c e),aY h.iF fun c e=>aC (bn h.iF a ai c e),?_,
  h.bE.kept fun b i fr d=>aC (dV a d ai),h.cE.kept fun b i fr d=>aC (dV a d ai),h.sep⟩
 rw[kI,kK];exact(h.dL.stored m _).1
theorem dQ.Vt {g k f:Nat} (h:dQ W base A Cb bv (au g k f) lv cv bh ch al pl n N wk) (d:k=pl.length) (m:Nat) (p:Int):dQ (W.setCell (ae g m) (.int .i64 p)) base A Cb bv (au g k f) lv cv bh ch al (pl.set m p) n N wk:=by
 subst d;have⟨i,a⟩:=zW h.iF;refine⟨h.hb,(aC (dV a h.blk ai)).trans h.blk,⟨h.fI.hb,h.fI.ds,(aC (dV a h.fI.blk ai)).trans h.fI.blk,aY h.fI.row fun c e=>aC (bn h.fI.row a ai c e)⟩,
  aY h.gM fun c e=>aC (bn h.gM a ai c e),?_,aY h.dL fun c e=>aC (bn h.dL a ai c e),
  h.bE.kept fun b i fr d=>aC (dV a d ai),h.cE.kept fun b i fr d=>aC (dV a d ai),h.sep⟩
 rw[kI,kK];exact(h.iF.stored m _).1
theorem ER (h:dQ W base A Cb bv pv lv cv bh ch al pl n N wk) (g:qY (ch.map (·.2.1)) (bh.map (·.2.1)) al pl n N) (F:bh.length<=1000) (L:∀l∈bh.map (·.2.1),l.length<=10000) (id p M:Int) (G:jg (ch.map (·.2.1)).flatten al pl id M):
  aK 56 #[aj A,ay id,af p] W (fV W (af 2)):=by
 have j:=ag (Gp h);have H:=ag h;have r:=ag (fun W' (c:Below W.heap.size W W')=>sH A id W' _ bh bv base ((h.below c).cell.2.1) (h.below c).gM rfl (h.below c).bE g.sorted (aP F) L);have b:=ag g;have s:=ag G;go_enter func56,ntmps56
 go_wp2_with fail
 refine j.o.mono ?_;rintro e w2 ⟨rfl,d⟩
 go_wp2_with fail
 refine(r.o w2 d).mono ?_;rintro e w3 ⟨k,t,rfl,ht,D,C⟩;have a:=d.trans (C.mono d.size);have⟨m,f,z,X⟩:=s.o;obtain⟨-,-,T,U,-⟩:=(H.o.below a).cell;have E:k=(m:Int):=by
  rcases D with⟨y,i,v,w⟩|⟨-,J⟩
  .rw[ic b.o.perm]at i;have:=oV b.o.ids i f (aP v);rw[<-w,this]
  .exact absurd rfl (J _ ((ic b.o.perm _).2 f))
 subst E;have⟨I,B⟩:=fE.1 z;obtain⟨Q,R,rfl,-,-,K⟩:=Rd.aI (H.o.below a).dL;obtain⟨P,S,u,-,x⟩:=K.get aa;have O:=x m I;rw[B]at O;have V:(m:Int)<(al.length:Int):=aa;have q:=ag u;obtain rfl:=q.o;go_wp2;go_ret;exact⟨rfl,a⟩
theorem ET (h:dQ W base A Cb bv pv lv cv bh ch al pl n N wk) (z:qY (ch.map (·.2.1)) (bh.map (·.2.1)) al pl n N) (U:bh.length<=1000) (ab:∀l∈bh.map (·.2.1),l.length<=10000) (id p:Int) (m:Nat) (w:(id,(m:Int))∈(ch.map (·.2.1)).flatten) (g:al[m]? =some false) (aB:0<=n/\n<=100000):
  aK 56 #[aj A,ay id,af p] W fun e w'=>e=.returned (af 0)/\dQ w' base A Cb bv pv lv cv bh ch (al.set m true) (pl.set m p) (n+1) N wk/\ax (fun k=>k=A\/pv.ownBlock=some k\/lv.ownBlock=some k) W w':=by
 have F:=ag (Gp h);have H:=ag h;have G:=ag (fun W' (d:Below W.heap.size W W')=>sH A id W' _ bh bv base ((h.below d).cell.2.1) (h.below d).gM rfl (h.below d).bE z.sorted (aP U) ab);have c:=ag z;go_enter func56,ntmps56
 go_wp2_with fail
 refine F.o.mono ?_;rintro e w2 ⟨rfl,f⟩
 go_wp2_with fail
 refine(G.o w2 f).mono ?_;rintro e w3 ⟨k,t,rfl,ht,S,R⟩;have r:=f.trans (R.mono f.size);have a:=ag (H.o.below r);have⟨ad,ah,ai,ak,am⟩:=a.o.cell;have T:k=(m:Int):=by
  rcases S with⟨y,B,P,Q⟩|⟨-,X⟩
  .rw[ic c.o.perm]at B;have:=oV c.o.ids B w (aP P);rw[<-Q,this]
  .exact absurd rfl (X _ ((ic c.o.perm _).2 w))
 subst T;have⟨V,ap⟩:=fE.1 g;have x:m<pl.length:=by rw[<-c.o.len];exact V
 obtain⟨u,L,M,aq,ar,-,-⟩:=aU a.o.dL aa;obtain⟨v,ac,O,av,aw,-,-⟩:=aU a.o.iF aa;subst M O;have C:=a.o.dL.cellAt m aa;have E:=a.o.iF.cellAt m aa;rw[iy,g]at C;rw[iy,cz x]at E;simp only[fP]at C E;have f4:=a.o.frozen 4;have az:(m:Int)<(al.length:Int):=aa;have aA:(m:Int)<(pl.length:Int):=aa;have b:=a.o.SS (n+1);have⟨d0,d1,d2,d3,d4⟩:=b.cell;have D:=b.dL.cellAt m aa;have i:=b.iF.cellAt m aa;rw[iy,g]at D;rw[iy]at i;have an:=b.dL.frozenAt m;have K:=(b.SV rfl m true).Vt rfl m p;have s:=b.SV rfl m true;have j:=s.iF.cellAt m aa;rw[iy]at j;have ao:=s.iF.frozenAt m;have Y:∃q,pl[m]? =some q:=⟨pl[m],cz x⟩;have⟨aC,Z⟩:=Y;rw[Z]at i j;simp only[fP]at D i j;have J:=ag K;have I:Hid (ax (fun k=>k=A\/Value.ownBlock (au v pl.length ac)=some k\/Value.ownBlock (au u al.length L)=some k) W (((w3.setCell (ae A 4) (.int .i64 (n+1))).setCell (ae u m) (.bool true)).setCell (ae v m) (.int .i64 p)).drew):=
  ((((ax.refl _ W).below r).set _ (.inl (.inl rfl))).set _ (.inl (.inr (.inr rfl)))).set _ (.inl (.inr (.inl rfl)))|>.drew
 go_wp2;go_region
 all_goals
  go_wp2;go_ret;exact⟨rfl,J.o.below (aJ _ _).drew,I.o⟩
end
end
section
open Go.RowKit Go.Maps
def dH (al:List Bool) (x:je):Bool:=al[x.2.toNat]? ==some true
theorem qp (i:Nat) (hi:i<14):0<2^i/\2^i<=8192:=⟨Nat.vJ i,Eb ai (by omega:i<=13)⟩
where Nat.vJ (i:Nat):0<2^i:=pR ai
theorem Ox (i:Nat) (hi:i<14):wrap64 ((2:Int)^i)=((2^i:Nat):Int):=by
 have h:=qp i hi;rw[show((2:Int)^i)=((2^i:Nat):Int) by rw[Int.natCast_pow];rfl];generalize 2^i=p at*;unfold wrap64;omega
theorem RY (n i:Nat) (hi:i<14) (f:n<=10000):bits .and .i64 (n:Int) ((2^i:Nat):Int)=(if n.testBit i then((2^i:Nat):Int)else 0):=by
 have h:=qp i hi;have b:(BitVec.ofInt 64 (n:Int)).toNat=n:=by
  rw[BitVec.ofInt_natCast,BitVec.toNat_ofNat];exact Er aa
 have c:(BitVec.ofInt 64 ((2^i:Nat):Int)).toNat=2^i:=by
  rw[BitVec.ofInt_natCast,BitVec.toNat_ofNat];exact Er aa
 show IntKind.i64.wrap ((BitVec.ofInt 64 (n:Int) &&& BitVec.ofInt 64 ((2^i:Nat):Int)).toNat:Int)=_;have d:n &&& 2^i=if n.testBit i then 2^i else 0:=by
  apply Nat.eq_of_testBit_eq;intro j;rw[Nat.testBit_and,Nat.testBit_two_pow];by_cases a:i=j
  .subst a;cases e:n.testBit i<;>simp[]
  .cases e:n.testBit i<;>simp[a]
 rw[BitVec.toNat_and,b,c,d];generalize 2^i=p at*;cases n.testBit i<;>simp[IntKind.wrap,IntKind.bits,IntKind.signed];omega
theorem Gr (n i:Nat):(n.testBit i=true->n%2^(i+1)=n%2^i+2^i)/\(n.testBit i=false->n%2^(i+1)=n%2^i):=by
 rw[Nat.testBit_eq_decide_div_mod_eq,Nat.mod_pow_succ];have a:n/2^i%2=0\/n/2^i%2=1:=aa;generalize n/2^i%2=b at*;rcases a with rfl|rfl<;>simp
section
variable {P:Program} {ops:Array Oper} {rest:List Oper} {o:Oper} {a:Act} {Q:Exit->Act->World->Prop}
theorem qw {α:Type} {enc:α->List Value} {sz:Nat} {t e:TypeId} {bytes:Nat} (s:eD P t e sz bytes) {W:World} {ad:Option Addr} {l:List α} {c:Nat} (E:bQ enc sz W ad l) (w:l.length<=c) (lo hi:Nat) (q:lo<=hi) (u:hi<=l.length)
  (y:o.guard=none) (x:Operand) (n f:Option Operand) (j:o.op=.slice t x n f none) (m:a.eval x=.slice ad l.length c)
  (g:(n.map a.eval).getD (.int .i64 0)=.int .i64 lo) (b:(f.map a.eval).getD (.int .i64 l.length)=.int .i64 hi)
  (h:∀p,(∀W',bQ enc sz W' ad l->bQ enc sz W' p ((l.take hi).drop lo))->wpList P ops Q rest (a.put o.dst (.slice p (hi-lo) (c-lo))) W):wpList P ops Q (o::rest) a W:=by
 obtain⟨ht,⟨i,z,A,G,C,D,H⟩,F⟩:=s;refine wpList_plain y fun K v=>?_;have d:=v _ _ (h _ (fun W' B=>EG B w lo hi u));have hu:∀W',(underlying t).run P W'=.ok (.slice e) W':=fun W'=>pF ht W';have k:∀W',(sizeOf e).run P W'=.ok sz W':=fun W'=>by simp[sizeOf,typeInfo,A,C]
 unfold Oper.wp execOp;have r:hi<=c:=aa;rcases n with _|lw
 .simp only[lJ,mM,pE,nV]at g;obtain rfl:lo=0:=aa;rcases f with _|hg
  .simp only[lJ,mM,pE,nV]at b;obtain rfl:hi=l.length:=aa;simp only[j,m,lJ,Instr.sliceAt,Instr.slice,Instr.sliceBounds,xY,hu,k,xO,xZ];exact d
  .simp only[fP,gG]at b;simp[j,m,b,Instr.sliceAt,Instr.slice,Instr.sliceBounds,Instr.sliceBound,hu,k,asIntOf,r];simp only[Nat.zero_mul,Nat.sub_zero]at d;exact d
 .simp only[fP,gG]at g;rcases f with _|hg
  .simp only[lJ,mM,pE,nV]at b;obtain rfl:hi=l.length:=aa;simp[j,m,g,Instr.sliceAt,Instr.slice,Instr.sliceBounds,Instr.sliceBound,hu,k,asIntOf,q];exact d
  .simp only[fP,gG]at b;simp[j,m,g,b,Instr.sliceAt,Instr.slice,Instr.sliceBounds,Instr.sliceBound,hu,k,asIntOf,q,r];exact d
end
end
section
open Go.RowKit Go.Maps
attribute [local irreducible] wpQuiet
def Vu (W:World) (base Cb:Nat) (wk:Int) (l:List je) (e:Ending) (w':World):Prop:=
 ∃(Cz:Value) (qP:List lQ) (Kj:Int),e=.returned (af l.length)/\iV w' base Cb Cz qP l.length Kj/\jW w' qP/\qP.map (·.2.1)=setC (Lib.bitLen l.length) l/\
  (Cz.ownBlock=none\/∃b,Cz.ownBlock=some b/\W.heap.size<=b)/\ax (fun k=>k=Cb) W w'/\Nw W.heap.size [] qP/\Kj=wrap64 (wk+(l.length:Int))
theorem QN {W:World} {base Cb:Nat} {cv:Value} {ch:List lQ} {N wk:Int} (h:iV W base Cb cv ch N wk) (ck:base<=W.heap.size) (a:Option Addr) (l:List je) (c:Nat) (ba:LZ W a l) (bP:l.length<=c) (aD:l.length<=10000):
  aK 211 #[aj Cb,.slice a l.length c] W (Vu W base Cb wk l):=by
 have aR:=ag (sI h);have H:=ag h;have bH:=fu aD ai;have bJ:Lib.bitLen 10000=14:=ai;rw[bJ]at bH;have aZ:=ag ba;have a0:l.length<2^Lib.bitLen l.length:=by
  by_cases a6:l.length=0
  .rw[a6];decide
  .exact(bI _ aa a6).2.2
 have bo:=ag a0;clear a0;clear h ba;go_enter func211,ntmps211
 go_wp2_with fail
 refine aR.o.mono ?_;rintro e w2 ⟨rfl,B⟩;have C:=ag (H.o.below B);obtain⟨bA,bB,bC,bD⟩:=C.o.cell;have f1:=C.o.frozen 1;have Z:Hid (iV (w2.setCell (ae Cb 1) (aL)) base Cb (aL) [] N wk):=ik.LA (ch:=ch) C.o.blk C.o.hb C.o.ds (dw _ _ _ _) (by simp[Value.ownBlock]);obtain⟨d0,d1,d2,d3⟩:=Z.o.cell;have f2:=Z.o.frozen 2;have a2:Hid (iV ((w2.setCell (ae Cb 1) (aL)).setCell (ae Cb 2) (.int .i64 l.length)) base Cb (aL) [] l.length wk):=Z.o.Be _;have K2:Hid (ax (fun k=>k=Cb) W ((w2.setCell (ae Cb 1) (aL)).setCell (ae Cb 2) (.int .i64 l.length))):=(((ax.refl (fun k=>k=Cb) W).below B).set (a:=(ae Cb 1)) _ (.inl rfl)).set (a:=(ae Cb 2)) _ (.inl rfl);have ci:=H.o.lt;clear aR
 go_upto_block 0 with fail
 go_cut []from 19 to 33 (fun w=>∃v,Hid (iV w base Cb v (List.replicate (Lib.bitLen l.length) fG) l.length wk)/\Hid (v.ownBlock=none\/∃b,v.ownBlock=some b/\W.heap.size<=b)/\Hid (ax (fun k=>k=Cb) W w))
 case first=>
  go_wp2_with fail
  generalize((w2.setCell (ae Cb 1) (aL)).setCell (ae Cb 2) (.int .i64 l.length))=w3 at*
  go_loopw [5] (fun aO wr=>∃(k m:Nat) (v:Value),aO=.int .i64 m/\m<=10000/\Hid (k+Lib.bitLen m=Lib.bitLen l.length)/\Hid (iV wr base Cb v (List.replicate k fG) l.length wk)/\Hid (v.ownBlock=none\/∃b,v.ownBlock=some b/\W.heap.size<=b)/\Hid (ax (fun k=>k=Cb) W wr)) (fun aO _=>(intOf aO).toNat)
  case atStart=>exact⟨0,l.length,_,rfl,aD,(by show _=_;omega),a2,.inl rfl,K2⟩
  case round=>
   obtain⟨k,m,v,rfl,bX,aY,f,E,s⟩:=hrel;by_cases zG:m=0
   .subst zG;obtain rfl:k=Lib.bitLen l.length:=aY.o
    go_wp2_with fail
    go_meet;exact⟨v,f,E,s⟩
   .have aW:Hid (k+1+Lib.bitLen (m/2)=Lib.bitLen l.length):=by
     have:=Lib.bitLen_half m zG aa;have:=aY.o;show _=_;omega
    have ah:k+1<=14:=by have:=aW.o;omega
    have J:=f.o.row;rw[iw]at J;have bZ:=f.o.ne;have cw:(0:Int)<(m:Int):=aa;obtain⟨ay,az,aA,aC⟩:=f.o.cell;have bs:Hid (∀w6,wr.grownBy w6 v.ownBlock->w6.heap[Cb]? =some (Obj.cells #[.bool true,v,af l.length,af wk] 290 (0,0))):=fun w6 ac=>(ac.block Cb f.o.lt (fun e=>f.o.ne e.symm)).trans f.o.blk
    go_wp2_with (at_builtin;refine bW Ku base J [aL] rfl (by simp[Value.oneCell']) rfl _ _ rfl rfl _ rfl dD aa (by have:=s.o.size;omega) ?_;intro cD w6 bc ac a9;obtain⟨a5,j,rfl,co,cp,cq,cr⟩:=aU bc aa;have aJ:=bs.o w6 ac;have cB:w6.cell? (ae Cb 1)=some v:=(aG aJ);have cC:w6.frozen? (ae Cb 1)=false:=(aG aJ))
    have cj:=f.o.lt;have b0:w6.ownsRow base 209 1 (au a5 (k+1) j) (List.replicate (k+1) (fG:lQ)).length ((List.replicate (k+1) (fG:lQ)).map dR):=by
     rw[iw,Dt,bL];exact bc
    have b1:Value.ownBlock (au a5 (k+1) j)≠some Cb:=by
     rcases a9 with h9|h9
     .rw[h9];exact bZ
     .rw[h9];simp;omega
    go_roundw
    case rel=>
     refine⟨k+1,m/2,_,by go_num,aa,aW,ik.LA (ch:=List.replicate k fG) aJ f.o.hb f.o.ds b0 b1,?_,(s.o.grown ac ?_).set (a:=(ae Cb 1)) _ (.inl rfl)⟩
     .rcases a9 with h9|h9
      .rw[h9];exact E
      .exact .inr ⟨_,h9,by have:=s.o.size;simp;omega⟩
     .intro b i;rcases E.o with h9|⟨b3,h9,Q⟩
      .rw[h9]at i;cases i
      .rw[h9]at i;injection i with i;subst i;exact .inr Q
    case measure=>exact dU
 case rest=>
  obtain⟨v,f,E,s⟩:=hcut;obtain⟨w3,bG⟩:∃w3:World,w3=wc:=⟨_,rfl⟩;subst bG;clear Z a2 K2 bA bB bC bD f1 f2 d0 d1 d2 d3 C B;generalize bK:Lib.bitLen l.length=K at*;obtain⟨x,aE⟩:∃x,x=v.ownBlock:=⟨_,rfl⟩;have a1:Hid (∀W',ax (fun k=>k=Cb\/x=some k) w3 W'->bQ iL 2 W' a l):=fun W' R=>((aZ.o.kept (H.o.eX rfl (s.o.mono (fun k h=>.inl h)))).kept (f.o.eX aE R)).Nu;have aw:=ag aE;clear aE;have ao:=f.o;have bt:Hid (jW w3 (List.replicate K fG)):=Du _ _;have bp:Hid ((List.replicate K (fG:lQ)).map (·.2.1)=List.replicate K []++[]):=by show _=_;simp
  have bn:Hid (l.length=l.length%2^K):=(Er bo.o).symm;obtain⟨av,P,bg,-,bR,-⟩:=Rd.aI (enc:=dR) ao.row;rw[iw]at bg bR;subst bg;obtain⟨b6,b7,b8,b9⟩:=ao.cell;clear ao
  go_upto_block 2 with fail
  go_cut []from 35 to 64 (fun w=>∃ch1,Hid (iV w base Cb (.slice av K P) ch1 l.length wk)/\Hid (Nw W.heap.size [] ch1)/\Hid (jW w ch1)/\Hid (ch1.map (·.2.1)=setC K l)/\Hid (ax (fun k=>k=Cb\/x=some k) w3 w))
  case first=>
   go_wp2_with fail
   go_loopw [7,6] (fun aH b2 wr=>∃(m:Nat) (ad:Option Addr) (r:List je) (y:Nat) (ch1:List lQ) (T:List (List je)),aH=.int .i64 ((m:Int)-1)/\b2=.slice ad r.length y/\m<=K/\r.length<=y/\Hid (r.length=l.length%2^m)/\Hid (∀W',ax (fun k=>k=Cb\/x=some k) w3 W'->bQ iL 2 W' ad r)/\
    Hid (iV wr base Cb (.slice av K P) ch1 l.length wk)/\Hid (Nw W.heap.size [] ch1)/\Hid (jW wr ch1)/\Hid (ch1.map (·.2.1)=List.replicate m []++T)/\Hid (setC K l=setC m r++T)/\Hid (ax (fun k=>k=Cb\/x=some k) w3 wr)) (fun aH _ _=>(intOf aH+1).toNat)
   case atStart=>exact⟨K,a,l,c,_,[],by go_num,rfl,aB _,bP,bn,a1,f,Nw.Sw,bt,bp,(by show _=_;simp),ax.refl _ _⟩
   case round=>
    obtain⟨m,ad,r,y,ch1,T,rfl,rfl,bX,bf,X,M,q,L,D,A,Y,t⟩:=hrel;rcases qL m with zG|zG
    .subst zG;have cl:¬(0:Int)<=((0:Nat):Int)-1:=aa
     go_wp2_with fail
     go_meet;exact⟨ch1,q,L,D,(by have d:=A.o;have G:=Y.o;show _=_;rw[d,G];rfl),t⟩
    .obtain⟨k,rfl⟩:∃k,m=k+1:=⟨m-1,aa⟩;have ah:k<14:=aa;have ak:=Gr l.length k;have cu:r.length<=l.length:=by rw[X.o];exact Nat.mod_le _ _
     have bx:=Ox k ah;have O:=RY l.length k ah aD;have hp:=qp k ah;have bU:(((k+1:Nat):Int)-1)=(k:Int):=aa;have cs:(0:Int)<=(k:Int):=aa;have aF:ch1.length=K:=by
      have d:=congrArg List.length A.o;have G:=congrArg List.length Y.o;rw[eu,bS,eu]at G;simp at d;omega
     rw[bU];by_cases i:l.length.testBit k=true
     .rw[i]at O;simp only[gK]at O;have I:=ak.1 i;rw[<-X.o]at I;have al:2^k<=r.length:=aa;have ar:Hid (setC K l=setC k (r.drop (2^k))++r.take (2^k)::T):=by
       have d:=Y.o;rw[setC,aN al,dX]at d;exact d
      have V:Hid (∀hd:lQ,hd.2.1=r.take (2^k)->(ch1.set k hd).map (·.2.1)=List.replicate k []++r.take (2^k)::T):=fun hd h9=>by
       rw[kK,A.o,h9,FZ]
      have aq:Hid ((r.drop (2^k)).length=l.length%2^k):=by
       show _=_;rw[mK];omega
      clear ak i I;generalize S:2^k=p at*;have ap:=ag S;clear S;obtain⟨b,off,bF,bO,-⟩:=(M.o wr t.o).get aa;subst bF;obtain⟨g,b4,ab,cm,cn,-,-⟩:=aU q.o.row aa;rw[aF]at ab;injection ab with ab _ bE;subst ab bE;obtain⟨ay,az,aA,aC⟩:=q.o.cell;have U:(r.take p).length=p:=by rw[eQ];omega
      have an:=ag (Bz (some (ae b off)) (r.take p) p y wr.drew U ((M.o wr.drew t.o.drew).take p) aa);have cy:(0:Int)<=(p:Int)/\(p:Int)<=(r.length:Int):=aa;have cx:(p:Int)<=(y:Int):=aa;have bd:((p:Int)!=0)=true:=by simp only[bne_iff_ne,ne_eq];omega
      go_upto_region 14 with fail
      simp only[bx,O,bd]
      go_cut []from 52 to 61 (fun w=>∃F,Hid (iV w base Cb (au g K P) F l.length wk)/\Hid (Nw W.heap.size [] F)/\Hid (jW w F)/\Hid (F.map (·.2.1)=List.replicate k []++r.take p::T)/\Hid (ax (fun k=>k=Cb\/x=some k) w3 w))
      case first=>
       have bh:aK 204 #[.slice (some (ae b off)) p y] wr.drew fun e w6=>∃u j z,e=.returned (.slice u p j)/\Hid (p<=j)/\Hid (∀a,u=some a->W.heap.size<=a.block)/\Hid (LZ w6 u (r.take p))/\Hid (iV w6 base Cb (au g K P) ch1 l.length wk)/\Hid (Below wr.drew.heap.size wr.drew w6)/\w6.cell? (ae Cb 1)=some (au g K P)/\w6.cell? (ae g k)=some z/\w6.frozen? (ae g k)=false:=by
        refine an.o.mono ?_;rintro e w6 ⟨cE,rfl,bb,a8⟩;obtain⟨u,j,rfl,cf,a7,bM⟩:=LZ.aI bb;have am:=q.o.drew.below a8;obtain⟨cb,a4,cc,cd⟩:=am.cell;have J:=am.row;rw[aF]at J;have aQ:=J.cellAt k aa;have a3:=J.frozenAt k;rw[cz (show k<(ch1.map dR).length by simp;omega)]at aQ;rw[U]at a7;exact⟨u,j,_,by rw[U],a7,(fun a bN=>by have d:=(bb.lt a.block (by rw[bN];rfl)).1;have G:=t.o.size;have ce:=s.o.size;simp at d;omega),bM,am,a8,a4,aQ,a3⟩
       clear an;have ct:(k:Int)<(K:Int):=aa
       go_region_with (go_at_call 204;with_reducible refine bh.mono ?_;rintro e w6 ⟨u,j,z,rfl,bl,bi,bw,aV,aT,a4,aQ,a3⟩)
       all_goals go_wp2_with fail
       all_goals go_meet
       all_goals
        have bV:Value.slice u p j=dR (u,r.take p,j):=by unfold dR;simp only;rw[U]
        rw[bV];have bT:x=some g:=aw.o;exact⟨ch1.set k (u,r.take p,j),aV.o.Lx aF.symm k _,L.o.set bi.o,F3 (D.o.kept (W':=w6) fun b b5 fr i=>aS (W:=wr.drew) aT.o i) (aV.o.eX (W':=w6.setCell (ae g k) (dR (u,r.take p,j))) rfl ((ax.refl _ w6).set (a:=(ae g k)) _ (.inl (.inr rfl)))) bw.o (by show(r.take p).length<=j;rw[U];exact bl.o),V.o _ rfl,(((t.o.drew).below aT.o).set (a:=(ae g k)) _ (.inl (.inr bT)))⟩
      case rest=>
       obtain⟨F,bj,br,bu,bq,aX⟩:=hcut;clear an q D A V t ay az aA aC bO bd X
       go_wp2_with (refine qw Gm (M.o _ aX.o) bf p r.length al (aB _) rfl _ _ _ rfl rfl rfl rfl ?_;intro bz be;simp only[jk]at be)
       go_roundw
       case rel=>exact⟨k,bz,r.drop p,y-p,F,r.take p::T,rfl,(by rw[mK]),aa,(by rw[mK];omega),(by rw[ap.o];exact aq),(fun W' R=>be W' (M.o W' R)),bj,br,bu,bq,ar,aX⟩
       case measure=>simp[intOf]
     .have B:l.length.testBit k=false:=aP i;rw[B]at O;simp only[jN,qM]at O;have I:=ak.2 B;rw[<-X.o]at I;have al:¬2^k<=r.length:=by have:=pU l.length (pR (n:=k) (show 0<2 by decide));omega
      have ar:Hid (setC K l=setC k r++[]::T):=by
       have d:=Y.o;rw[setC,aM al,dX]at d;exact d
      have V:Hid (ch1.map (·.2.1)=List.replicate k []++[]::T):=by
       have d:=A.o;rw[ru,dX]at d;exact d
      have aq:=ag I;clear ak i B I;generalize S:2^k=p at*;have ap:=ag S;clear S
      go_wp2_with fail
      go_roundw
      case rel=>exact⟨k,ad,r,y,ch1,[]::T,rfl,rfl,aa,bf,by rw[ap.o];exact aq,M,q,L,D,V,ar,t⟩
      case measure=>simp[intOf]
  case rest=>
   obtain⟨ch1,q,L,D,A,t⟩:=hcut;obtain⟨ay,az,aA,aC⟩:=q.o.cell;have ca:=q.o.frozen 3;have bk:=ag (q.o.Qt (wrap64 (wk+(l.length:Int))));have bv:Hid (jW (wc.setCell (ae Cb 3) (.int .i64 (wrap64 (wk+(l.length:Int))))) ch1):=D.o.kept (q.o.eX rfl ((ax.refl _ wc).set (a:=(ae Cb 3)) _ (.inl (.inl rfl))));have bm:Hid (ax (fun k=>k=Cb) W (wc.setCell (ae Cb 3) (.int .i64 (wrap64 (wk+(l.length:Int)))))):=by
    have cA:=s.o.size;have d:ax (fun k=>k=Cb\/W.heap.size<=k) W wc:=(s.o.mono (fun k h=>.inl h)).trans (t.o.mono (fun k h=>h.imp id (fun h9=>by
     rcases E.o with Q|⟨b,Q,cg⟩
     .rw[aw.o,Q]at h9;cases h9
     .rw[aw.o,Q]at h9;injection h9 with h9;omega)))
    have G:ax (fun k=>k=Cb) W wc:=⟨d.os,d.tape,d.output,d.size,fun k R bY=>d.block k R (fun h9=>by rcases h9 with h9|h9;exact bY h9;omega)⟩;exact G.set (a:=(ae Cb 3)) _ (.inl rfl)
   clear s t a1 f aZ;go_wp2;go_ret;exact⟨_,ch1,_,rfl,bk.o,bv.o,by rw[bK];exact A.o,E.o,bm.o,L.o,rfl⟩
end
section
open Go.RowKit Go.Maps
theorem jy {α:Type} (CB:List (List α)) (i:Nat):(eG CB i).Perm (CB.take i).flatten:=by
 unfold eG;exact(uM _).flatten
theorem tL {α:Type} (CB:List (List α)) (i:Nat) (x:α) (f:∀h:i<CB.length,CB[i]=[]):(ko CB i x).flatten.Perm (x::CB.flatten):=by
 have b:(List.replicate i ([]:List α)).flatten=[]:=aA;have c:CB.flatten=(CB.take i).flatten++(CB.drop (i+1)).flatten:=by
  by_cases h:i<CB.length
  .have d:CB=CB.take i++(CB[i]::CB.drop (i+1)):=by rw[<-jJ h,jB]
   have a:=congrArg List.flatten d;rw[f h,kW,uL,fO]at a;exact a
  .rw[ky aa,ou aa];simp
 unfold ko;rw[kW,b,fO,uL,c];have e:(eG CB i++[x]).Perm (x::(CB.take i).flatten):=List.perm_append_comm.trans ((jy CB i).cons x);exact e.append_right _
theorem yD {α:Type} (CB:List (List α)) (i:Nat) (hi:i<=CB.length) (h:∀j (a:j<CB.length),j<i->CB[j].length=2^j):(eG CB i).length+1=2^i:=by
 rw[(jy CB i).length_eq]
 induction i with
 |zero=>simp
 |succ k ih=>
  rw[gW aa,kW,bS];have b:=ih aa (fun j a d=>h j a aa);have c:=h k aa aa;simp only[uL,List.flatten_nil,iJ];rw[pK];omega
theorem oW {α:Type} (CB:List (List α)) (i:Nat) (x:α) (hi:i<=CB.length):(ko CB i x).length=if i<CB.length then CB.length else i+1:=by
 unfold ko;simp;split<;>omega
theorem oZ {α:Type} (CB:List (List α)) (i:Nat) (x:α) (j:Nat) (c:j<(ko CB i x).length):(ko CB i x)[j]=if j<i then[]else if j=i then eG CB i++[x]else CB.getD j []:=by
 have e:(ko CB i x)[j]? =some ((ko CB i x)[j]):=cz c;generalize(ko CB i x)[j]=X at*;unfold ko at e;by_cases a:j<i
 .rw[aN a];rw[lS (aP a)]at e;simp[a]at e
  first|exact e|exact e.symm
 .rw[aM a];rw[nz aD,iw]at e;by_cases b:j=i
  .rw[aN b];subst b;rw[kZ,fw]at e;injection e with e;exact e.symm
  .rw[aM b];rw[show j-i=(j-i-1)+1 by omega,fD,El,show i+1+(j-i-1)=j by omega]at e;rw[ja,e];rfl
theorem wX {l:List Nat} {n:Nat} (h:l.Nodup) (d:∀k∈l,k<n):l.length<=n:=by
 have b:((List.range n).filter fun k=>decide (k∈l)).Nodup:=lT _ List.nodup_range;have c:=(za h b).2 (fun k=>by
  simp only[bF,uV,bO];exact⟨fun a=>⟨d k a,a⟩,fun a=>a.2⟩)
 rw[c.length_eq];have:=gT (fun k=>decide (k∈l)) (List.range n);simpa using this
theorem jX {f:je->Int} {l m:List je} (h:l.Perm m):(l.map f).Nodup↔(m.map f).Nodup:=(h.map f).nodup_iff
theorem Jc (al:List Bool):((List.range al.length).filter fun k=>al[k]? ==some true).length=al.count true:=by
 induction al with
 |nil=>rfl
 |cons b l ih=>
  rw[dY,List.range_succ_eq_map,lY,xR,List.count_cons,<-ih];have e:((fun k=>(b::l)[k]? ==some true)∘Nat.succ)=fun k=>l[k]? ==some true:=rfl;rw[e];cases b<;>simp
theorem L8 {d:List je} {al:List Bool} (l:∀x∈d,∃k:Nat,x.2=k/\k<al.length) (u:(d.map (·.2)).Nodup) (t:∀k:Nat,al[k]? =some true->∃x∈d,x.2=k):(d.filter (dH al)).length=al.count true:=by
 rw[<-Jc al];have p:((d.filter (dH al)).map fun x=>x.2.toNat).Nodup:=by
  have f:((d.filter (dH al)).map (·.2)).Nodup:=by
   have g:=dA.1 u;exact dA.2 (lT _ g)
  have g:=dA.1 f;refine dA.2 (g.imp_of_mem ?_);intro a b c r n h;obtain⟨k,i,-⟩:=l a (bF.1 c).1;obtain⟨m,e,-⟩:=l b (bF.1 r).1;rw[i,e]at n;simp only[i,e,ib]at h;exact n (by rw[h])
 have f:((List.range al.length).filter fun k=>al[k]? ==some true).Nodup:=lT _ List.nodup_range;have q:=(za p f).2 (fun k=>by
  simp only[dh,bF,uV];constructor
  .rintro⟨x,⟨j,c⟩,rfl⟩;obtain⟨m,e,s⟩:=l x j;unfold dH at c;rw[e,ib]at c |-;exact⟨s,c⟩
  .rintro⟨i,c⟩;obtain⟨x,j,o⟩:=t k (aP c);refine⟨x,⟨j,?_⟩,by rw[o,ib]⟩;unfold dH;rw[o,ib];exact c)
 rw[<-q.length_eq,bT]
theorem SX:qY [] [] [] [] 0 0:=by
 refine⟨⟨rfl,aA,⟨rfl,fun i h=>absurd h (kC _)⟩,aA,aA,aA,aA,rfl,rfl,aA,aA,fun i h=>absurd h (kC _),fun i h=>absurd h (kC _)⟩,aa⟩
theorem QO {CB NB:List (List je)} {al:List Bool} {pl:List Int} {n N:Int} (h:qY CB NB al pl n N) (m:Nat) (p id:Int) (b:(id,(m:Int))∈CB.flatten) (hd:al[m]? =some false):qY CB NB (al.set m true) (pl.set m p) (n+1) N:=by
 obtain⟨c,d⟩:=fE.1 hd;refine⟨⟨aP h.len,h.sorted,h.perm,h.ids,fun x f=>by simpa using h.vI x f,h.wW,?_,?_,h.stored,aP h.bound,h.small,h.size,h.last⟩,by have:=h.most;omega⟩
 .intro k a;by_cases e:k=m
  .subst e;exact⟨_,b,rfl⟩
  .rw[uj (fun h=>e h.symm)]at a;exact h.live k a
 .rw[List.count_set c,d,h.cnt];simp
theorem Kw {CB NB:List (List je)} {al:List Bool} {pl:List Int} {n N:Int} (h:qY CB NB al pl n N) (m:Nat) (hd:al[m]? =some true):wV CB NB (al.set m false) pl (n-1) N:=by
 obtain⟨b,c⟩:=fE.1 hd;refine⟨aP h.len,h.sorted,h.perm,h.ids,fun x d=>by simpa using h.vI x d,h.wW,?_,?_,h.stored,aP h.bound,h.small,h.size,h.last⟩
 .intro k a;by_cases e:k=m
  .subst e;rw[uh b]at a;cases a
  .rw[uj (fun h=>e h.symm)]at a;exact h.live k a
 .have f:0<al.count true:=List.count_pos_iff.2 (c▸bB b);rw[List.count_set b,c,h.cnt];simp;omega
theorem Oy {CB NB:List (List je)} {al:List Bool} {pl:List Int} {n N:Int} (h:qY CB NB al pl n N) (id p:Int) (O:∀x∈CB.flatten,x.1≠id) (z:al.length<5000) (i:Nat) (hi:i<=CB.length) (M:∀j (o:j<CB.length),j<i->CB[j]≠[]) (G:∀h:i<CB.length,CB[i]=[])
  (l':List je) (hp:l'.Perm (eG CB i++[(id,(al.length:Int))])) (P:l'.Pairwise fun p q=>p.1<=q.1):
  qY (ko CB i (id,(al.length:Int))) (List.replicate i []++l'::NB.drop (i+1)) (al++[true]) (pl++[p]) (n+1) (N+1):=by
 have hP:=tL CB i (id,(al.length:Int)) G;have E:=h.len;have Q:=h.perm.1;have K:(ko CB i (id,(al.length:Int))).length=(List.replicate i []++l'::NB.drop (i+1)).length:=by
  rw[oW _ _ _ hi];simp;split<;>omega
 have R:CB.flatten.length<=al.length:=by
  have h1:=h.wW;have v:(CB.flatten.map fun x=>x.2.toNat).Nodup:=by
   have s:=dA.1 h1;refine dA.2 (s.imp_of_mem ?_);intro a b F z w h9;obtain⟨k,c,-⟩:=h.vI a F;obtain⟨m,r,-⟩:=h.vI b z;rw[c,r]at w;simp only[c,r,ib]at h9;exact w (by rw[h9])
  have s:=wX v (n:=al.length) (fun k c=>by
   obtain⟨x,hx,rfl⟩:=dh.1 c;obtain⟨m,r,L⟩:=h.vI x hx;rw[r,ib];exact L)
  rwa [bT]at s
 refine⟨⟨by simp[E],?_,⟨K.symm,?_⟩,?_,?_,?_,?_,?_,?_,aD,by rw[hP.length_eq,dY];omega,?_,?_⟩,by have:=h.most;omega⟩
 .intro l g;rcases bP.1 g with h1|h1
  .rw[(Al.1 h1).2];exact List.Pairwise.nil
  .rcases gU.1 h1 with rfl|h1
   .exact P
   .exact h.sorted l (Iq h1)
 .intro j h1 v;rw[oZ];by_cases f:j<i
  .rw[aN f,qF (aP f)];simp
  .rw[aM f,vX aD];by_cases d:j=i
   .subst d;rw[aN rfl];simp;exact hp
   .rw[aM d];simp only[iw];have C:j-i=(j-i-1)+1:=aa;have H:j<NB.length:=by simp at h1;omega
    have D:(l'::NB.drop (i+1))[j-i]'(by simp at h1 |-;omega)=NB[j]:=by
     rw[<-ji,<-cz,<-cz,C,fD,El];congr 1;omega
    rw[D,ja,cz aa,gG];exact h.perm.2 j H aa
 .rw[jX hP,jK,lZ];refine⟨fun hx=>?_,h.ids⟩;obtain⟨y,u,e⟩:=dh.1 hx;exact O y u e
 .intro x hx;rcases gU.1 (hP.mem_iff.1 hx)with rfl|hx
  .exact⟨al.length,rfl,aA⟩
  .obtain⟨k,c,t⟩:=h.vI x hx;exact⟨k,c,aD⟩
 .rw[jX hP,jK,lZ];refine⟨fun hx=>?_,h.wW⟩;obtain⟨y,u,e⟩:=dh.1 hx;obtain⟨k,c,t⟩:=h.vI y u;simp only at e;omega
 .intro k c;by_cases t:k<al.length
  .rw[lS t]at c;obtain⟨x,hx,e⟩:=h.live k c;exact⟨x,hP.mem_iff.2 (kz _ hx),e⟩
  .have I:=(fE.1 c).1;simp at I;have:k=al.length:=aa;subst this;exact⟨_,hP.mem_iff.2 (nP),rfl⟩
 .rw[h.cnt];simp
 .rw[hP.length_eq,h.stored];simp
 .intro j o;rw[oZ];by_cases f:j<i
  .rw[aN f];left;rfl
  .rw[aM f];by_cases d:j=i
   .subst d;rw[aN rfl];right;rw[bS,Ae];refine yD CB j hi fun k c J=>?_;rcases h.size k c with h9|h9
    .exact absurd (gX h9) (M k c J)
    .exact h9
   .rw[aM d,ja];have B:j<CB.length:=by rw[oW _ _ _ hi]at o;split at o<;>omega
    rw[cz B,gG];exact h.size j B
 .intro j o g;rw[oZ];rw[oW _ _ _ hi]at g;by_cases A:i<CB.length
  .rw[aN A]at g;rw[aM aa];by_cases d:j=i
   .rw[aN d];simp
   .rw[aM d,ja,cz aa,gG];exact h.last j aa g
  .rw[aM A]at g;rw[aM aa,aN aa];simp
theorem Ky {CB NB NB':List (List je)} {al:List Bool} {pl:List Int} {n N:Int} (h:wV CB NB al pl n N) (y:Gq NB' (setC (Lib.bitLen ((CB.reverse.flatten).filter (dH al)).length) ((CB.reverse.flatten).filter (dH al)))) (z:∀l∈NB',l.Pairwise fun p q=>p.1<=q.1):
  qY (setC (Lib.bitLen ((CB.reverse.flatten).filter (dH al)).length) ((CB.reverse.flatten).filter (dH al))) NB' al pl n ((CB.reverse.flatten).filter (dH al)).length/\
  (∀id p,jg (setC (Lib.bitLen ((CB.reverse.flatten).filter (dH al)).length) ((CB.reverse.flatten).filter (dH al))).flatten al pl id p↔jg CB.flatten al pl id p):=by
 have o:CB.reverse.flatten.Perm CB.flatten:=(uM CB).flatten;have hF:=o.filter (dH al);have C:((CB.reverse.flatten).filter (dH al)).length=al.count true:=by rw[hF.length_eq];exact L8 h.vI h.wW h.live
 have B:=h.cnt;have w:((CB.reverse.flatten).filter (dH al)).length<=5000:=by
  have b:=gT (dH al) CB.reverse.flatten;rw[o.length_eq]at b;exact bD b h.small
 generalize A:(CB.reverse.flatten).filter (dH al)=L at*;have m:L.length<2^Lib.bitLen L.length:=by
  by_cases a:L.length=0
  .rw[a];decide
  .exact(bI _ aa a).2.2
 have hP:=(kP _ L m).trans hF;have t:∀x∈CB.flatten.filter (dH al),x∈CB.flatten:=fun x c=>(bF.1 c).1;refine⟨⟨⟨h.len,z,y,?_,?_,?_,?_,h.cnt,?_,h.bound,?_,yj _ _,?_⟩,aa⟩,?_⟩
 .rw[jX hP];exact dA.2 (lT _ (dA.1 h.ids))
 .intro x c;exact h.vI x (t x (hP.mem_iff.1 c))
 .rw[jX hP];exact dA.2 (lT _ (dA.1 h.wW))
 .intro k s;have⟨x,c,e⟩:=h.live k s;refine⟨x,hP.mem_iff.2 (bF.2 ⟨c,?_⟩),e⟩;unfold dH;rw[e,ib,s];rfl
 .rw[(kP _ L m).length_eq]
 .rw[(kP _ L m).length_eq];exact w
 .intro i hi g;rw[eu]at g;have a:L.length≠0:=by
   intro a;rw[a]at g;rw[show Lib.bitLen 0=0 from rfl]at g;omega
  have r:=bI L.length aa a;have e:Lib.bitLen L.length=i+1:=g.symm;have v:=LB i L (by rw[e]at r;simpa using r.2.1) (by rw[eu];omega);have d:(setC (Lib.bitLen L.length) L)[i]? =(setC (i+1) L)[i]? :=by rw[e]
  intro u;rw[cz hi,cz (by rw[eu];omega),u]at d;injection d with d;exact v d.symm
 .intro id p;unfold jg;constructor
  .rintro⟨k,b,f,j⟩;exact⟨k,t _ (hP.mem_iff.1 b),f,j⟩
  .rintro⟨k,b,f,j⟩;refine⟨k,hP.mem_iff.2 (bF.2 ⟨b,?_⟩),f,j⟩;unfold dH;rw[ib,f];rfl
theorem Gs {a b:Nat} (h:2^a<=b) (c:b<2^13):a<13:=by
 rcases Nat.lt_or_ge a 13 with h1|h1
 .exact h1
 .have:=Eb (n:=2) ai h1;omega
theorem qx {l:List je} {CB:List (List je)} (h:l∈CB):l.length<=CB.flatten.length:=(D5 h).length_le
theorem wV.levels {CB NB:List (List je)} {al:List Bool} {pl:List Int} {n N:Int} (h:wV CB NB al pl n N):CB.length<=13/\(CB.length≠0->2^(CB.length-1)<=CB.flatten.length):=by
 rcases qL CB.length with h0|h0
 .rw[h0];exact⟨ai,fun h=>absurd rfl h⟩
 .have a:CB.length-1<CB.length:=aa;have c:=h.last _ a aa;have d:CB[CB.length-1].length=2^(CB.length-1):=by
   rcases h.size _ a with h9|h9
   .exact absurd (gX h9) c
   .exact h9
  have b:=qx (bB a);rw[d]at b;have e:=Gs b (by have:=h.small;omega);exact⟨aa,fun _=>b⟩
theorem uw:∀{NB CB:List (List je)},Gq NB CB->NB.flatten.Perm CB.flatten
 |[],[],_=>pG _
 |[],_::_,h=>by cases h.1
 |_::_,[],h=>by cases h.1
 |a::NB,b::CB,h=>by
  rw[uL,uL];exact(h.2 0 aA aA).append (uw (NB:=NB) (CB:=CB) ⟨aP h.1,fun i c d=>h.2 (i+1) (aP c) (aP d)⟩)
theorem wV.SY {CB NB:List (List je)} {al:List Bool} {pl:List Int} {n N:Int} (h:wV CB NB al pl n N):NB.length<=13/\NB.flatten.length<=5000/\(∀l∈NB,l.length<=5000)/\CB.flatten.length<=5000:=by
 have c:=h.levels.1;have d:=h.perm.1;have b:=h.small;have e:NB.flatten.length=CB.flatten.length:=(uw h.perm).length_eq;exact⟨aa,aa,fun l a=>by have:=qx a;omega,b⟩
structure Dy (CB:List (List je)) (al:List Bool) (pl:List Int) (D:List (Int×Int)):Prop where
 iff:∀id p,(id,p)∈D↔jg CB.flatten al pl id p
 nodup:(D.map (·.1)).Nodup
 len:D.length=al.count true
theorem Dy.new:Dy [] [] [] []:=by
 refine⟨fun id p=>⟨fun h=>absurd h iA,?_⟩,nS,rfl⟩;rintro⟨k,h,_⟩;exact absurd h iA
theorem Dy.key {CB:List (List je)} {al:List Bool} {pl:List Int} {D:List (Int×Int)} (h:Dy CB al pl D) {id:Int} (hid:id∈D.map (·.1)):∃p,jg CB.flatten al pl id p:=by
 obtain⟨x,a,rfl⟩:=dh.1 hid;exact⟨x.2,(h.iff x.1 x.2).1 a⟩
theorem Dy.val {CB NB:List (List je)} {al:List Bool} {pl:List Int} {n N:Int} {D:List (Int×Int)} (h:Dy CB al pl D) (d:wV CB NB al pl n N) {id:Int} {m:Nat} (c:(id,(m:Int))∈CB.flatten) (b:al[m]? =some true):∃p,(id,p)∈D/\pl[m]? =some p:=by
 have a:=(fE.1 b).1;rw[d.len]at a;exact⟨pl[m],(h.iff _ _).2 ⟨m,c,b,cz a⟩,cz a⟩
theorem BD {D:List (Int×Int)} {id p:Int} (h:(D.map (·.1)).Nodup) (f:id∉D.map (·.1)):((D++[(id,p)]).map (·.1)).Nodup:=by
 rw[bL,mI];refine⟨h,aA,?_⟩;intro a d b c;simp at c;subst c;exact fun e=>f (e▸d)
theorem Dy.put {CB CB' NB:List (List je)} {al:List Bool} {pl:List Int} {n N:Int} {D:List (Int×Int)} (h:Dy CB al pl D) (d:wV CB NB al pl n N) {id p:Int} (l:∀x∈CB.flatten,x.1≠id) (hP:CB'.flatten.Perm ((id,(al.length:Int))::CB.flatten)):Dy CB' (al++[true]) (pl++[p]) (D++[(id,p)]):=by
 have c:=d.len;refine⟨fun r s=>?_,BD h.nodup (fun hid=>?_),by simp[h.len]⟩
 .rw[bP,h.iff];constructor
  .rintro(⟨k,h1,b,a⟩|h1)
   .have g:=(fE.1 b).1;exact⟨k,hP.mem_iff.2 (kz _ h1),by rw[lS g];exact b,by rw[lS aa];exact a⟩
   .simp at h1;obtain⟨rfl,rfl⟩:=h1;exact⟨al.length,hP.mem_iff.2 nP,aA,by rw[c];simp⟩
  .rintro⟨k,h1,b,a⟩;rcases gU.1 (hP.mem_iff.1 h1)with e|h1
   .right;injection e with f o;have:k=al.length:=aa;subst this;rw[c]at a;simp at a;simp[f,a]
   .left;have⟨m,i,j⟩:=d.vI _ h1;simp only at i;have:k=m:=aa;subst this;rw[lS j]at b;rw[lS aa]at a;exact⟨k,h1,b,a⟩
 .obtain⟨q,k,h1,_⟩:=h.key hid;exact l _ h1 rfl
theorem Kz {CB NB:List (List je)} {al:List Bool} {pl:List Int} {n N:Int} (b:wV CB NB al pl n N) {x y:je} (c:x∈CB.flatten) (d:y∈CB.flatten) (e:x.2=y.2):x=y:=by
 have a:CB.flatten.Pairwise fun p q=>p.2≠q.2:=dA.1 b.wW;rcases eU a c d with h1|h1|h1
 .exact h1
 .exact absurd e h1
 .exact absurd e.symm h1
theorem Dy.again {CB NB:List (List je)} {al:List Bool} {pl:List Int} {n N:Int} {D:List (Int×Int)} (h:Dy CB al pl D) (f:wV CB NB al pl n N) {id p:Int} {m:Nat} (d:(id,(m:Int))∈CB.flatten) (hd:al[m]? =some false):Dy CB (al.set m true) (pl.set m p) (D++[(id,p)]):=by
 have t:=f.len;have⟨i,l⟩:=fE.1 hd;have j:m<pl.length:=aa;have o:∀q,¬jg CB.flatten al pl id q:=fun q ⟨k,h1,a,b⟩=>by
  have c:(id,(k:Int))=(id,(m:Int)):=oV f.ids h1 d rfl;injection c with _ c;have:k=m:=aa;subst this;rw[hd]at a;cases a
 refine⟨fun s u=>?_,BD h.nodup (fun hid=>?_),?_⟩
 .rw[bP,h.iff];constructor
  .rintro(⟨k,h1,a,b⟩|h1)
   .have g:m≠k:=fun e=>by subst e;rw[hd]at a;cases a
    exact⟨k,h1,by rw[uj g];exact a,by rw[uj g];exact b⟩
   .simp at h1;obtain⟨rfl,rfl⟩:=h1;exact⟨m,d,by rw[uh i],by rw[uh j]⟩
  .rintro⟨k,h1,a,b⟩;by_cases e:k=m
   .subst e;right;have c:(s,(k:Int))=(id,(k:Int)):=Kz f h1 d rfl;injection c with c _;rw[uh j]at b;injection b with b;simp[c,b]
   .left;rw[uj (fun h=>e h.symm)]at a b;exact⟨k,h1,a,b⟩
 .obtain⟨q,r⟩:=h.key hid;exact o q r
 .rw[List.count_set i,l];simp[h.len]
theorem Oz {D:List (Int×Int)} {id p:Int} (h:(D.map (·.1)).Nodup) (a:(id,p)∈D):(D.filter fun x=>decide (x.1≠id)).length+1=D.length:=by
 induction D with
 |nil=>cases a
 |cons x l ih=>
  rw[jK,lZ]at h;rw[lY];by_cases e:x.1=id
  .have b:l.filter (fun x=>decide (x.1≠id))=l:=lU.2 fun y c=>by
    simp only[bO];intro h9;exact h.1 (by rw[e,<-h9];exact nO c)
   rw[aM (by simp[e]),b];rfl
  .rw[aN (by simp[e])];rcases gU.1 a with h9|h9
   .exact absurd (congrArg Prod.fst h9).symm e
   .simp only[dY];rw[ih h.2 h9]
theorem Dy.drop {CB NB:List (List je)} {al:List Bool} {pl:List Int} {n N:Int} {D:List (Int×Int)} (h:Dy CB al pl D) (g:wV CB NB al pl n N) {id:Int} {m:Nat} (f:(id,(m:Int))∈CB.flatten) (hd:al[m]? =some true):Dy CB (al.set m false) pl (D.filter fun x=>decide (x.1≠id)):=by
 have⟨l,r⟩:=fE.1 hd;refine⟨fun i s=>?_,?_,?_⟩
 .rw[bF,h.iff];constructor
  .rintro⟨⟨k,b,a,d⟩,o⟩;have q:m≠k:=fun e=>by
    subst e;have c:(i,(m:Int))=(id,(m:Int)):=Kz g b f rfl;injection c with c _;simp[c]at o
   exact⟨k,b,by rw[uj q];exact a,d⟩
  .rintro⟨k,b,a,d⟩;by_cases e:k=m
   .subst e;rw[uh l]at a;cases a
   .rw[uj (fun h=>e h.symm)]at a;refine⟨⟨k,b,a,d⟩,?_⟩;simp only[bO];intro c;subst c;have j:(i,(k:Int))=(i,(m:Int)):=oV g.ids b f rfl;injection j with _ j;omega
 .exact dA.2 (lT _ (dA.1 h.nodup))
 .obtain⟨p,hp,-⟩:=h.val g f hd;have b:=Oz h.nodup hp;rw[List.count_set l,r];have a:=h.len;show _=(al.count true-1)+0;omega
theorem Dy.turn {CB CB':List (List je)} {al:List Bool} {pl:List Int} {D:List (Int×Int)} (h:Dy CB al pl D) (a:∀id p,jg CB'.flatten al pl id p↔jg CB.flatten al pl id p):Dy CB' al pl D:=⟨fun id p=>(h.iff id p).trans (a id p).symm,h.nodup,h.len⟩
end
end Go.Proofs.YtkjdbndekceffaaGreat
