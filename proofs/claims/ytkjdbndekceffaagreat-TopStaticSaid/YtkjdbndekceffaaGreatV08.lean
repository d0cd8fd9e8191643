/- A part of the proof; its text was made small by a program (no remarks, short names). -/
import Derived.Test.YtkjdbndekceffaaGreatV00
import Derived.Test.YtkjdbndekceffaaGreatV05
import Derived.Test.YtkjdbndekceffaaGreatV07
import Derived.Test.YtkjdbndekceffaaGreatV03
import Derived.Test.YtkjdbndekceffaaGreatV04
import Derived.Test.YtkjdbndekceffaaGreatV02
set_option linter.unusedSimpArgs false
set_option linter.unusedVariables false
set_option maxRecDepth 100000
set_option maxHeartbeats 16000000
namespace Go.Proofs.YtkjdbndekceffaaGreat
open Go.RowKit Go.Sort Go.Shelf Go.Lib Go.Maps
abbrev jI:=Int×Int
def iZ (p:jI):List Value:=[.int .u32 p.1,.int .i64 p.2]
abbrev ac5 (x n:Int):Value:=.agg #[aJ x,ag n]
theorem zi (p:jI):(iZ p).length=2:=rfl
theorem EO (p:jI):∀u∈iZ p,u.oneCell'=true:=by intro u hu;simp[iZ]at hu;rcases hu with rfl|rfl<;>rfl
theorem Mr:eQ Tryz.prog 209 204 2 16:=.mk' (z:=.agg #[aJ 0,ag 0]) Tryz.underlying209 (by kernel_rfl) rfl (by decide)
theorem RB:eQ Tryz.prog 205 209 1 24:=.mk' (z:=aN) Tryz.underlying205 (by kernel_rfl) rfl (by decide)
theorem EP (a:Option Addr) (l:List jI) (n c:Nat) (w:World) (hn:l.length=n) (h:dU iZ 2 w a l) (hl:n<=1000000):
  aO 204 #[.slice a n c] w fun e w'=>∃v,e=.returned v/\w'.ownsRow w.heap.size 204 2 v n (l.flatMap iZ)/\Below w.heap.size w w':=by
 subst hn;have q22:∀(w:World) (a:Option Addr) (n c n' c':Nat),(binOp .eql 209 (.slice a n c) (.slice none n' c')).run Tryz.prog w=.ok (.bool a.isNone) w:=fun w a n c n' c'=>Iy w _ _ a n c n' c' Tryz.underlying209;cases a with
 |none=>
  have e0:l=[]:=by
   rcases h with h|⟨b,off,h,_⟩
   .exact h
   .cases h
  subst e0;go_enter Tryz.func204,Tryz.ntmps204;go_wp2;go_ret;exact⟨_,rfl,dL _ _ _ _,aM _ _⟩
 |some ad=>
  have hown:=zU (e:=204) (size:=2) w #[] 0 (aG _) (bC _) rfl;have h':dU iZ 2 (w.alloc (.cells #[] 204)) (some ad) l:=h.below ((aM _ _).alloc (aG _) _);clear h;go_enter Tryz.func204,Tryz.ntmps204
  go_wp2_with (at_builtin;refine jc Mr zi EO w.heap.size hown h' rfl _ _ rfl rfl c rfl (by unfold maxLen;omega) (by omega) (by simp) ?_;intro v' w' hown' hg)
  go_ret;rw[lu,iV]at hown';exact⟨_,rfl,hown',eH ((aM _ _).alloc (aG _) _) hown hg (by simp) (aG _)⟩
def Uu (p q:jI):Int:=jH p.1 q.1
theorem RF (p q:jI):Uu p q<0↔p.1<q.1:=by unfold Uu jH;split<;>(try split)<;>omega
theorem asT:SWO (ltOf Uu):=AR RF (fun _=>D9 _) (fun _ _ _=>Int.lt_trans) (fun x y z=>by omega)
theorem Yd (p q:jI) (w:World):aO 206 #[ac5 p.1 p.2,ac5 q.1 q.2] w fun e w'=>e=.returned (ag (Uu p q))/\zN w w':=by
 have C1:=ae (fun W=>Jr p.1 q.1 W);unfold Uu;generalize jH p.1 q.1=r at*;obtain⟨px,pn⟩:=p;obtain⟨qx,qn⟩:=q;simp only at C1;go_enter Tryz.func206,Tryz.ntmps206
 go_wp2_with fail
 refine(C1.out _).mono ?_;rintro e w1 ⟨rfl,rfl⟩;go_wp2;go_ret;exact⟨rfl,((zN.refl _).alloc _).alloc _⟩
theorem ER:∀args w,(callFunc 206 args).run Tryz.prog w=.ok (.enter 206 args) w:=dF Tryz.func206 (by kernel_rfl) rfl
theorem ac6 {w:World} {base g c n:Nat} {l:List jI} (hn:l.length=n) (hsz:n<4611686018427387904) (h:w.ownsRow base 204 2 (aD g n c) n (l.flatMap iZ)):
  aO 205 #[aD g n c,.func (.func 206) #[] #[]] w fun e w'=>
   e=.returned (.tuple #[])/\∃l':List jI,l'.Perm l/\l'.Pairwise (fun x y=>x.1<=y.1)/\w'.ownsRow base 204 2 (aD g n c) n (l'.flatMap iZ)/\w.grownBy w' (some g):=by
 have hc:=og Tryz.GM zi (by decide) Tryz.isAgg204 Tryz.sizeOf204 EO Uu asT 206 #[] ER (fun x y W=>Yd x y W) hn hsz h;change aO 205 _ _ _ at hc;refine hc.mono ?_;rintro e w' ⟨he,l',hp,hs,ho,hg⟩;refine⟨he,l',hp,hs.imp fun{a b} h=>?_,ho,hg⟩;rw[RF]at h;omega
theorem JI (p:Option Addr) (cap:Nat) (fv:Value) (w:World):
  aO 205 #[.slice p 0 cap,fv] w fun e w'=>e=.returned (.tuple #[])/\w'=w:=Ol Tryz.GM p cap fv w
end Go.Proofs.YtkjdbndekceffaaGreat
namespace Go.Proofs.YtkjdbndekceffaaGreat
open Go.RowKit Go.Maps
theorem amg (p:jI) (x:Int) (L c:Nat) (hc:c<=1000000) (W:World) (h:Boxed W L 3 (.int .i64 c)):
  aO 201 #[ac5 p.1 p.2,aJ x,ay L] W fun e w'=>e=.returned (ag (jH p.1 x))/\Boxed w' L 3 (.int .i64 ((c+1:Nat):Int))/\Below L W w':=by
 have hL:=h.lt;have hcell:=h.cell;have jP:=h.frozen;obtain⟨px,pn⟩:=p;have h2:=(h.alloc (.cells #[aJ px,ag pn] 204)).set (.int .i64 ((c+1:Nat):Int));have hb:Below L W ((W.alloc (.cells #[aJ px,ag pn] 204)).setCell (ah L 0) (.int .i64 ((c+1:Nat):Int))):=Below.setCell (p:=(ah L 0)) ((aM L W).alloc (xn hL) _) (aG _) _;have Jo:=(h.set (.int .i64 ((c+1:Nat):Int))).alloc (.cells #[aJ px,ag pn] 204);have hb':Below L W ((W.setCell (ah L 0) (.int .i64 ((c+1:Nat):Int))).alloc (.cells #[aJ px,ag pn] 204)):=((aM _ W).setCell (p:=(ah L 0)) (aG _) _).alloc (by simp;omega) _;have hlW:L≠W.heap.size:=by omega
 have C1:=ae (fun W=>Jr px x W);rw[show((c+1:Nat):Int)=(c:Int)+1 by omega]at h2 hb Jo hb' |-;simp only;generalize jH px x=r at*;have H2:=ae h2;have HB:=ae hb;have H2':=ae Jo;have HB':=ae hb';clear h2 hb Jo hb';go_enter Tryz.func201,Tryz.ntmps201
 go_wp2_with fail
 refine(C1.out _).mono ?_;rintro e w1 ⟨rfl,rfl⟩;go_wp2;go_ret
 first
  |exact⟨rfl,H2.out,HB.out⟩
  |exact⟨rfl,H2'.out,HB'.out⟩
def asU (l:List jI) (n:Nat) (x:Int) (L c0:Nat) (W:World) (e:Ending) (w':World):Prop:=
 ∃(k c:Nat) (bb:Bool),e=.returned (.tuple #[ag k,.bool bb])/\k<=n/\(∀t (_:t<l.length),t<k->l[t].1<x)/\(∀t (_:t<l.length),k<=t->x<=l[t].1)/\c<=c0+Lib.bitLen n+(if n=0 then 0 else 1)/\c0<=c/\Boxed w' L 3 (.int .i64 c)/\Below L W w'
theorem asV (a:Option Addr) (l:List jI) (n cp:Nat) (x:Int) (L c0:Nat) (W0 W:World) (hn:l.length=n) (hl:n<=10000) (hc0:c0<=100000) (hr:dU iZ 2 W0 a l) (hL:W0.heap.size<=L) (hW:Below L W0 W) (hs:l.Pairwise fun p q=>p.1<=q.1) (hb:Boxed W L 3 (.int .i64 c0)):
  aO 200 #[.slice a n cp,aJ x,.func (.func 201) #[] #[ay L]] W (asU l n x L c0 W):=by
 subst hn;have HR:=ae hr;have HS:=ae hs;have HW:=ae hW;have hbl:=fE (show l.length<=10000 from hl) (by decide);have Eo:Lib.bitLen 10000=14:=by decide
 rw[Eo]at hbl;have HC:=ae amg;clear hr hs hW;go_enter Tryz.func200,Tryz.ntmps200;go_wp2
 go_loopw [9,10] (fun iv jv wr=>∃i j c:Nat,iv=.int .i64 i/\jv=.int .i64 j/\i<=j/\j<=l.length/\Hid (c+Lib.bitLen (j-i)<=c0+Lib.bitLen l.length/\c0<=c)/\Hid (∀t (_:t<l.length),t<i->l[t].1<x)/\Hid (∀t (_:t<l.length),j<=t->x<=l[t].1)/\Hid (Boxed wr L 3 (.int .i64 c))/\Below L W wr)
  (fun iv jv _=>(intOf jv).toNat-(intOf iv).toNat)
 case atStart=>exact⟨0,l.length,c0,rfl,rfl,bC _,aG _,(by show _/\_;simp),fun t _ h=>absurd h (ll _),fun t h1 h2=>absurd h1 (by omega),hb,aM _ _⟩
 case round=>
  obtain⟨i,j,c,rfl,rfl,oV,hj,HCN,H1,H2,HB,nJ⟩:=hrel;by_cases hlt:i<j
  .have hmj:(i+j)/2<l.length:=by omega
   obtain⟨b,off,ea,iY,hcs⟩:=(HR.out.below (B:=L) (HW.out.trans nJ) hL).get (by omega);have x0:=hcs ((i+j)/2) hmj 0 (by omega);have x1:=hcs ((i+j)/2) hmj 1 (by omega);simp only[iZ,aT,aS,eG]at x0 x1;have qL:c<=1000000:=by have:=HCN.out;omega
   have HCL:=ae (HC.out l[(i+j)/2] x L c qL wr HB.out);have HLO:Hid (l[(i+j)/2].1<x->∀t (_:t<l.length),t<(i+j)/2+1->l[t].1<x):=fun h t ht h2=>by
    rcases Oq.1 h2 with h3|rfl
    .have:=iq.1 HS.out t ((i+j)/2) ht hmj h3;omega
    .exact h
   have HHI:Hid (¬l[(i+j)/2].1<x->∀t (_:t<l.length),(i+j)/2<=t->x<=l[t].1):=fun h t ht h2=>by
    rcases Nat.lt_or_eq_of_le h2 with h3|rfl
    .have:=iq.1 HS.out ((i+j)/2) t hmj ht h3;omega
    .omega
   have EA:=ae ea;clear hcs ea HB;generalize l[(i+j)/2]=p at*;obtain⟨px,pn⟩:=p;simp only at x0 x1 HCL HLO HHI;obtain rfl:=EA.out;clear EA;have hcn:=HCN.out;have hcm:jH px x<0↔px<x:=by unfold jH;split<;>(try split)<;>omega
   generalize jH px x=r at*;by_cases hx:px<x
   .have ahp:=ae (HLO.out hx);have hd:decide (r<0)=true:=by simp[hcm.2 hx]
    have ahq:Hid (c+1+Lib.bitLen (j-((i+j)/2+1))<=c0+Lib.bitLen l.length/\c0<=c+1):=by
     have:=BZ (d:=j-i) (e:=j-((i+j)/2+1)) (by omega) (by omega) (by omega);show _/\_;omega
    clear HLO HHI HCN hcn hx hcm
    go_wp2_with (go_at_call 201;refine HCL.out.mono ?_;rintro e w' ⟨rfl,hB',hb'⟩)
    go_roundw
    case rel=>exact⟨(i+j)/2+1,j,c+1,by rw[show((i:Int)+(j:Int))/2+1=(((i+j)/2+1:Nat):Int) by omega],rfl,by omega,hj,ahq,ahp,H2,hB',nJ.trans hb'⟩
    case measure=>simp[intOf];omega
   .have ahr:=ae (HHI.out hx);have hd:decide (r<0)=false:=by simp only[iE];exact fun h=>hx (hcm.1 h)
    have ahq:Hid (c+1+Lib.bitLen ((i+j)/2-i)<=c0+Lib.bitLen l.length/\c0<=c+1):=by
     have:=BZ (d:=j-i) (e:=(i+j)/2-i) (by omega) (by omega) (by omega);show _/\_;omega
    clear HLO HHI HCN hcn hx hcm
    go_wp2_with (go_at_call 201;refine HCL.out.mono ?_;rintro e w' ⟨rfl,hB',hb'⟩)
    go_roundw
    case rel=>exact⟨i,(i+j)/2,c+1,rfl,by rw[show((i:Int)+(j:Int))/2=(((i+j)/2:Nat):Int) by omega],by omega,by omega,ahq,H1,ahr,hB',nJ.trans hb'⟩
    case measure=>simp[intOf];omega
  .obtain rfl:i=j:=by omega
   have hcn:=HCN.out;rw[jS,BX,eG]at hcn;by_cases kE:i<l.length
   .obtain⟨b,off,ea,iY,hcs⟩:=(HR.out.below (B:=L) (HW.out.trans nJ) hL).get (by omega);have x0:=hcs i kE 0 (by omega);have x1:=hcs i kE 1 (by omega);simp only[iZ,aT,aS,eG]at x0 x1;have HCL:=ae (HC.out l[i] x L c (by omega) wr HB.out);have EA:=ae ea;have hne:¬l.length=0:=by omega
    clear hcs ea HB;generalize l[i]=p at*;obtain⟨px,pn⟩:=p;simp only at x0 x1 HCL;obtain rfl:=EA.out;clear EA;generalize jH px x=r at*;have Ye:=ae hcn;clear hcn HCN
    go_wp2_with (go_at_call 201;refine HCL.out.mono ?_;rintro e w' ⟨rfl,hB',hb'⟩)
    go_ret2;exact⟨i,c+1,_,rfl,by omega,H1.out,H2.out,by have:=Ye.out;rw[aP hne];omega,by have:=Ye.out;omega,hB',nJ.trans hb'⟩
   .obtain rfl:i=l.length:=by omega
    have Ye:=ae hcn;clear hcn HCN;go_wp2;go_ret2;exact⟨l.length,c,_,rfl,aG _,H1.out,H2.out,by have:=Ye.out;omega,by have:=Ye.out;omega,HB.out,nJ⟩
abbrev mM:=gJ jI
abbrev Uv:=TJ iZ 2 204
abbrev kM:=qw iZ 2 204
theorem Uv.aL {W:World} {base:Nat} {v:Value} {n:Nat} {l:List jI} (h:W.ownsRow base 204 2 v n (l.flatMap iZ)):∃a c,v=.slice a l.length c/\n=l.length/\l.length<=c/\Uv W a l:=TJ.aL zi (by decide) h
def tb (n:Nat):Nat:=if n=0 then 0 else Lib.bitLen n+2
def Ms (NB:List (List jI)):Nat:=(NB.map fun l=>tb l.length).sum
theorem Gm (NB:List (List jI)) (i:Nat) (h:i<NB.length):Ms (NB.take (i+1))=Ms (NB.take i)+tb NB[i].length:=by
 unfold Ms;rw[fG h];simp only[dh,mY,qX,DV,List.sum_cons,List.sum_nil];omega
def asW (NB:List (List jI)) (id:Int) (W:World) (e:Ending) (w':World):Prop:=
 ∃(k:Int) (t:Nat),e=.returned (.tuple #[ag k,ag t])/\t<=Ms NB/\((∃x∈NB.flatten,x.1=id/\x.2=k)\/(k=-1/\∀x∈NB.flatten,x.1≠id))/\Below W.heap.size W w'
theorem ahs {NB:List (List jI)} {i:Nat}:Ms (NB.take i)<=Ms NB:=by
 have h:Ms NB=Ms (NB.take i)+Ms (NB.drop i):=by
  unfold Ms;rw[<-DV,<-dh,lg]
 omega
theorem ET (A:Nat) (id:Int) (W:World) (NB:List (List jI)) (bh:List mM) (bv:Value) (base:Nat) (hA:W.cell? (ah A 1)=some bv) (hbv:W.ownsRow base 209 1 bv bh.length (bh.map dS)) (hnb:bh.map (·.2.1)=NB) (o6:kM W bh)
  (hs:∀l∈NB,l.Pairwise fun p q=>p.1<=q.1) (hlen:NB.length<=1000) (hsz:∀l∈NB,l.length<=10000):aO 131 #[ay A,aJ id] W (asW NB id W):=by
 have hbl:bh.length=NB.length:=by rw[<-hnb];simp
 have HS:=ae hs;have HZ:=ae hsz;have asX:Hid (∀i,Ms (NB.take i)<=20*i):=fun i=>by
  unfold Ms
  induction i with
  |zero=>simp
  |succ i ih=>
   by_cases hi:i<NB.length
   .rw[fG hi];have h1:tb NB[i].length<=20:=by
     unfold tb;have:=fE (HZ.out _ (bW hi)) (by decide);have h2:Lib.bitLen 10000=14:=by decide
     split<;>omega
    simp only[dh,mY,qX,DV,List.sum_cons,List.sum_nil];omega
   .rw[kZ (by omega)];rw[kZ (by omega)]at ih;omega
 have HR:Hid (∀i (hi:i<bh.length) (sG:i<NB.length),dU iZ 2 W bh[i].1 NB[i]/\W.heap.size=W.heap.size/\bh[i].2.1=NB[i]):=fun i hi sG=>by
  have e1:bh[i].2.1=NB[i]:=by simp[<-hnb]
  exact⟨by rw[<-e1];exact(o6 _ (bW hi)).1.VX,rfl,e1⟩
 obtain⟨av,cv,rfl,-,-,jE⟩:=Rd.aL (enc:=dS) hbv;have HD:=ae jE;have ka:=aj hA;have hAl:=iD W _ hA;clear hs hsz hbv hnb o6 jE;go_enter Tryz.func131,Tryz.ntmps131;go_wp2
 go_loopw [16] (fun kv wr=>∃i c:Nat,kv=.int .i64 i/\i<=bh.length/\Hid (Boxed wr W.heap.size 3 (.int .i64 c))/\Hid (c<=Ms (NB.take i))/\Hid (∀x∈(NB.take i).flatten,x.1≠id)/\Below W.heap.size W wr) (fun kv _=>bh.length-(intOf kv).toNat)
 case atStart=>exact⟨0,0,rfl,bC _,Boxed.new _ _ _,bC _,by intro x hx;simp at hx,(aM _ _).alloc (aG _) _⟩
 case round=>
  clear ka;obtain⟨i,c,rfl,hi,HB,HC,HN,hb⟩:=hrel;by_cases hlt:i<bh.length
  .have um:i<NB.length:=by omega
   have asY:c<=100000:=by have h1:=HC.out;have h2:=asX.out i;omega
   obtain⟨b,off,ea,Eo,hcs⟩:=HD.out.get (by omega);have z:=(hb.cell (p:=(ah b (off+i))) Eo).trans (hcs i hlt);obtain⟨r1,-,r3⟩:=HR.out i hlt um;have HTS:=ae (Gm NB i um);have HFL:Hid ((∀x∈NB[i],x.1≠id)->∀x∈(NB.take (i+1)).flatten,x.1≠id):=fun h x hx=>by
    rw[fG um,lV,df]at hx;rcases hx with hx|hx
    .exact HN.out x hx
    .exact h x (by simpa using hx)
   have asZ:Hid (∀x∈NB[i],x∈NB.flatten):=fun x hx=>qR.2 ⟨_,bW um,hx⟩;have hsi:=HS.out _ (bW um);have hzi:=HZ.out _ (bW um);have HLE:=ae (ahs (NB:=NB) (i:=i+1));have EA:=ae ea;unfold dS at z;clear hcs ea;generalize NB[i]=l at*;generalize bh[i]=hd at*;obtain⟨ai,li,ci⟩:=hd;simp only at r3 r1 z;subst r3;obtain rfl:=EA.out;clear EA;have afZ:(i:Int)<(bh.length:Int):=by omega
   have Cm:=HB.out.lt;have BS:=asV ai li li.length ci id W.heap.size c W wr rfl hzi asY r1 (aG _) hb hsi HB.out
   go_wp2_with fail
   refine BS.mono ?_;rintro e w2 ⟨k,c2,bb,rfl,hk,h1,h2,hc2,hc3,hB2,hb2⟩;have B2:=hb.trans hb2;clear z BS hb hb2 HB;have K1:=ae h1;have K2:=ae h2;have Yf:Hid (tb li.length=if li.length=0 then 0 else Lib.bitLen li.length+2):=rfl;have ahu:=fE hzi (by decide);have aBL:Lib.bitLen 10000=14:=by decide
   by_cases gU:k<li.length
   .have hne:¬li.length=0:=by omega
    rw[aP hne]at hc2;have hT:=Yf.out;rw[aP hne]at hT;have q0:=hB2.cell;have q1:=hB2.frozen;have hB3:=hB2.set (.int .i64 ((c2+1:Nat):Int));have B3:=B2.setCell (p:=(ah W.heap.size 0)) (aG _) (.int .i64 ((c2+1:Nat):Int));obtain⟨b9,Gn,ea,-,hcs⟩:=(r1.below B3).get (by omega);have x0:=hcs k gU 0 (by omega);have x1:=hcs k gU 1 (by omega);simp only[iZ,aT,aS,eG]at x0 x1;have HNX:Hid (li[k].1≠id->∀x∈li,x.1≠id):=fun h x hx=>by
     obtain⟨t,ht,rfl⟩:=jA hx;by_cases htk:t<k
     .have:=K1.out t ht htk;omega
     .have h3:=K2.out k gU (aG _);rcases Nat.lt_or_eq_of_le (Nat.le_of_not_lt htk)with h4|h4
      .have h5:=iq.1 hsi k t gU ht h4;omega
      .subst h4;exact h
    have HMK:=ae (asZ.out li[k] (bW gU));have EA:=ae ea;have Uw:(k:Int)<(li.length:Int):=by omega
    rw[show((c2+1:Nat):Int)=(c2:Int)+1 by omega]at hB3 B3 x0 x1;have q2:=hB3.cell;clear hcs ea h1 h2 K1 K2;generalize li[k]=y at*;obtain⟨yx,yn⟩:=y;simp only at x0 x1 HNX;obtain rfl:=EA.out;clear EA r1;have HBB:=ae hB3;have kJ:=ae B3;clear hB3 B3 B2;by_cases he:yx=id
    .have de:(yx==id)=true:=by simp[he]
     have Di:Hid (∃x∈NB.flatten,x.1=id/\x.2=yn):=⟨_,HMK.out,he,rfl⟩;have zm:c2+1<=Ms NB:=by
      have:=HC.out;have:=HTS.out;have:=HLE.out;omega
     clear he HNX HMK;go_wp2;go_region
     all_goals
      go_wp2;go_ret2;exact⟨yn,c2+1,rfl,zm,.inl Di.out,kJ.out.drew⟩
    .have de:(yx==id)=false:=by simp[he]
     have BR:=ae (HFL.out (HNX.out he));have EG:Hid (c2+1<=Ms (NB.take (i+1))):=by
      have:=HC.out;have:=HTS.out;show _<=_;omega
     clear he HNX HMK;go_wp2;go_roundw
     case rel=>exact⟨i+1,c2+1,by go_num,by omega,HBB,EG,BR,kJ.out⟩
     case measure=>simp[intOf];omega
   .obtain rfl:k=li.length:=by omega
    have BR:Hid (∀x∈(NB.take (i+1)).flatten,x.1≠id):=HFL.out fun x hx=>by
     obtain⟨t,ht,rfl⟩:=jA hx;have:=K1.out t ht ht;omega
    have EG:Hid (c2<=Ms (NB.take (i+1))):=by
     have h3:=HC.out;have h4:=HTS.out;have h5:=Yf.out;show _<=_;by_cases h0:li.length=0
     .rw[aR h0]at h5 hc2;have h6:Lib.bitLen li.length=0:=by rw[h0];rfl
      omega
     .rw[aP h0]at h5 hc2;omega
    have HBB:=ae hB2;clear h1 h2 K1 K2 hB2 hc2;go_wp2;go_roundw
    case rel=>exact⟨i+1,c2,by go_num,by omega,HBB,EG,BR,B2⟩
    case measure=>simp[intOf];omega
  .obtain rfl:i=bh.length:=by omega
   have q0:=HB.out.cell;have zm:c<=Ms NB:=by
    have h1:=HC.out;rw[kZ (by omega)]at h1;exact h1
   have KI:Hid (∀x∈NB.flatten,x.1≠id):=by
    have h1:=HN.out;rw[kZ (by omega)]at h1;exact h1
   go_wp2;go_region
   all_goals
    go_wp2;go_ret2;exact⟨-1,c,rfl,zm,.inr ⟨rfl,KI.out⟩,hb.drew⟩
abbrev jh:=@iH jI 290 209 204
theorem amh:209≠290/\290≠204/\209≠204:=by decide
theorem uF {W:World} {base Cb:Nat} {cv:Value} {ch:List mM} {N wk:Int} (h:jh W base Cb cv ch N wk):aO 203 #[ay Cb] W (iX W (.bool false)):=by
 obtain⟨c0,-⟩:=h.cell;clear h;go_enter Tryz.func203,Tryz.ntmps203;go_wp2;go_ret;exact⟨rfl,aM _ _⟩
end Go.Proofs.YtkjdbndekceffaaGreat
namespace Go.Proofs.YtkjdbndekceffaaGreat
open Go.RowKit Go.Maps
attribute [local irreducible] wpQuiet
abbrev as1:=@ala jI 290 209 204 iZ 2
theorem ada {W:World} {base Cb:Nat} {cv:Value} {ch:List mM} {N wk:Int} (h:jh W base Cb cv ch N wk) (qJ:base<=W.heap.size) (o6:kM W ch) (x nn:Int) (hN:0<=N/\N<=100000) (hlen:ch.length<=1000) (hsz:(ch.map (·.2.1)).flatten.length<=10000):
  aO 132 #[ay Cb,ac5 x nn] W (as1 W base Cb cv ch (x,nn) N wk):=by
 have B1:Below W.heap.size W (W.alloc (.cells #[aJ x,ag nn] 204)):=(aM _ _).alloc (aG _) _;have x0:(W.alloc (.cells #[aJ x,ag nn] 204)).cell? (ah W.heap.size 0)=some (aJ x):=by rw[fw _ _ _ _ rfl];rfl
 have x1:(W.alloc (.cells #[aJ x,ag nn] 204)).cell? (ah W.heap.size 1)=some (ag nn):=by rw[fw _ _ _ _ rfl];rfl
 have CN:=ae (uF (h.below B1));have H:=ae h;have HR:=ae o6;have fK:=ae B1;clear h o6 B1;go_enter Tryz.func132,Tryz.ntmps132
 go_wp2_with fail
 refine CN.out.mono ?_;rintro e w2 ⟨rfl,hb2⟩;have B2:=ae (fK.out.trans (hb2.mono (by simp)));have y0:=(hb2.cell (p:=(ah W.heap.size 0)) (by simp)).trans x0;have y1:=(hb2.cell (p:=(ah W.heap.size 1)) (by simp)).trans x1;have hs2:W.heap.size<w2.heap.size:=by have:=hb2.size;simp at this;omega
 have C2:=ae (H.out.below B2.out);have Y0:=ae y0;have Y1:=ae y1;clear x0 x1 y0 y1 CN fK hb2;obtain⟨c0,c1,c2,c3⟩:=C2.out.cell
 go_upto_block 0 with fail
 go_cut [6]from 11 to 30 (fun sv wx=>∃i:Nat,sv=.int .i64 i/\Hid (wx=w2)/\i<=ch.length/\Hid (∀j (hj:j<ch.length),j<i->ch[j].2.1≠[])/\Hid (∀hi:i<ch.length,ch[i].2.1=[]))
 case first=>
  go_wp2_with fail
  go_loopw [6] (fun iv wr=>∃i:Nat,iv=.int .i64 i/\Hid (wr=w2)/\i<=ch.length/\Hid (∀j (hj:j<ch.length),j<i->ch[j].2.1≠[])) (fun iv _=>ch.length-(intOf iv).toNat)
  case atStart=>exact⟨0,rfl,(by first|rfl|trivial),bC _,fun j _ h=>absurd h (ll _)⟩
  case round=>
   obtain⟨i,rfl,hwr,hi,vP⟩:=hrel;obtain rfl:wr=w2:=hwr.out;clear hwr;obtain⟨av,cp,rfl,-,-,jE⟩:=Rd.aL (enc:=dS) C2.out.row;by_cases hlt:i<ch.length
   .obtain⟨b,off,ea,hbl,hcs⟩:=jE.get (by omega);have z:=hcs i hlt;have Jp:Hid (ch[i].2.1=[]->∀hi:i<ch.length,ch[i].2.1=[]):=fun h _=>h;have vQ:Hid (ch[i].2.1≠[]->∀j (hj:j<ch.length),j<i+1->ch[j].2.1≠[]):=fun h j hj oK=>by
     rcases Oq.1 oK with h9|rfl
     .exact vP.out j hj h9
     .exact h
    have EA:=ae ea;unfold dS at z;clear hcs ea jE;generalize ch[i]=hd at*;obtain⟨ai,li,ci⟩:=hd;simp only at z Jp vQ;obtain rfl:=EA.out;clear EA;have um:(i:Int)<(ch.length:Int):=by omega
    by_cases h0:li=[]
    .have HE:=ae (Jp.out h0);clear Jp vQ;subst h0
     go_wp2_with fail
     go_meet;exact⟨i,rfl,(by first|rfl|trivial),hi,vP,HE⟩
    .have HE:=ae (vQ.out h0);have Ee:0<li.length:=Dw.2 h0;have hd0:decide (0<li.length)=true:=by simp[Ee]
     clear h0 Jp vQ
     go_wp2_with fail
     go_roundw
     case rel=>exact⟨i+1,by go_num,(by first|rfl|trivial),by omega,HE⟩
     case measure=>simp[intOf];omega
   .have HE:Hid (∀hi:i<ch.length,ch[i].2.1=[]):=fun h=>absurd h hlt;have hge:¬(i:Int)<(ch.length:Int):=by omega
    go_wp2_with fail
    go_meet;exact⟨i,rfl,(by first|rfl|trivial),hi,vP,HE⟩
 case rest=>
  obtain⟨i,rfl,hwr,hi,vP,Jp⟩:=hcut;obtain rfl:wc=w2:=hwr.out;clear hwr;obtain⟨SB,Jq⟩:∃SB,SB=cv.ownBlock:=⟨_,rfl⟩;have HS:Hid (∀k,(k=Cb\/SB=some k)->base<=k):=fun k h=>by
   rcases h with rfl|h
   .exact C2.out.hb
   .exact(C2.out.row.lt k (Jq▸h)).1
  have VY:Hid (∀k,SB=some k->k<W.heap.size/\k≠Cb):=fun k h=>⟨(H.out.row.lt k (Jq▸h)).2,fun e=>H.out.ne (by rw[<-Jq,h,e])⟩;have yh:=ae Jq;have agz:=H.out.lt;obtain⟨av,cp,rfl,-,VZ,-⟩:=Rd.aL (enc:=dS) C2.out.row;have K2:Hid (aC (fun k=>k=Cb\/SB=some k) W wc):=(aC.refl _ _).grown (bV B2.out) (by simp);have HNB:Hid (∀w6,wc.grownBy w6 (Value.ownBlock (.slice av ch.length cp))->w6.heap[Cb]? =some (Obj.cells #[.bool true,.slice av ch.length cp,ag N,ag wk] 290 (0,0))):=fun w6 hg=>(hg.block Cb C2.out.lt (fun e=>C2.out.ne e.symm)).trans C2.out.blk;clear Jq
  go_upto_if 37 with fail
  go_cut []from 37 to 46 (fun wx=>∃WQ ch1 g1 n1 uo,Hid (jh wx base Cb WQ ch1 N wk)/\WQ=aD g1 n1 uo/\n1=ch1.length/\i<n1/\Hid (ch1=ch/\i<ch.length\/ch1=ch++[fO]/\i=ch.length)/\Hid (WQ.ownBlock=SB\/∃b,WQ.ownBlock=some b/\W.heap.size<=b)/\Hid (g1≠W.heap.size)/\Hid (aC (fun k=>k=Cb\/SB=some k) W wx)/\Hid (aC (fun k=>k=Cb\/SB=some k) wc wx))
  case first=>
   by_cases kE:i=ch.length
   .subst kE;have hde:((ch.length:Int)==(ch.length:Int))=true:=by simp
    go_wp2_with (at_builtin;refine cz RB base C2.out.row [aN] rfl (by simp[Value.oneCell']) rfl _ _ rfl rfl _ rfl (by unfold maxLen;omega) (by omega) (by omega) ?_;intro v' w6 hown' hg hblk;obtain⟨g6,jM,rfl,aci,acj,ack,acm⟩:=bf hown' (by omega);have k6:=HNB.out w6 hg;have q1:w6.cell? (ah Cb 1)=some (.slice av ch.length cp):=(by simp[World.cell?,k6]);have q2:w6.frozen? (ah Cb 1)=false:=(by simp[World.frozen?,k6]))
    go_meet;have hown2:w6.ownsRow base 209 1 (aD g6 (ch.length+1) jM) (ch++[fO]).length ((ch++[fO]).map dS):=by
     rw[bF,dh];exact hown'
    have oW:(some g6=SB\/g6=wc.heap.size+1):=by
     rcases hblk with h9|h9
     .exact .inl (h9.trans yh.out.symm)
     .simp only[Value.ownBlock,jB]at h9;rw[h9];exact .inr (by simp)
    have V3:g6≠Cb:=by
     rcases oW with h9|h9
     .exact(VY.out g6 h9.symm).2
     .omega
    refine⟨_,ch++[fO],g6,ch.length+1,jM,iH.TL (ch:=ch) k6 C2.out.hb C2.out.ds hown2 (by simpa[Value.ownBlock]using V3),rfl,by simp,by omega,(by first|exact .inr ⟨rfl,rfl⟩|exact .inr ⟨rfl,trivial⟩),?_,?_,(K2.out.grown hg fun k hk=>.inl (.inr (yh.out.trans hk))).set _ (.inl (.inl rfl)),((aC.refl _ wc).grown hg fun k hk=>.inl (.inr (yh.out.trans hk))).set _ (.inl (.inl rfl))⟩
    .rcases oW with h9|h9
     .exact .inl (by simpa[Value.ownBlock]using h9)
     .exact .inr ⟨g6,rfl,by omega⟩
    .show g6≠W.heap.size;rcases oW with h9|h9
     .have:=(VY.out g6 h9.symm).1;omega
     .omega
   .have hde:((i:Int)==(ch.length:Int))=false:=by simp only[beq_eq_false_iff_ne];omega
    have WR:i<ch.length:=by omega
    obtain⟨g,cp',e9,hg1,hg2,-,-⟩:=bf C2.out.row (by omega);injection e9 with e9 _ WS;subst e9 WS;go_wp2;go_meet;have hgS:SB=some g:=yh.out;exact⟨_,ch,g,ch.length,cp,C2,rfl,rfl,WR,.inl ⟨rfl,WR⟩,.inl yh.out.symm,(by show g≠W.heap.size;have:=(VY.out g hgS).1;omega),K2,aC.refl _ _⟩
  case rest=>
   obtain⟨WQ,ch1,g1,n1,uo,C3,rfl,rfl,iC,HCH,uZ,HG1,K3,WT⟩:=hcut;obtain⟨w3,jQ⟩:∃w3:World,w3=wc:=⟨_,rfl⟩;subst jQ;have KJ:Hid (¬(W.heap.size=Cb\/SB=some W.heap.size)):=fun h9=>by
    rcases h9 with h9|h9
    .omega
    .have:=(VY.out _ h9).1;omega
   have X0:Hid (w3.cell? (ah W.heap.size 0)=some (aJ x)):=(dX (a:=(ah W.heap.size 0)) (WT.out.block _ hs2 KJ.out)).trans Y0.out;have X1:Hid (w3.cell? (ah W.heap.size 1)=some (ag nn)):=(dX (a:=(ah W.heap.size 1)) (WT.out.block _ hs2 KJ.out)).trans Y1.out;have hs3:W.heap.size<w3.heap.size:=bJ hs2 WT.out.size;have hg1:g1<w3.heap.size:=(C3.out.row.lt g1 rfl).2;have F6:Hid (∀k (hk:k<i) (h1:k<ch1.length) (h2:k<ch.length),ch1[k]=ch[k]):=fun k hk h1 h2=>by
    rcases HCH.out with⟨e,-⟩|⟨e,-⟩
    .subst e;rfl
    .subst e;exact sN h2
   have HEK:Hid (∀W',aC (fun k=>k=Cb\/SB=some k) W W'->∀k (hk:k<ch.length),dU iZ 2 W' ch[k].1 ch[k].2.1):=fun W' hK k hk=>((HR.out _ (bW hk)).1.kept (H.out.fq yh.out hK)).VX;have HJN:Hid (∀k (hk:k<ch.length),k<i->(((ch.map (·.2.1)).take i).drop k).reverse.flatten=(((ch.map (·.2.1)).take i).drop (k+1)).reverse.flatten++ch[k].2.1):=fun k hk KD=>by
    rw[nP (by simp;omega)];simp
   have HJL:Hid (∀k,(((ch.map (·.2.1)).take i).drop k).reverse.flatten.length<=10000):=fun k=>by
    generalize ch.map (·.2.1)=CB at*;have e1:(((CB.take i).drop k).reverse.flatten).length=((CB.take i).drop k).flatten.length:=by simp only[IE,I1,List.sum_reverse]
    have e2:((CB.take i).take k).flatten++((CB.take i).drop k).flatten=(CB.take i).flatten:=by rw[<-lV,lg]
    have e3:(CB.take i).flatten++(CB.drop i).flatten=CB.flatten:=by rw[<-lV,lg]
    have e4:=congrArg List.length e2;have e5:=congrArg List.length e3;rw[bF]at e4 e5;omega
   clear Y0 Y1 c0 c1 c2 c3 WT
   go_upto_block 2 with fail
   go_cut [7]from 49 to 67 (fun vv wx=>Hid (wx.ownsRow w3.heap.size 204 2 vv (eu (ch.map (·.2.1)) i).length ((eu (ch.map (·.2.1)) i).flatMap iZ))/\Hid (jh wx base Cb (aD g1 ch1.length uo) (vO ch1 i 0) N wk)/\Hid (aC (fun k=>k=Cb\/SB=some k) W wx)/\Hid (aC (fun k=>k=g1) w3 wx))
   case first=>
    go_wp2_with fail
    go_loopw [8,7] (fun kv vv wr=>∃(k:Nat) (va:Value),kv=.int .i64 ((k:Int)-1)/\vv=va/\k<=i/\Hid (wr.ownsRow w3.heap.size 204 2 va (((ch.map (·.2.1)).take i).drop k).reverse.flatten.length ((((ch.map (·.2.1)).take i).drop k).reverse.flatten.flatMap iZ))/\Hid (jh wr base Cb (aD g1 ch1.length uo) (vO ch1 i k) N wk)/\Hid (aC (fun k=>k=Cb\/SB=some k) W wr)/\Hid (aC (fun k=>k=g1) w3 wr)) (fun kv _ _=>(intOf kv+1).toNat)
    case atStart=>
     refine⟨i,_,rfl,rfl,aG _,?_,?_,K3,aC.refl _ _⟩
     .rw[rX (by simp;omega)];exact dL _ _ _ _
     .rw[Ro];exact C3
    case round=>
     obtain⟨k,va,rfl,rfl,hk,HO,HC,HK,HG⟩:=hrel;rcases pI k with BP|BP
     .subst BP;have hg0:¬(0:Int)<=((0:Nat):Int)-1:=by omega
      rw[lI]at HO
      go_wp2_with fail
      go_meet;exact⟨HO,HC,HK,HG⟩
     .obtain⟨m,rfl⟩:∃m,k=m+1:=⟨k-1,by omega⟩;have hmc:m<ch.length:=by omega
      have G7:m<ch1.length:=by omega
      obtain⟨d0,d1,d2,d3⟩:=HC.out.cell;have oL:i<=ch1.length:=by omega
      have hrow:=HC.out.row;rw[iW hk oL]at hrow;have z:=hrow.cellAt m (by omega);rw[iO,Rp oL (by omega),dD G7,F6.out m (by omega) G7 hmc]at z;simp only[aU]at z;have jE:=HEK.out wr HK.out m hmc;have hjn:=HJN.out m hmc (by omega);have jl:=HJL.out m;rw[hjn,bF]at jl;have agB:=Rq (ch1:=ch1) oL (show m<i by omega);have LJ:=jl;generalize(((ch.map (·.2.1)).take i).drop (m+1)).reverse.flatten=L at*;have HJ2:=ae hjn;unfold dS at z;clear hjn jl;generalize ch[m]=hd at*;obtain⟨am,lm,cm⟩:=hd;simp only at z jE LJ HJ2;have yJ:=HO.out.lt;have agD:=C3.out.lt;have hgw:=HG.out.size;have hmi:(m:Int)<(ch1.length:Int):=by omega
      go_wp2_with (at_builtin;refine oZ Mr zi EO w3.heap.size HO.out jE rfl _ _ rfl rfl cm rfl (by unfold maxLen;omega) (by omega) hgw ?_;intro v' w6 hown' hg hblk;have C6:=HC.out.grown hg (fun e=>(by have:=(yJ Cb e).1;omega)) (.inr (fun e=>(by have:=(yJ g1 e.symm).1;omega)));obtain⟨f0,f1,f2,f3⟩:=C6.cell;have qK:=hg.block g1 (by omega) (fun e=>(by have:=(yJ g1 e.symm).1;omega));have z6:=(dX (a:=(ah g1 m)) qK).trans z;have WU:=(Dr (a:=(ah g1 m)) qK).trans (hrow.frozenAt m))
      have agE:=hown'.lt;have HO6:Hid ((w6.setCell (ah g1 m) (aN)).ownsRow w3.heap.size 204 2 v' (((ch.map (·.2.1)).take i).drop m).reverse.flatten.length ((((ch.map (·.2.1)).take i).drop m).reverse.flatten.flatMap iZ)):=by
       show World.ownsRow _ _ _ _ _ _ _;rw[HJ2.out,bF,lW];exact bB hown' fun gb e=>aH (fun e2=>by have:=(agE gb e).1;simp only at e2;omega)
      have LM:Hid (jh (w6.setCell (ah g1 m) (aN)) base Cb (aD g1 ch1.length uo) (vO ch1 i m) N wk):=by
       have:=C6.TK (iW hk oL).symm m fO;rw[agB]at this;exact this
      have OZ:SB=some g1\/W.heap.size<=g1:=by
       rcases uZ.out with h9|⟨b,h9,h8⟩
       .exact .inl h9.symm
       .simp only[Value.ownBlock,jB]at h9;exact .inr (by omega)
      have lD:Hid (aC (fun k=>k=Cb\/SB=some k) W (w6.setCell (ah g1 m) (aN))):=
       (HK.out.grown hg (fun b hb=>.inr (by have:=(yJ b hb).1;omega))).set _ (by rcases OZ with h9|h9;exact .inl (.inr h9);exact .inr h9)
      have HG6:Hid (aC (fun k=>k=g1) w3 (w6.setCell (ah g1 m) (aN))):=(HG.out.grown hg (fun b hb=>.inr (yJ b hb).1)).set _ (.inl rfl);go_roundw
      case rel=>exact⟨m,v',by go_num,rfl,by omega,HO6,LM,lD,HG6⟩
      case measure=>simp[intOf]
   case rest=>
    obtain⟨HO,HC,HK,HG⟩:=hcut;obtain⟨w4,Rs⟩:∃w4:World,w4=wc:=⟨_,rfl⟩;subst Rs;have hgw:=HG.out.size;have oL:i<=ch1.length:=by omega
    have TP:W.heap.size≠g1:=fun e=>HG1.out e.symm;have X0':w4.cell? (ah W.heap.size 0)=some (aJ x):=(dX (a:=(ah W.heap.size 0)) (HG.out.block _ hs3 TP)).trans X0.out;have X1':w4.cell? (ah W.heap.size 1)=some (ag nn):=(dX (a:=(ah W.heap.size 1)) (HG.out.block _ hs3 TP)).trans X1.out;have jl:=HJL.out 0;rw[lI]at jl;change(eu (ch.map (·.2.1)) i).length<=10000 at jl;have HOd:=(HO.out.alloc (.cells #[aJ x,ag nn] 204)).bP 1;have HCd:=(HC.out.grown (sO w4 (.cells #[aJ x,ag nn] 204) none) (by simp) (.inr (by simp[Value.ownBlock]))).drew;generalize hJ:eu (ch.map (·.2.1)) i=J at*;obtain⟨v2,w6,R1,hown2,hg2,oW⟩:=jN (ty:=209) (t:=209) (P:=Tryz.prog) Mr w3.heap.size HOd (ah w4.heap.size 0) 1 1 [.int .u32 x,.int .i64 nn] rfl (by
     intro j u hu;have j6:((ah w4.heap.size 0):Addr).add j=(ah w4.heap.size j):=by unfold Addr.add;split<;>simp_all
     rw[j6];have h9:(w4.alloc (.cells #[aJ x,ag nn] 204)).cell? (ah w4.heap.size j)=some u:=by
      rw[fw _ _ _ _ (by rfl)];simpa using hu
     exact h9) (by simp[Value.oneCell']) (by unfold maxLen;omega) (by omega) (by simp;omega)
    have yJ:=HOd.lt;have agD:=C3.out.lt;have C6:=HCd.grown hg2 (fun e=>(by have:=(yJ Cb e).1;omega)) (.inr (fun e=>(by have:=(yJ g1 e.symm).1;omega)));have kF:w6.ownsRow w3.heap.size 204 2 v2 (J.length+1) ((J++[(x,nn)]).flatMap iZ):=by
     rw[lW];exact hown2
    have hv2:=kF.lt;obtain⟨a6,jM,rfl,-,agF,hRE⟩:=Uv.aL kF;have O0:(J++[(x,nn)]).length=J.length+1:=by simp
    rw[O0]at R1 kF agF hv2;have WV:Hid (∀a,a6=some a->W.heap.size<=a.block):=fun a ha=>by have:=(hv2 a.block (by rw[ha];rfl)).1;omega
    obtain⟨f0,f1,f2,f3⟩:=C6.cell;have yK:=C6.row;rw[iW (bC _) oL]at yK;have hz6:=yK.cellAt i (by omega);have WU:=yK.frozenAt i;have hzl:i<((vO ch1 i 0).map dS).length:=by rw[cu,iW (bC _) oL];omega
    rw[dD hzl]at hz6;have hXa:w4.cell? (ah Cb 1)=some (aD g1 ch1.length uo)/\w4.cell? (ah W.heap.size 0)=some (aJ x)/\w4.cell? (ah W.heap.size 1)=some (ag nn):=⟨HC.out.cell.2.1,X0',X1'⟩;have hXb:w4.drew.cell? (ah Cb 1)=some (aD g1 ch1.length uo)/\w4.drew.cell? (ah W.heap.size 0)=some (aJ x)/\w4.drew.cell? (ah W.heap.size 1)=some (ag nn):=hXa;have hgA:=(aM w4.heap.size w4).alloc (aG _) (.cells #[aJ x,ag nn] 204);have hXl:W.heap.size<w4.heap.size:=by omega
    have WW:(w4.alloc (.cells #[aJ x,ag nn] 204)).drew.cell? (ah Cb 1)=some (aD g1 ch1.length uo)/\(w4.alloc (.cells #[aJ x,ag nn] 204)).drew.cell? (ah W.heap.size 0)=some (aJ x)/\(w4.alloc (.cells #[aJ x,ag nn] 204)).drew.cell? (ah W.heap.size 1)=some (ag nn):=
     ⟨HCd.cell.2.1,(hgA.cell (p:=(ah W.heap.size 0)) hXl).trans X0',(hgA.cell (p:=(ah W.heap.size 1)) hXl).trans X1'⟩
    have hXk:=hg2.block W.heap.size (by simp;omega) (fun e=>by have:=(yJ _ e.symm).1;omega);have WX:w6.cell? (ah Cb 1)=some (aD g1 ch1.length uo)/\w6.cell? (ah W.heap.size 0)=some (aJ x)/\w6.cell? (ah W.heap.size 1)=some (ag nn):=
     ⟨f1,(dX (a:=(ah W.heap.size 0)) hXk).trans WW.2.1,(dX (a:=(ah W.heap.size 1)) hXk).trans WW.2.2⟩
    have C7:jh (w6.setCell (ah g1 i) (.slice a6 (J.length+1) jM)) base Cb (aD g1 ch1.length uo) ((vO ch1 i 0).set i (a6,J++[(x,nn)],jM)) N wk:=by
     have:=C6.TK (iW (bC _) oL).symm i (a6,J++[(x,nn)],jM);unfold dS at this;rw[O0]at this;exact this
    have hXe:(w6.setCell (ah g1 i) (.slice a6 (J.length+1) jM)).cell? (ah Cb 1)=some (aD g1 ch1.length uo)/\(w6.setCell (ah g1 i) (.slice a6 (J.length+1) jM)).cell? (ah W.heap.size 0)=some (aJ x)/\(w6.setCell (ah g1 i) (.slice a6 (J.length+1) jM)).cell? (ah W.heap.size 1)=some (ag nn):=
     ⟨C7.cell.2.1,(dX (a:=(ah W.heap.size 0)) (aH (fun e=>TP e.symm))).trans WX.2.1,(dX (a:=(ah W.heap.size 1)) (aH (fun e=>TP e.symm))).trans WX.2.2⟩
    have OC:(i:Int)<(ch1.length:Int):=by omega
    generalize((vO ch1 i 0).map dS)[i]=zz at*;go_wp2
    go_hide hQ
    go_region_held3 (fun w'=>w'.cell? (ah Cb 1)=some (aD g1 ch1.length uo)/\w'.cell? (ah W.heap.size 0)=some (aJ x)/\w'.cell? (ah W.heap.size 1)=some (ag nn))
     (first|(with_reducible exact hXa)|(with_reducible exact hXb)|(with_reducible exact WW)|(with_reducible exact WX)|(with_reducible exact hXe)|go_keep)
     ((refine rZ rfl (.tmp 73) (.tmp 75) rfl R1 (by simp[Act.eval]) (by simp[Act.eval]) ?_;try simp only[Act.put,Iq,qO,zV]))
    all_goals subst hQ
    clear hXe;generalize hw7:w6.setCell (ah g1 i) (.slice a6 (J.length+1) jM)=w7 at C7 |-;have C8:=C7.Er (N+1);obtain⟨s0,s1,s2,s3⟩:=C7.cell;have WY:=C7.frozen 2;obtain⟨t0,t1,t2,t3⟩:=C8.cell;have fr3:=C8.frozen 3;have qL:((vO ch1 i 0).set i (a6,J++[(x,nn)],jM)).length=ch1.length:=by rw[qh,iW (bC _) oL]
    have Eu:=C8.row;rw[qL]at Eu;have z8:=Eu.cellAt i (by omega);have nX:(((vO ch1 i 0).set i (a6,J++[(x,nn)],jM)).map dS)[i]? =some (.slice a6 (J.length+1) jM):=by
     rw[iO,wh (by rw[iW (bC _) oL];omega)];simp[dS]
    rw[nX]at z8;have C9:=(C8.ach (wrap64 (wk+((J.length:Int)+1)))).drew;have TQ:=ae C9;clear C9;have hN1:(-9223372036854775808:Int)<=N+1/\N+1<=9223372036854775807:=by omega
    have HW7:=ae hw7;clear hw7;clear f0 f1 f2 f3 hz6 WU hXa hXb WW WX R1;have HZ8:=ae z8;have HHG:=ae nX;have WZ:=ae hRE;have OZ:SB=some g1\/W.heap.size<=g1:=by
     rcases uZ.out with h9|⟨b,h9,h8⟩
     .exact .inl h9.symm
     .simp only[Value.ownBlock,jB]at h9;exact .inr (by omega)
    have lD:Hid (aC (fun k=>k=Cb\/SB=some k) W w6):=((HK.out.grown (sO w4 (.cells #[aJ x,ag nn] 204) none) (by simp)).drew).grown hg2 (fun b hb=>.inr (by have:=(yJ b hb).1;omega));have LM:=ae C6;clear nX;go_wp2;go_region;have agH:Hid (aC (fun k=>k=Cb\/some g1=some k) w6 ((w7.setCell (ah Cb 2) (.int .i64 (N+1))).setCell (ah Cb 3) (.int .i64 (wrap64 (wk+((J.length:Int)+1))))).drew):=by
     rw[<-HW7.out];exact((((aC.refl _ w6).set _ (.inl (.inr rfl))).set _ (.inl (.inl rfl))).set _ (.inl (.inl rfl))).drew
    have W9:Hid (aC (fun k=>k=Cb\/SB=some k) W ((w7.setCell (ah Cb 2) (.int .i64 (N+1))).setCell (ah Cb 3) (.int .i64 (wrap64 (wk+((J.length:Int)+1))))).drew):=by
     rw[<-HW7.out];exact(((lD.out.set _ (by rcases OZ with h9|h9;exact .inl (.inr h9);exact .inr h9)).set _ (.inl (.inl rfl))).set _ (.inl (.inl rfl))).drew
    have C9:=TQ.out;clear z8 TQ s0 s1 s2 s3 t0 t1 t2 t3 WY fr3 C7 C8 HW7;generalize hw9:((w7.setCell (ah Cb 2) (.int .i64 (N+1))).setCell (ah Cb 3) (.int .i64 (wrap64 (wk+((J.length:Int)+1))))).drew=w9 at*;obtain⟨u0,u1,u2,u3⟩:=C9.cell;have Ev:=C9.row;rw[qL]at Ev;have z9:=Ev.cellAt i (by omega);rw[HHG.out]at z9;have O1:=WZ.out.kept (LM.out.fq rfl agH.out);have Xa:=W9.out.size;have CLN:=EP a6 (J++[(x,nn)]) (J.length+1) jM w9 O0 O1.VX (by omega);have TQ:=ae C9;have agI:=ae O1;clear hw9 yK Eu Ev C9 O1 hRE
    go_wp2_with fail
    refine CLN.mono ?_;rintro e sH ⟨v10,rfl,Ew,Cn⟩;go_wp2;go_ret2;have Xb:aC (fun k=>k=Cb\/SB=some k) W sH:=W9.out.below Cn;have Xc:=H.out.fq yh.out Xb;refine⟨i,v10,aD g1 ch1.length uo,(vO ch1 i 0).set i (a6,J++[(x,nn)],jM),_,rfl,hi,vP.out,Jp.out,TQ.out.below Cn,?_,?_,?_,?_,?_,?_,?_⟩
    .have LP:∀b,b<w9.heap.size->v10.ownBlock≠some b:=fun b hb e=>by have:=(Ew.lt b e).1;omega
     have hall:∀W2:World,(∀(b:Nat) cur fr,sH.heap[b]? =some (Obj.cells cur 204 fr)->v10.ownBlock≠some b->W2.heap[b]? =sH.heap[b]?)->kM W2 ((vO ch1 i 0).set i (a6,J++[(x,nn)],jM)):=by
      intro W2 h2 h hh;rcases Dc HCH.out hh with rfl|rfl|h1
      .exact⟨agI.out.kept fun b cur fr hb=>(h2 b cur fr ((bI Cn hb).trans hb) (LP b (bn.1 hb).1)).trans (bI Cn hb),by show(J++[(x,nn)]).length<=jM;omega⟩
      .exact⟨.inl rfl,aG _⟩
      .exact⟨(HR.out h h1).1.kept fun b cur fr hb=>(h2 b cur fr ((Xc b cur fr hb).trans hb) (LP b (bJ (bn.1 hb).1 Xa))).trans (Xc b cur fr hb),(HR.out h h1).2⟩
     exact⟨hall sH (fun _ _ _ _ _=>rfl),hall⟩
    .exact LC HCH.out _ (x,nn) (by show J++[(x,nn)]=_;rw[hJ])
    .rw[hJ,O0];exact bR Ew Xa
    .rcases uZ.out with h9|h9
     .exact .inl (h9.trans yh.out)
     .exact .inr h9
    .exact Xb.mono fun k hk=>hk.imp id fun h9=>yh.out▸h9
    .intro h hh;rcases Dc HCH.out hh with rfl|rfl|h1
     .exact .inr WV.out
     .exact .inr fun a ha=>by cases ha
     .exact .inl h1
    .rw[hJ]
end Go.Proofs.YtkjdbndekceffaaGreat
namespace Go.Proofs.YtkjdbndekceffaaGreat
open Go.RowKit Go.Maps
section
variable {W:World} {base Cb:Nat} {cv:Value} {ch:List mM} {N wk:Int}
theorem EU (h:jh W base Cb cv ch N wk) (hl:ch.length<=1000000):aO 209 #[ay Cb] W (iX W (ag ch.length)):=by
 have CN:=ae (uF h);have H:=ae h;clear h;obtain⟨av,cp,rfl,-,-,-⟩:=Rd.aL (enc:=dS) H.out.row;go_enter Tryz.func209,Tryz.ntmps209
 go_wp2_with fail
 refine CN.out.mono ?_;rintro e w2 ⟨rfl,hb2⟩;obtain⟨-,c1,-⟩:=(H.out.below hb2).cell;go_wp2;go_ret;exact⟨rfl,hb2⟩
theorem adb (h:jh W base Cb cv ch N wk):aO 137 #[ay Cb] W (iX W (ag N)):=by
 have CN:=ae (uF h);have H:=ae h;clear h;go_enter Tryz.func137,Tryz.ntmps137
 go_wp2_with fail
 refine CN.out.mono ?_;rintro e w2 ⟨rfl,hb2⟩;obtain⟨-,-,c2,-⟩:=(H.out.below hb2).cell;go_wp2;go_ret;exact⟨rfl,hb2⟩
theorem EY (h:jh W base Cb cv ch N wk) (o6:kM W ch) (hl:ch.length<=1000000) (i:Nat) (hi:i<ch.length) (hz:ch[i].2.1.length<=1000000):aO 210 #[ay Cb,ag i] W fun e w'=>
  ∃v,e=.returned v/\w'.ownsRow W.heap.size 204 2 v ch[i].2.1.length (ch[i].2.1.flatMap iZ)/\Below W.heap.size W w':=by
 have CN:=ae (uF h);have H:=ae h;clear h;obtain⟨av,cp,rfl,-,-,-⟩:=Rd.aL (enc:=dS) H.out.row;obtain⟨g,cp',e9,hg1,hg2,-,-⟩:=bf H.out.row (by omega);injection e9 with e9 _ WS;subst e9 WS;have Df:=ae (fun W' (hb:Below W.heap.size W W')=>(o6 _ (bW hi)).1.VX.below hb);have HZ:=ae (fun W' (hb:Below W.heap.size W W')=>(show W'.cell? (ah g i)=some (dS ch[i]) by
  have:=((H.out.below hb).row).cellAt i (by omega);rw[iO,dD hi]at this;exact this))
 unfold dS at HZ;clear o6;have OC:(i:Int)<(ch.length:Int):=by omega
 generalize ch[i]=hd at*;obtain⟨ai,li,ci⟩:=hd;simp only at Df HZ hz |-;have d1:decide ((i:Int)<0)=false:=by simp
 have d2:decide ((ch.length:Int)<=(i:Int))=false:=by simp only[iE];omega
 go_enter Tryz.func210,Tryz.ntmps210
 go_wp2_with fail
 refine CN.out.mono ?_;rintro e w2 ⟨rfl,hb2⟩;obtain⟨-,c1,-⟩:=(H.out.below hb2).cell;have z2:=HZ.out w2 hb2;have CL:=ae (EP ai li li.length ci w2 rfl (Df.out w2 hb2) hz)
 go_wp2_with fail
 refine CL.out.mono ?_;rintro e w3 ⟨v3,rfl,hown,hb3⟩;have HO:=ae (bR hown hb2.size);go_wp2;go_ret;exact⟨_,rfl,HO.out,hb2.trans (hb3.mono hb2.size)⟩
end
structure dZ (W:World) (base A Cb:Nat) (bv pv lv cv:Value) (bh ch:List mM) (al:List Bool) (pl:List Int) (n N wk:Int):Prop where
 hb:base<=A
 blk:W.heap[A]? =some (Obj.cells #[ay Cb,bv,pv,lv,ag n] 207 (0,0))
 gq:jh W base Cb cv ch N wk
 iA:W.ownsRow base 209 1 bv bh.length (bh.map dS)
 iI:W.ownsRow base 3 1 pv pl.length (pl.map (Value.int .i64))
 dR:W.ownsRow base 4 1 lv al.length (al.map Value.bool)
 bE:kM W bh
 cE:kM W ch
 sep:bv.ownBlock=none\/bv.ownBlock≠cv.ownBlock
section
variable {W:World} {base A Cb:Nat} {bv pv lv cv:Value} {bh ch:List mM} {al:List Bool} {pl:List Int} {n N wk:Int}
theorem dZ.cell (h:dZ W base A Cb bv pv lv cv bh ch al pl n N wk):
  W.cell? (ah A 0)=some (ay Cb)/\W.cell? (ah A 1)=some bv/\W.cell? (ah A 2)=some pv/\W.cell? (ah A 3)=some lv/\W.cell? (ah A 4)=some (ag n):=by
 have:=h.blk;refine⟨?_,?_,?_,?_,?_⟩<;>simp[World.cell?,this]
theorem dZ.frozen (h:dZ W base A Cb bv pv lv cv bh ch al pl n N wk) (j:Nat):W.frozen? (ah A j)=false:=by
 have:=h.blk;simp[World.frozen?,this]
theorem dZ.lt (h:dZ W base A Cb bv pv lv cv bh ch al pl n N wk):A<W.heap.size:=(bn.1 h.blk).1
theorem dZ.below {W':World} (h:dZ W base A Cb bv pv lv cv bh ch al pl n N wk) (hb:Below W.heap.size W W'):dZ W' base A Cb bv pv lv cv bh ch al pl n N wk:=
 ⟨h.hb,(bI hb h.blk).trans h.blk,h.gq.below hb,au h.iA hb,au h.iI hb,au h.dR hb,h.bE.kept fun b cur fr hk=>bI hb hk,h.cE.kept fun b cur fr hk=>bI hb hk,h.sep⟩
theorem Yg (h:dZ W base A Cb bv pv lv cv bh ch al pl n N wk):aO 130 #[ay A] W (iX W (.bool false)):=by
 obtain⟨c0,-⟩:=h.cell;clear h;go_enter Tryz.func130,Tryz.ntmps130;go_wp2;go_ret;exact⟨rfl,aM _ _⟩
end
def kN (ES:List jI) (al:List Bool) (pl:List Int) (id p:Int):Prop:=∃k:Nat,(id,(k:Int))∈ES/\al[k]? =some true/\pl[k]? =some p
def Mt (NB CB:List (List jI)):Prop:=NB.length=CB.length/\∀(i:Nat) (h:i<NB.length) (h':i<CB.length),NB[i].Perm CB[i]
structure zo (CB NB:List (List jI)) (al:List Bool) (pl:List Int) (n N:Int):Prop where
 len:al.length=pl.length
 sorted:∀l∈NB,l.Pairwise fun p q=>p.1<=q.1
 perm:Mt NB CB
 ids:(CB.flatten.map (·.1)).Nodup
 sI:∀x∈CB.flatten,∃k:Nat,x.2=k/\k<al.length
 uG:(CB.flatten.map (·.2)).Nodup
 live:∀k:Nat,al[k]? =some true->∃x∈CB.flatten,x.2=k
 cnt:n=(al.count true:Nat)
 stored:N=(CB.flatten.length:Nat)
 bound:al.length<=5000
 small:CB.flatten.length<=5000
 size:∀(i:Nat) (h:i<CB.length),CB[i].length=0\/CB[i].length=2^i
 last:∀(i:Nat) (h:i<CB.length),i+1=CB.length->CB[i]≠[]
structure vU (CB NB:List (List jI)) (al:List Bool) (pl:List Int) (n N:Int):Prop extends zo CB NB al pl n N where
 most:N<=2*n
theorem vB {L:List jI} (h:(L.map (·.1)).Nodup) {x y:jI} (hx:x∈L) (hy:y∈L) (e:x.1=y.1):x=y:=by
 have h3:L.Pairwise fun p q=>p.1≠q.1:=dG.1 h;rcases gW h3 hx hy with h1|h1|h1
 .exact h1
 .exact absurd e h1
 .exact absurd e.symm h1
theorem mi {NB CB:List (List jI)} (h:Mt NB CB) (x:jI):x∈NB.flatten↔x∈CB.flatten:=by
 simp only[qR];constructor
 .rintro⟨l,hl,hx⟩;obtain⟨i,hi,rfl⟩:=jA hl;have hi':i<CB.length:=by rw[<-h.1];exact hi
  exact⟨CB[i],bW hi',(h.2 i hi hi').mem_iff.1 hx⟩
 .rintro⟨l,hl,hx⟩;obtain⟨i,hi',rfl⟩:=jA hl;have hi:i<NB.length:=by rw[h.1];exact hi'
  exact⟨NB[i],bW hi,(h.2 i hi hi').mem_iff.2 hx⟩
theorem Ux (W:World):dZ ((W.alloc (.cells #[.bool true,aN,ag 0,ag 0] 290)).alloc (.cells #[ay W.heap.size,aN,aN,aN,ag 0] 207)) W.heap.size (W.heap.size+1) W.heap.size (aN) (aN) (aN) (aN) [] [] [] [] 0 0 0 where
 hb:=Nat.le_succ _
 blk:=by
  have:=wO (W.alloc (.cells #[.bool true,aN,ag 0,ag 0] 290)) (.cells #[ay W.heap.size,aN,aN,aN,ag 0] 207);rw[show(W.alloc (.cells #[.bool true,aN,ag 0,ag 0] 290)).heap.size=W.heap.size+1 by simp]at this;exact this
 gq:=⟨aG _,amh,by
  have h1:=wO W (.cells #[.bool true,aN,ag 0,ag 0] 290);exact(dB _ _ _ (by simp)).trans h1,dL _ _ _ _⟩
 iA:=dL _ _ _ _
 iI:=dL _ _ _ _
 dR:=dL _ _ _ _
 bE:=fun h hh=>by cases hh
 cE:=fun h hh=>by cases hh
 sep:=.inl rfl
theorem Yh:vU [] [] [] [] 0 0 where
 len:=rfl
 sorted:=fun l hl=>by cases hl
 perm:=⟨rfl,fun i h=>by cases h⟩
 ids:=qU
 sI:=fun x hx=>by cases hx
 uG:=qU
 live:=fun k hk=>by cases hk
 cnt:=rfl
 stored:=rfl
 most:=by decide
 bound:=bC _
 small:=bC _
 size:=fun i h=>by cases h
 last:=fun i h=>by cases h
theorem ahw (W:World):aO 54 #[] W fun e w'=>e=.returned (ay (W.heap.size+1))/\dZ w' W.heap.size (W.heap.size+1) W.heap.size (aN) (aN) (aN) (aN) [] [] [] [] 0 0 0/\Below W.heap.size W w':=by
 have H:=ae (Ux W);have HB:Hid (Below W.heap.size W ((W.alloc (.cells #[.bool true,aN,ag 0,ag 0] 290)).alloc (.cells #[ay W.heap.size,aN,aN,aN,ag 0] 207))):=((aM _ _).alloc (aG _) _).alloc (by simp) _;go_enter Tryz.func54,Tryz.ntmps54;go_wp2;go_ret;exact⟨rfl,H.out,HB.out⟩
end Go.Proofs.YtkjdbndekceffaaGreat
namespace Go.Proofs.YtkjdbndekceffaaGreat
open Go.RowKit Go.Maps
attribute [local irreducible] wpQuiet
section
variable {W:World} {base A Cb:Nat} {bv pv lv cv:Value} {bh ch:List mM} {al:List Bool} {pl:List Int} {n N wk:Int}
theorem dZ.ahx (h:dZ W base A Cb bv pv lv cv bh ch al pl n N wk) (n':Int):dZ (W.setCell (ah A 4) (.int .i64 n')) base A Cb bv pv lv cv bh ch al pl n' N wk where
 hb:=h.hb
 blk:=by rw[dH W A 4 _ _ _ h.blk];rfl
 gq:=⟨h.gq.hb,h.gq.ds,(aH (dV h.blk h.gq.blk (by decide))).trans h.gq.blk,bB h.gq.row fun gb e=>aH (bH h.gq.row h.blk (by decide) gb e)⟩
 iA:=bB h.iA fun gb e=>aH (bH h.iA h.blk (by decide) gb e)
 iI:=bB h.iI fun gb e=>aH (bH h.iI h.blk (by decide) gb e)
 dR:=bB h.dR fun gb e=>aH (bH h.dR h.blk (by decide) gb e)
 bE:=h.bE.kept fun b cur fr hk=>aH (dV h.blk hk (by decide))
 cE:=h.cE.kept fun b cur fr hk=>aH (dV h.blk hk (by decide))
 sep:=h.sep
theorem Dj {e:TypeId} {sz k g cp:Nat} {xs:List Value} (h:W.ownsRow base e sz (aD g k cp) k xs):∃cur,W.heap[g]? =some (Obj.cells cur e (0,0)):=by
 rcases h.2 with⟨h1,_⟩|⟨g',cap,cur,h1,_,hh,_⟩
 .cases h1
 .injection h1 with h1;injection h1 with h1;injection h1 with h1 _ _;subst h1;exact⟨cur,hh⟩
theorem dZ.ahy {g k cp:Nat} (h:dZ W base A Cb bv pv (aD g k cp) cv bh ch al pl n N wk) (hk:k=al.length) (m:Nat) (b:Bool):dZ (W.setCell (ah g m) (.bool b)) base A Cb bv pv (aD g k cp) cv bh ch (al.set m b) pl n N wk:=by
 subst hk;obtain⟨cur,hg⟩:=Dj h.dR;refine⟨h.hb,(aH (dV hg h.blk (by decide))).trans h.blk,⟨h.gq.hb,h.gq.ds,(aH (dV hg h.gq.blk (by decide))).trans h.gq.blk,bB h.gq.row fun gb e=>aH (bH h.gq.row hg (by decide) gb e)⟩,
  bB h.iA fun gb e=>aH (bH h.iA hg (by decide) gb e),bB h.iI fun gb e=>aH (bH h.iI hg (by decide) gb e),?_,
  h.bE.kept fun b cur fr hk=>aH (dV hg hk (by decide)),h.cE.kept fun b cur fr hk=>aH (dV hg hk (by decide)),h.sep⟩
 rw[qh,lJ];exact(h.dR.stored m _).1
theorem dZ.as2 {g k cp:Nat} (h:dZ W base A Cb bv (aD g k cp) lv cv bh ch al pl n N wk) (hk:k=pl.length) (m:Nat) (p:Int):dZ (W.setCell (ah g m) (.int .i64 p)) base A Cb bv (aD g k cp) lv cv bh ch al (pl.set m p) n N wk:=by
 subst hk;obtain⟨cur,hg⟩:=Dj h.iI;refine⟨h.hb,(aH (dV hg h.blk (by decide))).trans h.blk,⟨h.gq.hb,h.gq.ds,(aH (dV hg h.gq.blk (by decide))).trans h.gq.blk,bB h.gq.row fun gb e=>aH (bH h.gq.row hg (by decide) gb e)⟩,
  bB h.iA fun gb e=>aH (bH h.iA hg (by decide) gb e),?_,bB h.dR fun gb e=>aH (bH h.dR hg (by decide) gb e),
  h.bE.kept fun b cur fr hk=>aH (dV hg hk (by decide)),h.cE.kept fun b cur fr hk=>aH (dV hg hk (by decide)),h.sep⟩
 rw[qh,lJ];exact(h.iI.stored m _).1
theorem JJ (h:dZ W base A Cb bv pv lv cv bh ch al pl n N wk) (hw:vU (ch.map (·.2.1)) (bh.map (·.2.1)) al pl n N) (hlen:bh.length<=1000) (hsz:∀l∈bh.map (·.2.1),l.length<=10000) (id p:Int) (m:Nat) (hm:(id,(m:Int))∈(ch.map (·.2.1)).flatten) (uH:al[m]? =some false) (hn:0<=n/\n<=100000):
  aO 56 #[ay A,aJ id,ag p] W fun e w'=>e=.returned (ag 0)/\dZ w' base A Cb bv pv lv cv bh ch (al.set m true) (pl.set m p) (n+1) N wk/\aC (fun k=>k=A\/pv.ownBlock=some k\/lv.ownBlock=some k) W w':=by
 have CN:=ae (Yg h);have H:=ae h;have HF:=ae (fun W' (hb:Below W.heap.size W W')=>ET A id W' _ bh bv base ((h.below hb).cell.2.1) (h.below hb).iA rfl (h.below hb).bE hw.sorted (by simpa using hlen) hsz);have HW:=ae hw;clear h hw hsz;go_enter Tryz.func56,Tryz.ntmps56
 go_wp2_with fail
 refine CN.out.mono ?_;rintro e w2 ⟨rfl,hb2⟩
 go_wp2_with fail
 refine(HF.out w2 hb2).mono ?_;rintro e w3 ⟨k,t,rfl,ht,hk,hb3⟩;have B3:=hb2.trans (hb3.mono hb2.size);have R3:=ae (H.out.below B3);obtain⟨c0,c1,c2,c3,c4⟩:=R3.out.cell;have hkm:k=(m:Int):=by
  rcases hk with⟨y,hy,h1,h2⟩|⟨-,hno⟩
  .rw[mi HW.out.perm]at hy;have:=vB HW.out.ids hy hm (by simpa using h1);rw[<-h2,this]
  .exact absurd rfl (hno _ ((mi HW.out.perm _).2 hm))
 subst hkm;obtain⟨yg,as3⟩:=gD.1 uH;have hmp:m<pl.length:=by rw[<-HW.out.len];exact yg
 obtain⟨ga,alc,ea,as4,as5,-,-⟩:=bf R3.out.dR (by omega);obtain⟨gp,plc,ep,as6,as7,-,-⟩:=bf R3.out.iI (by omega);subst ea ep;have za:=R3.out.dR.cellAt m (by omega);have zp:=R3.out.iI.cellAt m (by omega);rw[iO,uH]at za;rw[iO,dD hmp]at zp;simp only[aU]at za zp;have fa:=R3.out.dR.frozenAt m;have fp:=R3.out.iI.frozenAt m;have f4:=R3.out.frozen 4;have hmi:(m:Int)<(al.length:Int):=by omega
 have as8:(m:Int)<(pl.length:Int):=by omega
 have hge:decide ((0:Int)<=(m:Int))=true:=by simp
 have sM:(-9223372036854775808:Int)<=n+1/\n+1<=9223372036854775807:=by omega
 have S4:=R3.out.ahx (n+1);obtain⟨d0,d1,d2,d3,d4⟩:=S4.cell;have za4:=S4.dR.cellAt m (by omega);have zp4:=S4.iI.cellAt m (by omega);rw[iO,uH]at za4;rw[iO]at zp4;have fa4:=S4.dR.frozenAt m;have fp4:=S4.iI.frozenAt m;have S5:=(S4.ahy rfl m true).as2 rfl m p;have S5a:=S4.ahy rfl m true;have zp5:=S5a.iI.cellAt m (by omega);rw[iO]at zp5;have fp5:=S5a.iI.frozenAt m;have We:∃q,pl[m]? =some q:=⟨pl[m],dD hmp⟩;obtain⟨pp,hpp⟩:=We;rw[hpp]at zp4 zp5;simp only[aU]at za4 zp4 zp5;have HS5:=ae S5;clear S5 S4 S5a hk hm HF CN as3;have mo:Hid (aC (fun k=>k=A\/Value.ownBlock (aD gp pl.length plc)=some k\/Value.ownBlock (aD ga al.length alc)=some k) W (((w3.setCell (ah A 4) (.int .i64 (n+1))).setCell (ah ga m) (.bool true)).setCell (ah gp m) (.int .i64 p)).drew):=
  ((((aC.refl _ W).below B3).set _ (.inl (.inl rfl))).set _ (.inl (.inr (.inr rfl)))).set _ (.inl (.inr (.inl rfl)))|>.drew
 go_wp2;go_region
 all_goals
  go_wp2;go_ret;exact⟨rfl,HS5.out.below (aM _ _).drew,mo.out⟩
end
end Go.Proofs.YtkjdbndekceffaaGreat
namespace Go.Proofs.YtkjdbndekceffaaGreat
open Go.RowKit Go.Maps
def dJ (al:List Bool) (x:jI):Bool:=al[x.2.toNat]? ==some true
theorem rG (i:Nat) (hi:i<14):0<2^i/\2^i<=8192:=⟨Nat.xL i,Iz (by decide) (by omega:i<=13)⟩
where Nat.xL (i:Nat):0<2^i:=xx (by decide)
theorem Yi (i:Nat) (hi:i<14):wrap64 ((2:Int)^i)=((2^i:Nat):Int):=by
 have h:=rG i hi;rw[show((2:Int)^i)=((2^i:Nat):Int) by rw[Int.natCast_pow];rfl];generalize 2^i=p at*;unfold wrap64;omega
theorem ae3 (n i:Nat) (hi:i<14) (hn:n<=10000):bits .and .i64 (n:Int) ((2^i:Nat):Int)=(if n.testBit i then((2^i:Nat):Int)else 0):=by
 have h:=rG i hi;have e1:(BitVec.ofInt 64 (n:Int)).toNat=n:=by
  rw[BitVec.ofInt_natCast,BitVec.toNat_ofNat];exact I4 (by omega)
 have e2:(BitVec.ofInt 64 ((2^i:Nat):Int)).toNat=2^i:=by
  rw[BitVec.ofInt_natCast,BitVec.toNat_ofNat];exact I4 (by omega)
 show IntKind.i64.wrap ((BitVec.ofInt 64 (n:Int) &&& BitVec.ofInt 64 ((2^i:Nat):Int)).toNat:Int)=_;have e3:n &&& 2^i=if n.testBit i then 2^i else 0:=by
  apply Nat.eq_of_testBit_eq;intro j;rw[Nat.testBit_and,Nat.testBit_two_pow];by_cases oV:i=j
  .subst oV;cases hb:n.testBit i<;>simp[Nat.testBit_two_pow]
  .cases hb:n.testBit i<;>simp[oV,Nat.testBit_two_pow]
 rw[BitVec.toNat_and,e1,e2,e3];generalize 2^i=p at*;cases n.testBit i<;>simp[IntKind.wrap,IntKind.bits,IntKind.signed];omega
theorem ae4 (n i:Nat):n.testBit i=decide (2^i<=n%2^(i+1)):=by
 rw[Nat.testBit_eq_decide_div_mod_eq,Nat.mod_pow_succ];have h1:n%2^i<2^i:=tY _ (xx (by decide));have h2:n/2^i%2=0\/n/2^i%2=1:=by omega
 generalize n/2^i%2=b at*;generalize n%2^i=r at*;generalize 2^i=p at*;rcases h2 with rfl|rfl
 .have:¬p<=r+p*0:=by omega
  rw[I5 this];rfl
 .have:p<=r+p*1:=by omega
  simp[this]
theorem Mw (n i:Nat):(n.testBit i=true->n%2^(i+1)=n%2^i+2^i)/\(n.testBit i=false->n%2^(i+1)=n%2^i):=by
 rw[Nat.testBit_eq_decide_div_mod_eq,Nat.mod_pow_succ];have h2:n/2^i%2=0\/n/2^i%2=1:=by omega
 generalize n/2^i%2=b at*;rcases h2 with rfl|rfl<;>simp
section
variable {P:Program} {ops:Array Oper} {rest:List Oper} {o:Oper} {a:Act} {Q:Exit->Act->World->Prop}
theorem xM {α:Type} {enc:α->List Value} {sz:Nat} {t e:TypeId} {bytes:Nat} (E:eQ P t e sz bytes) {W:World} {ad:Option Addr} {l:List α} {c:Nat} (hl:dU enc sz W ad l) (hc:l.length<=c) (lo hi:Nat) (h1:lo<=hi) (h2:hi<=l.length)
  (hgd:o.guard=none) (x:Operand) (low high:Option Operand) (ho:o.op=.slice t x low high none) (hx:a.eval x=.slice ad l.length c)
  (nY:(low.map a.eval).getD (.int .i64 0)=.int .i64 lo) (gI:(high.map a.eval).getD (.int .i64 l.length)=.int .i64 hi)
  (h:∀Ep,(∀W',dU enc sz W' ad l->dU enc sz W' Ep ((l.take hi).drop lo))->wpList P ops Q rest (a.put o.dst (.slice Ep (hi-lo) (c-lo))) W):wpList P ops Q (o::rest) a W:=by
 obtain⟨ht,⟨i,z,hi',hz,hsize,hby,hzs⟩,hsz⟩:=E;refine Au hgd fun K hK=>?_;have hk:=hK _ _ (h _ (fun W' hl'=>Db hl' hc lo hi h2));have hu:∀W',(underlying t).run P W'=.ok (.slice e) W':=fun W'=>pM ht W';have hs:∀W',(sizeOf e).run P W'=.ok sz W':=fun W'=>by simp[sizeOf,typeInfo,hi',hsize]
 unfold Oper.wp execOp;have hhc:hi<=c:=by omega
 rcases low with _|lw
 .simp only[nS,oQ,mE,mH]at nY;obtain rfl:lo=0:=by omega
  rcases high with _|hg
  .simp only[nS,oQ,mE,mH]at gI;obtain rfl:hi=l.length:=by omega
   simp only[ho,hx,nS,Instr.sliceAt,Instr.slice,Instr.sliceBounds,Av,hu,hs,Aa,Aw];exact hk
  .simp only[aU,fV]at gI;simp[ho,hx,gI,Instr.sliceAt,Instr.slice,Instr.sliceBounds,Instr.sliceBound,hu,hs,asIntOf,hhc];simp only[Nat.zero_mul,Nat.sub_zero]at hk;exact hk
 .simp only[aU,fV]at nY;rcases high with _|hg
  .simp only[nS,oQ,mE,mH]at gI;obtain rfl:hi=l.length:=by omega
   simp[ho,hx,nY,Instr.sliceAt,Instr.slice,Instr.sliceBounds,Instr.sliceBound,hu,hs,asIntOf,h1];exact hk
  .simp only[aU,fV]at gI;simp[ho,hx,nY,gI,Instr.sliceAt,Instr.slice,Instr.sliceBounds,Instr.sliceBound,hu,hs,asIntOf,h1,hhc];exact hk
end
end Go.Proofs.YtkjdbndekceffaaGreat
namespace Go.Proofs.YtkjdbndekceffaaGreat
open Go.RowKit Go.Maps
attribute [local irreducible] wpQuiet
def atc (W:World) (base Cb:Nat) (wk:Int) (l:List jI) (e:Ending) (w':World):Prop:=
 ∃(kW:Value) (iP:List mM) (uk:Int),e=.returned (ag l.length)/\jh w' base Cb kW iP l.length uk/\kM w' iP/\iP.map (·.2.1)=setC (Lib.bitLen l.length) l/\
  (kW.ownBlock=none\/∃b,kW.ownBlock=some b/\W.heap.size<=b)/\aC (fun k=>k=Cb) W w'/\Nw W.heap.size [] iP/\uk=wrap64 (wk+(l.length:Int))
theorem adg {W:World} {base Cb:Nat} {cv:Value} {ch:List mM} {N wk:Int} (h:jh W base Cb cv ch N wk) (qJ:base<=W.heap.size) (a:Option Addr) (l:List jI) (c:Nat) (hl:Uv W a l) (hc:l.length<=c) (hL:l.length<=10000):
  aO 211 #[ay Cb,.slice a l.length c] W (atc W base Cb wk l):=by
 have CN:=ae (uF h);have H:=ae h;have hK:=fE hL (by decide);have hK2:Lib.bitLen 10000=14:=by decide
 rw[hK2]at hK;have KE:=ae hl;have Yj:l.length<2^Lib.bitLen l.length:=by
  by_cases h0:l.length=0
  .rw[h0];decide
  .exact(bS _ (by omega) h0).2.2
 have Jy:=ae Yj;clear Yj;clear h hl;go_enter Tryz.func211,Tryz.ntmps211
 go_wp2_with fail
 refine CN.out.mono ?_;rintro e w2 ⟨rfl,hb2⟩;have C2:=ae (H.out.below hb2);obtain⟨c0,c1,c2,c3⟩:=C2.out.cell;have f1:=C2.out.frozen 1;have S1:Hid (jh (w2.setCell (ah Cb 1) (aN)) base Cb (aN) [] N wk):=iH.TL (ch:=ch) C2.out.blk C2.out.hb C2.out.ds (dL _ _ _ _) (by simp[Value.ownBlock]);obtain⟨d0,d1,d2,d3⟩:=S1.out.cell;have f2:=S1.out.frozen 2;have S2:Hid (jh ((w2.setCell (ah Cb 1) (aN)).setCell (ah Cb 2) (.int .i64 l.length)) base Cb (aN) [] l.length wk):=S1.out.Er _;have K2:Hid (aC (fun k=>k=Cb) W ((w2.setCell (ah Cb 1) (aN)).setCell (ah Cb 2) (.int .i64 l.length))):=(((aC.refl (fun k=>k=Cb) W).below hb2).set (a:=(ah Cb 1)) _ (.inl rfl)).set (a:=(ah Cb 2)) _ (.inl rfl);have agz:=H.out.lt;clear CN
 go_upto_block 0 with fail
 go_cut []from 19 to 33 (fun wx=>∃v,Hid (jh wx base Cb v (List.replicate (Lib.bitLen l.length) fO) l.length wk)/\Hid (v.ownBlock=none\/∃b,v.ownBlock=some b/\W.heap.size<=b)/\Hid (aC (fun k=>k=Cb) W wx))
 case first=>
  go_wp2_with fail
  generalize((w2.setCell (ah Cb 1) (aN)).setCell (ah Cb 2) (.int .i64 l.length))=w3 at*
  go_loopw [5] (fun nv wr=>∃(k m:Nat) (v:Value),nv=.int .i64 m/\m<=10000/\Hid (k+Lib.bitLen m=Lib.bitLen l.length)/\Hid (jh wr base Cb v (List.replicate k fO) l.length wk)/\Hid (v.ownBlock=none\/∃b,v.ownBlock=some b/\W.heap.size<=b)/\Hid (aC (fun k=>k=Cb) W wr)) (fun nv _=>(intOf nv).toNat)
  case atStart=>exact⟨0,l.length,_,rfl,hL,(by show _=_;omega),S2,.inl rfl,K2⟩
  case round=>
   obtain⟨k,m,v,rfl,hm,HKM,HC,HV,HK⟩:=hrel;by_cases Dk:m=0
   .subst Dk;obtain rfl:k=Lib.bitLen l.length:=HKM.out
    go_wp2_with fail
    go_meet;exact⟨v,HC,HV,HK⟩
   .have HH:Hid (k+1+Lib.bitLen (m/2)=Lib.bitLen l.length):=by
     have:=Lib.bitLen_half m Dk (by omega);have:=HKM.out;show _=_;omega
    have JK:k+1<=14:=by have:=HH.out;omega
    have hrow:=HC.out.row;rw[iN]at hrow;have hne:=HC.out.ne;have hmp:(0:Int)<(m:Int):=by omega
    obtain⟨b0,b1,b2,b3⟩:=HC.out.cell;have HNB:Hid (∀w6,wr.grownBy w6 v.ownBlock->w6.heap[Cb]? =some (Obj.cells #[.bool true,v,ag l.length,ag wk] 290 (0,0))):=fun w6 hg=>(hg.block Cb HC.out.lt (fun e=>HC.out.ne e.symm)).trans HC.out.blk
    go_wp2_with (at_builtin;refine cz RB base hrow [aN] rfl (by simp[Value.oneCell']) rfl _ _ rfl rfl _ rfl (by unfold maxLen;omega) (by omega) (by have:=HK.out.size;omega) ?_;intro v' w6 hown' hg hblk;obtain⟨g6,jM,rfl,aci,acj,ack,acm⟩:=bf hown' (by omega);have k6:=HNB.out w6 hg;have q1:w6.cell? (ah Cb 1)=some v:=(by simp[World.cell?,k6]);have q2:w6.frozen? (ah Cb 1)=false:=(by simp[World.frozen?,k6]))
    have atd:=HC.out.lt;have hown2:w6.ownsRow base 209 1 (aD g6 (k+1) jM) (List.replicate (k+1) (fO:mM)).length ((List.replicate (k+1) (fO:mM)).map dS):=by
     rw[iN,G8,dh];exact hown'
    have hv':Value.ownBlock (aD g6 (k+1) jM)≠some Cb:=by
     rcases hblk with h9|h9
     .rw[h9];exact hne
     .rw[h9];simp;omega
    go_roundw
    case rel=>
     refine⟨k+1,m/2,_,by go_num,by omega,HH,iH.TL (ch:=List.replicate k fO) k6 HC.out.hb HC.out.ds hown2 hv',?_,(HK.out.grown hg ?_).set (a:=(ah Cb 1)) _ (.inl rfl)⟩
     .rcases hblk with h9|h9
      .rw[h9];exact HV
      .exact .inr ⟨_,h9,by have:=HK.out.size;simp;omega⟩
     .intro b hb;rcases HV.out with h9|⟨b',h9,h8⟩
      .rw[h9]at hb;cases hb
      .rw[h9]at hb;injection hb with hb;subst hb;exact .inr h8
    case measure=>simp[intOf];omega
 case rest=>
  obtain⟨v,HC,HV,HK⟩:=hcut;obtain⟨w3,jQ⟩:∃w3:World,w3=wc:=⟨_,rfl⟩;subst jQ;clear S1 S2 K2 c0 c1 c2 c3 f1 f2 d0 d1 d2 d3 C2 hb2;generalize hKK:Lib.bitLen l.length=K at*;obtain⟨SB,Jq⟩:∃SB,SB=v.ownBlock:=⟨_,rfl⟩;have Df:Hid (∀W',aC (fun k=>k=Cb\/SB=some k) w3 W'->dU iZ 2 W' a l):=fun W' hk=>((KE.out.kept (H.out.fq rfl (HK.out.mono (fun k h=>.inl h)))).kept (HC.out.fq Jq hk)).VX;have yh:=ae Jq;clear Jq;have Jv:=HC.out;have HR0:Hid (kM w3 (List.replicate K fO)):=G9 _ _;have HM0:Hid ((List.replicate K (fO:mM)).map (·.2.1)=List.replicate K []++[]):=by show _=_;simp
  have HLK:Hid (l.length=l.length%2^K):=(I4 Jy.out).symm;obtain⟨av,cp,hv,-,VZ,-⟩:=Rd.aL (enc:=dS) Jv.row;rw[iN]at hv VZ;subst hv;obtain⟨e0,e1,e2,e3⟩:=Jv.cell;clear Jv
  go_upto_block 2 with fail
  go_cut []from 35 to 64 (fun wx=>∃ch1,Hid (jh wx base Cb (.slice av K cp) ch1 l.length wk)/\Hid (Nw W.heap.size [] ch1)/\Hid (kM wx ch1)/\Hid (ch1.map (·.2.1)=setC K l)/\Hid (aC (fun k=>k=Cb\/SB=some k) w3 wx))
  case first=>
   go_wp2_with fail
   go_loopw [7,6] (fun iv rv wr=>∃(m:Nat) (ad:Option Addr) (r:List jI) (c':Nat) (ch1:List mM) (T:List (List jI)),iv=.int .i64 ((m:Int)-1)/\rv=.slice ad r.length c'/\m<=K/\r.length<=c'/\Hid (r.length=l.length%2^m)/\Hid (∀W',aC (fun k=>k=Cb\/SB=some k) w3 W'->dU iZ 2 W' ad r)/\
    Hid (jh wr base Cb (.slice av K cp) ch1 l.length wk)/\Hid (Nw W.heap.size [] ch1)/\Hid (kM wr ch1)/\Hid (ch1.map (·.2.1)=List.replicate m []++T)/\Hid (setC K l=setC m r++T)/\Hid (aC (fun k=>k=Cb\/SB=some k) w3 wr)) (fun iv _ _=>(intOf iv+1).toNat)
   case atStart=>exact⟨K,a,l,c,_,[],by go_num,rfl,aG _,hc,HLK,Df,HC,Nw.agx,HR0,HM0,(by show _=_;simp),aC.refl _ _⟩
   case round=>
    obtain⟨m,ad,r,c',ch1,T,rfl,rfl,hm,rH,Bf,Co,nu,Ez,EB,EZ,NT,nL⟩:=hrel;rcases pI m with Dk|Dk
    .subst Dk;have hg0:¬(0:Int)<=((0:Nat):Int)-1:=by omega
     go_wp2_with fail
     go_meet;exact⟨ch1,nu,Ez,EB,(by have h1:=EZ.out;have h2:=NT.out;show _=_;rw[h1,h2];rfl),nL⟩
    .obtain⟨k,rfl⟩:∃k,m=k+1:=⟨m-1,by omega⟩;have JK:k<14:=by omega
     have Wh:=Mw l.length k;have Mg:r.length<=l.length:=by rw[Bf.out];exact Nat.mod_le _ _
     have QS:=Yi k JK;have QA:=ae3 l.length k JK hL;have hp:=rG k JK;have KD:(((k+1:Nat):Int)-1)=(k:Int):=by omega
     have BP:(0:Int)<=(k:Int):=by omega
     have qL:ch1.length=K:=by
      have h1:=congrArg List.length EZ.out;have h2:=congrArg List.length NT.out;rw[eD,bF,eD]at h2;simp at h1;omega
     rw[KD];by_cases hb:l.length.testBit k=true
     .rw[hb]at QA;simp only[gV]at QA;have xN:=Wh.1 hb;rw[<-Bf.out]at xN;have hpr:2^k<=r.length:=by omega
      have KO:Hid (setC K l=setC k (r.drop (2^k))++r.take (2^k)::T):=by
       have h1:=NT.out;rw[setC,aR hpr,ek]at h1;exact h1
      have vT:Hid (∀hd:mM,hd.2.1=r.take (2^k)->(ch1.set k hd).map (·.2.1)=List.replicate k []++r.take (2^k)::T):=fun hd h9=>by
       rw[lJ,EZ.out,h9,LD]
      have PM:Hid ((r.drop (2^k)).length=l.length%2^k):=by
       show _=_;rw[qg];omega
      clear Wh hb xN;generalize Yk:2^k=p at*;have PN:=ae Yk;clear Yk;obtain⟨b,off,ea,hbl,-⟩:=(Co.out wr nL.out).get (by omega);subst ea;obtain⟨g,cp',e9,hg1,hg2,-,-⟩:=bf nu.out.row (by omega);rw[qL]at e9;injection e9 with e9 _ WS;subst e9 WS;obtain⟨b0,b1,b2,b3⟩:=nu.out.cell;have jk:(r.take p).length=p:=by rw[eF];omega
      have CL:=ae (EP (some (ah b off)) (r.take p) p c' wr.drew jk ((Co.out wr.drew nL.out.drew).take p) (by omega));have hpi:(0:Int)<=(p:Int)/\(p:Int)<=(r.length:Int):=by omega
      have NS:(p:Int)<=(c':Int):=by omega
      have hpn:((p:Int)!=0)=true:=by simp only[bne_iff_ne,ne_eq];omega
      go_upto_region 14 with fail
      simp only[QS,QA,hpn]
      go_cut []from 52 to 61 (fun wx=>∃Bg,Hid (jh wx base Cb (aD g K cp) Bg l.length wk)/\Hid (Nw W.heap.size [] Bg)/\Hid (kM wx Bg)/\Hid (Bg.map (·.2.1)=List.replicate k []++r.take p::T)/\Hid (aC (fun k=>k=Cb\/SB=some k) w3 wx))
      case first=>
       have CL2:aO 204 #[.slice (some (ah b off)) p c'] wr.drew fun e w6=>∃a6 jM z,e=.returned (.slice a6 p jM)/\Hid (p<=jM)/\Hid (∀a,a6=some a->W.heap.size<=a.block)/\Hid (Uv w6 a6 (r.take p))/\Hid (jh w6 base Cb (aD g K cp) ch1 l.length wk)/\Hid (Below wr.drew.heap.size wr.drew w6)/\w6.cell? (ah Cb 1)=some (aD g K cp)/\w6.cell? (ah g k)=some z/\w6.frozen? (ah g k)=false:=by
        refine CL.out.mono ?_;rintro e w6 ⟨v6,rfl,hown,jR⟩;obtain⟨a6,jM,rfl,h61,h62,hRE⟩:=Uv.aL hown;have C6:=nu.out.drew.below jR;obtain⟨g0,g1,g2,g3⟩:=C6.cell;have hrow:=C6.row;rw[qL]at hrow;have z6:=hrow.cellAt k (by omega);have WU:=hrow.frozenAt k;rw[dD (show k<(ch1.map dS).length by simp;omega)]at z6;rw[jk]at h62;exact⟨a6,jM,_,by rw[jk],h62,(fun a ha=>by have h1:=(hown.lt a.block (by rw[ha];rfl)).1;have h2:=nL.out.size;have h3:=HK.out.size;simp at h1;omega),hRE,C6,jR,g1,z6,WU⟩
       clear CL;have ath:(k:Int)<(K:Int):=by omega
       go_region_with (go_at_call 204;with_reducible refine CL2.mono ?_;rintro e w6 ⟨a6,jM,z,rfl,HCP,WV,WZ,LM,EC,g1,z6,WU⟩)
       all_goals go_wp2_with fail
       all_goals go_meet
       all_goals
        have O0:Value.slice a6 p jM=dS (a6,r.take p,jM):=by unfold dS;simp only;rw[jk]
        rw[O0];have ahz:SB=some g:=yh.out;exact⟨ch1.set k (a6,r.take p,jM),LM.out.TK qL.symm k _,Ez.out.set WV.out,LF (EB.out.kept (W':=w6) fun b cur fr hb=>bI (W:=wr.drew) EC.out hb) (LM.out.fq (W':=w6.setCell (ah g k) (dS (a6,r.take p,jM))) rfl ((aC.refl _ w6).set (a:=(ah g k)) _ (.inl (.inr rfl)))) WZ.out (by show(r.take p).length<=jM;rw[jk];exact HCP.out),vT.out _ rfl,(((nL.out.drew).below EC.out).set (a:=(ah g k)) _ (.inl (.inr ahz)))⟩
      case rest=>
       obtain⟨Bg,EG,Uy,kV,Hf,vR⟩:=hcut;clear CL nu EB EZ vT nL b0 b1 b2 b3 hbl hpn Bf
       go_wp2_with (refine xM Mr (Co.out _ vR.out) rH p r.length hpr (aG _) rfl _ _ _ rfl rfl rfl rfl ?_;intro Ep hr;simp only[mW]at hr)
       go_roundw
       case rel=>exact⟨k,Ep,r.drop p,c'-p,Bg,r.take p::T,rfl,(by rw[qg]),by omega,(by rw[qg];omega),(by rw[PN.out];exact PM),(fun W' hk=>hr W' (Co.out W' hk)),EG,Uy,kV,Hf,KO,vR⟩
       case measure=>simp[intOf]
     .have hb2:l.length.testBit k=false:=by simpa using hb
      rw[hb2]at QA;simp only[jU,rY]at QA;have xN:=Wh.2 hb2;rw[<-Bf.out]at xN;have hpr:¬2^k<=r.length:=by have:=tY l.length (xx (n:=k) (show 0<2 by decide));omega
      have KO:Hid (setC K l=setC k r++[]::T):=by
       have h1:=NT.out;rw[setC,aP hpr,ek]at h1;exact h1
      have vT:Hid (ch1.map (·.2.1)=List.replicate k []++[]::T):=by
       have h1:=EZ.out;rw[sW,ek]at h1;exact h1
      have PM:=ae xN;clear Wh hb hb2 xN;generalize Yk:2^k=p at*;have PN:=ae Yk;clear Yk
      go_wp2_with fail
      go_roundw
      case rel=>exact⟨k,ad,r,c',ch1,[]::T,rfl,rfl,by omega,rH,by rw[PN.out];exact PM,Co,nu,Ez,EB,vT,KO,nL⟩
      case measure=>simp[intOf]
  case rest=>
   obtain⟨ch1,nu,Ez,EB,EZ,nL⟩:=hcut;obtain⟨b0,b1,b2,b3⟩:=nu.out.cell;have fr3:=nu.out.frozen 3;have F7:=ae (nu.out.ach (wrap64 (wk+(l.length:Int))));have yz:Hid (kM (wc.setCell (ah Cb 3) (.int .i64 (wrap64 (wk+(l.length:Int))))) ch1):=EB.out.kept (nu.out.fq rfl ((aC.refl _ wc).set (a:=(ah Cb 3)) _ (.inl (.inl rfl))));have Gh:Hid (aC (fun k=>k=Cb) W (wc.setCell (ah Cb 3) (.int .i64 (wrap64 (wk+(l.length:Int)))))):=by
    have hs:=HK.out.size;have h1:aC (fun k=>k=Cb\/W.heap.size<=k) W wc:=(HK.out.mono (fun k h=>.inl h)).trans (nL.out.mono (fun k h=>h.imp id (fun h9=>by
     rcases HV.out with h8|⟨b,h8,h7⟩
     .rw[yh.out,h8]at h9;cases h9
     .rw[yh.out,h8]at h9;injection h9 with h9;omega)))
    have h2:aC (fun k=>k=Cb) W wc:=⟨h1.os,h1.tape,h1.output,h1.size,fun k hk hn=>h1.block k hk (fun h9=>by rcases h9 with h9|h9;exact hn h9;omega)⟩;exact h2.set (a:=(ah Cb 3)) _ (.inl rfl)
   clear HK nL Df HC KE;go_wp2;go_ret;exact⟨_,ch1,_,rfl,F7.out,yz.out,by rw[hKK];exact EZ.out,HV.out,Gh.out,Ez.out,rfl⟩
end Go.Proofs.YtkjdbndekceffaaGreat
namespace Go.Proofs.YtkjdbndekceffaaGreat
open Go.RowKit Go.Maps
theorem jW {α:Type} (CB:List (List α)) (i:Nat):(eu CB i).Perm (CB.take i).flatten:=by
 unfold eu;exact(wV _).flatten
theorem vC {α:Type} (CB:List (List α)) (i:Nat) (x:α) (Hg:∀h:i<CB.length,CB[i]=[]):(kX CB i x).flatten.Perm (x::CB.flatten):=by
 have e1:(List.replicate i ([]:List α)).flatten=[]:=by simp
 have e2:CB.flatten=(CB.take i).flatten++(CB.drop (i+1)).flatten:=by
  by_cases h:i<CB.length
  .have h1:CB=CB.take i++(CB[i]::CB.drop (i+1)):=by rw[<-nP h,lg]
   have h2:=congrArg List.flatten h1;rw[Hg h,lV,wT,iV]at h2;exact h2
  .rw[kZ (by omega),rX (by omega)];simp
 unfold kX;rw[lV,e1,iV,wT,e2];have h3:(eu CB i++[x]).Perm (x::(CB.take i).flatten):=List.perm_append_comm.trans ((jW CB i).cons x);exact h3.append_right _
theorem Bh {α:Type} (CB:List (List α)) (i:Nat) (hi:i<=CB.length) (h:∀j (hj:j<CB.length),j<i->CB[j].length=2^j):(eu CB i).length+1=2^i:=by
 rw[(jW CB i).length_eq]
 induction i with
 |zero=>simp
 |succ k ih=>
  rw[fG (by omega),lV,bF];have h1:=ih (by omega) (fun j hj hjk=>h j hj (by omega));have h2:=h k (by omega) (by omega);simp only[wT,List.flatten_nil,jD];rw[Nat.pow_succ];omega
theorem qE {α:Type} (CB:List (List α)) (i:Nat) (x:α) (hi:i<=CB.length):(kX CB i x).length=if i<CB.length then CB.length else i+1:=by
 unfold kX;simp;split<;>omega
theorem qF {α:Type} (CB:List (List α)) (i:Nat) (x:α) (j:Nat) (hj:j<(kX CB i x).length):(kX CB i x)[j]=if j<i then[]else if j=i then eu CB i++[x]else CB.getD j []:=by
 have e:(kX CB i x)[j]? =some ((kX CB i x)[j]):=dD hj;generalize(kX CB i x)[j]=X at*;unfold kX at e;by_cases h1:j<i
 .rw[aR h1];rw[mP (by simpa using h1)]at e;simp[h1]at e
  first|exact e|exact e.symm
 .rw[aP h1];rw[oO (by simp;omega),iN]at e;by_cases h2:j=i
  .rw[aR h2];subst h2;rw[jS,aT]at e;injection e with e;exact e.symm
  .rw[aP h2];rw[show j-i=(j-i-1)+1 by omega,aS,IP,show i+1+(j-i-1)=j by omega]at e;rw[jy,e];rfl
theorem zq {l:List Nat} {n:Nat} (h:l.Nodup) (hl:∀k∈l,k<n):l.length<=n:=by
 have h2:((List.range n).filter fun k=>decide (k∈l)).Nodup:=mQ _ List.nodup_range;have h3:=(BL h h2).2 (fun k=>by
  simp only[bQ,wZ,bZ];exact⟨fun hk=>⟨hl k hk,hk⟩,fun hk=>hk.2⟩)
 rw[h3.length_eq];have:=gG (fun k=>decide (k∈l)) (List.range n);simpa using this
theorem kP {f:jI->Int} {l m:List jI} (h:l.Perm m):(l.map f).Nodup↔(m.map f).Nodup:=(h.map f).nodup_iff
theorem PO (al:List Bool):((List.range al.length).filter fun k=>al[k]? ==some true).length=al.count true:=by
 induction al with
 |nil=>rfl
 |cons b l ih=>
  rw[fU,List.range_succ_eq_map,mV,Ah,List.count_cons,<-ih];have e:((fun k=>(b::l)[k]? ==some true)∘Nat.succ)=fun k=>l[k]? ==some true:=rfl;rw[e];cases b<;>simp
theorem Uz {ES:List jI} {al:List Bool} (sI:∀x∈ES,∃k:Nat,x.2=k/\k<al.length) (uG:(ES.map (·.2)).Nodup) (live:∀k:Nat,al[k]? =some true->∃x∈ES,x.2=k):(ES.filter (dJ al)).length=al.count true:=by
 rw[<-PO al];have h1:((ES.filter (dJ al)).map fun x=>x.2.toNat).Nodup:=by
  have h2:((ES.filter (dJ al)).map (·.2)).Nodup:=by
   have h3:=dG.1 uG;exact dG.2 (mQ _ h3)
  have h3:=dG.1 h2;refine dG.2 (h3.imp_of_mem ?_);intro a b ha hb hab h;obtain⟨k,hk,-⟩:=sI a (bQ.1 ha).1;obtain⟨m,hm,-⟩:=sI b (bQ.1 hb).1;rw[hk,hm]at hab;simp only[hk,hm,iF]at h;exact hab (by rw[h])
 have h2:((List.range al.length).filter fun k=>al[k]? ==some true).Nodup:=mQ _ List.nodup_range;have h4:=(BL h1 h2).2 (fun k=>by
  simp only[dY,bQ,wZ];constructor
  .rintro⟨x,⟨hx,ha⟩,rfl⟩;obtain⟨m,hm,yg⟩:=sI x hx;unfold dJ at ha;rw[hm,iF]at ha |-;exact⟨yg,ha⟩
  .rintro⟨hk,ha⟩;obtain⟨x,hx,hx2⟩:=live k (by simpa using ha);refine⟨x,⟨hx,?_⟩,by rw[hx2,iF]⟩;unfold dJ;rw[hx2,iF];exact ha)
 rw[<-h4.length_eq,cu]
theorem ahA:vU [] [] [] [] 0 0:=by
 refine⟨⟨rfl,by simp,⟨rfl,fun i h=>absurd h (ll _)⟩,by simp,by simp,by simp,by simp,rfl,rfl,by simp,by simp,fun i h=>absurd h (ll _),fun i h=>absurd h (ll _)⟩,by omega⟩
theorem adi {CB NB:List (List jI)} {al:List Bool} {pl:List Int} {n N:Int} (h:vU CB NB al pl n N) (m:Nat) (p id:Int) (hm:(id,(m:Int))∈CB.flatten) (hd:al[m]? =some false):vU CB NB (al.set m true) (pl.set m p) (n+1) N:=by
 obtain⟨yg,hmv⟩:=gD.1 hd;refine⟨⟨by simpa using h.len,h.sorted,h.perm,h.ids,fun x hx=>by simpa using h.sI x hx,h.uG,?_,?_,h.stored,by simpa using h.bound,h.small,h.size,h.last⟩,by have:=h.most;omega⟩
 .intro k hk;by_cases e:k=m
  .subst e;exact⟨_,hm,rfl⟩
  .rw[wD (fun h=>e h.symm)]at hk;exact h.live k hk
 .rw[List.count_set yg,hmv,h.cnt];simp
theorem RG {CB NB:List (List jI)} {al:List Bool} {pl:List Int} {n N:Int} (h:vU CB NB al pl n N) (m:Nat) (hd:al[m]? =some true):zo CB NB (al.set m false) pl (n-1) N:=by
 obtain⟨yg,hmv⟩:=gD.1 hd;refine⟨by simpa using h.len,h.sorted,h.perm,h.ids,fun x hx=>by simpa using h.sI x hx,h.uG,?_,?_,h.stored,by simpa using h.bound,h.small,h.size,h.last⟩
 .intro k hk;by_cases e:k=m
  .subst e;rw[wh yg]at hk;cases hk
  .rw[wD (fun h=>e h.symm)]at hk;exact h.live k hk
 .have hc:0<al.count true:=List.count_pos_iff.2 (hmv▸bW yg);rw[List.count_set yg,hmv,h.cnt];simp;omega
theorem Yl {CB NB:List (List jI)} {al:List Bool} {pl:List Int} {n N:Int} (h:vU CB NB al pl n N) (id p:Int) (hno:∀x∈CB.flatten,x.1≠id) (hb:al.length<5000) (i:Nat) (hi:i<=CB.length) (hne:∀j (hj:j<CB.length),j<i->CB[j]≠[]) (Hg:∀h:i<CB.length,CB[i]=[])
  (l':List jI) (hp:l'.Perm (eu CB i++[(id,(al.length:Int))])) (hs:l'.Pairwise fun p q=>p.1<=q.1):
  vU (kX CB i (id,(al.length:Int))) (List.replicate i []++l'::NB.drop (i+1)) (al++[true]) (pl++[p]) (n+1) (N+1):=by
 have hP:=vC CB i (id,(al.length:Int)) Hg;have hL:=h.len;have hPL:=h.perm.1;have hlen:(kX CB i (id,(al.length:Int))).length=(List.replicate i []++l'::NB.drop (i+1)).length:=by
  rw[qE _ _ _ hi];simp;split<;>omega
 have Cr:CB.flatten.length<=al.length:=by
  have h1:=h.uG;have h2:(CB.flatten.map fun x=>x.2.toNat).Nodup:=by
   have h3:=dG.1 h1;refine dG.2 (h3.imp_of_mem ?_);intro a b ha hb hab h9;obtain⟨k,hk,-⟩:=h.sI a ha;obtain⟨m,hm,-⟩:=h.sI b hb;rw[hk,hm]at hab;simp only[hk,hm,iF]at h9;exact hab (by rw[h9])
  have h3:=zq h2 (n:=al.length) (fun k hk=>by
   obtain⟨x,hx,rfl⟩:=dY.1 hk;obtain⟨m,hm,yg⟩:=h.sI x hx;rw[hm,iF];exact yg)
  rwa [cu]at h3
 refine⟨⟨by simp[hL],?_,⟨hlen.symm,?_⟩,?_,?_,?_,?_,?_,?_,by simp;omega,by rw[hP.length_eq,fU];omega,?_,?_⟩,by have:=h.most;omega⟩
 .intro l hl;rcases df.1 hl with h1|h1
  .rw[(DC.1 h1).2];exact List.Pairwise.nil
  .rcases mZ.1 h1 with rfl|h1
   .exact hs
   .exact h.sorted l (Ox h1)
 .intro j h1 h2;rw[qF];by_cases oK:j<i
  .rw[aR oK,sN (by simpa using oK)];simp
  .rw[aP oK,yt (by simp;omega)];by_cases uU:j=i
   .subst uU;rw[aR rfl];simp;exact hp
   .rw[aP uU];simp only[iN];have e1:j-i=(j-i-1)+1:=by omega
    have hjn:j<NB.length:=by simp at h1;omega
    have e2:(l'::NB.drop (i+1))[j-i]'(by simp at h1 |-;omega)=NB[j]:=by
     rw[<-jB,<-dD,<-dD,e1,aS,IP];congr 1;omega
    rw[e2,jy,dD (by omega),fV];exact h.perm.2 j hjn (by omega)
 .rw[kP hP,mY,mX];refine⟨fun hx=>?_,h.ids⟩;obtain⟨y,hy,e⟩:=dY.1 hx;exact hno y hy e
 .intro x hx;rcases mZ.1 (hP.mem_iff.1 hx)with rfl|hx
  .exact⟨al.length,rfl,by simp⟩
  .obtain⟨k,hk,gU⟩:=h.sI x hx;exact⟨k,hk,by simp;omega⟩
 .rw[kP hP,mY,mX];refine⟨fun hx=>?_,h.uG⟩;obtain⟨y,hy,e⟩:=dY.1 hx;obtain⟨k,hk,gU⟩:=h.sI y hy;simp only at e;omega
 .intro k hk;by_cases gU:k<al.length
  .rw[mP gU]at hk;obtain⟨x,hx,e⟩:=h.live k hk;exact⟨x,hP.mem_iff.2 (lU _ hx),e⟩
  .have hk2:=(gD.1 hk).1;simp at hk2;have:k=al.length:=by omega
   subst this;exact⟨_,hP.mem_iff.2 (sQ),rfl⟩
 .rw[h.cnt];simp
 .rw[hP.length_eq,h.stored];simp
 .intro j hj;rw[qF];by_cases oK:j<i
  .rw[aR oK];left;rfl
  .rw[aP oK];by_cases uU:j=i
   .subst uU;rw[aR rfl];right;rw[bF,Dt];refine Bh CB j hi fun k hk hkj=>?_;rcases h.size k hk with h9|h9
    .exact absurd (jw h9) (hne k hk hkj)
    .exact h9
   .rw[aP uU,jy];have OH:j<CB.length:=by rw[qE _ _ _ hi]at hj;split at hj<;>omega
    rw[dD OH,fV];exact h.size j OH
 .intro j hj hl;rw[qF];rw[qE _ _ _ hi]at hl;by_cases hic:i<CB.length
  .rw[aR hic]at hl;rw[aP (by omega)];by_cases uU:j=i
   .rw[aR uU];simp
   .rw[aP uU,jy,dD (by omega),fV];exact h.last j (by omega) hl
  .rw[aP hic]at hl;rw[aP (by omega),aR (by omega)];simp
theorem RH {CB NB NB':List (List jI)} {al:List Bool} {pl:List Int} {n N:Int} (h:zo CB NB al pl n N) (hn:Mt NB' (setC (Lib.bitLen ((CB.reverse.flatten).filter (dJ al)).length) ((CB.reverse.flatten).filter (dJ al)))) (hs:∀l∈NB',l.Pairwise fun p q=>p.1<=q.1):
  vU (setC (Lib.bitLen ((CB.reverse.flatten).filter (dJ al)).length) ((CB.reverse.flatten).filter (dJ al))) NB' al pl n ((CB.reverse.flatten).filter (dJ al)).length/\
  (∀id p,kN (setC (Lib.bitLen ((CB.reverse.flatten).filter (dJ al)).length) ((CB.reverse.flatten).filter (dJ al))).flatten al pl id p↔kN CB.flatten al pl id p):=by
 have hR:CB.reverse.flatten.Perm CB.flatten:=(wV CB).flatten;have hF:=hR.filter (dJ al);have hlen:((CB.reverse.flatten).filter (dJ al)).length=al.count true:=by rw[hF.length_eq];exact Uz h.sI h.uG h.live
 have hc:=h.cnt;have hle:((CB.reverse.flatten).filter (dJ al)).length<=5000:=by
  have h1:=gG (dJ al) CB.reverse.flatten;rw[hR.length_eq]at h1;exact bO h1 h.small
 generalize hL:(CB.reverse.flatten).filter (dJ al)=L at*;have hlt:L.length<2^Lib.bitLen L.length:=by
  by_cases h0:L.length=0
  .rw[h0];decide
  .exact(bS _ (by omega) h0).2.2
 have hP:=(lL _ L hlt).trans hF;have qG:∀x∈CB.flatten.filter (dJ al),x∈CB.flatten:=fun x hx=>(bQ.1 hx).1;refine⟨⟨⟨h.len,hs,hn,?_,?_,?_,?_,h.cnt,?_,h.bound,?_,AO _ _,?_⟩,by omega⟩,?_⟩
 .rw[kP hP];exact dG.2 (mQ _ (dG.1 h.ids))
 .intro x hx;exact h.sI x (qG x (hP.mem_iff.1 hx))
 .rw[kP hP];exact dG.2 (mQ _ (dG.1 h.uG))
 .intro k hk;obtain⟨x,hx,e⟩:=h.live k hk;refine⟨x,hP.mem_iff.2 (bQ.2 ⟨hx,?_⟩),e⟩;unfold dJ;rw[e,iF,hk];rfl
 .rw[(lL _ L hlt).length_eq]
 .rw[(lL _ L hlt).length_eq];exact hle
 .intro i hi hl;rw[eD]at hl;have h0:L.length≠0:=by
   intro h0;rw[h0]at hl;rw[show Lib.bitLen 0=0 from rfl]at hl;omega
  have hb:=bS L.length (by omega) h0;have e:Lib.bitLen L.length=i+1:=hl.symm;have h9:=TM i L (by rw[e]at hb;simpa using hb.2.1) (by rw[eD];omega);have e2:(setC (Lib.bitLen L.length) L)[i]? =(setC (i+1) L)[i]? :=by rw[e]
  intro h8;rw[dD hi,dD (by rw[eD];omega),h8]at e2;injection e2 with e2;exact h9 e2.symm
 .intro id p;unfold kN;constructor
  .rintro⟨k,h1,h2,h3⟩;exact⟨k,qG _ (hP.mem_iff.1 h1),h2,h3⟩
  .rintro⟨k,h1,h2,h3⟩;refine⟨k,hP.mem_iff.2 (bQ.2 ⟨h1,?_⟩),h2,h3⟩;unfold dJ;rw[iF,h2];rfl
theorem Mx {a b:Nat} (h:2^a<=b) (hb:b<2^13):a<13:=by
 rcases Nat.lt_or_ge a 13 with h1|h1
 .exact h1
 .have:=Iz (n:=2) (by decide) h1;omega
theorem rJ {l:List jI} {CB:List (List jI)} (h:l∈CB):l.length<=CB.flatten.length:=(Ip h).length_le
theorem zo.levels {CB NB:List (List jI)} {al:List Bool} {pl:List Int} {n N:Int} (h:zo CB NB al pl n N):CB.length<=13/\(CB.length≠0->2^(CB.length-1)<=CB.flatten.length):=by
 rcases pI CB.length with h0|h0
 .rw[h0];exact⟨by decide,fun h=>absurd rfl h⟩
 .have h1:CB.length-1<CB.length:=by omega
  have h2:=h.last _ h1 (by omega);have h3:CB[CB.length-1].length=2^(CB.length-1):=by
   rcases h.size _ h1 with h9|h9
   .exact absurd (jw h9) h2
   .exact h9
  have h4:=rJ (bW h1);rw[h3]at h4;have h5:=Mx h4 (by have:=h.small;omega);exact⟨by omega,fun _=>h4⟩
theorem wH:∀{NB CB:List (List jI)},Mt NB CB->NB.flatten.Perm CB.flatten
 |[],[],_=>xe _
 |[],_::_,h=>by cases h.1
 |_::_,[],h=>by cases h.1
 |a::NB,b::CB,h=>by
  rw[wT,wT];exact(h.2 0 (by simp) (by simp)).append (wH (NB:=NB) (CB:=CB) ⟨by simpa using h.1,fun i h1 h2=>h.2 (i+1) (by simpa using h1) (by simpa using h2)⟩)
theorem zo.nsz {CB NB:List (List jI)} {al:List Bool} {pl:List Int} {n N:Int} (h:zo CB NB al pl n N):NB.length<=13/\NB.flatten.length<=5000/\(∀l∈NB,l.length<=5000)/\CB.flatten.length<=5000:=by
 have h1:=h.levels.1;have h2:=h.perm.1;have hs:=h.small;have h3:NB.flatten.length=CB.flatten.length:=(wH h.perm).length_eq;exact⟨by omega,by omega,fun l hl=>by have:=rJ hl;omega,hs⟩
structure Hl (CB:List (List jI)) (al:List Bool) (pl:List Int) (D:List (Int×Int)):Prop where
 iff:∀id p,(id,p)∈D↔kN CB.flatten al pl id p
 nodup:(D.map (·.1)).Nodup
 len:D.length=al.count true
theorem Hl.new:Hl [] [] [] []:=by
 refine⟨fun id p=>⟨fun h=>absurd h jC,?_⟩,qU,rfl⟩;rintro⟨k,h,_⟩;exact absurd h jC
theorem Hl.key {CB:List (List jI)} {al:List Bool} {pl:List Int} {D:List (Int×Int)} (h:Hl CB al pl D) {id:Int} (hid:id∈D.map (·.1)):∃p,kN CB.flatten al pl id p:=by
 obtain⟨x,hx,rfl⟩:=dY.1 hid;exact⟨x.2,(h.iff x.1 x.2).1 hx⟩
theorem Hl.val {CB NB:List (List jI)} {al:List Bool} {pl:List Int} {n N:Int} {D:List (Int×Int)} (h:Hl CB al pl D) (hw:zo CB NB al pl n N) {id:Int} {m:Nat} (hm:(id,(m:Int))∈CB.flatten) (ha:al[m]? =some true):∃p,(id,p)∈D/\pl[m]? =some p:=by
 have yg:=(gD.1 ha).1;rw[hw.len]at yg;exact⟨pl[m],(h.iff _ _).2 ⟨m,hm,ha,dD yg⟩,dD yg⟩
theorem Fa {D:List (Int×Int)} {id p:Int} (h:(D.map (·.1)).Nodup) (hn:id∉D.map (·.1)):((D++[(id,p)]).map (·.1)).Nodup:=by
 rw[dh,tC];refine⟨h,by simp,?_⟩;intro a ha b hb;simp at hb;subst hb;exact fun e=>hn (e▸ha)
theorem Hl.put {CB CB' NB:List (List jI)} {al:List Bool} {pl:List Int} {n N:Int} {D:List (Int×Int)} (h:Hl CB al pl D) (hw:zo CB NB al pl n N) {id p:Int} (hno:∀x∈CB.flatten,x.1≠id) (hP:CB'.flatten.Perm ((id,(al.length:Int))::CB.flatten)):Hl CB' (al++[true]) (pl++[p]) (D++[(id,p)]):=by
 have hL:=hw.len;refine⟨fun id' p'=>?_,Fa h.nodup (fun hid=>?_),by simp[h.len]⟩
 .rw[df,h.iff];constructor
  .rintro(⟨k,h1,h2,h3⟩|h1)
   .have hk:=(gD.1 h2).1;exact⟨k,hP.mem_iff.2 (lU _ h1),by rw[mP hk];exact h2,by rw[mP (by omega)];exact h3⟩
   .simp at h1;obtain⟨rfl,rfl⟩:=h1;exact⟨al.length,hP.mem_iff.2 sQ,by simp,by rw[hL];simp⟩
  .rintro⟨k,h1,h2,h3⟩;rcases mZ.1 (hP.mem_iff.1 h1)with e|h1
   .right;injection e with e1 e2;have:k=al.length:=by omega
    subst this;rw[hL]at h3;simp at h3;simp[e1,h3]
   .left;obtain⟨m,hm,yg⟩:=hw.sI _ h1;simp only at hm;have:k=m:=by omega
    subst this;rw[mP yg]at h2;rw[mP (by omega)]at h3;exact⟨k,h1,h2,h3⟩
 .obtain⟨q,k,h1,_⟩:=h.key hid;exact hno _ h1 rfl
theorem RI {CB NB:List (List jI)} {al:List Bool} {pl:List Int} {n N:Int} (hw:zo CB NB al pl n N) {x y:jI} (hx:x∈CB.flatten) (hy:y∈CB.flatten) (e:x.2=y.2):x=y:=by
 have h3:CB.flatten.Pairwise fun p q=>p.2≠q.2:=dG.1 hw.uG;rcases gW h3 hx hy with h1|h1|h1
 .exact h1
 .exact absurd e h1
 .exact absurd e.symm h1
theorem Hl.again {CB NB:List (List jI)} {al:List Bool} {pl:List Int} {n N:Int} {D:List (Int×Int)} (h:Hl CB al pl D) (hw:zo CB NB al pl n N) {id p:Int} {m:Nat} (hm:(id,(m:Int))∈CB.flatten) (hd:al[m]? =some false):Hl CB (al.set m true) (pl.set m p) (D++[(id,p)]):=by
 have hL:=hw.len;obtain⟨yg,hmv⟩:=gD.1 hd;have amo:m<pl.length:=by omega
 have hne:∀q,¬kN CB.flatten al pl id q:=fun q ⟨k,h1,h2,h3⟩=>by
  have h4:(id,(k:Int))=(id,(m:Int)):=vB hw.ids h1 hm rfl;injection h4 with _ h4;have:k=m:=by omega
  subst this;rw[hd]at h2;cases h2
 refine⟨fun id' p'=>?_,Fa h.nodup (fun hid=>?_),?_⟩
 .rw[df,h.iff];constructor
  .rintro(⟨k,h1,h2,h3⟩|h1)
   .have hk:m≠k:=fun e=>by subst e;rw[hd]at h2;cases h2
    exact⟨k,h1,by rw[wD hk];exact h2,by rw[wD hk];exact h3⟩
   .simp at h1;obtain⟨rfl,rfl⟩:=h1;exact⟨m,hm,by rw[wh yg],by rw[wh amo]⟩
  .rintro⟨k,h1,h2,h3⟩;by_cases e:k=m
   .subst e;right;have h4:(id',(k:Int))=(id,(k:Int)):=RI hw h1 hm rfl;injection h4 with h4 _;rw[wh amo]at h3;injection h3 with h3;simp[h4,h3]
   .left;rw[wD (fun h=>e h.symm)]at h2 h3;exact⟨k,h1,h2,h3⟩
 .obtain⟨q,hq⟩:=h.key hid;exact hne q hq
 .rw[List.count_set yg,hmv];simp[h.len]
theorem Ym {D:List (Int×Int)} {id p:Int} (h:(D.map (·.1)).Nodup) (hm:(id,p)∈D):(D.filter fun x=>decide (x.1≠id)).length+1=D.length:=by
 induction D with
 |nil=>cases hm
 |cons x l ih=>
  rw[mY,mX]at h;rw[mV];by_cases e:x.1=id
  .have h2:l.filter (fun x=>decide (x.1≠id))=l:=qc.2 fun y hy=>by
    simp only[bZ];intro h9;exact h.1 (by rw[e,<-h9];exact IJ hy)
   rw[aP (by simp[e]),h2];rfl
  .rw[aR (by simp[e])];rcases mZ.1 hm with h9|h9
   .exact absurd (congrArg Prod.fst h9).symm e
   .simp only[fU];rw[ih h.2 h9]
theorem Hl.drop {CB NB:List (List jI)} {al:List Bool} {pl:List Int} {n N:Int} {D:List (Int×Int)} (h:Hl CB al pl D) (hw:zo CB NB al pl n N) {id:Int} {m:Nat} (hm:(id,(m:Int))∈CB.flatten) (hd:al[m]? =some true):Hl CB (al.set m false) pl (D.filter fun x=>decide (x.1≠id)):=by
 obtain⟨yg,hmv⟩:=gD.1 hd;refine⟨fun id' p'=>?_,?_,?_⟩
 .rw[bQ,h.iff];constructor
  .rintro⟨⟨k,h1,h2,h3⟩,h4⟩;have hk:m≠k:=fun e=>by
    subst e;have h5:(id',(m:Int))=(id,(m:Int)):=RI hw h1 hm rfl;injection h5 with h5 _;simp[h5]at h4
   exact⟨k,h1,by rw[wD hk];exact h2,h3⟩
  .rintro⟨k,h1,h2,h3⟩;by_cases e:k=m
   .subst e;rw[wh yg]at h2;cases h2
   .rw[wD (fun h=>e h.symm)]at h2;refine⟨⟨k,h1,h2,h3⟩,?_⟩;simp only[bZ];intro h5;subst h5;have h6:(id',(k:Int))=(id',(m:Int)):=vB hw.ids h1 hm rfl;injection h6 with _ h6;omega
 .exact dG.2 (mQ _ (dG.1 h.nodup))
 .obtain⟨p,hp,-⟩:=h.val hw hm hd;have h1:=Ym h.nodup hp;rw[List.count_set yg,hmv];have h2:=h.len;show _=(al.count true-1)+0;omega
theorem Hl.turn {CB CB':List (List jI)} {al:List Bool} {pl:List Int} {D:List (Int×Int)} (h:Hl CB al pl D) (hl:∀id p,kN CB'.flatten al pl id p↔kN CB.flatten al pl id p):Hl CB' al pl D:=⟨fun id p=>(h.iff id p).trans (hl id p).symm,h.nodup,h.len⟩
end Go.Proofs.YtkjdbndekceffaaGreat
