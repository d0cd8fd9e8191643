/- A part of the proof; its text was made small by a program (no remarks, short names). -/
import Derived.Test.YtkjdbndekceffaaGreatV00
import Derived.Test.YtkjdbndekceffaaGreatV05
import Derived.Test.YtkjdbndekceffaaGreatV03
import Derived.Test.YtkjdbndekceffaaGreatV09
import Derived.Test.YtkjdbndekceffaaGreatV02
import Derived.Test.YtkjdbndekceffaaGreatV10
import Derived.Test.YtkjdbndekceffaaGreatV07
import Derived.Test.YtkjdbndekceffaaGreatProg
set_option linter.unusedSimpArgs false
set_option linter.unusedVariables false
set_option maxRecDepth 100000
set_option maxHeartbeats 16000000
namespace Go.Proofs.YtkjdbndekceffaaGreat
open Go.RowKit Go.Maps
attribute [local irreducible] wpQuiet
def atP (l:List Pt) (p:Pt) (w:World) (e:Ending) (w':World):Prop:=
 ∃k:Nat,e=.returned (.tuple #[ag k,.bool (decide (∃h:k<l.length,kG l[k] p=0))])/\k<=l.length/\(∀t (h:t<l.length),t<k->kG l[t] p<0)/\(∀t (h:t<l.length),k<=t->¬kG l[t] p<0)/\Below w.heap.size w w'
theorem atQ (a:Option Addr) (l:List Pt) (n cp:Nat) (p:Pt) (W:World) (hn:l.length=n) (hl:n<=1000000) (hr:dU fH 3 W a l) (hs:l.Pairwise sK):
  aO 191 #[.slice a n cp,ku p.1 p.2.1 p.2.2,.func (.func 94) #[] #[]] W (atP l p W):=by
 subst hn;obtain⟨px,py,pi⟩:=p;have HR:=ae hr;have HS:=ae hs;have HC:=ae (fun(q:Pt) W=>(als q (px,py,pi) W).mono (fun e w' (h:e=.returned (ag (kG q (px,py,pi)))/\zN W w')=>(⟨h.1,h.2.below (aG _)⟩:e=.returned (ag (kG q (px,py,pi)))/\Below W.heap.size W w')));have aff:Hid (∀t i (h1:t<l.length) (h2:i<l.length),t<=i->kG l[i] (px,py,pi)<0->kG l[t] (px,py,pi)<0):=fun t i h1 h2 h3 h4=>by
  by_cases e:t=i
  .subst e;exact h4
  .have h5:=iq.1 HS.out t i h1 h2 (by omega);rw[yM]at h4 |-;exact AJ h5 h4
 clear hr hs;go_enter Tryz.func191,Tryz.ntmps191
 go_wp2_with fail
 have hb0:Below W.heap.size W (W.alloc (.cells #[ag px,ag py,aJ pi] 29)):=(aM _ _).alloc (aG _) _;have HX0:Hid ((W.alloc (.cells #[ag px,ag py,aJ pi] 29)).heap[W.heap.size]? =some (.cells #[ag px,ag py,aJ pi] 29 (0,0))):=dE W _;have hs0:W.heap.size<(W.alloc (.cells #[ag px,ag py,aJ pi] 29)).heap.size:=by simp
 generalize(W.alloc (.cells #[ag px,ag py,aJ pi] 29))=W0 at*;have HB0:=ae hb0;clear hb0
 go_loopw [9,10] (fun iv jv wr=>∃i j:Nat,iv=.int .i64 i/\jv=.int .i64 j/\i<=j/\j<=l.length/\Hid (∀t (h:t<l.length),t<i->kG l[t] (px,py,pi)<0)/\Hid (∀t (h:t<l.length),j<=t->¬kG l[t] (px,py,pi)<0)/\Hid (Below W0.heap.size W0 wr))
  (fun iv jv _=>(intOf jv).toNat-(intOf iv).toNat)
 case atStart=>exact⟨0,l.length,rfl,rfl,bC _,aG _,fun t h h2=>absurd h2 (ll _),fun t h h2=>absurd h (by omega),aM _ _⟩
 case round=>
  obtain⟨i,j,rfl,rfl,oV,hj,H1,H2,HB⟩:=hrel;have nJ:Below W.heap.size W wr:=HB0.out.trans (HB.out.mono HB0.out.size);have NS:=(HB.out.block _ hs0).trans HX0.out;have k0:=aj (w:=wr) (ad:=(ah W.heap.size 0)) (v:=.int .i64 px) (by simp[World.cell?,NS]);have k1:=aj (w:=wr) (ad:=(ah W.heap.size 1)) (v:=.int .i64 py) (by simp[World.cell?,NS]);have k2:=aj (w:=wr) (ad:=(ah W.heap.size 2)) (v:=.int .u32 pi) (by simp[World.cell?,NS]);by_cases hlt:i<j
  .obtain⟨m,hm⟩:∃m,m=(i+j)/2:=⟨_,rfl⟩;have hmi:((i:Int)+(j:Int))/2=(m:Int):=by omega
   have hmj:m<l.length:=by omega
   have aCj:i<=m/\m<j:=by omega
   clear hm;obtain⟨b,off,ea,iY,hcs⟩:=(HR.out.below nJ).get (by omega);have x0:=hcs (m) hmj 0 (by omega);have x1:=hcs (m) hmj 1 (by omega);have x2:=hcs (m) hmj 2 (by omega);simp only[fH,aT,aS,eG]at x0 x1 x2;have x0:=aj x0;have x1:=aj x1;have x2:=aj x2;have HLO:Hid (kG l[m] (px,py,pi)<0->∀t (h:t<l.length),t<m+1->kG l[t] (px,py,pi)<0):=fun h t ht h2=>aff.out t _ ht hmj (by omega) h;have HHI:Hid (¬kG l[m] (px,py,pi)<0->∀t (h:t<l.length),m<=t->¬kG l[t] (px,py,pi)<0):=fun h t ht h2 h3=>h (aff.out _ t hmj ht h2 h3);have kg:Hid (∀p:bg wr,aO 94 #[ku l[m].1 l[m].2.1 l[m].2.2,ku px py pi] p.W fun e w'=>e=.returned (ag (kG l[m] (px,py,pi)))/\Below p.W.heap.size p.W w'):=fun p=>HC.out l[m] p.W;have EA:=ae ea;obtain⟨o,ho⟩:∃o,o=kG l[m] (px,py,pi):=⟨_,rfl⟩;rw[<-ho]at HLO HHI kg;clear hcs ea ho NS;generalize l[m]=q at*;obtain⟨qx,qy,qi⟩:=q;simp only at x0 x1 x2 kg;obtain rfl:=EA.out;clear EA
   go_upto_region 5 with fail
   refine cO (by kernel_rfl) (by kernel_rfl) ?_
   repeat(quiet_step ((go_at_call 94;exact eO (kg.out _))))
   refine mG ?_;intro w2 hw';have hb2:Below wr.heap.size wr w2:=by obtain⟨p,rfl⟩:=hw';exact p.h
   have fP:Hid (Below W0.heap.size W0 w2):=HB.out.trans (hb2.mono HB.out.size);clear hw' k0 k1 k2 x0 x1 x2 hb2 kg;by_cases ho:o<0
   .have ahp:=ae (HLO.out ho);have d1:decide (o<0)=true:=by simpa using ho
    clear HLO HHI;go_wp2;go_roundw
    case rel=>exact⟨m+1,j,by go_num,rfl,by omega,hj,ahp,H2,fP⟩
    case measure=>simp[intOf];omega
   .have ahr:=ae (HHI.out ho);have d1:decide (o<0)=false:=by simpa using ho
    clear HLO HHI;go_wp2;go_roundw
    case rel=>exact⟨i,m,rfl,rfl,by omega,by omega,H1,ahr,fP⟩
    case measure=>simp[intOf];omega
  .obtain rfl:i=j:=by omega
   by_cases kE:i<l.length
   .obtain⟨b,off,ea,iY,hcs⟩:=(HR.out.below nJ).get (by omega);have x0:=hcs i kE 0 (by omega);have x1:=hcs i kE 1 (by omega);have x2:=hcs i kE 2 (by omega);simp only[fH,aT,aS,eG]at x0 x1 x2;have x0:=aj x0;have x1:=aj x1;have x2:=aj x2;have kg:Hid (∀p:bg wr,aO 94 #[ku l[i].1 l[i].2.1 l[i].2.2,ku px py pi] p.W fun e w'=>e=.returned (ag (kG l[i] (px,py,pi)))/\Below p.W.heap.size p.W w'):=fun p=>HC.out l[i] p.W;have EA:=ae ea;obtain⟨o,ho⟩:∃o,o=kG l[i] (px,py,pi):=⟨_,rfl⟩;have HO:Hid (decide (∃h:i<l.length,kG l[i] (px,py,pi)=0)=(o==0)):=by
     show _=_;rw[ho,wY];simp[kE]
    rw[<-ho]at kg;have hd:decide (i<l.length)=true:=by simpa using kE
    clear hcs ea ho NS;generalize l[i]=q at*;obtain⟨qx,qy,qi⟩:=q;simp only at x0 x1 x2 kg;obtain rfl:=EA.out;clear EA
    go_upto_region 8 with fail
    refine cO (by kernel_rfl) (by kernel_rfl) ?_
    repeat(quiet_step ((go_at_call 94;exact eO (kg.out _))))
    refine mG ?_;intro w2 hw';have hb2:Below wr.heap.size wr w2:=by obtain⟨p,rfl⟩:=hw';exact p.h
    have fP:Hid (Below W.heap.size W w2):=nJ.trans (hb2.mono nJ.size);clear hw' k0 k1 k2 x0 x1 x2 hb2 kg;go_wp2;go_ret2;exact⟨i,by rw[HO.out];rfl,by omega,H1.out,(fun t h h2 h3=>absurd (H2.out t h h2) (by omega)),fP.out⟩
   .obtain rfl:i=l.length:=by omega
    have iY:=ae nJ;clear k0 k1 k2
    go_upto_region 8 with fail
    go_quiet (fail)
    go_wp2;go_ret2;exact⟨l.length,by simp,aG _,H1.out,fun t h h2=>absurd h (by omega),iY.out.trans (Below.bP _ _)⟩
end Go.Proofs.YtkjdbndekceffaaGreat
namespace Go.Proofs.YtkjdbndekceffaaGreat
open Go.RowKit Go.Sort Go.Shelf Go.Lib Go.Maps
theorem JS {α:Type} [Inhabited α] {enc:α->Value} {w:World} {base g cap:Nat} {e:TypeId} {l:List α} {i:Nat} {zr:α} (h:w.ownsRow base e 1 (aD g l.length cap) l.length (l.map enc)) (hi:i<l.length) (q:Nat):
  (putRow enc (Sort.ahead w q) g 0 (l.toArray.toList.take i++l.toArray.toList.drop (i+1)++List.replicate (i+1-i) zr).toArray).ownsRow base e 1 (aD g (l.length-1) cap) (l.length-1) ((l.eraseIdx i).map enc)/\
  aC (fun k=>k=g) w (putRow enc (Sort.ahead w q) g 0 (l.toArray.toList.take i++l.toArray.toList.drop (i+1)++List.replicate (i+1-i) zr).toArray):=by
 rcases h.2 with⟨h1,h0⟩|⟨g',cap',cur,h1,hg,hh,hc,hm,hs,ht⟩
 .cases h1
 .injection h1 with e1 e2 e3;injection e1 with e1;injection e1 with e1 _ _;subst e1 e3;have hl:(l.take i++l.drop (i+1)++[zr]).length=l.length:=by simp;omega
  have ht':cur.toList.take l.length=l.map enc:=by rwa [lC]at ht
  obtain⟨cur',-,-,-,h9⟩:=uf (l:=l) (l':=l.take i++l.drop (i+1)++[zr]) hg hh (by omega) hm (by omega) hl q #[];rw[Sort.grow_empty]at h9;have e9:(l.toArray.toList.take i++l.toArray.toList.drop (i+1)++List.replicate (i+1-i) zr)=l.take i++l.drop (i+1)++[zr]:=by
   rw[show i+1-i=1 by omega];simp
  rw[e9];constructor
  .rw[hl]at h9;have h8:=yA (m:=l.length-1) h9 (by omega);have e8:((l.take i++l.drop (i+1)++[zr]).map enc).take ((l.length-1)*1)=(l.eraseIdx i).map enc:=by
    rw[lC,<-List.map_take,Io (by simp;omega),kZ (by simp;omega),GL]
   rw[e8]at h8;exact h8
  .refine⟨rfl,rfl,rfl,?_,fun k hk hn=>?_⟩
   .show w.heap.size<=(w.heap.modify g _).size;simp
   .show(w.heap.modify g _)[k]? =_;rw[zS,aP (jb hn)]
theorem PT {w:World} {base g cap:Nat} {l:List Int} {i:Nat} (h:w.ownsRow base 27 1 (aD g l.length cap) l.length (l.map (Value.int .u32))) (hi:i<l.length):
  aO 198 #[aD g l.length cap,ag i,ag (i+1:Nat)] w fun e w'=>e=.returned (aD g (l.length-1) cap)/\w'.ownsRow base 27 1 (aD g (l.length-1) cap) (l.length-1) ((l.eraseIdx i).map (Value.int .u32))/\aC (fun k=>k=g) w w':=by
 obtain⟨i0,hi0,hz1⟩:∃i0,Tryz.prog.info? 27=some i0/\i0.size=1:=by
  have hh:(Tryz.prog.info? 27).map (fun i=>i.size)=some 1:=by kernel_rfl
  cases hq:Tryz.prog.info? 27 with
  |none=>rw[hq]at hh;cases hh
  |some i=>rw[hq]at hh;injection hh with hh;exact⟨i,rfl,hh⟩
 have Cx:l.length<=cap/\cap<=9223372036854775807:=by
  rcases h.2 with⟨h1,h0⟩|⟨g',cap',cur,h1,hg,hh,hc,hm,hs,ht⟩
  .cases h1
  .injection h1 with e1 e2 e3;subst e3;unfold maxLen at hm;omega
 have hH:Holds (Value.int .u32) w g 0 l.toArray:=by
  rcases h.2 with⟨h1,h0⟩|⟨g',cap',cur,h1,hg,hh,hc,hm,hs,ht⟩
  .cases h1
  .injection h1 with e1 e2 e3;injection e1 with e1;injection e1 with e1 _ _;subst e1;rw[lC]at ht;exact holds_of_block hh ht
 have hc:=AnyE.slices_Delete Tryz.PT (Value.int .u32) (fun _=>rfl) 0 (fun w=>Ad w) i0 hi0 hz1 g 0 cap i (i+1) l.toArray w hH (by simpa using Cx.1) Cx.2 (by omega) (by simp;omega);change aO 198 _ _ _ at hc;rw[show l.toArray.size=l.length by simp]at hc;refine hc.mono ?_;rintro e w' ⟨rfl,q,rfl⟩;obtain⟨h8,h9⟩:=JS (zr:=(0:Int)) h hi q;exact⟨by rw[show i+1-i=1 by omega],h8,h9⟩
theorem PV {w:World} {base g cap:Nat} {l:List Int} {i:Nat} (h:w.ownsRow base 2 1 (aD g l.length cap) l.length (l.map (Value.int .i64))) (hi:i<l.length):
  aO 197 #[aD g l.length cap,ag i,ag (i+1:Nat)] w fun e w'=>e=.returned (aD g (l.length-1) cap)/\w'.ownsRow base 2 1 (aD g (l.length-1) cap) (l.length-1) ((l.eraseIdx i).map (Value.int .i64))/\aC (fun k=>k=g) w w':=by
 obtain⟨i0,hi0,hz1⟩:∃i0,Tryz.prog.info? 2=some i0/\i0.size=1:=by
  have hh:(Tryz.prog.info? 2).map (fun i=>i.size)=some 1:=by kernel_rfl
  cases hq:Tryz.prog.info? 2 with
  |none=>rw[hq]at hh;cases hh
  |some i=>rw[hq]at hh;injection hh with hh;exact⟨i,rfl,hh⟩
 have Cx:l.length<=cap/\cap<=9223372036854775807:=by
  rcases h.2 with⟨h1,h0⟩|⟨g',cap',cur,h1,hg,hh,hc,hm,hs,ht⟩
  .cases h1
  .injection h1 with e1 e2 e3;subst e3;unfold maxLen at hm;omega
 have hH:Holds (Value.int .i64) w g 0 l.toArray:=by
  rcases h.2 with⟨h1,h0⟩|⟨g',cap',cur,h1,hg,hh,hc,hm,hs,ht⟩
  .cases h1
  .injection h1 with e1 e2 e3;injection e1 with e1;injection e1 with e1 _ _;subst e1;rw[lC]at ht;exact holds_of_block hh ht
 have hc:=AnyE.slices_Delete Tryz.PV (Value.int .i64) (fun _=>rfl) 0 (fun w=>Tryz.zeroValue2 w) i0 hi0 hz1 g 0 cap i (i+1) l.toArray w hH (by simpa using Cx.1) Cx.2 (by omega) (by simp;omega);change aO 197 _ _ _ at hc;rw[show l.toArray.size=l.length by simp]at hc;refine hc.mono ?_;rintro e w' ⟨rfl,q,rfl⟩;obtain⟨h8,h9⟩:=JS (zr:=(0:Int)) h hi q;exact⟨by rw[show i+1-i=1 by omega],h8,h9⟩
theorem JN {w:World} {base g cap:Nat} {l:List Int} {i:Nat} (h:w.ownsRow base 3 1 (aD g l.length cap) l.length (l.map (Value.int .i64))) (hi:i<l.length):
  aO 199 #[aD g l.length cap,ag i,ag (i+1:Nat)] w fun e w'=>e=.returned (aD g (l.length-1) cap)/\w'.ownsRow base 3 1 (aD g (l.length-1) cap) (l.length-1) ((l.eraseIdx i).map (Value.int .i64))/\aC (fun k=>k=g) w w':=by
 obtain⟨i0,hi0,hz1⟩:∃i0,Tryz.prog.info? 3=some i0/\i0.size=1:=by
  have hh:(Tryz.prog.info? 3).map (fun i=>i.size)=some 1:=by kernel_rfl
  cases hq:Tryz.prog.info? 3 with
  |none=>rw[hq]at hh;cases hh
  |some i=>rw[hq]at hh;injection hh with hh;exact⟨i,rfl,hh⟩
 have Cx:l.length<=cap/\cap<=9223372036854775807:=by
  rcases h.2 with⟨h1,h0⟩|⟨g',cap',cur,h1,hg,hh,hc,hm,hs,ht⟩
  .cases h1
  .injection h1 with e1 e2 e3;subst e3;unfold maxLen at hm;omega
 have hH:Holds (Value.int .i64) w g 0 l.toArray:=by
  rcases h.2 with⟨h1,h0⟩|⟨g',cap',cur,h1,hg,hh,hc,hm,hs,ht⟩
  .cases h1
  .injection h1 with e1 e2 e3;injection e1 with e1;injection e1 with e1 _ _;subst e1;rw[lC]at ht;exact holds_of_block hh ht
 have hc:=AnyE.slices_Delete Tryz.JN (Value.int .i64) (fun _=>rfl) 0 (fun w=>pK w) i0 hi0 hz1 g 0 cap i (i+1) l.toArray w hH (by simpa using Cx.1) Cx.2 (by omega) (by simp;omega);change aO 199 _ _ _ at hc;rw[show l.toArray.size=l.length by simp]at hc;refine hc.mono ?_;rintro e w' ⟨rfl,q,rfl⟩;obtain⟨h8,h9⟩:=JS (zr:=(0:Int)) h hi q;exact⟨by rw[show i+1-i=1 by omega],h8,h9⟩
theorem adq (a:Option Addr) (l:List Int) (n c:Nat) (x:Int) (w:World) (hn:l.length=n) (h:Rd (.int .u32) w a l) (hl:n<=1000000) (hx:x∈l):
  aO 196 #[.slice a n c,aJ x] w fun e w'=>(∃i:Nat,e=.returned (ag i)/\∃h:i<l.length,l[i]=x)/\w'=w:=by
 subst hn;have HR:=ae h;have HX:=ae hx;clear h hx;go_enter Tryz.func196,Tryz.ntmps196;go_wp2
 go_loopg [8] l.length (fun kx s8 wr=>∃j:Nat,s8=.int .i64 j/\j<=l.length/\l.length-j<=kx/\wr=w/\Hid (∀t (h:t<l.length),t<j->l[t]≠x))
 case atStart=>exact⟨0,rfl,bC _,by omega,rfl,fun t h h2=>absurd h2 (ll _)⟩
 case round=>
  obtain⟨j,rfl,hj,PH,rfl,H1⟩:=hrel;by_cases jl:j<l.length
  .obtain⟨b,off,ea,hb,hc⟩:=HR.out.get (by omega);have x0:=hc j jl;have EA:=ae ea;obtain⟨y,hy⟩:∃y,y=l[j]:=⟨_,rfl⟩;rw[<-hy]at x0;have HY:=ae hy;clear hc ea hy;obtain rfl:=EA.out;clear EA;by_cases hxy:x=y
   .have d1:(x==y)=true:=by simp[hxy]
    have d2:decide (x=y)=true:=by simp[hxy]
    have HXY:=ae hxy;clear hxy;go_wp2;go_ret;exact⟨⟨j,rfl,jl,by rw[<-HY.out,HXY.out]⟩,rfl⟩
   .have d1:(x==y)=false:=by simp[hxy]
    have d2:decide (x=y)=false:=by simp[hxy]
    have H2:Hid (∀t (h:t<l.length),t<j+1->l[t]≠x):=fun t h h2=>by
     by_cases e:t=j
     .subst e;rw[<-HY.out];exact fun e=>hxy e.symm
     .exact H1.out t h (by omega)
    clear hxy;go_wp2
    go_roundg (l.length-(j+1))
    case measure=>omega
    case rel=>exact⟨j+1,by go_num,by omega,aG _,rfl,H2⟩
  .obtain⟨t,ht,e⟩:=jA HX.out;exact absurd e (H1.out t ht (by omega))
end Go.Proofs.YtkjdbndekceffaaGreat
namespace Go.Proofs.YtkjdbndekceffaaGreat
open Go.RowKit Go.Sort Go.Shelf Go.Lib Go.Maps
attribute [local irreducible] wpQuiet
attribute [local go_sem] Oper.fM
def Qc (R:List Pt) (p:Pt):Nat:=R.countP fun q=>decide (kG q p<0)
def ahV (R:List Pt) (p:Pt):Bool:=decide (∃h:Qc R p<R.length,kG R[Qc R p] p=0)
theorem YK (a:Option Addr) (l:List Pt) (n cp:Nat) (p:Pt) (W:World) (hn:l.length=n) (hl:n<=1000000) (hr:dU fH 3 W a l) (hs:l.Pairwise sK):
  aO 191 #[.slice a n cp,ku p.1 p.2.1 p.2.2,.func (.func 94) #[] #[]] W (iX W (.tuple #[ag (Qc l p),.bool (ahV l p)])):=
 (atQ a l n cp p W hn hl hr hs).mono fun e w' ⟨k,he,hk,h1,h2,hb⟩=>by
  have e1:k=Qc l p:=qA l k hk (fun t h h9=>by simpa using h1 t h h9) (fun t h h9=>by simpa using h2 t h h9);subst e1;exact⟨he,hb⟩
theorem JU {R:List Pt} (hs:R.Pairwise sK) {x:Nat} (hx:x<R.length):Qc R R[x]=x/\ahV R R[x]=true:=by
 have h0:x=Qc R R[x]:=qA R x (xn hx) (fun t h h9=>by
  have:=iq.1 hs t x h hx h9;simpa[yM]using this) (fun t h h9=>by
  simp only[iE,yM];by_cases e:t=x
  .subst e;exact yE _
  .intro h8;have:=iq.1 hs x t hx h (by omega);exact yE _ (AJ this h8))
 refine⟨h0.symm,?_⟩;unfold ahV;rw[bZ];refine⟨by omega,?_⟩;have e:R[Qc R R[x]]'(by omega)=R[x]:=by congr 1;exact h0.symm
 rw[e,acv];exact⟨rfl,rfl⟩
end Go.Proofs.YtkjdbndekceffaaGreat
namespace Go.Proofs.YtkjdbndekceffaaGreat
open Go.RowKit Go.Sort Go.Shelf Go.Lib Go.Maps
def JV (n k:Nat):FT:=(((dO 0 n).subs 0).getD k (.leaf 0,0)).1
theorem nN {n:Nat} {t:FT} {s:Nat} (h:FT.At (aZ n) t s):JV n (t.root s)=t:=by
 have hn:=lS h;have hl:=h.lt;rw[dA]at hl;have hl2:t.root s<((dO 0 n).subs 0).length:=by rw[FT.fD,fB 0 n hn];exact hl
 have h1:=FT.qB (dO 0 n) 0 _ hl2;have h2:=FT.lM (dO 0 n) 0 (fQ hn▸kH n hn) _ (bW hl2);obtain⟨e1,e2⟩:=FT.At.unique (fQ hn▸h) h2 (by rw[h1];omega);unfold JV;rw[jy,dD hl2];exact e1.symm
def oz (n:Nat) (YS:List Nat) (k:Nat):List Nat:=nl YS (JV n k)
def zy (n:Nat) (YS:List Nat) (k:Nat):List Int:=match JV n k with
 |.leaf _=>[]
 |.node l r=>lf l.hi (nl YS (.node l r))
theorem Dl {n:Nat} {l r:FT} {s:Nat} (h:FT.At (aZ n) (.node l r) s) (YS:List Nat):zy n YS ((FT.node l r).root s)=lf l.hi (nl YS (.node l r)):=by
 unfold zy;rw[nN h]
section
variable {w w':World} {lo hi tb fb:Nat} {R:List Pt} {gone:List Bool} {YS:List Nat} {V:AV}
theorem jZ.toM (h:jZ w lo hi tb fb R gone YS V):gY w lo hi tb fb R gone YS.length YS (oz R.length YS) (zy R.length YS) V:=
 ⟨h.blk,h.fo,h.row,h.xs,h.Hd,h.iT,h.jG,h.Jl,h.ys,fun k hk=>by
  obtain⟨t,s,ha,rfl⟩:=vz hk;unfold oz;rw[nN ha];exact h.Lt t s ha,fun l r s ha=>by rw[Dl ha];exact h.Em l r s ha,h.G6,h.top,h.qz,h.V7,h.NV,h.Mf⟩
theorem gY.toAt {nc:Nat->List Nat} {lc:Nat->List Int} (h:gY w lo hi tb fb R gone YS.length YS nc lc V) (h1:∀k,k<(aZ R.length).length->nc k=oz R.length YS k) (h2:∀l r s,FT.At (aZ R.length) (.node l r) s->lc ((FT.node l r).root s)=zy R.length YS ((FT.node l r).root s)):jZ w lo hi tb fb R gone YS V:=
 ⟨h.blk,h.fo,h.row,h.xs,h.Hd,h.iT,h.jG,h.Jl,h.ys,fun t s ha=>by
  have h9:=h.Lt _ ha.lt;rw[h1 _ ha.lt,oz,nN ha]at h9;exact h9,fun l r s ha=>by
  have h9:=h.Em l r s ha;rw[h2 l r s ha,Dl ha]at h9;exact h9,h.G6,h.top,h.qz,h.V7,h.NV,h.Mf⟩
end
def nz (YS:List Nat) (x:Nat) (P:List Nat) (k:Nat):List Nat:=if k∈P then dW YS x else YS
theorem Hq (YS:List Nat) (x k:Nat):nz YS x [] k=YS:=by simp[nz]
theorem Fh {n x:Nat} (hx:x<n) (YS:List Nat) {k:Nat} (hk:k<(aZ n).length):oz n (nz YS x ((dO 0 n).path 0 x) k) k=oz n (dW YS x) k/\zy n (nz YS x ((dO 0 n).path 0 x) k) k=zy n (dW YS x) k:=by
 have hn:0<n:=by omega
 obtain⟨t,s,ha,rfl⟩:=vz hk;unfold nz;by_cases hm:t.root s∈(dO 0 n).path 0 x
 .rw[aR hm];exact⟨rfl,rfl⟩
 .rw[aP hm];have hno:¬(t.lo<=x/\x<t.hi):=fun⟨a,b⟩=>hm (FT.yY _ 0 x (bT 0 n hn).1 _ (FT.at_mem (fQ hn▸ha)) a b);unfold oz zy;rw[nN ha];refine⟨(yV hno).symm,?_⟩;cases t with
  |leaf a=>rfl
  |node l r=>
   show lf _ _=lf _ _;rw[yV hno]
end Go.Proofs.YtkjdbndekceffaaGreat
namespace Go.Proofs.YtkjdbndekceffaaGreat
open Go.RowKit Go.Sort Go.Shelf Go.Lib Go.Maps
attribute [local irreducible] wpQuiet
attribute [local go_sem] Oper.fM
def amO (w:World) (lo hi tb fb:Nat) (R:List Pt) (gone:List Bool) (YS:List Nat) (x:Nat) (e:Ending) (w':World):Prop:=
 e=.returned (.bool true)/\∃V',jZ w' lo hi tb fb R (gone.set x true) (dW YS x) V'/\aC (fun k=>lo<=k/\k<hi) w w'
theorem pR {α β:Type} (f:α->β):∀(l:List α) (i:Nat),(l.map f).eraseIdx i=(l.eraseIdx i).map f
 |[],i=>by simp
 |a::l,0=>by simp
 |a::l,i+1=>by simp[pR f l i]
theorem YL {m:Nat} {L:List Nat} {y:Int} (h:y∈lf m L):0<=y/\y<=L.length:=by
 unfold lf at h;obtain⟨j,hj,rfl⟩:=dY.1 h;have h1:=Ov (p:=fun i=>decide (i<m)) (l:=L.take j);rw[eF]at h1;omega
theorem ahW {m:Nat} {L:List Nat} {i:Nat} (hi:i<L.length) {j:Nat} (hj:j<L.length):0<=(Ct m L i j)[j]'(by rw[rD hi (by omega)];exact hj)/\(Ct m L i j)[j]'(by rw[rD hi (by omega)];exact hj)<=L.length:=by
 rw[Rx hi hj];exact YL (List.mem_of_mem_eraseIdx (bW _))
theorem UK {α:Type} (f:Nat->α) (k:Nat) (v v':α):oM (oM f k v) k v'=oM f k v':=by
 funext j;simp only[oM];split<;>rfl
theorem YM {YS:List Nat} (hn:YS.Nodup) {x:Nat} (hx:x∈YS):(dW YS x).length=YS.length-1:=by
 obtain⟨i,hi,e⟩:=jA hx;unfold dW;rw[<-erase_filter hn hi e,Du,aR hi]
theorem Gu {w:World} {lo hi tb fb:Nat} {R:List Pt} {gone:List Bool} {YS:List Nat} {V:AV} (hA:jZ w lo hi tb fb R gone YS V) (hW:dm R gone YS) (hR:R.length<=20000) {x:Nat} (hx:x<R.length) (hgx:gone[x]? =some false) (p:Pt) (hp:R[x]=p):
  aO 128 #[ay tb,ku p.1 p.2.1 p.2.2] w (amO w lo hi tb fb R gone YS x):=by
 have hb:=hA.blk;have jk:tb<w.heap.size:=bJ hA.fo.2.1 hA.fo.2.2.2.2;obtain⟨ra,rc,er,-,-,jE⟩:=dU.aL cZ (by decide) hA.row;obtain⟨ga,gc,eg⟩:=fI hA.Hd;have hM:=hA.toM;rw[er,eg]at hb;have CB:=ae (fun W (hb:Below w.heap.size w W)=>YK ra R R.length rc p W rfl (by omega) (jE.below hb) hW.Ei);have RP:=JU hW.Ei hx;rw[hp]at RP;have Df:=ae jE;have HEG:=ae eg;have HER:=ae er;obtain⟨px,py,pi⟩:=p;obtain⟨n,hn⟩:∃n,n=R.length:=⟨_,rfl⟩;rw[<-hn]at hR hb CB hx;have HN:=ae hn;have HB:=ae hb;have HM:=ae hM;have HP:=ae hp;have HGX:=ae hgx;have HW:=ae hW;have rQ:=hA.fo;rw[RP.1,RP.2]at CB;clear hA jE hb er eg hn hM hp hgx hW RP;go_enter Tryz.func128,Tryz.ntmps128
 go_wp2_with fail
 obtain⟨pb,Ky⟩:∃pb,pb=w.heap.size:=⟨_,rfl⟩;obtain⟨w1,fJ⟩:∃w1,w1=w.alloc (.cells #[ag px,ag py,aJ pi] 29):=⟨_,rfl⟩;have hb1:Below w.heap.size w w1:=by rw[fJ];exact(aM _ _).alloc (aG _) _
 have hx1:w1.heap[pb]? =some (.cells #[ag px,ag py,aJ pi] 29 (0,0)):=by rw[fJ,Ky];exact dE w _
 have ht1:=(hb1.block tb jk).trans HB.out;rw[<-fJ];clear fJ;have c3:w1.cell? (ah tb 3)=some (ay fb):=by simp[World.cell?,ht1]
 refine(AX tb fb w1 c3).mono ?_;rintro e w' ⟨rfl,JE⟩;subst w'
 go_upto_region 3 with fail
 rw[<-Ky];have aCm:hi<=pb:=by rw[Ky];exact rQ.2.2.2.2
 have HPB:=ae Ky;clear Ky;have k0:=aj (w:=w1) (ad:=(ah tb 0)) (v:=.slice ra n rc) (by simp[World.cell?,ht1]);have k1:=aj (w:=w1) (ad:=(ah pb 0)) (v:=.int .i64 px) (by simp[World.cell?,hx1]);have k2:=aj (w:=w1) (ad:=(ah pb 1)) (v:=.int .i64 py) (by simp[World.cell?,hx1]);have k3:=aj (w:=w1) (ad:=(ah pb 2)) (v:=.int .u32 pi) (by simp[World.cell?,hx1]);have F7:Hid (∀p:bg w1,aO 191 #[.slice ra n rc,ku px py pi,.func (.func 94) #[] #[]] p.W fun e w'=>e=.returned (.tuple #[ag x,.bool true])/\Below p.W.heap.size p.W w'):=fun p=>CB.out p.W (hb1.trans (p.h.mono hb1.size));refine cO (by kernel_rfl) (by kernel_rfl) ?_
 repeat(quiet_step ((go_at_call 191;exact eO (F7.out _))))
 refine mG ?_;intro w2 hw';have hb2:Below w1.heap.size w1 w2:=by obtain⟨p,rfl⟩:=hw';exact p.h
 clear hw' F7 k0 k1 k2 k3 CB c3;have hx2:=(hb2.block pb (bn.1 hx1).1).trans hx1;have hB2:Below w.heap.size w w2:=hb1.trans (hb2.mono hb1.size);have vT:Hid (gY w2 lo hi tb fb R gone YS.length YS (oz R.length YS) (zy R.length YS) V):=HM.out.below hB2 rQ.2.2.2.2;have fP:=ae hB2;have Gg:=ae hx2;have ht2:=vT.out.blk;have c0:w2.cell? (ah tb 0)=some (.slice ra n rc):=by simp[World.cell?,ht2];rw[HER.out,HN.out]
 have hgrow:=vT.out.Hd;rw[HEG.out]at hgrow;obtain⟨gg,gc',eg2,_,_⟩:=bf hgrow (by have:=HN.out;omega);injection eg2 with eg2 eg3 eg4;subst eg2;clear eg3 eg4;have c2:w2.cell? (ah tb 2)=some (aD gg n gc):=by simp[World.cell?,ht2];rw[HEG.out,HN.out]
 have x0:w2.cell? (ah pb 0)=some (ag px):=by simp[World.cell?,hx2]
 have x1:w2.cell? (ah pb 1)=some (ag py):=by simp[World.cell?,hx2]
 have x2:w2.cell? (ah pb 2)=some (aJ pi):=by simp[World.cell?,hx2]
 have hxR:x<R.length:=by rw[<-HN.out];exact hx
 obtain⟨b,off,ea,iY,hcs⟩:=(Df.out.below hB2).get (by omega);have r0:=hcs x hxR 0 (by omega);have r1:=hcs x hxR 1 (by omega);have r2:=hcs x hxR 2 (by omega);rw[HP.out]at r0 r1 r2;simp only[fH,aT,aS,eG]at r0 r1 r2;have g0:=hgrow.cellAt x (by omega);have z0:=hgrow.frozenAt x;rw[iO,HGX.out]at g0;simp only[aU]at g0;subst ea;clear hcs hgrow hB2 hb1 hb2 ht1 hx1 ht2 hx2 HM
 go_upto_region 4 with fail
 go_quiet (fail)
 go_upto_region 7 with fail
 obtain⟨w3,jQ⟩:∃w3,w3=(w2.drewN nq).setCell (ah gg x) (.bool true):=⟨_,rfl⟩;have Hf:Hid (gY w3 lo hi tb fb R (gone.set x true) YS.length YS (oz R.length YS) (zy R.length YS) V):=by
  rw[jQ];exact gY.adp (vT.out.below (Below.bP w2.heap.size nq) vT.out.fo.2.2.2.2) HEG.out x
 have hgg:lo<=gg/\gg<hi:=⟨(vT.out.Hd.lt gg (by rw[HEG.out];rfl)).1,vT.out.top V.gv (by simp) gg (by rw[HEG.out];rfl)⟩;have Gh:Hid (aC (fun k=>lo<=k/\k<hi) w w3):=by
  rw[jQ];exact(((aC.refl _ w).below fP.out).below (Below.bP w2.heap.size nq)).set (a:=(ah gg x)) _ (.inl hgg)
 have Ph:Hid (w3.heap[pb]? =some (.cells #[ag px,ag py,aJ pi] 29 (0,0))):=by
  rw[jQ];exact(aH (show gg≠pb by omega)).trans Gg.out
 rw[<-jQ];clear jQ c0 c2 x0 x1 x2 r0 r1 r2 g0 z0 fP Gg vT hgg iY;have hxY:x∈YS:=(HW.out.live x).2 HGX.out;have hYl:=HW.out.len;have hY0:0<YS.length:=List.length_pos_of_mem hxY;have ht3:=Hf.out.blk;have c7:w3.cell? (ah tb 7)=some (ag YS.length):=by simp[World.cell?,ht3]
 have z7:w3.frozen? (ah tb 7)=false:=by simp[World.frozen?,ht3]
 obtain⟨m,hm⟩:∃m,m=YS.length-1:=⟨_,rfl⟩;have Wi:(YS.length:Int)-1=(m:Int):=by omega
 have HMX:Hid (m=(dW YS x).length):=by rw[hm];exact(YM HW.out.nodup hxY).symm
 have hYb:YS.length<=20000:=by rw[HN.out]at hR;omega
 have HYX:=ae hxY;clear hm hYl ht3 hxY
 go_upto_region 8 with fail
 obtain⟨w4,Rs⟩:∃w4,w4=w3.setCell (ah tb 7) (.int .i64 m):=⟨_,rfl⟩;have Gv:Hid (gY w4 lo hi tb fb R (gone.set x true) m YS (oz R.length YS) (zy R.length YS) V):=by rw[Rs];exact Hf.out.Fg m
 have xG:Hid (aC (fun k=>lo<=k/\k<hi) w w4):=by rw[Rs];exact Gh.out.set (a:=(ah tb 7)) _ (.inl ⟨rQ.1,rQ.2.1⟩)
 have Xk:Hid (w4.heap[pb]? =some (.cells #[ag px,ag py,aJ pi] 29 (0,0))):=by rw[Rs];exact(aH (show tb≠pb by omega)).trans Ph.out
 rw[<-Rs];clear Rs c7 z7 Hf Gh Ph;have ht4:=Gv.out.blk;have c3:w4.cell? (ah tb 3)=some (ay fb):=by simp[World.cell?,ht4]
 have CP:=ae (xH lo fb n x V.fv (by omega) hx w4 (by rw[HN.out];exact Gv.out.iT));clear ht4
 go_wp2_with fail
 refine CP.out.mono ?_;rintro e w5 ⟨pv,rfl,Ec,o7⟩;have Rt:=Gv.out.fo.2.2.2.2;have Yx:Hid (gY w5 lo hi tb fb R (gone.set x true) m YS (oz R.length YS) (zy R.length YS) V):=Gv.out.below o7 Rt;have mo:Hid (aC (fun k=>lo<=k/\k<hi) w w5):=xG.out.below o7;have uJ:=ae ((o7.block pb (bn.1 Xk.out).1).trans Xk.out);have hp5:w4.heap.size<=w5.heap.size:=o7.size;have HPV:=ae Ec;have aCq:pb<w4.heap.size:=(bn.1 Xk.out).1;clear c3 CP Gv xG Xk o7;obtain⟨P,Qd⟩:∃P,P=(dO 0 n).path 0 x:=⟨_,rfl⟩;rw[<-Qd]at Ec HPV;have hPl:P.length<=n+1:=by
  have h1:=FT.qj (dO 0 n) 0 x;have h2:=xA 0 n n (xn (IG));rw[Qd];omega
 have HPD:=ae Qd;obtain⟨pa,pc,rfl⟩:=fI Ec;clear Ec Qd
 go_wp2_with fail
 go_loopg [72] P.length (fun kx s72 wr=>∃(j:Nat) (yy:List Nat) (nc:Nat->List Nat) (lc:Nat->List Int) (V:AV),s72=.int .i64 j/\j<=P.length/\P.length-j<=kx/\
  Hid (gY wr lo hi tb fb R (gone.set x true) m yy nc lc V)/\Hid (yy=if 0<j then dW YS x else YS)/\Hid (∀k,k<(aZ R.length).length->nc k=oz n (nz YS x (P.take j) k) k)/\Hid (∀l r s,FT.At (aZ R.length) (.node l r) s->lc ((FT.node l r).root s)=zy n (nz YS x (P.take j) ((FT.node l r).root s)) ((FT.node l r).root s))/\
  Hid (aC (fun k=>lo<=k/\k<hi) w5 wr))
 case atStart=>
  refine⟨0,YS,_,_,V,rfl,bC _,by omega,Yx,rfl,?_,?_,aC.refl _ _⟩
  .intro k hk;rw[HN.out,xg,Hq]
  .intro l r s ha;rw[HN.out,xg,Hq]
 case round=>
  obtain⟨j,yy,nc,lc,V,rfl,hj,PH,vD,HYY,HNC,HLC,Wo⟩:=hrel;by_cases Wp:j<P.length
  .have vE:0<n:=by omega
   obtain⟨hwT,hlT,hhT⟩:=bT 0 n vE;obtain⟨k,hk⟩:∃k,k=P[j]:=⟨_,rfl⟩;have hkm:k∈(dO 0 n).path 0 x:=by rw[<-HPD.out,hk];exact bW _
   obtain⟨⟨t,s⟩,YN,ML,adt,adu⟩:=FT.oo (dO 0 n) 0 x hwT (by omega) (by omega) k hkm;simp only at ML adt adu;have hT0:=kH n vE;rw[fQ vE]at hT0;have ha:FT.At (aZ n) t s:=by rw[fQ vE];exact FT.lM _ 0 hT0 _ YN
   have hwt:t.wf:=FT.rC _ 0 hwT _ YN;have gU:k<(aZ n).length:=ML▸ha.lt;have hpd:P.Pairwise (·>·):=by rw[HPD.out];exact FT.vg _ 0 x hwT (by omega) (by omega)
   have PG:k∉P.take j:=fun h=>by
    obtain⟨q,hq,e⟩:=jA h;rw[zZ]at e;rw[eF]at hq;have:=iq.1 hpd q j (by omega) Wp (by omega);omega
   have MJ:(k=2*n-2)↔j=0:=by
    obtain⟨Q,hQ⟩:=FT.uV (dO 0 n) 0 x;rw[mh vE]at hQ;have h0:P[0]'(by omega)=2*n-2:=by
     have:P=(2*n-2)::Q:=by rw[HPD.out,hQ]
     simp only[this,wM]
    constructor
    .intro h;by_cases e:j=0
     .exact e
     .have:=iq.1 hpd 0 j (by omega) Wp (by omega);omega
    .intro h;subst h;rw[hk,h0]
   have adv:nc k=nl YS t:=by
    rw[HNC.out k (by rw[<-HN.out];exact gU),nz,aP PG,oz,<-ML,nN ha]
   obtain⟨L,hL⟩:∃L,L=nl YS t:=⟨_,rfl⟩;rw[<-hL]at adv;have hLn:L.Nodup:=by rw[hL];exact mQ _ HW.out.nodup
   have hxL:x∈L:=by rw[hL];exact bQ.2 ⟨HYX.out,by simpa using⟨adt,adu⟩⟩
   obtain⟨i,MM,hix⟩:=jA hxL;have hLl:L.length<=20000:=by
    have h1:L.length<=YS.length:=by rw[hL];exact gG _ _
    omega
   have hout:nl (dW YS x) t=L.eraseIdx i:=by
    subst hL;exact Ug HW.out.nodup MM hix
   have vW:Hid (FT.At (aZ n) t s/\t.root s=k/\t.wf/\t.lo<=x/\x<t.hi/\L=nl YS t/\nc k=L/\L.Nodup/\nl (dW YS x) t=L.eraseIdx i/\k∉P.take j/\k=P[j]/\k<(aZ n).length/\P.Pairwise (·>·)/\∃h:i<L.length,L[i]=x):=⟨ha,ML,hwt,adt,adu,hL,adv,hLn,hout,PG,hk,gU,hpd,MM,hix⟩;have hblk:=vD.out.blk;have hNl:(aZ R.length).length=(aZ n).length:=by rw[HN.out]
   obtain⟨gl,cl,egl,_,_⟩:=bf vD.out.Jl (by omega);have mK:dw wr lo gl (aZ R.length).length cl V.LN V.LL:=by have h:=vD.out.Jl;rw[egl]at h;exact h
   have su:=vD.out.Lt k (by omega);rw[adv]at su;obtain⟨g,c,eg1,_,_⟩:=bf su (by omega);rw[eg1]at su;have xI:(aZ n).length<=40000:=by rw[dA];omega
   obtain⟨NN,hNN⟩:∃NN,NN=(aZ n).length:=⟨_,rfl⟩;have aCs:k<NN:=by omega
   have aCt:NN<=40000:=by omega
   have q5:wr.cell? (ah tb 5)=some (aD gl NN cl):=by simp[World.cell?,hblk];rw[egl,hNN,hNl]
   have q3:wr.cell? (ah tb 3)=some (ay fb):=by simp[World.cell?,hblk]
   have qn:wr.cell? ⟨gl,k*2,none⟩=some (.slice (some ⟨g,0,none⟩) L.length c):=(mK.get (by omega)).1.trans (congrArg some eg1);have hXr:wr.heap[pb]? =some (.cells #[ag px,ag py,aJ pi] 29 (0,0)):=bL Wo.out uJ.out (fun h=>by omega);have qp:wr.cell? (ah pb 2)=some (aJ pi):=by simp[World.cell?,hXr]
   have hPr:=aY HPV.out Wo.out (fun g h h2=>by have:=(HPV.out.lt g h).1;have:=rQ.2.2.2.2;omega);obtain⟨gp,cp,egp,_,_⟩:=bf hPr (by omega);injection egp with egp at1 at5;subst egp;have qk:=hPr.cellAt j (by omega);rw[iO,dD Wp,<-hk]at qk;simp only[aU]at qk;have CIX:Hid (∀W,Below wr.heap.size wr W->aO 196 #[aD g L.length c,aJ pi] W (iX W (ag i))):=fun W qJ=>by
    have hrw:=au su qJ;obtain⟨a1,c1,e1,-,-,amS⟩:=Rd.aL hrw;injection e1 with e1 e2 e3;rw[<-e1]at amS;have hpi:pi=ko R x:=by
     unfold ko bY;have hxR:x<R.length:=by rw[<-HN.out];exact hx
     rw[jy,dD hxR];simp[HP.out]
    have qG:pi∈L.map (ko R):=by rw[hpi];exact dY.2 ⟨x,hxL,rfl⟩
    refine(adq (some (ah g 0)) (L.map (ko R)) L.length c pi W (by simp) amS (by omega) qG).mono ?_;rintro e w' ⟨⟨i',he,hi',OC⟩,rfl⟩;rw[fZ,hpi]at OC;have sG:i'<L.length:=by simpa using hi'
    have hLR:∀y∈L,y<R.length:=fun y hy=>HW.out.lt (by rw[hL]at hy;exact(bQ.1 hy).1);have hxx:L[i']=x:=by
     have h1:=hLR _ (bW sG);have hxR:x<R.length:=by rw[<-HN.out];exact hx
     unfold ko bY at OC;rw[jy,jy,dD h1,dD hxR]at OC;simp only[fV]at OC;by_cases e:L[i']=x
     .exact e
     .exfalso;have hid:=dG.1 HW.out.ids;rcases Nat.lt_or_gt_of_ne e with h9|h9
      .exact iq.1 hid _ _ h1 hxR h9 OC
      .exact iq.1 hid _ _ hxR h1 h9 OC.symm
    have at6:i'=i:=by
     by_cases e:i'=i
     .exact e
     .exfalso;rcases Nat.lt_or_gt_of_ne e with h9|h9
      .exact iq.1 hLn i' i sG MM h9 (by rw[hxx,hix])
      .exact iq.1 hLn i i' MM sG h9 (by rw[hxx,hix])
    subst at6;exact⟨he,aM _ _⟩
   have NW:Hid (∀W,Below wr.heap.size wr W->aO 95 #[ay fb] W fun e w'=>e=.returned (ag ((2*n-2:Nat):Int))/\w'=W):=fun W qJ=>by
    have hf:=vD.out.iT.blk;have hfW:=(qJ.block fb (bn.1 hf).1).trans hf;rw[<-HN.out]at hfW;exact jV fb n vE (by omega) W (by simp[World.cell?,hfW]) (by simp[World.cell?,hfW])
   have Gw:=ae (And.intro egl eg1);have HNl:Hid (NN=(aZ n).length/\(aZ R.length).length=NN):=⟨hNN,by rw[hNl,hNN]⟩;clear ha ML YN hwt adt adu hL adv hLn hout PG hk hpd hix hxL hT0 hkm hblk mK su hXr hPr at1 at5 hNN hNl gU xI egl eg1 hwT hlT hhT
   go_upto_region 13 with fail
   have k1:=aj qn;have k2:=aj qp;have amT:Hid (∀p:bg wr,aO 196 #[aD g L.length c,aJ pi] p.W fun e w'=>e=.returned (ag i)/\Below p.W.heap.size p.W w'):=fun p=>CIX.out p.W p.h;refine cO (by kernel_rfl) (by kernel_rfl) ?_
   repeat(quiet_step ((go_at_call 196;exact eO (amT.out _))))
   refine mG ?_;intro w6 hw';have jR:Below wr.heap.size wr w6:=by obtain⟨p,rfl⟩:=hw';exact p.h
   have EC:=ae jR;have at7:tb<wr.heap.size:=iD wr _ q3;have q3':=(jR.cell (p:=(ah tb 3)) at7).trans q3;clear hw' k1 k2 amT jR CIX q3 q5 qn qp qk;obtain⟨kb,hkb⟩:∃kb,kb=decide (j=0):=⟨_,rfl⟩;have kb1:((k:Int)==((2*n-2:Nat):Int))=kb:=by
    rw[hkb,wY,beq_iff_eq,bZ,<-MJ];omega
   have kb2:(k==2*n-2)=kb:=by
    rw[hkb,wY,beq_iff_eq,bZ,<-MJ]
   have Ob:=ae hkb;clear hkb MJ
   go_wp2_with fail
   refine(NW.out w6 EC.out).mono ?_;rintro e w' ⟨rfl,JE⟩;subst w'
   go_upto_if 95 with fail
   have HM6:Hid (gY w6 lo hi tb fb R (gone.set x true) m yy nc lc V):=vD.out.below EC.out vD.out.fo.2.2.2.2;have Xh:=EC.out.size;clear NW q3' kb1 kb2
   go_cut []from 73 to 175 (fun wx=>∃yv':Value,Hid (gY wx lo hi tb fb R (gone.set x true) m (dW YS x) nc lc {V with yv:=yv'})/\Hid (aC (fun k=>lo<=k/\k<hi) w6 wx))
   case first=>
    cases kb with
    |false=>
     have hj0:0<j:=by
      have h:=Ob.out;by_cases e:j=0
      .simp[e]at h
      .omega
     have e1:=HYY.out;rw[aR hj0]at e1;have H9:Hid (gY w6 lo hi tb fb R (gone.set x true) m (dW YS x) nc lc {V with yv:=V.yv}):=by
      have h:=HM6.out;rw[e1]at h;exact h
     clear e1;go_wp2;go_meet;exact⟨V.yv,H9.out,aC.refl _ _⟩
    |true=>
     have hj0:j=0:=by
      have h:=Ob.out;simpa using h.symm
     have e1:=HYY.out;rw[aP (by omega)]at e1;have hLY:L=YS:=by
      obtain⟨f1,f2,f3,f4,f5,f6,f7,f8,f9,f10,f11,f12,f13,f14⟩:=vW.out;have hk2:k=2*n-2:=by
       obtain⟨Q,hQ⟩:=FT.uV (dO 0 n) 0 x;rw[mh vE]at hQ;have hPQ:P=(2*n-2)::Q:=by rw[HPD.out,hQ]
       rw[f11];simp only[hj0,hPQ,wM]
      obtain⟨ht,-⟩:=FT.At.unique f1 (kH n vE) (by rw[f2,hk2,mh vE]);rw[f6,ht,HN.out];exact HW.out.top (by rw[<-HN.out];exact vE)
     have hyr:=HM6.out.ys;rw[e1]at hyr;obtain⟨gy,cy,ey,_,_⟩:=bf hyr (by omega);rw[ey]at hyr;have YO:(jL R YS).length=YS.length:=by simp[jL]
     have hiY:i<YS.length:=by rw[<-hLY];exact MM
     have amU:YS[i]'hiY=x:=by
      obtain⟨f1,f2,f3,f4,f5,f6,f7,f8,f9,f10,f11,f12,f13,f14,f15⟩:=vW.out;subst hLY;exact f15
     have hYE:YS.eraseIdx i=dW YS x:=erase_filter HW.out.nodup hiY amU;have CDY:=PV (l:=jL R YS) (i:=i) (by rw[YO];exact hyr) (by rw[YO];exact hiY);rw[YO]at CDY;have CDY:=ae CDY;have adw:=HM6.out.blk;have q6:w6.cell? (ah tb 6)=some (aD gy YS.length cy):=by simp[World.cell?,adw];rw[ey]
     have aub:tb≠gy:=fun h=>bH hyr adw (by decide) gy rfl h;have HEY:=ae ey;have HYE:=ae hYE;have HE1:=ae e1;have ayg:tb<w6.heap.size:=(bn.1 adw).1;have auc:lo<=gy/\gy<hi:=⟨(hyr.lt gy rfl).1,HM6.out.top V.yv (by simp) gy (by rw[ey];rfl)⟩;clear hyr adw hLY hYE e1 ey amU hj0
     go_wp2_with (go_at_call 197;refine CDY.out.mono ?_;rintro e w7 ⟨rfl,hr7,hk7⟩;have KQ:=bL hk7 HM6.out.blk aub;have q7:w7.cell? (ah tb 6)=some (aD gy YS.length cy):=(by simp[World.cell?,KQ];rw[HEY.out]);have z7:w7.frozen? (ah tb 6)=false:=(by simp[World.frozen?,KQ]);have HR7:=ae hr7;have sw:=ae hk7;clear hr7 hk7 KQ)
     go_meet;have hr7:=HR7.out;refine⟨aD gy (YS.length-1) cy,?_,?_⟩
     .have h:=HM6.out;rw[HE1.out]at h;refine gY.amN h HEY.out sw.out (yy':=dW YS x) ?_;have e2:(jL R YS).eraseIdx i=jL R (dW YS x):=by
       rw[<-HYE.out];unfold jL;rw[pR]
      have e3:(dW YS x).length=YS.length-1:=by rw[<-HYE.out,Du,aR hiY]
      rw[e2]at hr7;rw[e3];exact hr7
     .exact(sw.out.mono (fun k h=>by subst h;exact auc)).set (a:=(ah tb 6)) _ (.inl ⟨rQ.1,rQ.2.1⟩)
   case rest=>
    obtain⟨yv',Ht,sw⟩:=hcut;have hNk:k<(aZ R.length).length:=by have:=HNl.out;omega
    have su:=Ht.out.Lt k hNk;obtain⟨f1,f2,f3,f4,f5,f6,f7,f8,f9,f10,f11,f12,f13,f14,f15⟩:=vW.out;rw[f7]at su;have su:wc.ownsRow lo 27 1 (V.LN k) L.length ((L.map (ko R)).map (Value.int .u32)):=su;rw[Gw.out.2]at su;have mK:dw wc lo gl (aZ R.length).length cl V.LN V.LL:=by have h:=Ht.out.Jl;have h:World.ownsRow _ _ _ _ V.lv _ _:=h;rw[Gw.out.1]at h;exact h
    have qn:wc.cell? ⟨gl,k*2,none⟩=some (.slice (some ⟨g,0,none⟩) L.length c):=(mK.get hNk).1.trans (congrArg some Gw.out.2);have auf:gl≠g:=fun h=>bK mK su (by decide) gl rfl (by rw[h];rfl);have YP:(L.map (ko R)).length=L.length:=by simp
    have CDN:=PT (l:=L.map (ko R)) (i:=i) (by rw[YP];exact su) (by rw[YP];exact MM);rw[YP]at CDN;have CDN:=ae CDN;have hgb:lo<=g/\g<hi:=⟨(su.lt g rfl).1,(Ht.out.qz k hNk).1 g (by show(V.LN k).ownBlock=some g;rw[Gw.out.2];rfl)⟩;have amW:lo<=gl/\gl<hi:=⟨(mK.lt gl rfl).1,Ht.out.top V.lv (by simp) gl (by rw[Gw.out.1];rfl)⟩;have aug:gl<wc.heap.size:=(mK.lt gl rfl).2;have zn:=mK.frozenAt (k*2);clear f1 f2 f3 f4 f5 f6 f7 f8 f9 f10 f11 f12 f13 f15 su mK
    go_upto_region 17 with(go_at_call 198;refine CDN.out.mono ?_;rintro e w8 ⟨rfl,hr8,Yy⟩;obtain⟨ck8,fk8⟩:=di Yy aug auf;have q8:=(ck8 (k*2)).trans qn;have z8:=(fk8 (k*2)).trans zn;have Yz:=ae hr8;have Hu:=ae Yy;clear hr8 Yy ck8 fk8)
    obtain⟨w9,Cw⟩:∃w9,w9=w8.setCell (ah gl (k*2)) (aD g (L.length-1) c):=⟨_,rfl⟩;have hLE:(L.eraseIdx i).length=L.length-1:=by rw[Du,aR MM]
    have UH:Hid (gY w9 lo hi tb fb R (gone.set x true) m (dW YS x) (oM nc k (L.eraseIdx i)) lc {V with yv:=yv',LN:=upd V.LN k (aD g (L.length-1) c)}):=by
     rw[Cw];refine gY.ahS Ht.out hNk Gw.out.2 Gw.out.1 Hu.out (L':=L.eraseIdx i) ?_;have h:=Yz.out;rw[pR]at h;rw[hLE];exact h
    have JP:Hid (aC (fun k=>lo<=k/\k<hi) w5 w9):=by
     rw[Cw];exact((((Wo.out.below EC.out).trans sw.out).trans (Hu.out.mono (fun k h=>by subst h;exact hgb))).set (a:=(ah gl (k*2))) _ (.inl amW))
    rw[<-Cw];clear Cw q8 z8 Yz Hu Ht sw qn zn CDN;have amX:=UH.out.blk;have MN:=UH.out.jG;have MN:w9.ownsRow lo 163 7 V.nv (aZ R.length).length ((aZ R.length).flatMap qo):=MN;obtain⟨gn,cn,en,_,_⟩:=bf MN (by omega);obtain⟨_,_,ee,-,-,hrn⟩:=dU.aL jO (by decide) MN;rw[en]at ee;injection ee with ee1 ee2 ee3;rw[<-ee1,<-HN.out]at hrn;clear ee1 ee2 ee3;have q4:w9.cell? (ah tb 4)=some (aD gn NN cn):=by
     simp[World.cell?,amX];rw[en,<-HNl.out.2]
    obtain⟨atJ,n0,n1,n2,n3,n4,n5,n6⟩:=nW hrn (by have h:=vW.out.1.get;rw[vW.out.2.1]at h;exact h);rw[lu]at n0;have amY:∀k',k'<(aZ R.length).length->oM nc k (L.eraseIdx i) k'=oz n (nz YS x (P.take (j+1)) k') k':=fun k' Bo=>by
     obtain⟨f1,f2,f3,f4,f5,f6,f7,f8,f9,f10,f11,f12,f13,f14,f15⟩:=vW.out;have qG:k'∈P.take (j+1)↔k'∈P.take j\/k'=k:=by rw[fG Wp,<-f11];simp
     by_cases e:k'=k
     .subst e;rw[j3,nz,aR (qG.2 (.inr rfl)),oz,<-f2,nN f1,f9]
     .rw[zx e,HNC.out k' Bo];unfold nz;by_cases e2:k'∈P.take j
      .rw[aR e2,aR (qG.2 (.inl e2))]
      .rw[aP e2,aP (fun h=>(qG.1 h).elim e2 e)]
    have amZ:=ae amY;have afj:∀k',k'≠k->∀v,lc k'=zy n (nz YS x (P.take j) k') k'->oM lc k v k'=zy n (nz YS x (P.take (j+1)) k') k':=fun k' e v h=>by
     obtain⟨f1,f2,f3,f4,f5,f6,f7,f8,f9,f10,f11,f12,f13,f14,f15⟩:=vW.out;have qG:k'∈P.take (j+1)↔k'∈P.take j\/k'=k:=by rw[fG Wp,<-f11];simp
     rw[zx e,h];unfold nz;by_cases e2:k'∈P.take j
     .rw[aR e2,aR (qG.2 (.inl e2))]
     .rw[aP e2,aP (fun h=>(qG.1 h).elim e2 e)]
    have afk:=ae afj;clear amY afj hrn MN amX en n1 n2 n3 n4 n5 n6;have am0:dW YS x=if 0<j+1 then dW YS x else YS:=by rw[aR (by omega)]
    have am1:=ae am0;clear am0;cases ht:t with
    |leaf q=>
     rw[ht]at n0;simp only[FT.top]at n0;have HT:=ae ht;clear ht;have hkL:oM lc k (lc k)=lc:=by
      funext k';unfold oM;split
      .rename_i e;rw[e]
      .rfl
     have HKL:=ae hkL;clear hkL;go_wp2
     go_roundg (P.length-(j+1))
     case measure=>omega
     case rel=>
      refine⟨j+1,dW YS x,_,lc,_,by go_num,by omega,aG _,UH,am1.out,amZ.out,?_,JP⟩;intro l r s' ha';have hne:(FT.node l r).root s'≠k:=fun e=>by
       have h1:=vW.out.1;rw[HT.out,HN.out]at h1;have:=(FT.At.unique ha' h1 (by rw[e,<-vW.out.2.1,HT.out])).1;cases this
      have h9:=afk.out _ hne (lc k) (HLC.out l r s' ha');rw[HKL.out]at h9;exact h9
    |node l r=>
     rw[ht]at n0;simp only[FT.top]at n0;have HT:=ae ht;clear ht;obtain⟨M,hM⟩:∃M,M=l.hi:=⟨_,rfl⟩;have haR:FT.At (aZ R.length) (.node l r) s:=by rw[<-HN.out,<-HT.out];exact vW.out.1
     have hkR:(FT.node l r).root s=k:=by rw[<-HT.out];exact vW.out.2.1
     have Qe:L=nl YS (.node l r):=by rw[<-HT.out];exact vW.out.2.2.2.2.2.1
     have ahZ:lc k=lf M L:=by
      rw[<-hkR,HLC.out l r s haR,hkR,nz,aP vW.out.2.2.2.2.2.2.2.2.2.1];have h9:=Dl (n:=n) (by rw[HN.out];exact haR) YS;rw[hkR]at h9;rw[h9,hM,<-Qe]
     have Gx:w9.ownsRow lo 3 1 (V.LL k) (lc k).length ((lc k).map (Value.int .i64)):=by have h9:=UH.out.Em l r s haR;rw[hkR]at h9;exact h9
     rw[ahZ]at Gx;have JW:=ui M L;obtain⟨gL,cL,eL,_,_⟩:=bf Gx (by omega);rw[eL]at Gx;have hix:=vW.out.2.2.2.2.2.2.2.2.2.2.2.2.2;have MO:dw w9 lo gl (aZ R.length).length cl (upd V.LN k (aD g (L.length-1) c)) V.LL:=by have h:=UH.out.Jl;have h:World.ownsRow _ _ _ _ V.lv _ _:=h;rw[Gw.out.1]at h;exact h
     have ql:w9.cell? ⟨gl,k*2+1,none⟩=some (.slice (some ⟨gL,0,none⟩) (L.length+1) cL):=by
      exact(MO.get hNk).2.trans (congrArg some (eL.trans (by rw[JW])))
     have qa:=Gx.cellAt (i+1) (by omega);have qb:=Gx.cellAt i (by omega);rw[iO,dD (show i+1<(lf M L).length by omega)]at qa;rw[iO,dD (show i<(lf M L).length by omega)]at qb;simp only[aU]at qa qb;obtain⟨va,hva⟩:∃va,va=(lf M L)[i+1]'(by omega):=⟨_,rfl⟩;obtain⟨vb,yJ⟩:∃vb,vb=(lf M L)[i]'(by omega):=⟨_,rfl⟩;rw[<-hva]at qa;rw[<-yJ]at qb;have am3:va-vb=if x<M then 1 else 0:=by rw[hva,yJ];exact acR MM hix.2 _ _
     have aCz:0<=va/\va<=20000/\0<=vb/\vb<=20000:=by
      have h1:=YL (m:=M) (L:=L) (hva▸bW _);have h2:=YL (m:=M) (L:=L) (yJ▸bW _);omega
     obtain⟨W,hWe⟩:∃W,W=(if x<M then(1:Int)else 0):=⟨_,rfl⟩;rw[<-hWe]at am3;have aCA:0<=W/\W<=1:=by rw[hWe];split<;>omega
     have HWE:=ae hWe;have aui:=ae ahZ;have CDL:=JN (l:=lf M L) (i:=i+1) (by rw[JW];rw[JW]at Gx;exact Gx) (by omega);rw[JW]at CDL;have CDL:=ae CDL;have am4:gl≠gL:=fun h=>bK MO Gx (by decide) gl rfl (by rw[h];rfl);have am5:lo<=gL/\gL<hi:=⟨(Gx.lt gL rfl).1,(UH.out.qz k hNk).2 gL (by show(V.LL k).ownBlock=some gL;rw[eL];rfl)⟩;have ahK:gl<w9.heap.size:=(MO.lt gl rfl).2;have zl:=MO.frozenAt (k*2+1);have HEL:=ae eL;have HHR:=ae (And.intro haR hkR);have Ey:=ae (And.intro hM Qe);have aCC:i+1<L.length+1:=by omega
     clear Gx MO hva yJ hWe ahZ eL haR hkR hM Qe JW hix
     go_upto_region 18 with fail
     go_quiet (fail)
     have ql':(w9.drewN nq).cell? (ah gl (k*2+1))=some (aD gL (L.length+1) cL):=ql;have am6:Hid (∀q,aO 199 #[aD gL (L.length+1) cL,ag (i+1:Nat),ag (i+1+1:Nat)] (w9.drewN q) fun e w'=>e=.returned (aD gL L.length cL)/\w'.ownsRow lo 3 1 (aD gL L.length cL) L.length (((lf M L).eraseIdx (i+1)).map (Value.int .i64))/\aC (fun k=>k=gL) w9 w'):=fun q=>by
      have JW:=ui M L;have h9:=UH.out.Em l r s HHR.out.1;rw[HHR.out.2]at h9;have h9:w9.ownsRow lo 3 1 (V.LL k) (lc k).length ((lc k).map (Value.int .i64)):=h9;rw[aui.out,HEL.out,JW]at h9;have h8:=JN (w:=w9.drewN q) (l:=lf M L) (i:=i+1) (by rw[JW];exact h9) (by omega);rw[JW]at h8;refine h8.mono ?_;rintro e w' ⟨h1,h2,h3⟩;exact⟨h1,h2,((aC.refl (fun k=>k=gL) w9).below (Below.bP w9.heap.size q)).trans h3⟩
     clear CDL
     go_upto_region 20 with(go_at_call 199;refine(am6.out _).mono ?_;rintro e sH ⟨rfl,am7,ah1⟩;obtain⟨am8,am9⟩:=di ah1 ahK am4;have q10:=(am8 (k*2+1)).trans ql;have z10:=(am9 (k*2+1)).trans zl;have adx:=ae am7;have Fj:=ae ah1;clear am7 ah1 am8 am9)
     have hLx:∃h:i<L.length,L[i]=x:=vW.out.2.2.2.2.2.2.2.2.2.2.2.2.2;obtain⟨w11,ady⟩:∃w11,w11=sH.setCell (ah gl (k*2+1)) (aD gL L.length cL):=⟨_,rfl⟩;have hlE:=ve (m:=M) MM;have auj:Hid (gY w11 lo hi tb fb R (gone.set x true) m (dW YS x) (oM nc k (L.eraseIdx i)) (oM lc k (Ct M L i (i+1))) {V with yv:=yv',LN:=upd V.LN k (aD g (L.length-1) c),LL:=upd V.LL k (aD gL L.length cL)}):=by
      rw[ady];refine gY.ahT UH.out HHR.out.1 HHR.out.2 HEL.out Gw.out.1 Fj.out (L':=Ct M L i (i+1)) ?_;rw[Uh MM,hlE];exact adx.out
     have auk:Hid (aC (fun k=>lo<=k/\k<hi) w5 w11):=by
      rw[ady];exact(JP.out.trans (Fj.out.mono (fun k h=>by subst h;exact am5))).set (a:=(ah gl (k*2+1))) _ (.inl amW)
     rw[<-ady];clear ady q10 z10 adx Fj UH JP ql ql' qa qb zl am6 q4 n0 ahK
     go_wp2_with fail
     go_loopg [14] L.length (fun kx s14 wr=>∃jj:Nat,s14=.int .i64 jj/\i+1<=jj/\jj<=L.length/\L.length-jj<=kx/\Hid (gY wr lo hi tb fb R (gone.set x true) m (dW YS x) (oM nc k (L.eraseIdx i)) (oM lc k (Ct M L i jj)) {V with yv:=yv',LN:=upd V.LN k (aD g (L.length-1) c),LL:=upd V.LL k (aD gL L.length cL)})/\Hid (aC (fun k=>lo<=k/\k<hi) w5 wr))
     case atStart=>exact⟨i+1,rfl,aG _,by omega,by omega,auj,auk⟩
     case round=>
      obtain⟨jj,rfl,oV,hjL,atr,HMI,HKI⟩:=hrel;have mK:dw wr lo gl (aZ R.length).length cl (upd V.LN k (aD g (L.length-1) c)) (upd V.LL k (aD gL L.length cL)):=by have h:=HMI.out.Jl;have h:World.ownsRow _ _ _ _ V.lv _ _:=h;rw[Gw.out.1]at h;exact h
      have ql:=(mK.get hNk).2;rw[upd_same]at ql;have Mg:wr.ownsRow lo 3 1 (aD gL L.length cL) L.length ((Ct M L i jj).map (Value.int .i64)):=by
       have h:=HMI.out.Em l r s HHR.out.1;rw[HHR.out.2,j3]at h;have h:wr.ownsRow lo 3 1 (upd V.LL k (aD gL L.length cL) k) (Ct M L i jj).length ((Ct M L i jj).map (Value.int .i64)):=h;rw[upd_same,rD MM hjL]at h;exact h
      clear mK;by_cases hjj:jj<L.length
      .have qv:=Mg.cellAt jj (by omega);have zv:=Mg.frozenAt jj;have hjS:jj<(Ct M L i jj).length:=by rw[rD MM (by omega)];exact hjj
       rw[iO,dD hjS]at qv;simp only[aU]at qv;have zA:=ahW (m:=M) MM hjj;obtain⟨y,hy⟩:∃y,y=(Ct M L i jj)[jj]'hjS:=⟨_,rfl⟩;rw[<-hy]at qv zA;have hstep:(Ct M L i jj).set jj (y-W)=Ct M L i (jj+1):=by
        rw[hy,HWE.out];exact XP MM hLx.2 (by omega) hjj
       have hby:0<=y/\y<=20000:=by omega
       have HY:Hid (gY (wr.setCell (ah gL jj) (.int .i64 (y-W))) lo hi tb fb R (gone.set x true) m (dW YS x) (oM nc k (L.eraseIdx i)) (oM lc k (Ct M L i (jj+1))) {V with yv:=yv',LN:=upd V.LN k (aD g (L.length-1) c),LL:=upd V.LL k (aD gL L.length cL)}):=by
        have h:=gY.ahU HMI.out HHR.out.1 HHR.out.2 (c:=cL) (g:=gL) (by rw[j3,rD MM hjL];exact upd_same _ _ _) (j:=jj) (y-W);rw[j3,UK,hstep]at h;exact h
       have HKY:Hid (aC (fun k=>lo<=k/\k<hi) w5 (wr.setCell (ah gL jj) (.int .i64 (y-W)))):=HKI.out.set (a:=(ah gL jj)) _ (.inl am5);clear hy hstep Mg zA;go_wp2
       go_roundg (L.length-(jj+1))
       case measure=>omega
       case rel=>exact⟨jj+1,by go_num,by omega,by omega,aG _,HY,HKY⟩
      .obtain rfl:jj=L.length:=by omega
       clear Mg;go_wp2
       go_roundg (P.length-(j+1))
       case measure=>omega
       case rel=>
        refine⟨j+1,dW YS x,_,_,_,by go_num,by omega,aG _,HMI,am1.out,amZ.out,?_,HKI⟩;intro l' r' s' ha';by_cases e:(FT.node l' r').root s'=k
        .obtain⟨f1,f2,f3,f4,f5,f6,f7,f8,f9,f10,f11,f12,f13,f14⟩:=vW.out;have qG:k∈P.take (j+1):=by rw[fG Wp,<-f11];simp
         have h9:=Dl (n:=n) (by rw[HN.out];exact HHR.out.1) (dW YS x);rw[HHR.out.2]at h9;rw[e,j3,XO MM,nz,aR qG,h9,Ey.out.1];rw[HT.out]at f9;rw[f9]
        .exact afk.out _ e _ (HLC.out l' r' s' ha')
  .obtain rfl:j=P.length:=by omega
   have hbase:=Wo.out.size;go_wp2;go_ret;have e1:=HYY.out;have hP0:0<P.length:=by
    rw[HPD.out];obtain⟨Q,hQ⟩:=FT.uV (dO 0 n) 0 x;rw[hQ];simp
   rw[aR hP0]at e1;subst e1;have h2:=vD.out;rw[HMX.out]at h2;refine⟨rfl,V,h2.toAt (fun k hk=>?_) (fun l r s ha=>?_),mo.out.trans Wo.out⟩
   .rw[HNC.out k hk,mW,<-HN.out,HPD.out];exact(Fh hx YS (by rw[HN.out];exact hk)).1
   .rw[HLC.out l r s ha,mW,<-HN.out,HPD.out];exact(Fh hx YS (by rw[HN.out];exact ha.lt)).2
end Go.Proofs.YtkjdbndekceffaaGreat
namespace Go.Proofs.YtkjdbndekceffaaGreat
open Go.RowKit Go.Sort Go.Shelf Go.Lib Go.Maps
def iB (w:World) (lo hi tb n0:Nat) (l:List Pt):Prop:=
 ∃fb R gone YS V,jZ w lo hi tb fb R gone YS V/\dm R gone YS/\uB R YS l/\R.length=n0/\n0<=20000
section
variable {w w':World} {lo hi tb n0:Nat} {l:List Pt}
theorem iB.kept {S:Nat->Prop} (h:iB w lo hi tb n0 l) (K:aC S w w') (hS:∀k,lo<=k->k<hi->¬S k):iB w' lo hi tb n0 l:=by
 obtain⟨fb,R,gone,YS,V,h1,h2⟩:=h;exact⟨fb,R,gone,YS,V,h1.kept K hS,h2⟩
theorem iB.below {B:Nat} (h:iB w lo hi tb n0 l) (hb:Below B w w') (hB:hi<=B):iB w' lo hi tb n0 l:=by
 obtain⟨fb,R,gone,YS,V,h1,h2⟩:=h;exact⟨fb,R,gone,YS,V,h1.below hb hB,h2⟩
theorem iB.gZ (h:iB w lo hi tb n0 l):hi<=w.heap.size:=by
 obtain⟨fb,R,gone,YS,V,h1,h2⟩:=h;exact h1.fo.2.2.2.2
theorem Qg (a:Option Addr) (c:Nat) (l:List Pt) (w:World) (hl:dU fH 3 w a l) (hn:l.length<=20000) (hw:Mm l) (hu:Eg l=true):
  aO 35 #[.slice a l.length c] w fun e w'=>∃tb,e=.returned (.tuple #[ay tb,ag 0])/\iB w' w.heap.size w'.heap.size tb l.length l/\Below w.heap.size w w':=
 (PX a c l w hl hn hw hu).mono fun e w' ⟨tb,fb,V,he,h1,h2⟩=>by
  have hu':(ids l).Nodup:=by unfold Eg at hu;simpa using hu
  have hs:=jd hu';have hid:(ids (gM l)).Nodup:=((eZ l).map _).nodup_iff.2 hu';have yo:=pz hs hid;have hlen:(gM l).length=l.length:=(eZ l).length_eq;refine⟨tb,he,⟨fb,_,_,_,V,h1,yo,BV hu' _ (fun i=>?_),hlen,by omega⟩,h2⟩;rw[yo.live,sS];split<;>simp_all
theorem JX (h:iB w lo hi tb n0 l) (x1 x2 y1 y2 bi:Int):
  aO 39 #[ay tb,.agg #[ag x1,ag x2,ag y1,ag y2,aJ bi]] w fun e w'=>∃v,∃c:Nat,e=.returned (.tuple #[v,ag ((c+(hasB l x1 x2 y1 y2).length:Nat):Int)])/\c<=8*Lib.bitLen n0+1/\w'.ownsRow w.heap.size 27 1 v (hasB l x1 x2 y1 y2).length ((hasB l x1 x2 y1 y2).map (Value.int .u32))/\Below w.heap.size w w':=by
 obtain⟨fb,R,gone,YS,V,h1,h2,h3,h4,h5⟩:=h;refine(Mj h1 h2 (by omega) x1 x2 y1 y2 bi).mono ?_;rintro e w' ⟨v,he,hr,hb⟩;obtain⟨e1,e2⟩:=Pz h2 h3 x1 x2 y1 y2;have e3:(mJ R YS x1 x2 y1 y2).1.length=(hasB l x1 x2 y1 y2).length:=by
  rw[e2];unfold hasB;rw[jK];simp[ids]
 rw[e1,e3]at hr;rw[e3]at he;exact⟨v,_,he,h4▸Ui h2 (by omega) x1 x2 y1 y2,hr,hb⟩
theorem YQ (x1 x2 y1 y2:Int):(hasB l x1 x2 y1 y2).length=(l.filter (Px x1 x2 y1 y2)).length:=by unfold hasB;rw[jK];simp[ids]
end
end Go.Proofs.YtkjdbndekceffaaGreat
namespace Go.Proofs.YtkjdbndekceffaaGreat
open Go.RowKit Go.ChangeShapes Go.WideShapes Go.Deep
theorem adz {α:Type} [Inhabited α] (n:Nat) (p:Nat->α->Prop) (h:∀i,i<n->∃x,p i x):∃l:List α,l.length=n/\∀i (h:i<l.length),p i l[i]:=by
 have h2:∀i,∃x,i<n->p i x:=fun i=>by
  by_cases hi:i<n
  .obtain⟨x,hx⟩:=h i hi;exact⟨x,fun _=>hx⟩
  .exact⟨default,fun h=>absurd h hi⟩
 refine⟨(List.range n).map fun i=>Classical.choose (h2 i),by simp,fun i hi=>?_⟩;have hi':i<n:=by simpa using hi
 simpa using Classical.choose_spec (h2 i) hi'
abbrev Bx:=Int×Int×Int×Int×Int
abbrev vBx (p:Bx):Value:=.agg #[ag p.1,ag p.2.1,ag p.2.2.1,ag p.2.2.2.1,aJ p.2.2.2.2]
abbrev Bx.wf (p:Bx):Prop:=(Lit.int .i64 p.1).wf=true/\(Lit.int .i64 p.2.1).wf=true/\(Lit.int .i64 p.2.2.1).wf=true/\(Lit.int .i64 p.2.2.2.1).wf=true/\(Lit.int .u32 p.2.2.2.2).wf=true
theorem ah3 {α:Type} {cs:Array α} (h:cs.size=5):∃c0 c1 c2 c3 c4,cs=#[c0,c1,c2,c3,c4]:=by
 obtain⟨l⟩:=cs
 match l,h with
 |[c0,c1,c2,c3,c4],_=>exact⟨c0,c1,c2,c3,c4,rfl⟩
section
variable {H:Type} {enc:TypeId×Value->H} {P:Program} {w:World} {base:Nat} {spare:Nat->Bool} {held:Bool}
theorem MP {r:Reach} {b0:Nat} {t:TypeId} {fs:Array Field} {v:Value} {d:DataW H} {p:List MemPlace} (hs:P.underlying t=some (.struct fs)) (YR:oneCellFields P fs=true) (hC:P.cellsOf t=fs.size)
  (hv:Value.okWide P w r b0 t v) (h:DataW.Trod enc P w base spare held t v d p):
  ∃cs:Array Value,v=.agg cs/\cs.size=fs.size/\∃n,∀(i:Nat) (f:Field),fs[i]? =some f->∃(u:Value) (y:DataW H×List MemPlace),cs[i]? =some u/\DataW.trod enc P w base spare held n f.type [u]=some y:=by
 obtain⟨cs,rfl,hsz⟩:=okWide_struct hs hv;obtain⟨fuel,hf⟩:=h;obtain⟨xs,n,_,_,hl,hlen,hf⟩:=DataW.trod_struct hs hf;refine⟨cs,rfl,hsz.trans hC,n,fun i f hi=>?_⟩;obtain⟨ho,hk⟩:=hone_of YR i f hi;have kE:i<fs.size:=(bn.1 hi).1;have h1:=hf i f hi;have hcs:i<cs.size:=by omega
 rw[ho,hk]at h1;have e1:((Value.agg cs).cells.toList.drop i).take 1=[cs[i]]:=by
  show(cs.toList.drop i).take 1=_;rw[nP (by simpa using hcs)];simp
 rw[e1]at h1;have hx:xs[i]? =some (xs[i]'(by omega)):=dD (by omega);exact⟨cs[i],_,by simp[hcs],h1.trans hx⟩
end
theorem YT {H:Type} {enc:TypeId×Value->H} {w:World} {base:Nat} {spare:Nat->Bool} {held:Bool} {r:Reach} {b0:Nat} {v:Value} {d:DataW H} {ps:List MemPlace} (hval:Value.okWide Tryz.prog w r b0 38 v) (hd:DataW.Trod enc Tryz.prog w base spare held 38 v d ps):
  ∃p:Bx,v=vBx p/\p.wf:=by
 obtain⟨cs,rfl,hsz,n,hf⟩:=MP Tryz.underlying38 (by kernel_rfl) (by kernel_rfl) hval hd;obtain⟨c0,c1,c2,c3,c4,rfl⟩:=ah3 (hsz.trans rfl);obtain⟨u0,y0,z0,t0⟩:=hf 0 _ rfl;obtain rfl:c0=u0:=by simpa using z0
 obtain⟨q0,e0,_,g0⟩:=tT tN t0;simp at e0;subst e0;obtain⟨u1,y1,z1,t1⟩:=hf 1 _ rfl;obtain rfl:c1=u1:=by simpa using z1
 obtain⟨q1,e1,_,g1⟩:=tT tN t1;simp at e1;subst e1;obtain⟨u2,y2,z2,t2⟩:=hf 2 _ rfl;obtain rfl:c2=u2:=by simpa using z2
 obtain⟨q2,e2,_,g2⟩:=tT tN t2;simp at e2;subst e2;obtain⟨u3,y3,z3,t3⟩:=hf 3 _ rfl;obtain rfl:c3=u3:=by simpa using z3
 obtain⟨q3,e3,_,g3⟩:=tT tN t3;simp at e3;subst e3;obtain⟨u4,y4,z4,t4⟩:=hf 4 _ rfl;obtain rfl:c4=u4:=by simpa using z4
 obtain⟨q4,e4,_,g4⟩:=tT lh t4;simp at e4;subst e4;exact⟨(q0,q1,q2,q3,q4),rfl,g0,g1,g2,g3,g4⟩
end Go.Proofs.YtkjdbndekceffaaGreat
namespace Go.Proofs.YtkjdbndekceffaaGreat
open Go.RowKit
def RQ (p:Bx):Obj:=.cells #[ag p.1,ag p.2.1,ag p.2.2.1,ag p.2.2.2.1,aJ p.2.2.2.2] 38 (0,0)
theorem eP {W:World} {b:Nat} {p:Bx} (h:W.heap[b]? =some (RQ p)):W.cell? (ah b 0)=some (ag p.1)/\W.cell? (ah b 1)=some (ag p.2.1)/\W.cell? (ah b 2)=some (ag p.2.2.1)/\W.cell? (ah b 3)=some (ag p.2.2.2.1)/\W.cell? (ah b 4)=some (aJ p.2.2.2.2):=by simp[World.cell?,h,RQ]
def Cy (p:Pt):Obj:=.cells #[ag p.1,ag p.2.1,aJ p.2.2] 29 (0,0)
theorem jq {W:World} {b:Nat} {p:Pt} (h:W.heap[b]? =some (Cy p)):W.cell? (ah b 0)=some (ag p.1)/\W.cell? (ah b 1)=some (ag p.2.1)/\W.cell? (ah b 2)=some (aJ p.2.2):=by simp[World.cell?,h,Cy]
end Go.Proofs.YtkjdbndekceffaaGreat
namespace Go.Proofs.YtkjdbndekceffaaGreat
open Go.RowKit
attribute [local irreducible] wpQuiet
theorem YU:eQ Tryz.prog 22 29 3 24:=.mk' (z:=.agg #[ag 0,ag 0,aJ 0]) DI (by kernel_rfl) rfl (by decide)
end Go.Proofs.YtkjdbndekceffaaGreat
namespace Go.Proofs.YtkjdbndekceffaaGreat
open Go Go.RowKit
abbrev JY:Int:=-9223372036854775808
abbrev RS:Int:=9223372036854775807
def wfL (l:List Pt):Prop:=∀p∈l,(Lit.int .i64 p.1).wf=true/\(Lit.int .i64 p.2.1).wf=true/\(Lit.int .u32 p.2.2).wf=true
theorem ana {x:Int} (h:(Lit.int .i64 x).wf=true):JY<=x/\x<=RS:=by
 simp[Lit.wf,IntKind.min,IntKind.max,IntKind.signed,IntKind.bits]at h;exact h
def Fp (l:List Pt) (f:Pt->Bool):List Int:=gu (ids (l.filter f))
theorem Qh {l:List Pt} {f g:Pt->Bool} (h:∀p∈l,f p=g p):Fp l f=Fp l g:=by
 unfold Fp;rw[pJ h]
theorem YV:gu []=[]:=jw (jK [])
def onN (n x:Int) (up:Bool):Bool:=if up then decide (x<=n)else decide (n<=x)
def Fq (x y:Int) (wx wy:Bool) (p:Pt):Bool:=onN p.1 x wx&&onN p.2.1 y wy
def bx1 (x:Int) (up:Bool):Int:=if up then x else JY
def Hw (x:Int) (up:Bool):Int:=if up then RS else x
theorem ah5 {p:Pt} (h1:(Lit.int .i64 p.1).wf=true) (h2:(Lit.int .i64 p.2.1).wf=true) (x y:Int) (wx wy:Bool):Px (bx1 x wx) (Hw x wx) (bx1 y wy) (Hw y wy) p=Fq x y wx wy p:=by
 have a:=ana h1;have b:=ana h2;unfold JY RS at a b;cases wx<;>cases wy<;>simp only[Px,Fq,onN,bx1,Hw,JY,RS,gV,jU,rY,<-Bool.decide_and]<;>refine wW.2 ?_<;>omega
theorem YW {l:List Pt} (hl:wfL l) (x y:Int) (wx wy:Bool):hasB l (bx1 x wx) (Hw x wx) (bx1 y wy) (Hw y wy)=Fp l (Fq x y wx wy):=
 Qh fun p hp=>ah5 (hl p hp).1 (hl p hp).2.1 x y wx wy
end Go.Proofs.YtkjdbndekceffaaGreat
namespace Go.Proofs.YtkjdbndekceffaaGreat
open Go.RowKit Go.Maps
attribute [local irreducible] wpQuiet
theorem anb (x:Int) (up:Bool) (w:World):
  aO 173 #[ag x,.bool up] w fun e w'=>e=.returned (.tuple #[ag (bx1 x up),ag (Hw x up)])/\w'=w:=by
 cases up
 all_goals
  go_enter Tryz.func173,Tryz.ntmps173;go_wp2;go_ret2;exact⟨rfl,rfl⟩
theorem adA (x y:Int) (wx wy:Bool) (way:Int) (xO:way=(if wx then 1 else 0)+(if wy then 2 else 0)) (w:World):
  aO 107 #[ag x,ag y,.int .u8 way] w fun e w'=>e=.returned (.agg #[ag (bx1 x wx),ag (Hw x wx),ag (bx1 y wy),ag (Hw y wy),aJ 0])/\w'=(w.alloc (.cells #[ag (bx1 x wx),ag (Hw x wx),ag (bx1 y wy),ag (Hw y wy),aJ 0] 38)).alloc (.cells #[ag (bx1 x wx),ag (Hw x wx),ag (bx1 y wy),ag (Hw y wy),aJ 0] 38):=by
 have C:=ae (fun x up w=>anb x up w);cases wx<;>cases wy<;>simp only[gV,jU,rY,Int.add_zero,Int.zero_add,Int.reduceAdd]at xO<;>subst xO
 all_goals
  go_enter Tryz.func107,Tryz.ntmps107
  go_wp2_with (go_at_call 173;refine(C.out _ _ _).mono ?_;rintro e w1 ⟨rfl,rfl⟩)
  (try simp only[Exit.inBlock,Exit.then])
  refine ng (results_cell_row rfl _ _ w.heap.size _ _ _ _ rfl (OM _ _ _) Tryz.underlying38 rfl (by kernel_rfl)) rfl ?_
  first
   |exact⟨rfl,rfl⟩
   |(simp only[show(bits .and .u8 0 1==1)=false by decide,show(bits .and .u8 0 2==2)=false by decide,show(bits .and .u8 1 1==1)=true by decide,show(bits .and .u8 1 2==2)=false by decide,show(bits .and .u8 2 1==1)=false by decide,show(bits .and .u8 2 2==2)=true by decide,show(bits .and .u8 3 1==1)=true by decide,show(bits .and .u8 3 2==2)=true by decide];exact⟨rfl,rfl⟩)
theorem ah6 (x y:Int) (wx wy:Bool) (way:Int) (xO:way=(if wx then 1 else 0)+(if wy then 2 else 0)) (w:World):
  aO 107 #[ag x,ag y,.int .u8 way] w (iX w (.agg #[ag (bx1 x wx),ag (Hw x wx),ag (bx1 y wy),ag (Hw y wy),aJ 0])):=
 (adA x y wx wy way xO w).mono fun e w' ⟨h1,h2⟩=>⟨h1,by rw[h2];exact((aM _ _).alloc (aG _) _).alloc (by simp) _⟩
theorem MQ (w:World):
  aO 106 #[.pointer none] w fun e w'=>e=.returned (.bool true)/\w'=w:=by
 go_enter Tryz.func106,Tryz.ntmps106;go_wp2;go_ret;exact⟨rfl,rfl⟩
theorem JZ (cb:Nat) (tb:Nat) (w:World) (h:w.cell? (ah cb 0)=some (ay tb)):
  aO 106 #[ay cb] w fun e w'=>e=.returned (.bool false)/\w'=w:=by
 go_enter Tryz.func106,Tryz.ntmps106;go_wp2;go_ret;exact⟨rfl,rfl⟩
end Go.Proofs.YtkjdbndekceffaaGreat
namespace Go.Proofs.YtkjdbndekceffaaGreat
open Go.RowKit Go.Maps
attribute [local irreducible] wpQuiet
attribute [local go_sem] Oper.fM
theorem YX:∀args w,(callFunc 107 args).run Tryz.prog w=.ok (.enter 107 args) w:=dF Tryz.func107 (by kernel_rfl) rfl
theorem MR:∀args w,(callFunc 39 args).run Tryz.prog w=.ok (.enter 39 args) w:=dF Tryz.func39 (by kernel_rfl) rfl
theorem UL:∀args w,(callFunc 106 args).run Tryz.prog w=.ok (.enter 106 args) w:=dF Tryz.func106 (by kernel_rfl) rfl
section
variable {w:World} {cb tb:Nat}
theorem UM {R:World->Value->Value->World->Prop} (qL:cb<w.heap.size) (hc:w.cell? (ah cb 0)=some (ay tb)) (x y:Int) (wx wy:Bool) (way:Int) (xO:way=(if wx then 1 else 0)+(if wy then 2 else 0))
  (C:∀W,Below w.heap.size w W->aO 39 #[ay tb,.agg #[ag (bx1 x wx),ag (Hw x wx),ag (bx1 y wy),ag (Hw y wy),aJ 0]] W fun e W'=>∃v c,e=.returned (.tuple #[v,c])/\Below W.heap.size W W'/\R W v c W'):
  aO 40 #[ay cb,ag x,ag y,.int .u8 way] w fun e w'=>∃v c,e=.returned (.tuple #[v,c])/\∃W,Below w.heap.size w W/\R W v c w':=by
 have CN:=ae (JZ cb tb w hc);have CX:=ae (fun W=>ah6 x y wx wy way xO W);have CC:=ae C;have d3:decide (3<way)=false:=by simp only[iE];cases wx<;>cases wy<;>simp at xO<;>omega
 have d3':decide (way>3)=false:=d3;have HCL:=ae qL;clear C xO;generalize bx1 x wx=a1 at*;generalize Hw x wx=a2 at*;generalize bx1 y wy=a3 at*;generalize Hw y wy=a4 at*;go_enter Tryz.func40,Tryz.ntmps40
 go_wp2_with fail
 refine CN.out.mono ?_;rintro e w1 ⟨rfl,rfl⟩
 go_wp2_with fail
 have gC:∀p:bg w1,p.W.cell? (ah cb 0)=some (ay tb):=aj hc;refine aF (fun W=>∃p:bg w1,W=p.W) [8,9,10,11,12] [(0,false),(1,false),(2,false),(3,true),(4,false),(5,false),(6,false)] (by kernel_rfl) (by kernel_rfl) (fun _ _ d _ _ h=>by cases d<;>exact h) ⟨⟨_,(aM _ _).drew⟩,rfl⟩ 6 rfl (by kernel_rfl) ?_;simp only[bG,bz,bA,bu,aS,aT,aU]
 repeat(refine aI (fun K hK=>?_);go_simp;first|(refine hK _ ?_;clear hK K)|(apply Exists.intro;refine⟨fun _=>?_,hK _ ?_⟩;rfl;clear hK K))
 refine aQ ?_;refine az [7] (by kernel_rfl) (by simp) ?_;refine ak.cons rfl (fun K hK=>?_) ak.nil;refine bD YX rfl _ _ rfl (vals:=#[ag x,ag y,.int .u8 way]) rfl (CX.out _) ?_;rintro e w2 ⟨rfl,hb2⟩;have B2:Below w1.heap.size w1 w2:=(aM _ _).drew.trans hb2;refine⟨_,rfl,?_⟩;refine hK _ _ (fun _ _=>⟨⟨_,B2⟩,rfl⟩) ?_;clear hK K;have CY:=ae (CC.out w2 B2);clear CC hb2 gC;refine az [8] (by kernel_rfl) (by simp) ?_;refine ak.cons rfl (fun K hK=>?_) ak.nil;refine bD MR rfl _ _ rfl (vals:=#[ay tb,.agg #[ag a1,ag a2,ag a3,ag a4,aJ 0]]) rfl CY.out ?_;rintro e w3 ⟨v,c,rfl,hb3,hR⟩;have B3:=B2.trans (hb3.mono B2.size);have HR:=ae hR;have fP:=ae B2;clear hR B2 hb3;refine⟨_,rfl,?_⟩;refine hK _ _ (fun _ _=>⟨⟨_,B3⟩,rfl⟩) ?_;clear hK K;refine cK [(9,false),(10,false)] (by kernel_rfl) (fun _ _ d _ _ h=>by cases d<;>exact h) ⟨⟨_,B3⟩,rfl⟩ (by kernel_rfl) (by kernel_rfl) rfl ?_;simp only[bG,bz,bA,bu,aS,aT,aU]
 repeat(refine aI (fun K hK=>?_);go_simp;first|(refine hK _ ?_;clear hK K)|(apply Exists.intro;refine⟨fun _=>?_,hK _ ?_⟩;rfl;clear hK K))
 refine aQ ?_;refine aK [11,12] _ _ _ (by kernel_rfl) ?_;simp only[pick,bz,bA,bu,aS,aT]
 go_wp2_with fail
 go_ret2;exact⟨v,c,rfl,w2,fP.out,HR.out⟩
theorem J2 {w:World} (p:Option Addr) (hp:p=none\/∃cb tb,p=some (ah cb 0)/\w.cell? (ah cb 0)=some (ay tb)) (x y way:Int) (hw:p=none\/3<way):
  aO 40 #[.pointer p,ag x,ag y,.int .u8 way] w fun e w'=>e=.returned (.tuple #[aN,ag 0])/\w'=w:=by
 rcases hp with rfl|⟨cb,tb,rfl,hc⟩
 .have CN:=ae (MQ w);go_enter Tryz.func40,Tryz.ntmps40
  go_wp2_with (go_at_call 106;refine CN.out.mono ?_;rintro e w1 ⟨rfl,rfl⟩)
  go_ret2;exact⟨rfl,rfl⟩
 .have CN:=ae (JZ cb tb w hc);have d3:decide (3<way)=true:=by rcases hw with h|h;cases h;simpa using h
  have d3':decide (way>3)=true:=d3;clear hw;go_enter Tryz.func40,Tryz.ntmps40
  go_wp2_with (go_at_call 106;refine CN.out.mono ?_;rintro e w1 ⟨rfl,rfl⟩)
  go_ret2;exact⟨rfl,rfl⟩
end
section
variable {w:World} {cb tb:Nat}
theorem adB {R:World->Bool->World->Prop} (qL:cb<w.heap.size) (hc:w.cell? (ah cb 0)=some (ay tb)) (px py pi:Int)
  (C:∀W,Below w.heap.size w W->aO 128 #[ay tb,ku px py pi] W fun e W'=>∃b,e=.returned (.bool b)/\R W b W'):
  aO 125 #[ay cb,ku px py pi] w fun e w'=>∃b,e=.returned (.bool b)/\∃W,Below w.heap.size w W/\R W b w':=by
 have CC:=ae C;clear C;go_enter Tryz.func125,Tryz.ntmps125
 go_wp2_with fail
 obtain⟨w1,fJ⟩:∃w1,w1=w.alloc (.cells #[ag px,ag py,aJ pi] 29):=⟨_,rfl⟩;have hx1:w1.heap[w.heap.size]? =some (.cells #[ag px,ag py,aJ pi] 29 (0,0)):=by rw[fJ];exact dE _ _
 have B1:Below w.heap.size w w1:=by rw[fJ];exact(aM _ _).alloc (aG _) _
 rw[<-fJ];clear fJ;have hc1:w1.cell? (ah cb 0)=some (ay tb):=(B1.cell (p:=(ah cb 0)) qL).trans hc;have CN:=ae (JZ cb tb w1.drew hc1);have g0:=aj hc1;have g1:=aj (show w1.cell? (ah w.heap.size 0)=some (ag px) by simp[World.cell?,hx1]);have g2:=aj (show w1.cell? (ah w.heap.size 1)=some (ag py) by simp[World.cell?,hx1]);have g3:=aj (show w1.cell? (ah w.heap.size 2)=some (aJ pi) by simp[World.cell?,hx1]);have CY:=ae (CC.out w1.drew B1.drew);have fK:=ae (show Below w.heap.size w w1.drew from B1.drew);clear CC hx1 B1 hc1;refine aF (fun W=>∃p:bg w1,W=p.W) [9,10,11] [(0,false)] (by kernel_rfl) (by kernel_rfl) (fun _ _ d _ _ h=>by cases d<;>exact h) ⟨⟨_,(aM _ _).drew⟩,rfl⟩ 11 rfl (by kernel_rfl) ?_;simp only[bG,bz,bA,bu,aS,aT,aU]
 repeat(refine aI (fun K hK=>?_);go_simp;first|(refine hK _ ?_;clear hK K)|(apply Exists.intro;refine⟨fun _=>?_,hK _ ?_⟩;rfl;clear hK K))
 refine aQ ?_;refine az [1] (by kernel_rfl) (by simp) ?_;refine ak.cons rfl (fun K hK=>?_) ak.nil;refine bD UL rfl _ _ rfl (vals:=#[ay cb]) rfl CN.out ?_;rintro e w2 ⟨rfl,rfl⟩;refine⟨_,rfl,?_⟩;refine hK _ _ (fun _ _=>⟨⟨_,(aM _ _).drew⟩,rfl⟩) ?_;clear hK K;refine cK [(2,false),(3,false),(4,false),(5,false),(6,false),(7,true),(8,true)] (by kernel_rfl) (fun _ _ d _ _ h=>by cases d<;>exact h) ⟨⟨_,(aM _ _).drew⟩,rfl⟩ (by kernel_rfl) (by kernel_rfl) rfl ?_;simp only[bG,bz,bA,bu,aS,aT,aU]
 repeat(refine aI (fun K hK=>?_);go_simp;first|(refine hK _ ?_;clear hK K)|(apply Exists.intro;refine⟨fun _=>?_,hK _ ?_⟩;rfl;clear hK K))
 refine aQ ?_;refine aK [9,10,11] _ _ _ (by kernel_rfl) ?_;simp only[pick,bz,bA,bu,aS,aT]
 go_wp2_with fail
 refine CY.out.mono ?_;rintro e w3 ⟨b,rfl,hR⟩;have HR:=ae hR;clear hR
 go_wp2_with fail
 go_ret;exact⟨b,rfl,_,fK.out,HR.out⟩
theorem YY {a:Option Addr} {n c:Nat} {R:Nat->World->Prop} (C:aO 35 #[.slice a n c] w fun e W'=>∃tb,e=.returned (.tuple #[ay tb,ag 0])/\Below w.heap.size w W'/\R tb W'):
  aO 36 #[.slice a n c] w fun e w'=>∃tb W,e=.returned (.tuple #[ay W.heap.size,ag 0])/\R tb W/\Below w.heap.size w W/\w'=W.alloc (.cells #[ay tb] 153):=by
 have CC:=ae C;clear C;go_enter Tryz.func36,Tryz.ntmps36
 go_wp2_with (go_at_call 35;refine CC.out.mono ?_;rintro e w1 ⟨tb,rfl,hb1,hR⟩;have HR:=ae hR;clear hR)
 go_ret2;exact⟨tb,w1,rfl,HR.out,hb1,rfl⟩
end
end Go.Proofs.YtkjdbndekceffaaGreat
namespace Go.Proofs.YtkjdbndekceffaaGreat
open Go.RowKit Go.Sort Go.Shelf Go.Lib Go.Maps
def oC (w:World) (lo hi cb n0:Nat) (l:List Pt):Prop:=
 ∃tb h2,iB w lo h2 tb n0 l/\h2<=cb/\cb<hi/\hi<=w.heap.size/\w.heap[cb]? =some (.cells #[ay tb] 153 (0,0))
section
variable {w w':World} {lo hi cb n0:Nat} {l:List Pt}
theorem iB.Qi {w:World} {lo hi tb n0:Nat} {l:List Pt} (h:iB w lo hi tb n0 l):l.length<=n0/\n0<=20000:=by
 obtain⟨fb,R,gone,YS,V,h1,h2,h3,h4,h5⟩:=h;have:=h2.acS;have:=h3.len h2;omega
theorem iB.lo_le {w:World} {lo hi tb n0:Nat} {l:List Pt} (h:iB w lo hi tb n0 l):lo<=hi:=by
 obtain⟨fb,R,gone,YS,V,h1,h2⟩:=h;have:=h1.fo;omega
theorem oC.kept {S:Nat->Prop} (h:oC w lo hi cb n0 l) (K:aC S w w') (hS:∀k,lo<=k->k<hi->¬S k):oC w' lo hi cb n0 l:=by
 obtain⟨tb,h2,hT,h3,h4,h5,h6⟩:=h;have:=hT.lo_le;exact⟨tb,h2,hT.kept K (fun k h7 h8=>hS k h7 (by omega)),h3,h4,bO h5 K.size,(K.block cb (by omega) (hS cb (by omega) h4)).trans h6⟩
theorem oC.below {B:Nat} (h:oC w lo hi cb n0 l) (hb:Below B w w') (hB:hi<=B):oC w' lo hi cb n0 l:=by
 obtain⟨tb,h2,hT,h3,h4,h5,h6⟩:=h;exact⟨tb,h2,hT.below hb (by omega),h3,h4,bO h5 hb.size,(hb.block cb (by omega)).trans h6⟩
theorem oC.gZ (h:oC w lo hi cb n0 l):hi<=w.heap.size:=by
 obtain⟨tb,h2,hT,h3,h4,h5,h6⟩:=h;exact h5
theorem Fs {w:World} {cb tb:Nat} (h:w.heap[cb]? =some (.cells #[ay tb] 153 (0,0))):w.cell? (ah cb 0)=some (ay tb):=by simp[World.cell?,h]
theorem RU (a:Option Addr) (c:Nat) (l:List Pt) (w:World) (hl:dU fH 3 w a l) (hn:l.length<=20000) (hw:Mm l) (hu:Eg l=true):
  aO 36 #[.slice a l.length c] w fun e w'=>∃cb,e=.returned (.tuple #[ay cb,ag 0])/\oC w' w.heap.size w'.heap.size cb l.length l/\Below w.heap.size w w':=by
 refine(YY (R:=fun tb W=>iB W w.heap.size W.heap.size tb l.length l) ((Qg a c l w hl hn hw hu).mono fun e w1 ⟨tb,he,hT,hb⟩=>⟨tb,he,hb,hT⟩)).mono ?_;rintro e w' ⟨tb,W,rfl,hT,hb,rfl⟩;have b1:Below W.heap.size W (W.alloc (.cells #[ay tb] 153)):=(aM _ _).alloc (aG _) _;exact⟨_,rfl,⟨tb,W.heap.size,hT.below b1 (aG _),aG _,by simp,aG _,dE _ _⟩,hb.trans (b1.mono hb.size)⟩
theorem YZ (h:oC w lo hi cb n0 l) (hl:wfL l) (x y:Int) (wx wy:Bool) (way:Int) (xO:way=(if wx then 1 else 0)+(if wy then 2 else 0)):
  aO 40 #[ay cb,ag x,ag y,.int .u8 way] w fun e w'=>∃v,∃c:Nat,e=.returned (.tuple #[v,ag ((c+(Fp l (Fq x y wx wy)).length:Nat):Int)])/\c<=8*Lib.bitLen n0+1/\w'.ownsRow w.heap.size 27 1 v (Fp l (Fq x y wx wy)).length ((Fp l (Fq x y wx wy)).map (Value.int .u32))/\Below w.heap.size w w':=by
 obtain⟨tb,h2,hT,h3,h4,h5,h6⟩:=h;refine(UM (R:=fun W v q w'=>∃c:Nat,q=.int .i64 ((c+(Fp l (Fq x y wx wy)).length:Nat):Int)/\c<=8*Lib.bitLen n0+1/\w'.ownsRow W.heap.size 27 1 v (Fp l (Fq x y wx wy)).length ((Fp l (Fq x y wx wy)).map (Value.int .u32))/\Below W.heap.size W w') (by omega) (Fs h6) x y wx wy way xO ?_).mono ?_
 .intro W hb;refine(JX (hT.below hb (by omega)) (bx1 x wx) (Hw x wx) (bx1 y wy) (Hw y wy) 0).mono ?_;rintro e w' ⟨v,c,rfl,hc,hr,hb2⟩;rw[YW hl]at*;exact⟨v,_,rfl,hb2,c,rfl,hc,hr,hb2⟩
 .rintro e w' ⟨v,q,rfl,W,hb,c,rfl,hc,hr,hb2⟩;exact⟨v,c,rfl,hc,bR hr hb.size,hb.trans (hb2.mono hb.size)⟩
theorem MS (h:oC w lo hi cb n0 l) (x y way:Int) (hw:3<way):
  aO 40 #[ay cb,ag x,ag y,.int .u8 way] w fun e w'=>e=.returned (.tuple #[aN,ag 0])/\w'=w:=by
 obtain⟨tb,h2,hT,h3,h4,h5,h6⟩:=h;exact J2 _ (.inr ⟨cb,tb,rfl,Fs h6⟩) x y way (.inr hw)
end
end Go.Proofs.YtkjdbndekceffaaGreat
namespace Go.Proofs
open Go.Shelf
def Tryz.J3:Go.Shelf.Ren:=⟨fun|6=>98|15=>86|14=>167|28=>160|29=>161|20=>242|21=>243|22=>244|23=>245|24=>246|25=>247|26=>248|27=>249|46=>296|47=>286|48=>287|49=>297|50=>298|57=>322|n=>n,fun|22=>148|24=>3|25=>157|3=>3|39=>135|0=>0|53=>27|55=>229|4=>4|46=>308|45=>307|50=>30|5=>5|9=>9|66=>364|70=>368|76=>391|77=>60|n=>n,fun|n=>n⟩
theorem Tryz.MU:Go.Proofs.SlLaysF.n6 Tryz.prog Tryz.J3:={
 mixed:=by kernel_rfl
 f6:=⟨Tryz.f98.name,by decide,Tryz.func98.trans (congrArg some (by kernel_rfl))⟩
 f14:=⟨Tryz.f167.name,by decide,Tryz.func167.trans (congrArg some (by kernel_rfl))⟩
 f15:=Tryz.func86.trans (congrArg some (by kernel_rfl))
 f20:=⟨Tryz.f242.name,by decide,Tryz.func242.trans (congrArg some (by kernel_rfl))⟩
 f21:=⟨Tryz.f243.name,by decide,Tryz.func243.trans (congrArg some (by kernel_rfl))⟩
 f22:=⟨Tryz.f244.name,by decide,Tryz.func244.trans (congrArg some (by kernel_rfl))⟩
 f23:=⟨Tryz.f245.name,by decide,Tryz.func245.trans (congrArg some (by kernel_rfl))⟩
 f24:=⟨Tryz.f246.name,by decide,Tryz.func246.trans (congrArg some (by kernel_rfl))⟩
 f25:=⟨Tryz.f247.name,by decide,Tryz.func247.trans (congrArg some (by kernel_rfl))⟩
 f26:=⟨Tryz.f248.name,by decide,Tryz.func248.trans (congrArg some (by kernel_rfl))⟩
 f27:=⟨Tryz.f249.name,by decide,Tryz.func249.trans (congrArg some (by kernel_rfl))⟩
 f28:=Tryz.func160.trans (congrArg some (by kernel_rfl))
 f29:=Tryz.func161.trans (congrArg some (by kernel_rfl))
 f46:=⟨Tryz.f296.name,by decide,Tryz.func296.trans (congrArg some (by kernel_rfl))⟩
 f47:=Tryz.func286.trans (congrArg some (by kernel_rfl))
 f48:=Tryz.func287.trans (congrArg some (by kernel_rfl))
 f49:=⟨Tryz.f297.name,by decide,Tryz.func297.trans (congrArg some (by kernel_rfl))⟩
 f50:=⟨Tryz.f298.name,by decide,Tryz.func298.trans (congrArg some (by kernel_rfl))⟩
 f57:=⟨Tryz.f322.name,by decide,Tryz.func322.trans (congrArg some (by kernel_rfl))⟩
 t0:=Ae
 a0:=Tryz.isAgg0
 z0:=Aq
 v0:=Ag
 t3:=nQ
 a3:=qY
 z3:=qV
 v3:=pK
 t4:=qP
 a4:=xw
 z4:=xh
 v4:=wX
 t5:=Ac
 a5:=Tryz.isAgg5
 z5:=Tryz.sizeOf5
 v5:=Tryz.zeroValue5
 t9:=Tryz.underlying9
 a9:=Tryz.isAgg9
 z9:=Tryz.sizeOf9
 v9:=Tryz.zeroValue9
 t22:=zT
 a22:=Tryz.isAgg148
 z22:=Tryz.sizeOf148
 v22:=Tryz.zeroValue148
 a24:=qY
 z24:=qV
 t25:=Tryz.underlying157
 a25:=Tryz.isAgg157
 z25:=Tryz.sizeOf157
 v25:=Tryz.zeroValue157
 t39:=Dx
 a39:=Tryz.isAgg135
 z39:=DW
 v39:=DJ
 t45:=Tryz.underlying307
 a45:=Tryz.isAgg307
 z45:=Tryz.sizeOf307
 v45:=Tryz.zeroValue307
 t46:=Tryz.underlying308
 a46:=Tryz.isAgg308
 z46:=Tryz.sizeOf308
 v46:=Tryz.zeroValue308
 t50:=Tryz.underlying30
 a50:=Tryz.isAgg30
 z50:=Tryz.sizeOf30
 v50:=Tryz.zeroValue30
 t53:=lh
 a53:=Ap
 z53:=Ak
 v53:=Ad
 t55:=Dy
 a55:=Tryz.isAgg229
 z55:=DY
 v55:=DK
 t66:=Tryz.underlying364
 a66:=Tryz.isAgg364
 z66:=Tryz.sizeOf364
 v66:=Tryz.zeroValue364
 t70:=Tryz.underlying368
 a70:=Tryz.isAgg368
 z70:=Tryz.sizeOf368
 v70:=Tryz.zeroValue368
 t76:=Tryz.underlying391
 a76:=Tryz.isAgg391
 z76:=Tryz.sizeOf391
 v76:=Tryz.zeroValue391
 t77:=Tryz.underlying60
 a77:=Tryz.isAgg60
 z77:=Tryz.sizeOf60
 v77:=Tryz.zeroValue60}
end Go.Proofs
