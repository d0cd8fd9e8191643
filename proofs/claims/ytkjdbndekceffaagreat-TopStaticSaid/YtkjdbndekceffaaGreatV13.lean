/- A part of the proof; its text was made small by a program (no remarks, short names). -/
import Derived.Test.YtkjdbndekceffaaGreatV00
import Derived.Test.YtkjdbndekceffaaGreatV12
import Derived.Test.YtkjdbndekceffaaGreatV07
import Derived.Test.YtkjdbndekceffaaGreatV11
import Derived.Test.YtkjdbndekceffaaGreatV05
import Derived.Test.YtkjdbndekceffaaGreatV01
import Derived.Test.YtkjdbndekceffaaGreatV03
import Derived.Test.YtkjdbndekceffaaGreatV09
set_option linter.unusedSimpArgs false
set_option linter.unusedVariables false
set_option maxRecDepth 100000
set_option maxHeartbeats 16000000
namespace Go.Proofs.YtkjdbndekceffaaGreat
open Go.RowKit Go.Sort Go.Shelf Go.Lib Go.Maps
attribute [local irreducible] wpQuiet
abbrev Ve (rv xv:Value) (fb:Nat) (nv hv:Value) (n:Int):Obj:=.cells #[rv,xv,ay fb,nv,hv,ag n] 161 (0,0)
structure dM (w:World) (lo hi tb fb:Nat) (R:List Pt) (h:iU) (cnt:Int) (V:oF):Prop where
 blk:w.heap[tb]? =some (Ve V.rv V.xv fb V.nv V.hv cnt)
 fo:lo<=tb/\tb<hi/\lo<=fb/\fb<hi/\hi<=w.heap.size
 row:w.ownsRow lo 29 3 V.rv R.length (R.flatMap fH)
 xs:w.ownsRow lo 2 1 V.xv R.length ((bX R).map (Value.int .i64))
 iT:o8 w lo fb R.length V.fv
 jG:w.ownsRow lo 163 7 V.nv (aZ R.length).length ((aZ R.length).flatMap qo)
 pU:w.ownsRow lo 3 1 V.hv (aZ R.length).length (Og h (aZ R.length).length)
 top:∀v,v=V.rv\/v=V.xv\/v=V.nv\/v=V.hv\/v=V.fv->∀g,v.ownBlock=some g->g<hi
section
variable {w w':World} {lo hi tb fb:Nat} {R:List Pt} {h:iU} {cnt:Int} {V:oF}
theorem dM.congr {h':iU} (H:dM w lo hi tb fb R h cnt V) (e:∀k,k<(aZ R.length).length->h' k=h k):dM w lo hi tb fb R h' cnt V:=
 ⟨H.blk,H.fo,H.row,H.xs,H.iT,H.jG,by rw[UY e];exact H.pU,H.top⟩
theorem dM.kept {S:Nat->Prop} (H:dM w lo hi tb fb R h cnt V) (K:aC S w w') (hS:∀k,lo<=k->k<hi->¬S k):dM w' lo hi tb fb R h cnt V:=by
 have ht:=H.top;have hr:∀{e:TypeId} {sz:Nat} {v:Value} {n:Nat} {xs:List Value},w.ownsRow lo e sz v n xs->(∀g,v.ownBlock=some g->g<hi)->w'.ownsRow lo e sz v n xs:=fun hr hv=>aY hr K fun g e=>hS g (hr.lt g e).1 (hv g e);exact⟨bL K H.blk (hS tb H.fo.1 H.fo.2.1),⟨H.fo.1,H.fo.2.1,H.fo.2.2.1,H.fo.2.2.2.1,bO H.fo.2.2.2.2 K.size⟩,
  hr H.row (ht _ (by simp)),hr H.xs (ht _ (by simp)),
  ⟨bL K H.iT.blk (hS fb H.fo.2.2.1 H.fo.2.2.2.1),hr H.iT.row (ht _ (by simp))⟩,hr H.jG (ht _ (by simp)),hr H.pU (ht _ (by simp)),H.top⟩
theorem dM.below {B:Nat} (H:dM w lo hi tb fb R h cnt V) (hb:Below B w w') (hB:hi<=B):dM w' lo hi tb fb R h cnt V:=
 H.kept (S:=fun k=>hi<=k) ⟨hb.os,hb.tape,hb.output,hb.size,fun k hk hn=>hb.block k (by omega)⟩ fun k h1 h2 h3=>by omega
theorem dM.KZ (H:dM w lo hi tb fb R h cnt V):tb<w.heap.size:=bJ H.fo.2.1 H.fo.2.2.2.2
theorem dM.nodes (H:dM w lo hi tb fb R h cnt V) (h0:0<R.length):∃g off c,V.nv=.slice (some (ah g off)) (aZ R.length).length c/\dU qo 7 w (some (ah g off)) (aZ R.length):=by
 have hl:=dA R.length;obtain⟨g,c,e,_⟩:=bf H.jG (by omega);obtain⟨a,c',e',-,-,hr⟩:=dU.aL jO (by decide) H.jG;rw[e]at e';injection e' with e1 e2 e3;rw[<-e1]at hr;exact⟨g,0,c,e,hr⟩
theorem dM.holds (H:dM w lo hi tb fb R h cnt V) (h0:0<R.length):∃g c,V.hv=aD g (aZ R.length).length c/\lo<=g/\g<hi/\g≠tb/\g≠fb/\g<w.heap.size/\(∀k,k<(aZ R.length).length->w.cell? (ah g k)=some (ag (pV (h k)))/\w.frozen? (ah g k)=false)/\
  (∀g',V.rv.ownBlock=some g'->g'≠g)/\(∀g',V.xv.ownBlock=some g'->g'≠g)/\(∀g',V.nv.ownBlock=some g'->g'≠g)/\∀g',V.fv.ownBlock=some g'->g'≠g:=by
 have hl:=dA R.length;obtain⟨g,c,e,hlo,hg,hc1,hc2⟩:=bf H.pU (by omega);have hh:=H.pU;rw[e]at hh;have V6:(aD g (aZ R.length).length c).ownBlock=some g:=rfl;have ne:∀{e':TypeId} {sz n:Nat} {v:Value} {xs:List Value},w.ownsRow lo e' sz v n xs->e'≠3->∀g',v.ownBlock=some g'->g'≠g:=fun hr hne g' h1 h2=>bK hr hh hne g' h1 (h2▸V6);refine⟨g,c,e,(hh.lt g rfl).1,H.top V.hv (by simp) g (by rw[e];rfl),fun h9=>bH hh H.blk (by decide) g rfl h9.symm,fun h9=>bH hh H.iT.blk (by decide) g rfl h9.symm,(hh.lt g rfl).2,fun k hk=>⟨?_,hh.frozenAt k⟩,ne H.row (by decide),ne H.xs (by decide),ne H.jG (by decide),ne H.iT.row (by decide)⟩;have h1:=hh.cellAt k (by omega);rw[Si h hk]at h1;exact h1
theorem dM.pF (H:dM w lo hi tb fb R h cnt V) {g n c:Nat} (hv:V.hv=aD g n c) {k:Nat} (hk:k<(aZ R.length).length) (v:Option Nat):
  dM (w.setCell (ah g k) (.int .i64 (pV v))) lo hi tb fb R (gN h k v) cnt V:=by
 have K:aC (fun k=>k=g) w (w.setCell (ah g k) (.int .i64 (pV v))):=(aC.refl (fun k=>k=g) w).set (a:=(ah g k)) _ (.inl rfl);have hr:=H.pU;rw[hv]at hr;have hn:n=(aZ R.length).length:=by
  rcases hr.2 with⟨e9,-⟩|⟨g',cap,cur,e9,-⟩
  .cases e9
  .injection e9 with _ e9 _
 subst hn;obtain⟨cs,fr,hg⟩:=rP hr;have hs:=(hr.stored k (.int .i64 (pV v))).1;rw[Sj h hk v]at hs;refine⟨JR H.blk K hg (by decide),by simpa using H.fo,fu H.row K hg (by decide),fu H.xs K hg (by decide),Bl H.iT K hg (by decide) (by decide),fu H.jG K hg (by decide),?_,H.top⟩;rw[hv];exact hs
theorem dM.Fg (H:dM w lo hi tb fb R h cnt V) (m:Int):dM (w.setCell (ah tb 5) (.int .i64 m)) lo hi tb fb R h m V:=by
 have K:aC (fun k=>k=tb) w (w.setCell (ah tb 5) (.int .i64 m)):=(aC.refl (fun k=>k=tb) w).set (a:=(ah tb 5)) _ (.inl rfl);have hg:=H.blk;exact⟨dH w tb 5 _ _ _ H.blk,by simpa using H.fo,fu H.row K hg (by decide),fu H.xs K hg (by decide),Bl H.iT K hg (by decide) (by decide),fu H.jG K hg (by decide),fu H.pU K hg (by decide),H.top⟩
end
end Go.Proofs.YtkjdbndekceffaaGreat
namespace Go.Proofs.YtkjdbndekceffaaGreat
open Go.RowKit Go.Sort Go.Shelf Go.Lib Go.Maps
attribute [local irreducible] wpQuiet
attribute [local go_sem] Oper.fM
structure ZC (w:World) (tb:Nat) (R:List Pt):Prop where
 lt:tb<w.heap.size
 row:∃ra rc,w.cell? (ah tb 0)=some (.slice ra R.length rc)/\dU fH 3 w ra R
theorem ZC.below {w w':World} {tb:Nat} {R:List Pt} (H:ZC w tb R) (hb:Below w.heap.size w w'):ZC w' tb R:=by
 obtain⟨ra,rc,h1,h2⟩:=H.row;exact⟨bJ H.lt hb.size,ra,rc,(hb.cell (p:=(ah tb 0)) H.lt).trans h1,h2.below hb⟩
theorem dM.ad5 {w:World} {lo hi tb fb:Nat} {cnt:Int} {R:List Pt} {h:iU} {V:oF} (H:dM w lo hi tb fb R h cnt V):ZC w tb R:=by
 obtain⟨ra,rc,Qr,-,-,BC⟩:=dU.aL cZ (by decide) H.row;have hb':=H.blk;rw[Qr]at hb';exact⟨H.KZ,ra,rc,by simp[World.cell?,hb'],BC⟩
theorem BF {w:World} {tb:Nat} {R:List Pt} (H:ZC w tb R) (hR:R.length<=20000) (o1 o2:Option Nat) (h1:∀i,o1=some i->i<R.length) (h2:∀i,o2=some i->i<R.length):
  aO 103 #[ay tb,ag (pV o1),ag (pV o2)] w (iX w (ag (pV (lowO R o1 o2)))):=by
 obtain⟨jk,ra,rc,q0,BC⟩:=H;have HRW:=ae BC;have Sc:Hid (∀n,Below w.heap.size w (w.drewN n)):=fun n=>Below.bP _ n;clear BC;cases o1 with
 |none=>
  have e0:lowO R none o2=o2:=rfl;rw[e0];generalize pV o2=k at*;show Calls _ _ #[_,ag (-1),_] _ _;go_enter Tryz.func103,Tryz.ntmps103
  go_upto_region 1 with fail
  go_quiet (fail)
  go_wp2;go_ret;exact⟨rfl,Sc.out _⟩
 |some i=>
  have hi:=h1 i rfl;have e1:((i:Int)==-1)=false:=by first|(simp;done)|(simp;omega)
  have e2:decide ((i:Int)=-1)=false:=by first|(simp;done)|(simp;omega)
  cases o2 with
  |none=>
   have e0:lowO R (some i) none=some i:=rfl;rw[e0];show Calls _ _ #[_,ag (i:Int),ag (-1)] _ fun e w'=>e=.returned (ag (i:Int))/\_;go_enter Tryz.func103,Tryz.ntmps103
   go_upto_region 1 with fail
   go_quiet (fail)
   go_wp2;go_ret;exact⟨rfl,Sc.out _⟩
  |some j=>
   have hj:=h2 j rfl;have f1:((j:Int)==-1)=false:=by first|(simp;done)|(simp;omega)
   have f2:decide ((j:Int)=-1)=false:=by first|(simp;done)|(simp;omega)
   have f3:((j:Int)!=-1)=true:=by first|(simp;done)|(simp;omega)
   have hr:lowO R (some i) (some j)=if Gy R j i then some j else some i:=rfl;obtain⟨rb,ro,era,hrb,rH⟩:=HRW.out.get (by omega);have r0:=rH i hi 0 (by omega);have r1:=rH i hi 1 (by omega);have r2:=rH i hi 2 (by omega);have v0:=rH j hj 0 (by omega);have v1:=rH j hj 1 (by omega);have v2:=rH j hj 2 (by omega);simp only[fH,aT,aS,eG]at r0 r1 r2 v0 v1 v2;rw[<-dI hi]at r0 r1 r2;rw[<-dI hj]at v0 v1 v2;subst era;have Oc:Hid (Gy R j i=decide (pO (bY R j) (bY R i)<0)):=by
    show _=_;unfold Gy;rw[wW,rF]
   rw[Oc.out]at hr;have Co:=ae hr;obtain⟨nR,hnR⟩:∃nR,nR=R.length:=⟨_,rfl⟩;rw[<-hnR]at q0 hR hi hj;clear rH Oc h1 h2 hnR hr;generalize bY R i=p at*;generalize bY R j=q at*;have HC:=ae (fun W=>Zg q p W);generalize pO q p=od at*;obtain⟨px,py,pi⟩:=p;obtain⟨qx,qy,qi⟩:=q;simp only at r0 r1 r2 v0 v1 v2;have EG:Hid (∀b:bg w,aO 71 #[ku qx qy qi,ku px py pi] b.W fun e w'=>e=.returned (ag od)/\Below b.W.heap.size b.W w'):=fun b=>HC.out b.W;generalize lowO R (some i) (some j)=res at*;simp only[pV];have k0:=aj q0;have k1:=aj r0;have k2:=aj r1;have k3:=aj r2;have k4:=aj v0;have k5:=aj v1;have k6:=aj v2;go_enter Tryz.func103,Tryz.ntmps103
   go_upto_region 1 with fail
   refine cO (by kernel_rfl) (by kernel_rfl) ?_
   repeat(quiet_step ((go_at_call 71;exact eO (EG.out _))))
   refine mG ?_;intro w4 hw';have iY:Below w.heap.size w w4:=by obtain⟨b,rfl⟩:=hw';exact b.h
   have kJ:=ae iY;clear hw' iY k0 k1 k2 k3 k4 k5 k6;by_cases hlt:od<0
   .have d1:decide (od<0)=true:=by simp[hlt]
    have hr:=Co.out;rw[d1,aR rfl]at hr;subst hr;go_wp2;go_ret;exact⟨rfl,kJ.out⟩
   .have d1:decide (od<0)=false:=by simp[hlt]
    have hr:=Co.out;rw[d1,aP (by decide)]at hr;subst hr;go_wp2;go_ret;exact⟨rfl,kJ.out⟩
def pW (R:List Pt) (x1 x2:Int):List Nat×Nat:=
 if R.length=0\/x2<x1 then([],0)
 else if jP R x1<nk R x2 then(((dO 0 R.length).canon 0 (jP R x1) (nk R x2)).1,(aX (bX R) x1).2+(aW (bX R) x2).2+((dO 0 R.length).canon 0 (jP R x1) (nk R x2)).2)
 else([],(aX (bX R) x1).2+(aW (bX R) x2).2)
theorem ad6 {R:List Pt} {x1 x2:Int} (hc:R.length=0\/x2<x1):pW R x1 x2=([],0):=by unfold pW;rw[aR hc]
def ad7 (w:World) (r:List Nat×Nat) (e:Ending) (w':World):Prop:=
 ∃v,e=.returned (.tuple #[v,ag (r.2:Nat)])/\w'.ownsRow w.heap.size 3 1 v r.1.length (r.1.map fF)/\Below w.heap.size w w'
theorem Vf {W:World} {lo hi tb fb:Nat} {cnt:Int} {R:List Pt} {h:iU} {V:oF} (hA:dM W lo hi tb fb R h cnt V) (hR:R.length<=20000) (x1 x2:Int):
  aO 110 #[ay tb,ag x1,ag x2] W (ad7 W (pW R x1 x2)):=by
 have jk:=hA.KZ;have hb':=hA.blk;obtain⟨ra,rc,Qr⟩:=fI hA.row;obtain⟨xa,xc,exv,-,-,rx⟩:=Rd.aL hA.xs;rw[Qr,exv]at hb';have lx:(bX R).length=R.length:=by unfold bX;rw[cu]
 rw[lx]at hb';have c0:W.cell? (ah tb 0)=some (.slice ra R.length rc):=by simp[World.cell?,hb']
 have c1:W.cell? (ah tb 1)=some (.slice xa R.length xc):=by simp[World.cell?,hb']
 have c2:W.cell? (ah tb 2)=some (ay fb):=by simp[World.cell?,hb']
 by_cases hno:R.length=0\/x2<x1
 .rw[ad6 hno];have HQ:Hid (ad7 W ([],0) (.returned (.tuple #[aN,ag 0])) W):=⟨_,rfl,dL _ _ _ _,aM _ _⟩;clear hA hb' rx Qr exv c1 c2;generalize R.length=n at*;by_cases h0:n=0
  .have d0:((n:Int)==0)=true:=by simp[h0]
   have d1:(n==0)=true:=by simp[h0]
   have d2:decide (n=0)=true:=by simp[h0]
   clear h0 hno lx;go_enter Tryz.func110,Tryz.ntmps110;go_wp2;go_ret2;exact HQ.out
  .have d0:((n:Int)==0)=false:=by simp[h0]
   have d1:(n==0)=false:=by simp[h0]
   have d2:decide (n=0)=false:=by simp[h0]
   have f1:decide (x1>x2)=true:=by simp;omega
   have f2:decide (x2<x1)=true:=by simp;omega
   clear h0 hno lx;go_enter Tryz.func110,Tryz.ntmps110;go_wp2;go_ret2;exact HQ.out
 .have h0:0<R.length:=by omega
  have CX1:=ae (fun W' (hb:Below W.heap.size W W')=>JA xa (bX R) xc x1 W' (rx.below hb) (by omega));have CX2:=ae (fun W' (hb:Below W.heap.size W W')=>JB xa (bX R) xc x2 W' (rx.below hb) (by omega));have l1:=gK (fun i=>decide (x1<=(bX R).getD i 0)) (bX R).length;have l2:=gK (fun i=>decide (x2<(bX R).getD i 0)) (bX R).length;have l1':(aX (bX R) x1).2<=20000:=by unfold aX;omega
  have l2':(aW (bX R) x2).2<=20000:=by unfold aW;omega
  obtain⟨w1',w2',w3'⟩:=bT 0 R.length h0;have hTs:=fB 0 R.length h0;have hcs:=(FT.rU (jP R x1) (nk R x2) (dO 0 R.length) 0).1;have anU:=adE R x2;have CCN:Hid (jP R x1<nk R x2->∀W',Below W.heap.size W W'->aO 175 #[ay fb,ag (jP R x1),ag (nk R x2)] W' (adF W' R.length (jP R x1) (nk R x2))):=fun Od W' hb=>
   MX lo fb R.length (jP R x1) (nk R x2) V.fv (by omega) Od anU W' (hA.below hb hA.fo.2.2.2.2).iT
  have BD:Hid (pW R x1 x2=if jP R x1<nk R x2 then(((dO 0 R.length).canon 0 (jP R x1) (nk R x2)).1,(aX (bX R) x1).2+(aW (bX R) x2).2+((dO 0 R.length).canon 0 (jP R x1) (nk R x2)).2)else([],(aX (bX R) x1).2+(aW (bX R) x2).2)):=by
   show pW R x1 x2=_
   conv=>lhs;unfold pW
   rw[aP hno]
  have Ze:Hid (jP R x1=(aX (bX R) x1).1/\nk R x2=(aW (bX R) x2).1):=⟨rfl,rfl⟩;rw[<-Ze.out.1,lx]at CX1;rw[<-Ze.out.2,lx]at CX2;have f1:decide (x1>x2)=false:=by simp;omega
  have f2:decide (x2<x1)=false:=by simp;omega
  unfold adF at CCN;have ad8:((dO 0 R.length).canon 0 (jP R x1) (nk R x2)).2<=40000:=by omega
  obtain⟨dg,hdg⟩:∃dg,dg=(dO 0 R.length).canon 0 (jP R x1) (nk R x2):=⟨_,rfl⟩;rw[<-hdg]at CCN BD ad8;clear hA hb' rx Qr exv hno l1 l2 w1' w2' w3' hTs lx hdg hcs anU;generalize jP R x1=fr at*;generalize nk R x2=tu at*;generalize hr1:(aX (bX R) x1).2=r1 at*;generalize hr2:(aW (bX R) x2).2=r2 at*;generalize pW R x1 x2=ask at*;clear hr1 hr2 Ze;generalize R.length=n at*;have d0:((n:Int)==0)=false:=by simp;omega
  have d1:(n==0)=false:=by simp;omega
  have d2:decide (n=0)=false:=by simp;omega
  go_enter Tryz.func110,Tryz.ntmps110
  go_wp2_with fail
  refine(CX1.out W (aM _ _)).mono ?_;rintro e w1 ⟨rfl,hb1⟩;have c1':=(hb1.cell (p:=(ah tb 1)) jk).trans c1;have fK:=ae hb1;clear hb1
  go_wp2_with fail
  refine(CX2.out w1 fK.out).mono ?_;rintro e w2 ⟨rfl,hb2⟩;have fP:Hid (Below W.heap.size W w2):=fK.out.trans (hb2.mono fK.out.size);have c2':=(fP.out.cell (p:=(ah tb 2)) jk).trans c2;clear hb2 c1' CX1 CX2 fK c0 c1 c2;by_cases Od:fr<tu
  .have g1:decide ((tu:Int)<=(fr:Int))=false:=by simp;omega
   have g2:decide (tu<=fr)=false:=by simp;omega
   have nH:=BD.out;rw[aR Od]at nH;have Zf:=ae nH;have CC:=ae (CCN.out Od w2 fP.out);clear nH Od CCN BD
   go_wp2_with fail
   refine CC.out.mono ?_;rintro e w3 ⟨v,rfl,hown,hb3⟩;have eU:Hid (ad7 W ask (.returned (.tuple #[v,ag ((r1+r2+dg.2:Nat):Int)])) w3):=by
    rw[Zf.out];exact⟨v,rfl,bR hown fP.out.size,fP.out.trans (hb3.mono fP.out.size)⟩
   clear hown hb3 CC;go_wp2;go_ret2;exact eU.out
  .have g1:decide ((tu:Int)<=(fr:Int))=true:=by simp;omega
   have g2:decide (tu<=fr)=true:=by simp;omega
   have nH:=BD.out;rw[aP Od]at nH;have eU:Hid (ad7 W ask (.returned (.tuple #[aN,ag ((r1+r2:Nat):Int)])) w2):=by
    rw[nH];exact⟨_,rfl,dL _ _ _ _,fP.out⟩
   clear nH Od CCN BD;go_wp2;go_ret2;exact eU.out
theorem ad9 {R:List Pt} {x1 x2:Int}:∀k∈(pW R x1 x2).1,k<(aZ R.length).length:=fun k hk=>by
 unfold pW at hk;by_cases h0:R.length=0\/x2<x1
 .rw[aR h0]at hk;exact absurd hk jC
 .rw[aP h0]at hk;by_cases h1:jP R x1<nk R x2
  .rw[aR h1]at hk;exact FT.Y8 _ 0 (kH R.length (by omega)) k hk
  .rw[aP h1]at hk;exact absurd hk jC
theorem Vg {R:List Pt} (hR:R.length<=20000) (x1 x2:Int):(pW R x1 x2).1.length<=40000/\(pW R x1 x2).2<=100000:=by
 unfold pW;by_cases h0:R.length=0\/x2<x1
 .rw[aR h0];simp
 .rw[aP h0];have l1:=gK (fun i=>decide (x1<=(bX R).getD i 0)) (bX R).length;have l2:=gK (fun i=>decide (x2<(bX R).getD i 0)) (bX R).length;have lx:(bX R).length=R.length:=by unfold bX;rw[cu]
  have l1':(aX (bX R) x1).2<=20000:=by unfold aX;omega
  have l2':(aW (bX R) x2).2<=20000:=by unfold aW;omega
  have hTs:=fB 0 R.length (by omega);have hcs:=FT.rU (jP R x1) (nk R x2) (dO 0 R.length) 0;by_cases h1:jP R x1<nk R x2
  .rw[aR h1];exact⟨bO hcs.2 (by omega),by have:=hcs.1;simp only;omega⟩
  .rw[aP h1];exact⟨by simp,by show _+_<=_;omega⟩
theorem Su {R:List Pt} {gone:List Bool} {YS:List Nat} {N:List Nd} (hW:dm R gone YS) (ks:List Nat):∀i,uN R N YS ks=some i->i<R.length:=by
 intro i h;have h1:=M6 (N:=N) hW ks none (fun _=>False) (fun _ h=>h.elim) (fun _ h=>h);unfold uN at h;rw[h]at h1;rcases h1.1 with h2|h2
 .exact h2.elim
 .obtain⟨k,-,hk⟩:=IX.1 h2;exact Hz hW hk
theorem pX {P:Program} {fn:Func} {p q r:Tmp} {ty:TypeId} (h:fn.results=#[.cell p ty,.tmp q,.tmp r]) (tmps:Array Value) (w:World) (g:Nat) (t:TypeId) (cs:Array Value) (fr:Nat×Nat) (d:TypeDesc) (v2 v3:Value)
  (hp:tmps.getD p undef=ay g) (h2:tmps.getD q undef=v2) (h3:tmps.getD r undef=v3) (hg:w.heap[g]? =some (.cells cs t fr))
  (hu:P.underlying ty=some d) (hd:(match d with|.struct _|.array _ _=>true|_=>false)=true) (hi:(P.info? ty).map (·.size)=some cs.size):
  (results fn tmps).run P w=.ok (.tuple #[.agg cs,v2,v3]) w:=by
 have KU:tmps[p]?.getD undef=ay g:=by simpa using hp
 have Jo:tmps[q]?.getD undef=v2:=by simpa using h2
 have h3':tmps[r]?.getD undef=v3:=by simpa using h3
 simp[results,h,KU,Jo,h3',asAddr,run_loadVar_row w g t ty cs fr d hg hu hd hi]
theorem QI {w:World} {lo hi tb fb:Nat} {cnt:Int} {R:List Pt} {gone:List Bool} {YS:List Nat} {V:oF} (hA:dM w lo hi tb fb R (lT (aZ R.length) YS) cnt V) (hW:dm R gone YS) (hR:R.length<=20000) (x1 x2:Int):
  aO 42 #[ay tb,ag x1,ag x2] w fun e w'=>(∃p:Pt,p=((uN R (aZ R.length) YS (pW R x1 x2).1).map (bY R)).getD (0,0,0)/\e=.returned (.tuple #[ku p.1 p.2.1 p.2.2,.bool (uN R (aZ R.length) YS (pW R x1 x2).1).isSome,ag ((pW R x1 x2).2:Nat)]))/\Below w.heap.size w w':=by
 obtain⟨OY,anW⟩:=Vg hR x1 x2;have Jy:=ae (ad9 (R:=R) (x1:=x1) (x2:=x2));have CC:=ae (fun W (hb:Below w.heap.size w W)=>Vf (hA.below hb hA.fo.2.2.2.2) hR x1 x2);obtain⟨ask,nH⟩:∃ask,ask=pW R x1 x2:=⟨_,rfl⟩;rw[<-nH]at CC Jy OY anW |-;clear nH;obtain⟨ks,jF⟩:=ask;simp only at OY anW Jy |-;have HA:=ae hA;have HW:=ae hW;have jk:=hA.KZ;obtain⟨w1,fJ⟩:∃w1,w1=w.alloc (.cells #[ag 0,ag 0,aJ 0] 29):=⟨_,rfl⟩;have hb1:Below w.heap.size w w1:=by rw[fJ];exact(aM _ _).alloc (aG _) _
 have hx1:w1.heap[w.heap.size]? =some (Cy (0,0,0)):=by rw[fJ];exact dE w _
 have fK:=ae hb1;have Jt:=ae hx1;have EW:=ae fJ;clear fJ hb1 hx1 hA hW;go_enter Tryz.func42,Tryz.ntmps42
 go_upto_region 1 with fail
 rw[<-EW.out];clear EW
 go_wp2_with fail
 refine(CC.out w1 fK.out).mono ?_;rintro e w2 ⟨v,rfl,hown,hb2⟩;have fP:=ae (fK.out.trans (hb2.mono fK.out.size));have ym:w.heap.size<w1.heap.size:=(bn.1 Jt.out).1;have Gg:=ae ((hb2.block w.heap.size ym).trans Jt.out);have xN:w.heap.size<w2.heap.size:=(bn.1 Gg.out).1;obtain⟨ka,kc,rfl,-,-,Dg⟩:=Rd.aL (enc:=fF) hown;have HKR:=ae Dg;clear hown Dg hb2 CC fK Jt;go_wp2
 go_loopw [11,23] (fun bv jv wr=>∃j:Nat,jv=.int .i64 j/\j<=ks.length/\bv=.int .i64 (pV (uN R (aZ R.length) YS (ks.take j)))/\Hid (Below w2.heap.size w2 wr)) (fun _ jv _=>ks.length-(intOf jv).toNat)
 case atStart=>exact⟨0,rfl,bC _,rfl,ae (aM _ _)⟩
 case round=>
  obtain⟨j,rfl,hj,rfl,uZ⟩:=hrel;by_cases jl:j<ks.length
  .have LJ:(j:Int)<(ks.length:Int):=by omega
   have PG:=Jy.out ks[j] (bW jl);have h0:0<R.length:=by have:=dA R.length;omega
   have HBR:=ae (fP.out.trans (uZ.out.mono (by have:=fP.out.size;omega)));have hAr:=HA.out.below HBR.out (by have:=HA.out.fo;omega);obtain⟨gh,ch,rV,-,-,-,-,FE,hcs,-⟩:=hAr.holds h0;have hb':=hAr.blk;rw[rV]at hb';have c4:wr.cell? (ah tb 4)=some (aD gh (aZ R.length).length ch):=by simp[World.cell?,hb']
   have e1:=(hcs ks[j] PG).1;have CL:=ae (BF hAr.ad5 hR (uN R (aZ R.length) YS (ks.take j)) (lT (aZ R.length) YS ks[j]) (Su HW.out _) (fun i h=>Fz HW.out h));have HS:Hid (uN R (aZ R.length) YS (ks.take (j+1))=lowO R (uN R (aZ R.length) YS (ks.take j)) (lT (aZ R.length) YS ks[j])):=by
    show _=_;rw[fG jl,UW]
   obtain⟨b,off,ea,hbl,ad8⟩:=(HKR.out.below uZ.out).get (by omega);have x0:=ad8 j jl;simp only[fF]at x0;have EA:=ae ea;have hkM:(aZ R.length).length<=40000:=by rw[dA];omega
   obtain⟨M,La⟩:∃M,M=(aZ R.length).length:=⟨_,rfl⟩;rw[<-La]at c4 PG hkM;clear hcs ad8 hb' rV hAr ea La;generalize lowO R (uN R (aZ R.length) YS (ks.take j)) (lT (aZ R.length) YS ks[j])=nx at*;generalize lT (aZ R.length) YS ks[j]=bk at*;generalize uN R (aZ R.length) YS (ks.take j)=cur at*;generalize ks[j]=k at*;obtain rfl:=EA.out;clear EA
   go_wp2_with fail
   refine CL.out.mono ?_;rintro e w3 ⟨rfl,hb3⟩;have jm:=ae (uZ.out.trans (hb3.mono uZ.out.size));clear hb3 CL;go_wp2;go_roundw
   case rel=>exact⟨j+1,by go_num,by omega,by rw[HS.out],jm⟩
   case measure=>simp[intOf];omega
  .obtain rfl:j=ks.length:=by omega
   rw[mW]at*;have NU:=Su (N:=aZ R.length) HW.out ks;generalize ho:uN R (aZ R.length) YS ks=o at*;have HO:=ae ho;clear ho;have jm:=ae (fP.out.trans (uZ.out.mono (by have:=fP.out.size;omega)));have Ph:=ae ((uZ.out.block w.heap.size xN).trans Gg.out);obtain⟨w3,jQ⟩:∃w3:World,w3=wr:=⟨_,rfl⟩;subst jQ;cases o with
   |none=>
    simp only[pV,nS,oQ,Option.isSome_none];have F1:=xy w3 w.heap.size _ #[ag 0,ag 0,aJ 0] _ _ Ph.out;have FB:=below_setRow jm.out (aG w.heap.size) #[ag 0,ag 0,aJ 0];have Wt:=ae F1;have HFB:=ae FB;clear F1 FB
    go_wp2_with (refine zX rfl 29 (.tmp 6) (.tmp 40) rfl rfl w.heap.size #[ag 0,ag 0,aJ 0] rfl rfl _ _ Ph.out (by kernel_rfl) rfl (by simp[Value.oneCell']) ?_)
    refine ng (pX rfl _ _ w.heap.size _ _ _ _ (.bool false) (.int .i64 (jF:Nat)) rfl rfl rfl Wt.out wU rfl (by kernel_rfl)) rfl ?_;exact⟨⟨(0,0,0),by first|rfl|(rw[HO.out];rfl),by first|rfl|(rw[HO.out];rfl)⟩,HFB.out⟩
   |some i=>
    have hi':=NU i rfl;have e1:((i:Int)==-1)=false:=by first|(simp;done)|(simp;omega)
    have e2:decide ((i:Int)=-1)=false:=by first|(simp;done)|(simp;omega)
    obtain⟨Pj,ra,rc,q0,BC⟩:=(HA.out.below jm.out (by have:=HA.out.fo;omega)).ad5;obtain⟨rb2,ro,era,aDH,rH⟩:=BC.get (by omega);have r0:=rH i hi' 0 (by omega);have r1:=rH i hi' 1 (by omega);have r2:=rH i hi' 2 (by omega);simp only[fH,aT,aS,eG]at r0 r1 r2;rw[<-dI hi']at r0 r1 r2;subst era;simp only[pV,aU,fV,Option.isSome_some];have HP:Hid (∃p,p=bY R i):=⟨_,rfl⟩;obtain⟨p,hp⟩:=HP.out;have PN:=ae hp;rw[<-hp]at r0 r1 r2;clear hp HP;obtain⟨p1,p2,p3⟩:=p;simp only at r0 r1 r2;clear rH BC NU;have Wt:=ae (xy w3 w.heap.size _ #[ag p1,ag p2,aJ p3] _ _ Ph.out);have HFB:=ae (below_setRow jm.out (aG w.heap.size) #[ag p1,ag p2,aJ p3])
    go_wp2_with (refine zX rfl 29 (.tmp 6) (.tmp 48) rfl rfl w.heap.size #[ag p1,ag p2,aJ p3] rfl rfl _ _ Ph.out (by kernel_rfl) rfl (by simp[Value.oneCell']) ?_)
    refine ng (pX rfl _ _ w.heap.size _ _ _ _ (.bool true) (.int .i64 (jF:Nat)) rfl rfl rfl Wt.out wU rfl (by kernel_rfl)) rfl ?_;exact⟨⟨(p1,p2,p3),by first|exact PN.out|(rw[HO.out];exact PN.out),by first|rfl|(rw[HO.out];rfl)⟩,HFB.out⟩
end Go.Proofs.YtkjdbndekceffaaGreat
namespace Go.Proofs.YtkjdbndekceffaaGreat
open Go Go.RowKit
namespace FT
theorem xW:∀(t:FT) (s x:Nat),t.wf->t.lo<=x->x<t.hi->
  (∀i k,(t.path s x)[i]? =some k->i+1<(t.path s x).length->∃l r s',(node l r,s')∈t.subs s/\(node l r).root s'=k)/\
  ∃L k,t.path s x=L++[k]/\(leaf x,k)∈t.subs s
 |leaf a,s,x,h,h1,h2=>by
  have hax:a=x:=by simp only[lo,hi]at h1 h2;omega
  subst hax;refine⟨fun i k hi hl=>?_,[],s,by rw[path];rfl,by simp[subs]⟩;rw[path]at hl;simp at hl
 |node l r,s,x,h,h1,h2=>by
  have h3:=h.2.2;have key:∀(t:FT) (s':Nat),(∀p∈t.subs s',p∈(node l r).subs s)->(node l r).path s x=(node l r).root s::t.path s' x->
    ((∀i k,(t.path s' x)[i]? =some k->i+1<(t.path s' x).length->∃l r s'',(node l r,s'')∈t.subs s'/\(node l r).root s''=k)/\∃L k,t.path s' x=L++[k]/\(leaf x,k)∈t.subs s')->
    (∀i k,((node l r).path s x)[i]? =some k->i+1<((node l r).path s x).length->∃l' r' s',(node l' r',s')∈(node l r).subs s/\(node l' r').root s'=k)/\∃L k,(node l r).path s x=L++[k]/\(leaf x,k)∈(node l r).subs s:=fun t s' adD e ⟨q1,L,k,q2,q3⟩=>by
   rw[e];refine⟨fun i k hi hl=>?_,(node l r).root s::L,k,by rw[q2];rfl,adD _ q3⟩
   match i with
   |0=>
    simp only[aT]at hi;injection hi with hi;exact⟨l,r,s,by simp[subs],hi⟩
   |i+1=>
    simp only[aS]at hi;obtain⟨l',r',s'',m1,m2⟩:=q1 i k hi (by simpa using hl);exact⟨l',r',s'',adD _ m1,m2⟩
  by_cases hx:x<l.hi
  .exact key l s (fun p hp=>by simp[subs,hp]) (by rw[path,aR hx]) (xW l s x h.1 h1 hx)
  .exact key r (s+l.size) (fun p hp=>by simp[subs,hp]) (by rw[path,aP hx]) (xW r _ x h.2.1 (by omega) h2)
end FT
def BG (N:List Nd) (YS YS':List Nat) (P:List Nat) (m:Nat):iU:=fun k=>if k∈P.take m then lT N YS k else lT N YS' k
section
variable {R:List Pt} {gone aft:List Bool} {YS:List Nat} {x:Nat}
theorem Vh (hx:x<R.length) {k:Nat} (hk:k<(aZ R.length).length) (hP:k∉(dO 0 R.length).path 0 x):lT (aZ R.length) (dW YS x) k=lT (aZ R.length) YS k:=by
 have h0:0<R.length:=by omega
 obtain⟨t,s,ha,e⟩:=vz hk;subst e;obtain⟨w1,w2,w3⟩:=bT 0 R.length h0;have hm:=FT.at_mem (fQ h0▸ha);have hout:¬(t.lo<=x/\x<t.hi):=fun h=>hP (FT.yY _ 0 x w1 (t,s) hm h.1 h.2);unfold lT;rw[Fy ha,Fy ha];congr 1;unfold nl dW;rw[wQ];apply pJ;intro i _;by_cases e:i=x
 .subst e;simp[hout]
 .simp[e]
structure ZE (R:List Pt) (YS:List Nat) (x:Nat) (P:List Nat):Prop where
 lt:∀k∈P,k<(aZ R.length).length
 down:P.Pairwise (·>·)
 aside:∀k,k<(aZ R.length).length->k∉P->lT (aZ R.length) (dW YS x) k=lT (aZ R.length) YS k
 inner:∀i (h:i+1<P.length),∃l r s,FT.At (aZ R.length) (.node l r) s/\(FT.node l r).wf/\(FT.node l r).root s=P[i]'(tL h)
 last:∃h:P.length-1<P.length,FT.At (aZ R.length) (.leaf x) P[P.length-1]
theorem aix (YS:List Nat) (hx:x<R.length):ZE R YS x ((dO 0 R.length).path 0 x):=by
 have h0:0<R.length:=by omega
 obtain⟨w1,w2,w3⟩:=bT 0 R.length h0;have hT0:=kH R.length h0;have hT:=hT0;rw[fQ h0]at hT;have sub:∀p∈(dO 0 R.length).subs 0,FT.At (aZ R.length) p.1 p.2:=fun p hp=>by rw[fQ h0];exact FT.lM _ 0 hT _ hp
 obtain⟨q1,L,k,q2,q3⟩:=FT.xW (dO 0 R.length) 0 x w1 (by omega) (by omega);refine⟨fun k hk=>?_,FT.vg _ 0 x w1 (by omega) (by omega),fun k hk hP=>Vh hx hk hP,fun i h=>?_,?_⟩
 .obtain⟨p,hp,e,-⟩:=FT.oo _ 0 x w1 (by omega) (by omega) k hk;rw[<-e];exact(sub p hp).lt
 .obtain⟨l,r,s,m1,m2⟩:=q1 i _ (dD (tL h)) h;exact⟨l,r,s,sub _ m1,FT.rC _ 0 w1 _ m1,m2⟩
 .have hl:((dO 0 R.length).path 0 x).length-1<((dO 0 R.length).path 0 x).length:=by rw[q2];simp
  refine⟨hl,?_⟩;have e:((dO 0 R.length).path 0 x)[((dO 0 R.length).path 0 x).length-1]=k:=by simp[q2]
  rw[e];exact sub _ q3
variable {P:List Nat} (hP:ZE R YS x P)
include hP
theorem ZE.sorted {i j:Nat} (oV:i<j) (hj:j<P.length):P[j]<P[i]:=iq.1 hP.down i j (by omega) hj oV
theorem ZE.FR {m k:Nat} (hm:m<P.length) (hk:k<=P[m]) (h:k∈P.take m):False:=by
 obtain⟨i,hi,e⟩:=jA h;have kE:i<m:=by simp at hi;omega
 have e2:P[i]'(by omega)=k:=by rw[<-e];simp
 have:=hP.sorted kE hm;omega
theorem Vi (ZF:dm R aft (dW YS x)) (k:Nat) (hk:k<(aZ R.length).length):gN (lT (aZ R.length) YS) (P[P.length-1]'hP.last.1) none k=BG (aZ R.length) YS (dW YS x) P (P.length-1) k:=by
 obtain⟨hl,ha⟩:=hP.last;unfold BG;by_cases e:k=P[P.length-1]
 .subst e;rw[gB,aP (fun h=>hP.FR hl (aG _) h),FC ZF ha,aP (by simp[dW])]
 .rw[iM e];by_cases h:k∈P.take (P.length-1)
  .rw[aR h]
  .rw[aP h];refine(hP.aside k hk fun h9=>?_).symm;obtain⟨i,hi,e9⟩:=jA h9;by_cases hie:i=P.length-1
   .subst hie;exact e e9.symm
   .exact h (by rw[<-e9];exact List.mem_take_iff_getElem.2 ⟨i,by omega,rfl⟩)
theorem ZG (ZF:dm R aft (dW YS x)) {m:Nat} (hm:m+1<P.length):∃l r s,FT.At (aZ R.length) (.node l r) s/\(FT.node l r).root s=P[m]'(tL hm)/\
  BG (aZ R.length) YS (dW YS x) P (m+1) (l.root s)=lT (aZ R.length) (dW YS x) (l.root s)/\BG (aZ R.length) YS (dW YS x) P (m+1) (r.root (s+l.size))=lT (aZ R.length) (dW YS x) (r.root (s+l.size))/\
  ∀k,gN (BG (aZ R.length) YS (dW YS x) P (m+1)) (P[m]'(tL hm)) (lowO R (lT (aZ R.length) (dW YS x) (l.root s)) (lT (aZ R.length) (dW YS x) (r.root (s+l.size)))) k=BG (aZ R.length) YS (dW YS x) P m k:=by
 obtain⟨l,r,s,ha,hw,e⟩:=hP.inner m hm;have Mg:l.root s<(FT.node l r).root s/\r.root (s+l.size)<(FT.node l r).root s:=by
  have:=l.size_pos;have:=r.size_pos;have hsz:(FT.node l r).size=l.size+r.size+1:=rfl;unfold FT.root;omega
 have nt:∀k,k<(FT.node l r).root s->k∉P.take (m+1):=fun k hk h=>by
  rw[e]at hk;rw[fG (tL hm),df,mR]at h;rcases h with h|h
  .exact hP.FR (tL hm) (xn hk) h
  .omega
 refine⟨l,r,s,ha,e,aP (nt _ Mg.1),aP (nt _ Mg.2),fun k=>?_⟩;by_cases hk:k=P[m]
 .subst hk;rw[gB];unfold BG;rw[aP (fun h=>hP.FR (tL hm) (aG _) h),<-e,M5 ZF ha hw]
 .rw[iM hk];unfold BG;have:k∈P.take (m+1)↔k∈P.take m:=by
   rw[fG (tL hm),df,mR];exact⟨fun h=>h.resolve_right hk,.inl⟩
  simp only[this]
theorem ZH:BG (aZ R.length) YS (dW YS x) P 0=lT (aZ R.length) (dW YS x):=by
 have _:=hP;funext k;unfold BG;rw[xg,aP jC]
end
end Go.Proofs.YtkjdbndekceffaaGreat
namespace Go.Proofs.YtkjdbndekceffaaGreat
open Go.RowKit Go.Sort Go.Shelf Go.Lib Go.Maps
attribute [local irreducible] wpQuiet
attribute [local go_sem] Oper.fM
theorem FU:∀args w,(callFunc 103 args).run Tryz.prog w=.ok (.enter 103 args) w:=dF Tryz.func103 (by kernel_rfl) rfl
def QJ (w:World) (lo hi tb fb:Nat) (R:List Pt) (YS:List Nat) (cnt:Int) (V:oF) (x:Nat) (e:Ending) (w':World):Prop:=
 (x∉YS/\e=.returned (.bool false)/\Below w.heap.size w w')\/(x∈YS/\e=.returned (.bool true)/\dM w' lo hi tb fb R (lT (aZ R.length) (dW YS x)) (cnt-1) V/\aC (fun k=>lo<=k/\k<hi) w w')
theorem Nl {w:World} {lo hi tb fb:Nat} {R:List Pt} {gone:List Bool} {YS:List Nat} {cnt:Int} {V:oF} (hA:dM w lo hi tb fb R (lT (aZ R.length) YS) cnt V) (hW:dm R gone YS) (hR:R.length<=20000) (hc0:0<=cnt) (hc1:cnt<=20000) {x:Nat} (hx:x<R.length) (p:Pt) (hp:R[x]=p):
  aO 127 #[ay tb,ku p.1 p.2.1 p.2.2] w (QJ w lo hi tb fb R YS cnt V x):=by
 have hb:=hA.blk;have jk:=hA.KZ;have rQ:=hA.fo;obtain⟨ra,rc,er,-,-,jE⟩:=dU.aL cZ (by decide) hA.row;rw[er]at hb;have CB:=ae (fun W (hb:Below w.heap.size w W)=>YK ra R R.length rc p W rfl (by omega) (jE.below hb) hW.Ei);have RP:=JU hW.Ei hx;rw[hp]at RP;rw[RP.1,RP.2]at CB;have Df:=ae jE;have Xv:bY R x=p:=by rw[dI hx];exact hp
 have HP:=ae Xv;have GD:=ae hx;obtain⟨px,py,pi⟩:=p;obtain⟨w1,fJ⟩:∃w1,w1=w.alloc (.cells #[ag px,ag py,aJ pi] 29):=⟨_,rfl⟩;have hb1:Below w.heap.size w w1:=by rw[fJ];exact(aM _ _).alloc (aG _) _
 have FI:w1.heap[w.heap.size]? =some (.cells #[ag px,ag py,aJ pi] 29 (0,0)):=by rw[fJ];exact dE w _
 have Nb:w.heap.size<w1.heap.size:=(bn.1 FI).1;have UN:=(hb1.block tb jk).trans hb;have c0:w1.cell? (ah tb 0)=some (.slice ra R.length rc):=by simp[World.cell?,UN]
 have p0:w1.cell? (ah w.heap.size 0)=some (ag px):=by simp[World.cell?,FI]
 have p1:w1.cell? (ah w.heap.size 1)=some (ag py):=by simp[World.cell?,FI]
 have p2:w1.cell? (ah w.heap.size 2)=some (aJ pi):=by simp[World.cell?,FI]
 have vE:0<R.length:=by omega
 have hxn:=hx;obtain⟨n,hn⟩:∃n,n=R.length:=⟨_,rfl⟩;rw[<-hn]at hR c0 CB vE hxn;have HN:=ae hn;have fK:=ae hb1;have HA:=ae hA;have HW:=ae hW;have HPL:=ae (aix YS hx);have yR:tb<w1.heap.size:=by omega
 clear hA jE hb er hn hb1 FI UN RP hp hx hW Xv;have d0:((n:Int)==0)=false:=by simp;omega
 have d1:(n==0)=false:=by simp;omega
 have d2:decide (n=0)=false:=by simp;omega
 go_enter Tryz.func127,Tryz.ntmps127
 go_upto_region 1 with fail
 rw[<-fJ];clear fJ
 go_upto_region 3 with fail
 have F7:Hid (∀b:bg w1,aO 191 #[.slice ra n rc,ku px py pi,.func (.func 94) #[] #[]] b.W fun e w'=>e=.returned (.tuple #[ag (x:Nat),.bool true])/\Below b.W.heap.size b.W w'):=fun b=>CB.out b.W (fK.out.trans (b.h.mono fK.out.size));clear CB;have g0:=aj c0;have g2:=aj p0;have g3:=aj p1;have g4:=aj p2;refine cO (by kernel_rfl) (by kernel_rfl) ?_
 repeat(quiet_step ((go_at_call 191;exact eO (F7.out _))))
 refine mG ?_;intro wc hw';have uY:Below w1.heap.size w1 wc:=by obtain⟨b,rfl⟩:=hw';exact b.h
 have c0:=(uY.cell (p:=(ah tb 0)) yR).trans c0;have p0:=(uY.cell (p:=(ah w.heap.size 0)) Nb).trans p0;have p1:=(uY.cell (p:=(ah w.heap.size 1)) Nb).trans p1;have p2:=(uY.cell (p:=(ah w.heap.size 2)) Nb).trans p2;have U6:Hid (Below w.heap.size w wc):=fK.out.trans (uY.mono fK.out.size);clear hw' uY g0 g2 g3 g4 F7;have HMC:Hid (dM wc lo hi tb fb R (lT (aZ R.length) YS) cnt V):=HA.out.below U6.out rQ.2.2.2.2;have vS:=HMC.out.blk;have c2:wc.cell? (ah tb 2)=some (ay fb):=by simp[World.cell?,vS]
 obtain⟨b,off,ea,iY,hcs⟩:=(Df.out.below U6.out).get (by have:=HN.out;omega);have r0:=hcs x GD.out 0 (by omega);have r1:=hcs x GD.out 1 (by omega);have r2:=hcs x GD.out 2 (by omega);rw[<-dI GD.out,HP.out]at r0 r1 r2;simp only[fH,aT,aS,eG]at r0 r1 r2;subst ea;clear hcs vS HA
 go_upto_region 4 with fail
 go_quiet (fail)
 obtain⟨w3,jQ⟩:∃w3,w3=wc.drewN nq:=⟨_,rfl⟩;have hb3:Below wc.heap.size wc w3:=by rw[jQ];exact Below.bP _ _
 have c2:w3.cell? (ah tb 2)=some (ay fb):=by rw[jQ];exact c2
 have Hf:Hid (dM w3 lo hi tb fb R (lT (aZ R.length) YS) cnt V):=HMC.out.below hb3 HMC.out.fo.2.2.2.2;have jm:Hid (Below w.heap.size w w3):=U6.out.trans (hb3.mono U6.out.size);have CP:=ae (xH lo fb n x V.fv (by omega) hxn w3 (by rw[HN.out];exact Hf.out.iT))
 go_upto_region 6 with fail
 rw[<-jQ];clear jQ hb3 HMC U6 r0 r1 r2 p0 p1 p2 c0 iY
 go_wp2_with fail
 refine CP.out.mono ?_;rintro e w4 ⟨pv,rfl,Ec,hb4⟩;have Gv:Hid (dM w4 lo hi tb fb R (lT (aZ R.length) YS) cnt V):=Hf.out.below hb4 Hf.out.fo.2.2.2.2;have kJ:Hid (Below w.heap.size w w4):=jm.out.trans (hb4.mono jm.out.size);have hs3:w.heap.size<=w3.heap.size:=jm.out.size;obtain⟨P,Qd⟩:∃P,P=(dO 0 n).path 0 x:=⟨_,rfl⟩;have hPl:P.length<=n+1:=by
  have h1:=FT.qj (dO 0 n) 0 x;have h2:=xA 0 n n (xn (IG));rw[Qd];omega
 rw[<-Qd]at Ec;have Vj:Hid (ZE R YS x P):=by rw[Qd,HN.out];exact HPL.out
 clear Qd;obtain⟨pa,pc,rfl,-,-,hrp⟩:=Rd.aL (enc:=fF) Ec;have HPV:Hid (w4.ownsRow w3.heap.size 3 1 (.slice pa P.length pc) P.length (P.map fF)):=Ec;obtain⟨hlP,haP⟩:=Vj.out.last;have gU:=Vj.out.lt _ (bW hlP);obtain⟨bp,aiy,eap,hbp,VZ⟩:=hrp.get (by omega);have x0:=VZ (P.length-1) hlP;simp only[fF]at x0;obtain⟨gh,ch,rV,hg1,hg2,hg3,-,FE,hcs,-⟩:=Gv.out.holds (by have:=HN.out;omega);obtain⟨y0,z0⟩:=hcs _ gU;rw[show lT (aZ R.length) YS P[P.length-1]=if x∈YS then some x else none from FC HW.out haP]at y0;have ZI:=Gv.out.blk;rw[rV]at ZI;have c4:w4.cell? (ah tb 4)=some (aD gh (aZ R.length).length ch):=by simp[World.cell?,ZI]
 have c5:w4.cell? (ah tb 5)=some (ag cnt):=by simp[World.cell?,ZI]
 have z5:w4.frozen? (ah tb 5)=false:=by simp[World.frozen?,ZI]
 have HEH:=ae rV;have HLK:Hid (P[P.length-1]=P[P.length-1]):=rfl;have hM:(aZ R.length).length<=40000:=by have:=HN.out;rw[dA];omega
 have e7:((P.length-1:Nat):Int)=(P.length:Int)-1:=by omega
 have XH:=Gv.out.KZ;have hgt:gh≠tb:=hg3;obtain⟨lf,hlf⟩:∃lf,lf=P[P.length-1]:=⟨_,rfl⟩;obtain⟨M,La⟩:∃M,M=(aZ R.length).length:=⟨_,rfl⟩;rw[<-hlf]at x0 y0 z0 gU;rw[<-La]at c4 gU hM;have HLF:=ae hlf;have Ey:=ae La;obtain⟨m1,G7⟩:∃m1,m1=P.length-1:=⟨_,rfl⟩;rw[<-G7]at x0;have Wi:(P.length:Int)-1=(m1:Int):=by omega
 have hm3:(m1:Int)<(P.length:Int):=by omega
 have hm4:m1<P.length:=by omega
 have EZ:=ae G7;clear G7;subst eap;clear ZI rV hcs Ec hrp hb4 CP Hf jm c2 VZ hlf La haP e7 HLK;by_cases hY:x∈YS
 .rw[aR hY]at y0;simp only[pV]at y0;have ZF:=HW.out.drop ((HW.out.live x).1 hY);have F5:=ae ZF;have e1:((x:Int)==-1)=false:=by first|(simp;done)|(simp;omega)
  have e2:decide ((x:Int)=-1)=false:=by first|(simp;done)|(simp;omega)
  have HYY:=ae hY;obtain⟨w5,JH⟩:∃w5,w5=w4.setCell (ah gh lf) (.int .i64 (-1)):=⟨_,rfl⟩;obtain⟨w6,rO⟩:∃w6,w6=w5.setCell (ah tb 5) (.int .i64 (cnt-1)):=⟨_,rfl⟩;have HM6:Hid (dM w6 lo hi tb fb R (BG (aZ R.length) YS (dW YS x) P m1) (cnt-1) V):=by
   rw[rO,JH];have h1:=((Gv.out.pF HEH.out (by rw[<-Ey.out];exact gU) none).Fg (cnt-1));refine h1.congr fun k hk=>?_;rw[HLF.out,EZ.out];exact(Vi Vj.out F5.out k hk).symm
  have lD:Hid (aC (fun k=>lo<=k/\k<hi) w w6):=by
   rw[rO,JH];exact((((aC.refl _ w).below kJ.out).set (a:=(ah gh lf)) _ (.inl ⟨hg1,hg2⟩)).set (a:=(ah tb 5)) _ (.inl ⟨rQ.1,rQ.2.1⟩))
  have anX:Hid (w6.ownsRow w3.heap.size 3 1 (.slice (some (ah bp aiy)) P.length pc) P.length (P.map fF)):=by
   have k5:aC (fun k=>lo<=k/\k<hi) w4 w6:=by rw[rO,JH];exact(((aC.refl _ w4).set (a:=(ah gh lf)) _ (.inl ⟨hg1,hg2⟩)).set (a:=(ah tb 5)) _ (.inl ⟨rQ.1,rQ.2.1⟩))
   exact aY HPV.out k5 (fun g e h9=>by have:=(HPV.out.lt g e).1;have:=h9.2;have:=rQ.2.2.2.2;omega)
  have HE6:Hid (w6=(w4.setCell (ah gh lf) (.int .i64 (-1))).setCell (ah tb 5) (.int .i64 (cnt-1))):=by rw[rO,JH];rfl
  clear JH rO ZF hY Gv HPV HPL
  go_upto_region 12 with fail
  rw[<-HE6.out];clear HE6 c4 c5 z5 y0 z0 x0;go_wp2
  go_loopw [10] (fun iv wr=>∃(m:Nat) (i:Int),iv=.int .i64 i/\i=(m:Int)-1/\m<=m1/\Hid (dM wr lo hi tb fb R (BG (aZ R.length) YS (dW YS x) P m) (cnt-1) V)/\Hid (aC (fun k=>lo<=k/\k<hi) w6 wr)) (fun iv _=>(intOf iv+1).toNat)
  case atStart=>exact⟨m1,_,rfl,by omega,aG _,HM6,ae (aC.refl _ _)⟩
  case round=>
   obtain⟨m,i,rfl,KN,XR,vD,Wo⟩:=hrel;by_cases Dk:0<m
   .obtain⟨j,rfl⟩:∃j,m=j+1:=⟨m-1,by omega⟩;obtain rfl:i=(j:Int):=by omega
    clear KN;obtain⟨l,r,s,hat,het,hel,her,hst⟩:=ZG Vj.out F5.out (m:=j) (by omega);have Wp:j<P.length:=by omega
    have aDN:(j:Int)<(P.length:Int):=by omega
    have anY:=aY anX.out Wo.out (fun g e h9=>by have:=(anX.out.lt g e).1;have:=h9.2;have:=rQ.2.2.2.2;omega);obtain⟨_,_,eA,-,-,hrp⟩:=Rd.aL (enc:=fF) anY;injection eA with eA _ _;obtain⟨bq,au7,eaq,hbq,hcq⟩:=hrp.get (by omega);obtain⟨rfl,rfl⟩:bp=bq/\aiy=au7:=by rw[<-eA]at eaq;simpa using eaq
    have xk:=hcq j Wp;simp only[fF]at xk;obtain⟨gn,ZJ,cn,env,M7⟩:=vD.out.nodes (by have:=HN.out;omega);obtain⟨gh',iP,aiA,UN,Gt,hh3,-,V4,hcs,-⟩:=vD.out.holds (by have:=HN.out;omega);obtain⟨-,n0,n1,n2,n3,n4,n5,n6⟩:=nW M7 hat.get;have PG:=Vj.out.lt _ (bW Wp);have uy:=hat.left.lt;have ym:=hat.right.lt;obtain⟨y0,z0⟩:=hcs _ PG;obtain⟨y1,-⟩:=hcs _ uy;obtain⟨y2,-⟩:=hcs _ ym;rw[hel]at y1;rw[her]at y2;have hbr:=vD.out.blk;rw[env,aiA]at hbr;have c3:wr.cell? (ah tb 3)=some (.slice (some (ah gn ZJ)) (aZ R.length).length cn):=by simp[World.cell?,hbr]
    have c4:wr.cell? (ah tb 4)=some (aD gh' (aZ R.length).length iP):=by simp[World.cell?,hbr]
    have zM:((FT.node l r).top s).l=((l.root s:Nat):Int):=by show((s+l.size:Nat):Int)-1=_;unfold FT.root;have:=l.size_pos;omega
    have hdr:((FT.node l r).top s).r=((r.root (s+l.size):Nat):Int):=by show((s+l.size+r.size:Nat):Int)-1=_;unfold FT.root;have:=r.size_pos;omega
    rw[zM]at n1;rw[hdr]at n2;have aiB:=vD.out.KZ;have CL:=ae (fun W (hb:Below wr.heap.size wr W)=>BF (vD.out.ad5.below hb) (by have:=HN.out;omega) (lT (aZ R.length) (dW YS x) (l.root s)) (lT (aZ R.length) (dW YS x) (r.root (s+l.size))) (fun i h=>Fz F5.out h) (fun i h=>Fz F5.out h));have HST:=ae hst;have HEV:=ae aiA;rw[het]at n0 n1 n2 n3 n4 n5 n6;rw[<-Ey.out]at c3 c4 PG uy ym;obtain⟨kk,Ru⟩:∃kk,kk=P[j]:=⟨_,rfl⟩;have HKK:=ae Ru;rw[<-Ru]at xk n0 n1 n2 n3 n4 n5 n6 y0 z0 PG;clear Ru het hst hel her hbr env aiA hcs M7 hcq anY hrp eA eaq zM hdr hat;generalize lowO R (lT (aZ R.length) (dW YS x) (l.root s)) (lT (aZ R.length) (dW YS x) (r.root (s+l.size)))=nx at*;generalize lT (aZ R.length) (dW YS x) (l.root s)=bl at*;generalize lT (aZ R.length) (dW YS x) (r.root (s+l.size))=br at*;generalize l.root s=kl at*;generalize r.root (s+l.size)=kr at*;generalize(FT.node l r).top s=d at*;obtain⟨w7,Sv⟩:∃w7,w7=(wr.alloc (.cells #[.int .u8 d.kind,ag kl,ag kr,ag d.fr,ag d.Ri,ag 0,ag d.item] 163)).drew:=⟨_,rfl⟩;have uL:Below wr.heap.size wr w7:=by rw[Sv];exact((aM _ _).alloc (aG _) _).drew
    have hx7:w7.heap[wr.heap.size]? =some (.cells #[.int .u8 d.kind,ag kl,ag kr,ag d.fr,ag d.Ri,ag 0,ag d.item] 163 (0,0)):=by rw[Sv];exact dE wr _
    have Cf:=ae uL;have HX7:=ae hx7;have EW:=ae Sv;clear Sv uL hx7;have k3:=aj c3;have kx:=aj xk;have k40:=aj n0;have k41:=aj n1;have k42:=aj n2;have k43:=aj n3;have k44:=aj n4;have k45:=aj n5;have k46:=aj n6
    go_upto_region 15 with fail
    refine aF (fun W=>∃p:bg wr,W=p.W) [11] [(0,false),(1,false),(2,false),(3,true),(4,false),(5,false),(6,false),(7,true),(8,false),(9,true)] (by kernel_rfl) (by kernel_rfl) (fun _ _ d _ _ h=>by cases d<;>exact h) ⟨⟨_,(aM _ _).drew⟩,rfl⟩ 2 rfl (by kernel_rfl) ?_;simp only[bG,bz,bA,bu,aS,aT,aU]
    repeat(refine aI (fun K hK=>?_);go_simp;first|(refine hK _ ?_;clear hK K)|(apply Exists.intro;refine⟨fun _=>?_,hK _ ?_⟩;rfl;clear hK K))
    refine aQ ?_;refine az [10] (by kernel_rfl) (by simp) ?_;refine ak.cons rfl (fun K hK=>?_) ak.nil;go_simp;refine hK _ _ (fun _ _=>⟨⟨_,((aM _ _).drew).alloc (aG _) _⟩,rfl⟩) ?_;clear hK K;refine aK [11] _ _ _ (by kernel_rfl) ?_;simp only[pick,bz,bA,bu,aS,aT];clear k3 kx k40 k41 k42 k43 k44 k45 k46 n0 n1 n2 n3 n4 n5 n6 c3
    go_upto_region 16 with fail
    rw[<-EW.out];clear EW;have hx7:=HX7.out;have uL:=Cf.out;have au9:bp<wr.heap.size:=hbq;have m1':w7.cell? (ah wr.heap.size 1)=some (ag kl):=by simp[World.cell?,hx7]
    have m2':w7.cell? (ah wr.heap.size 2)=some (ag kr):=by simp[World.cell?,hx7]
    have c4':=(uL.cell (p:=(ah tb 4)) aiB).trans c4;have xk':=(uL.cell (p:=(ah bp (aiy+j))) au9).trans xk;have y1':=(uL.cell (p:=(ah gh' kl)) V4).trans y1;have y2':=(uL.cell (p:=(ah gh' kr)) V4).trans y2;have k1:=aj m1';have k2:=aj m2';have k3:=aj c4';have k4:=aj xk';have k5:=aj y1';have k6:=aj y2';clear hx7 uL m1' m2' y1' y2' y1 y2 c4 xk;refine aF (fun W=>∃p:bg w7,W=p.W) [26,27] [(0,false),(1,false),(2,false),(3,true),(4,false),(5,false),(6,false),(7,true),(8,false),(9,false),(10,false),(11,false),(12,true),(13,false),(14,true),(15,false),(16,true),(17,false),(18,false),(19,false),(20,true),(21,false),(22,true),(23,false),(24,true)] (by kernel_rfl) (by kernel_rfl) (fun _ _ d _ _ h=>by cases d<;>exact h) ⟨⟨_,(aM _ _).drew⟩,rfl⟩ 3 rfl (by kernel_rfl) ?_;simp only[bG,bz,bA,bu,aS,aT,aU]
    repeat(refine aI (fun K hK=>?_);go_simp;first|(refine hK _ ?_;clear hK K)|(apply Exists.intro;refine⟨fun _=>?_,hK _ ?_⟩;rfl;clear hK K))
    refine aQ ?_;refine az [25] (by kernel_rfl) (by simp) ?_;refine ak.cons rfl (fun K hK=>?_) ak.nil;refine bD FU rfl _ _ rfl (vals:=#[ay tb,ag (pV bl),ag (pV br)]) rfl (CL.out w7.drew Cf.out.drew) ?_;rintro e w8 ⟨rfl,JQ⟩;have aiC:Below w7.heap.size w7 w8:=((aM w7.heap.size w7).drew).trans JQ;refine⟨_,rfl,hK _ _ (fun _ _=>⟨⟨_,aiC⟩,rfl⟩) ?_⟩;clear hK K;refine aK [26,27] _ _ _ (by kernel_rfl) ?_;simp only[pick,bz,bA,bu,aS,aT];have ZK:Below wr.heap.size wr w8:=Cf.out.trans (aiC.mono Cf.out.size);have y8:=(ZK.cell (p:=(ah gh' kk)) V4).trans y0;have z8:w8.frozen? (ah gh' kk)=false:=by
     have h9:=z0;simp only[World.frozen?]at h9 |-;rw[ZK.block gh' V4];exact h9
    have eU:Hid (∀wz,wz=w8.setCell (ah gh' kk) (.int .i64 (pV nx))->dM wz lo hi tb fb R (BG (aZ R.length) YS (dW YS x) P j) (cnt-1) V/\aC (fun k=>lo<=k/\k<hi) w6 wz):=fun wz ez=>by
     subst ez;refine⟨((vD.out.below ZK vD.out.fo.2.2.2.2).pF HEV.out (by rw[<-Ey.out];exact PG) nx).congr fun k _=>?_,(Wo.out.below ZK).set (a:=(ah gh' kk)) _ (.inl ⟨UN,Gt⟩)⟩;rw[HKK.out];exact(HST.out k).symm
    clear ZK aiC JQ y0 z0 k1 k2 k3 k4 k5 k6 CL;go_wp2;exact⟨⟨j,by first|rfl|omega,by omega,(eU.out _ rfl).1,(eU.out _ rfl).2⟩,by simp[intOf];omega⟩
   .obtain rfl:m=0:=by omega
    have d9:decide (0<=i)=false:=by simp;omega
    have zm:=vD.out;rw[ZH Vj.out]at zm;have eU:Hid (QJ w lo hi tb fb R YS cnt V x (.returned (.bool true)) wr):=.inr ⟨HYY.out,rfl,zm,lD.out.trans Wo.out⟩;clear zm;go_wp2;go_ret;exact eU.out
 .rw[aP hY]at y0;simp only[pV]at y0;have eU:Hid (QJ w lo hi tb fb R YS cnt V x (.returned (.bool false)) w4):=.inl ⟨hY,rfl,kJ.out⟩;clear hY;go_wp2;go_ret;exact eU.out
theorem QK (a:Option Addr) (c:Nat) (l:List Pt) (w:World) (hl:dU fH 3 w a l) (hn:l.length<=1000000) (hw:Mm l):
  aO 102 #[.slice a l.length c] w (iX w (.bool (Eg l))):=by
 have HR:=ae hl;have HW:=ae hw;clear hl hw;have XR:=@run_makeMap Tryz.prog;go_enter Tryz.func102,Tryz.ntmps102;go_wp2
 go_loopw [9] (fun iv wr=>∃i:Nat,iv=.int .i64 i/\i<=l.length/\Below w.heap.size w wr/\Hid (∃(D:DataW Unit),wr.ownsMap Tryz.prog 27 (plainElem Tryz.prog 3) w.heap.size i D/\pg D l i)) (fun iv _=>l.length-(intOf iv).toNat)
 case atStart=>exact⟨0,rfl,bC _,(aM _ _).alloc (aG _) _,⟨.map [],DF _ _ _ _,[],IsM.empty _ _⟩⟩
 case round=>
  obtain⟨i,rfl,hi,hb,HO⟩:=hrel;by_cases kE:i<l.length
  .obtain⟨b,off,ea,hbl,hcs⟩:=(HR.out.below hb).get (by omega);have x0:=hcs i kE 0 (by omega);have x1:=hcs i kE 1 (by omega);have x2:=hcs i kE 2 (by omega);simp only[fH,aT,aS,eG]at x0 x1 x2;have hkey:Hid (keyOf Tryz.prog 27 (.int .u32 l[i].2.2)=some (.int .u32 l[i].2.2)):=keyOf_int_mk lh (HW.out _ (bW _));obtain⟨D,mf,hD⟩:=HO.out;have V8:=ae (hD.put kE);have hS2:=hb.size;have EA:=ae ea;clear HO hcs hD ea;generalize l[i]=p at*;obtain⟨px,py,pi⟩:=p;obtain rfl:=EA.out;clear EA;have hown:=mf.kept (sO wr (.cells #[ag px,ag py,aJ pi] 29) none) (by simp)
   go_wp2_with (at_mapUpdate;refine Dv _ rfl _ _ _ 26 rfl 27 3 (int_keyed lh) tK _ w.heap.size i _ rfl hown (by unfold maxLen;omega) _ _ _ rfl rfl hkey.out _ [] (Ao nQ (by simp[Lit.wf,IntKind.min,IntKind.max,IntKind.bits,IntKind.signed];omega)) ?_;intro w3 kF oq)
   have B3:Below w.heap.size wr w3:=(((aM _ wr).alloc (by omega) _)).grown oq (by simp;omega) (fun j ej=>by cases ej;omega);have Uj:Hid (∃(D:DataW Unit),w3.ownsMap Tryz.prog 27 (plainElem Tryz.prog 3) w.heap.size (i+1) D/\pg D l (i+1)):=⟨_,kF,V8.out⟩;have B4:=hb.trans B3;clear kF oq hown mf V8;go_wp2;go_roundw
   case rel=>exact⟨i+1,by go_num,by omega,B4,Uj⟩
   case measure=>simp[intOf];omega
  .obtain rfl:i=l.length:=by omega
   obtain⟨D,hown,hD⟩:=HO.out;have hsize:=hD.size;have HS:=ae hsize;clear hsize hD HO
   go_wp2_with (at_len;refine wpList_len_own _ rfl _ 26 rfl 27 3 tK _ w.heap.size _ _ rfl hown ?_)
   go_ret;exact⟨by rw[HS.out];rfl,hb⟩
theorem dM.grow {w:World} {lo hi hi' tb fb:Nat} {R:List Pt} {h:iU} {cnt:Int} {V:oF} (H:dM w lo hi tb fb R h cnt V) (h1:hi<=hi') (h2:hi'<=w.heap.size):dM w lo hi' tb fb R h cnt V:=
 ⟨H.blk,⟨H.fo.1,by have:=H.fo.2.1;omega,H.fo.2.2.1,by have:=H.fo.2.2.2.1;omega,h2⟩,H.row,H.xs,H.iT,H.jG,H.pU,fun v hv g e=>bJ (H.top v hv g e) h1⟩
theorem ZL (n:Nat):Og (fun _=>some 0) n=List.replicate n (.int .i64 0):=by
 unfold Og;refine tO (by simp) fun i h1 h2=>?_;simp[pV]
def Sw (w:World) (R:List Pt) (e:Ending) (w':World):Prop:=
 ∃tb fb V,e=.returned (.tuple #[ay tb,ag 0])/\dM w' w.heap.size w'.heap.size tb fb R (lT (aZ R.length) (dQ R)) R.length V/\Below w.heap.size w w'
structure LbR (w:World) (lo fb n:Nat) (rv nv fv:Value) (l:List Pt):Prop where
 row:w.ownsRow lo 29 3 rv n (l.flatMap fH)
 jG:w.ownsRow lo 163 7 nv (aZ n).length ((aZ n).flatMap qo)
 iT:o8 w lo fb n fv
 lof:lo<=fb
theorem LbR.kept {S:Nat->Prop} {w w':World} {lo fb n:Nat} {rv nv fv:Value} {l:List Pt} (h:LbR w lo fb n rv nv fv l) (K:aC S w w') (hS:∀k,k<w.heap.size->S k->∃cs t fr,w.heap[k]? =some (.cells cs t fr)/\t≠29/\t≠163/\t≠236):LbR w' lo fb n rv nv fv l:=by
 refine⟨qD h.row K fun k h1 h2=>?_,qD h.jG K fun k h1 h2=>?_,⟨bL K h.iT.blk fun h2=>?_,qD h.iT.row K fun k h1 h2=>?_⟩,h.lof⟩
 .obtain⟨cs,t,fr,a,b,c,d⟩:=hS k h1 h2;exact⟨cs,t,fr,a,b⟩
 .obtain⟨cs,t,fr,a,b,c,d⟩:=hS k h1 h2;exact⟨cs,t,fr,a,c⟩
 .have hl:=(bn.1 h.iT.blk).1;obtain⟨cs,t,fr,a,b,c,d⟩:=hS fb hl h2;have:=a.symm.trans h.iT.blk;injection this with this;injection this with _ this _;exact d this
 .obtain⟨cs,t,fr,a,b,c,d⟩:=hS k h1 h2;exact⟨cs,t,fr,a,c⟩
def zD (N:List Nd) (YS:List Nat) (i:Nat):iU:=fun k=>if k<i then lT N YS k else some 0
theorem anZ {n:Nat} {t:FT} {s:Nat} (ha:FT.At (aZ n) t s):t.wf/\t.hi<=n:=by
 have h0:=lS ha;obtain⟨w1,w2,w3⟩:=bT 0 n h0;have hm:=FT.at_mem (fQ h0▸ha);have:=FT.uA (dO 0 n) 0 w1 _ hm;exact⟨FT.rC _ 0 w1 _ hm,by simp only at this;omega⟩
theorem Vk (a:Option Addr) (c:Nat) (l:List Pt) (w:World) (hl:dU fH 3 w a l) (hn:l.length<=20000) (hw:Mm l) (hu:Eg l=true):
  aO 38 #[.slice a l.length c] w (Sw w (gM l)):=by
 have CU:=QK a c l w hl (by omega) hw;rw[hu]at CU;have HL:=ae hl;obtain⟨n,KH⟩:∃n,n=l.length:=⟨_,rfl⟩;have CC:=ae (fun W (hb:Below w.heap.size w W)=>uu a l n c W KH.symm (hl.below hb) (by omega));have KI:=ae KH;rw[<-KH]at hn CU |-;have CF:=ae (fun W=>AU n (by omega) W);clear KH hl;have d1:decide ((n:Int)>2147483648)=false:=by simp;omega
 have d2:decide ((2147483648:Int)<(n:Int))=false:=by simp;omega
 have d3:decide (2147483648<n)=false:=by simp;omega
 have Zr:(ids l).Nodup:=by unfold Eg at hu;simpa using hu
 have HIU:=ae Zr;clear Zr hu hw;go_enter Tryz.func38,Tryz.ntmps38
 go_wp2_with (go_at_call 102;refine CU.mono ?_;rintro e w1 ⟨rfl,hb1⟩;clear CU)
 go_wp2_with fail
 refine(CF.out w1).mono ?_;rintro e w2 ⟨rfl,kI⟩;have fP:Hid (Below w.heap.size w w2):=by rw[kI];exact hb1.alloc hb1.size _
 have BR:Hid (w2.heap[w1.heap.size]? =some (ma 0 0 (aN) n)):=by rw[kI];exact dE w1 _
 obtain⟨fb,vS⟩:∃fb,fb=w1.heap.size:=⟨_,rfl⟩;have Cv:w.heap.size<=fb/\fb<w2.heap.size:=by rw[kI,vS];exact⟨hb1.size,by simp⟩
 rw[<-vS]at BR |-;clear kI hb1 vS CF
 go_wp2_with fail
 refine(CC.out w2 fP.out).mono ?_;rintro e w3 ⟨rv,rfl,hr3,hb3⟩;have hf3:=(hb3.block fb Cv.2).trans BR.out;have jm:Hid (Below w.heap.size w w3):=fP.out.trans (hb3.mono fP.out.size);have yz:=ae (bR hr3 fP.out.size);have CN:=ae (gX fb n (by omega) w3 hf3);have HF3:=ae hf3;obtain⟨ra,rc,rfl⟩:=fI hr3;clear hr3 hb3 hf3 CC BR fP
 go_wp2_with fail
 refine CN.out.mono ?_;rintro e w4 ⟨fv,nv,rfl,jP,su,Zt,hk4⟩;have hs3:=jm.out.size;have Zu:Hid (w4.ownsRow w.heap.size 29 3 (.slice ra n rc) n (l.flatMap fH)):=PL yz.out (by decide) HF3.out hk4;have QG:Hid (o8 w4 w.heap.size fb n fv):=⟨Zt,bR jP hs3⟩;have Zv:Hid (w4.ownsRow w.heap.size 163 7 nv (aZ n).length ((aZ n).flatMap qo)):=bR su hs3;have kJ:Hid (Below w.heap.size w w4):=jm.out.trans (hk4.toBelow hs3 (fun k h=>by have:=Cv.1;omega));obtain⟨na,nc,rfl⟩:=fI su;obtain⟨M,hM⟩:∃M,M=(aZ n).length:=⟨_,rfl⟩;have Ey:=ae hM;have hM4:M<=40000:=by rw[hM,dA];omega
 rw[<-hM];clear jP su Zt hk4 CN hM yz HF3 jm
 go_upto_region 9 with fail
 obtain⟨wc,ewc⟩:∃wc,wc=w4.alloc (.cells #[.slice ra n rc,aN,ay fb,.slice na M nc,aN,ag n] 161):=⟨_,rfl⟩;have QH:Below w4.heap.size w4 wc:=by rw[ewc];exact(aM _ _).alloc (aG _) _
 obtain⟨tb,Wj⟩:∃tb,tb=w4.heap.size:=⟨_,rfl⟩;have hT:wc.heap[tb]? =some (Ve (.slice ra n rc) (aN) fb (.slice na M nc) (aN) n):=by rw[ewc,Wj];exact dE w4 _
 rw[<-ewc,<-Wj];have HR:Hid (LbR wc w.heap.size fb n (.slice ra n rc) (.slice na M nc) fv l):=by
  have K:aC (fun _=>False) w4 wc:=(aC.refl _ w4).below QH;exact⟨aY Zu.out K (fun _ _ h=>h),by rw[<-Ey.out];have:=aY Zv.out K (fun _ _ h=>h);rwa [<-Ey.out]at this,⟨bL K QG.out.blk (fun h=>h),aY QG.out.row K (fun _ _ h=>h)⟩,Cv.1⟩
 have HT:=ae hT;have HB:Hid (Below w.heap.size w wc):=kJ.out.trans (QH.mono kJ.out.size);have air:w.heap.size<=tb:=by rw[Wj];exact kJ.out.size
 clear ewc QH hT Zu QG Zv kJ Wj;have jk:=(bn.1 HT.out).1;have CS:=ae (Bb KI.out.symm (by omega) HR.out.row HIU.out);have hTT:=HT.out;have c0:wc.cell? (ah tb 0)=some (.slice ra n rc):=by simp[World.cell?,hTT]
 clear hTT
 go_wp2_with fail
 refine CS.out.mono ?_;rintro e w4 ⟨rfl,hr4,hk4⟩;have hR4:LbR w4 w.heap.size fb n (.slice ra n rc) (.slice na M nc) fv (gM l):=by
  have h:=HR.out;refine⟨hr4,qD h.jG hk4 fun k h1 h2=>?_,⟨bL hk4 h.iT.blk fun h2=>?_,qD h.iT.row hk4 fun k h1 h2=>?_⟩,h.lof⟩
  .obtain⟨cs,fr,e⟩:=FQ h.row h2;exact⟨cs,_,fr,e,by decide⟩
  .exact bH h.row h.iT.blk (by decide) fb h2 rfl
  .obtain⟨cs,fr,e⟩:=FQ h.row h2;exact⟨cs,_,fr,e,by decide⟩
 have F8:Hid (w4.heap[tb]? =some (Ve (.slice ra n rc) (aN) fb (.slice na M nc) (aN) n)):=bL hk4 HT.out (fun h=>bH HR.out.row HT.out (by decide) tb h rfl);have kJ:Hid (Below w.heap.size w w4):=HB.out.trans (hk4.toBelow HB.out.size (fun k h=>(HR.out.row.lt k h).1));have Gq:=ae hR4;have vV:(gM l).length=n:=by rw[(eZ l).length_eq];exact KI.out.symm
 have hRu:(ids (gM l)).Nodup:=((eZ l).map _).nodup_iff.2 HIU.out;have RL:Hid ((gM l).Pairwise sK/\(ids (gM l)).Nodup):=⟨jd HIU.out,hRu⟩;clear hr4 hk4 hR4 HR HT HB CS hRu c0 jk;generalize hRR:gM l=R at*;clear hRR;have jk:=(bn.1 F8.out).1;have htt:=F8.out;have c0:w4.cell? (ah tb 0)=some (.slice ra n rc):=by simp[World.cell?,htt]
 clear htt
 go_wp2_with fail
 go_loopg [44] n (fun kx s44 wr=>∃(i:Nat) (xv:Value),s44=.int .i64 i/\i<=n/\n-i<=kx/\Hid (wr.heap[tb]? =some (Ve (.slice ra n rc) xv fb (.slice na M nc) (aN) n))/\Hid (wr.ownsRow w4.heap.size 2 1 xv i (((bX R).take i).map (Value.int .i64)))/\Hid (aC (fun k=>k=tb) w4 wr))
 case atStart=>exact⟨0,_,rfl,bC _,by omega,F8,dL _ _ _ _,aC.refl _ _⟩
 case round=>
  obtain⟨i,xv,rfl,hi,PH,Ce,uJ,mo⟩:=hrel;by_cases iC:i<n
  .have LA:=aY Gq.out.row mo.out (fun g h h2=>bH Gq.out.row F8.out (by decide) g h h2.symm);obtain⟨_,_,ee,-,-,jE⟩:=dU.aL cZ (by decide) LA;injection ee with e1 e2 e3;subst e1;clear e2 e3;obtain⟨b,off,ea,hbl,hcs⟩:=jE.get (by omega);have x0:=hcs i (by omega) 0 (by omega);have x1:=hcs i (by omega) 1 (by omega);have x2:=hcs i (by omega) 2 (by omega);simp only[fH,aT,aS,eG]at x0 x1 x2;have hxt:(bX R).take (i+1)=(bX R).take i++[R[i].1]:=by
    have h:i<(bX R).length:=by unfold bX;simp;omega
    rw[fG h];simp[bX]
   have HXT:=ae hxt;subst ea;clear hcs jE hxt LA;generalize R[i]=p at*;obtain⟨px,py,pi⟩:=p;simp only at HXT x0 x1 x2;have kU:=Ce.out;have yS:=(bn.1 kU).1;obtain⟨xa,xc,rfl⟩:=fI uJ.out
   go_upto_region 13 with fail
   obtain⟨w6,rO⟩:∃w6,w6=wr.alloc (.cells #[ag px,ag py,aJ pi] 29):=⟨_,rfl⟩;have jR:Below wr.heap.size wr w6:=by rw[rO];exact(aM _ _).alloc (aG _) _
   have N9:w6.heap[wr.heap.size]? =some (.cells #[ag px,ag py,aJ pi] 29 (0,0)):=by rw[rO];exact dE wr _
   have PY:=(jR.block tb yS).trans kU;have Yu:=mo.out.size;have Yv:=jR.size;have Ha:∀g,(Value.slice xa i xc).ownBlock=some g->w4.heap.size<=g/\g<wr.heap.size:=fun g h=>uJ.out.lt g h;have g1:=aj (w:=w6) (ad:=(ah tb 1)) (v:=.slice xa i xc) (by simp[World.cell?,PY]);have g2:=aj (w:=w6) (ad:=(ah wr.heap.size 0)) (v:=.int .i64 px) (by simp[World.cell?,N9]);have RN:=ae (au uJ.out jR);have lD:Hid (aC (fun k=>k=tb) w4 w6):=mo.out.below jR;have Yw:=ae PY;rw[<-rO];clear rO jR N9 PY kU x0 x1 x2;refine aF (fun W=>∃p:bg w6,W=p.W) [8,9,10,11] [(0,false),(1,false),(2,false),(3,false),(4,true),(5,false),(6,true)] (by kernel_rfl) (by kernel_rfl) (fun _ _ d _ _ h=>by cases d<;>exact h) ⟨⟨_,(aM _ _).drew⟩,rfl⟩ 5 rfl (by kernel_rfl) ?_;simp only[bG,bz,bA,bu,aS,aT,aU]
   repeat(refine aI (fun K hK=>?_);go_simp;first|(refine hK _ ?_;clear hK K)|(apply Exists.intro;refine⟨fun _=>?_,hK _ ?_⟩;rfl;clear hK K))
   refine aQ ?_;refine az [7] (by kernel_rfl) (by simp) ?_;refine ak.cons rfl (fun K hK=>?_) ak.nil;go_simp;refine hK _ _ (fun _ _=>⟨⟨_,((aM _ w6).alloc (aG _) _).drew⟩,rfl⟩) ?_;clear hK K;refine az [8] (by kernel_rfl) (by simp) ?_;refine ak.cons rfl (fun K hK=>?_) ak.nil;refine bM CV w4.heap.size (w:=(w6.alloc (.cells #[ag px] 2)).drew) (au RN.out ((aM _ w6).alloc (aG _) _|>.drew)) [.int .i64 px] rfl (by simp[Value.oneCell']) rfl (.tmp 52) (.tmp 55) rfl rfl w6.heap.size rfl (lX _ _) (by unfold maxLen;omega) (by omega) (by simp;omega) ?_;intro ga gz w8 uK hg8 ae9 amr;have Ff:w6.grownBy w8 (Value.slice xa i xc).ownBlock:=dP (bV ((aM _ w6).alloc (aG _) _|>.drew)) hg8;have Gr:aC (fun k=>(Value.slice xa i xc).ownBlock=some k) w6 w8:=(aC.refl _ w6).grown Ff (fun k hk=>.inl hk);refine hK _ _ (fun _ h=>absurd (by simp) h) ?_;clear hK K;refine aK [9,10,11] _ _ _ (by kernel_rfl) ?_;simp only[pick,bz,bA,bu,aS,aT];have RO:=bL Gr Yw.out (fun h=>by have:=(Ha tb h).1;omega);have q8:w8.cell? (ah tb 1)=some (.slice xa i xc):=by simp[World.cell?,RO]
   have f8:w8.frozen? (ah tb 1)=false:=by simp[World.frozen?,RO]
   have PZ:Hid ((w8.setCell (ah tb 1) (aD ga (i+1) gz)).heap[tb]? =some (Ve (.slice (some (ah b off)) n rc) (aD ga (i+1) gz) fb (.slice na M nc) (aN) n)):=dH w8 tb 1 _ _ _ RO;have KT9:aC (fun k=>k=tb) w8 (w8.setCell (ah tb 1) (aD ga (i+1) gz)):=(aC.refl (fun k=>k=tb) w8).set (a:=(ah tb 1)) (aD ga (i+1) gz) (.inl rfl);have Oa:Hid ((w8.setCell (ah tb 1) (aD ga (i+1) gz)).ownsRow w4.heap.size 2 1 (aD ga (i+1) gz) (i+1) (((bX R).take (i+1)).map (Value.int .i64))):=by
    have h9:=aY (S:=fun k=>k=tb) uK KT9 (fun g h h2=>by have:=(uK.lt g h).1;omega);show World.ownsRow _ _ _ _ _ _ _;rw[HXT.out,dh];exact h9
   have JP:Hid (aC (fun k=>k=tb) w4 (w8.setCell (ah tb 1) (aD ga (i+1) gz))):=((lD.out.mono (S':=fun k=>k=tb\/w4.heap.size<=k) (fun k h=>.inl h)).trans (Gr.mono (fun k h=>.inr (Ha k h).1))).strip.set (a:=(ah tb 1)) _ (.inl rfl);clear Gr Ff hg8 uK RO g1 g2 RN Yw lD Ha uJ Ce mo KT9;go_wp2
   go_roundg (n-(i+1))
   case measure=>omega
   case rel=>exact⟨i+1,_,by go_num,by omega,aG _,PZ,Oa,JP⟩
  .obtain rfl:i=n:=by omega
   have Gc:Hid (LbR wr w.heap.size fb i (.slice ra i rc) (.slice na M nc) fv R):=Gq.out.kept mo.out (fun k h1 h2=>by subst h2;exact⟨_,_,_,F8.out,by decide,by decide,by decide⟩);have om:Hid (Below w.heap.size w wr):=kJ.out.trans (mo.out.toBelow kJ.out.size (fun k h=>by omega));have LU:=uJ.out;rw[kZ (by unfold bX;simp;omega)]at LU;have HXX:=ae (bR LU kJ.out.size);have Zx:=Ce.out;have c3:wr.cell? (ah tb 3)=some (.slice na M nc):=by simp[World.cell?,Zx]
   have c4:wr.cell? (ah tb 4)=some (aN):=by simp[World.cell?,Zx]
   have f4:wr.frozen? (ah tb 4)=false:=by simp[World.frozen?,Zx]
   have yS:=(bn.1 Zx).1;obtain⟨xa,xc,rfl⟩:=fI LU;have hmk:=Sm M (by omega);clear LU Zx uJ mo c0
   go_upto_region 16 with fail
   obtain⟨gh,hgh⟩:∃gh,gh=wr.heap.size:=⟨_,rfl⟩;obtain⟨w7,Sv⟩:∃w7,w7=(wr.setCell (ah tb 4) (aD wr.heap.size M M)).alloc (Obj.cells (madeCells #[ag 0] M) 3):=⟨_,rfl⟩;have KT:aC (fun k=>k=tb) wr w7:=by rw[Sv];exact((aC.refl (fun k=>k=tb) wr).set (a:=(ah tb 4)) _ (.inl rfl)).alloc _
   have aiE:(wr.setCell (ah tb 4) (aD wr.heap.size M M)).heap.size=wr.heap.size:=by simp
   have hg7:w7.heap[wr.heap.size]? =some (.cells (List.replicate M (ag 0)).toArray 3 (0,0)):=by
    have h9:=FP (wr.setCell (ah tb 4) (aD wr.heap.size M M)) M;rw[aiE]at h9;rw[Sv];exact h9
   have hs7:wr.heap.size<w7.heap.size:=(bn.1 hg7).1;have KQ:w7.heap[tb]? =some (Ve (.slice ra i rc) (.slice xa i xc) fb (.slice na M nc) (aD wr.heap.size M M) i):=by
    rw[Sv];exact(dB _ _ tb (by rw[aiE];exact yS)).trans (dH wr tb 4 _ _ _ Ce.out)
   have Sq:LbR w7 w.heap.size fb i (.slice ra i rc) (.slice na M nc) fv R:=Gc.out.kept KT (fun k h1 h2=>by subst h2;exact⟨_,_,_,Ce.out,by decide,by decide,by decide⟩);have hX7:=aY HXX.out KT (fun g h h2=>bH HXX.out Ce.out (by decide) g h h2.symm);have hsw:=om.out.size;have hH7:=H8 (w:=w7) (base:=w.heap.size) (n:=M) (xs:=List.replicate M (ag 0)) hg7 hsw (by simp) (by unfold maxLen;omega);have HL7:Hid (dM w7 w.heap.size w7.heap.size tb fb R (fun _=>some 0) i ⟨.slice ra i rc,.slice xa i xc,.slice na M nc,aD wr.heap.size M M,fv⟩):=by
    refine⟨KQ,⟨air,by omega,Cv.1,(bn.1 Sq.iT.blk).1,aG _⟩,by rw[vV];exact Sq.row,by rw[vV];exact hX7,by rw[vV];exact Sq.iT,by rw[vV];exact Sq.jG,?_,?_⟩
    .rw[vV,<-Ey.out,ZL];exact hH7
    .rintro v (rfl|rfl|rfl|rfl|rfl) g e
     .exact(Sq.row.lt g e).2
     .exact(hX7.lt g e).2
     .exact(Sq.jG.lt g e).2
     .exact(hH7.lt g e).2
     .exact(Sq.iT.row.lt g e).2
   have Cf:Hid (Below w.heap.size w w7):=om.out.trans (KT.toBelow hsw (fun k h=>by omega));have N7:=ae (pz RL.out.1 RL.out.2);rw[<-Sv];have c3':w7.cell? (ah tb 3)=some (.slice na M nc):=by simp[World.cell?,KQ]
   have HMR:Hid (M=(aZ R.length).length):=by show _=_;rw[vV];exact Ey.out
   have hRn:R.length<=20000:=by omega
   have HYS:Hid (∀a,a<R.length->a∈dQ R):=fun a ha=>(N7.out.live a).2 (by rw[sS,aR ha]);rw[<-hgh]at HL7;clear Sv hgh KT aiE hg7 KQ Sq hX7 hH7 Gc HXX Ce om c3 c4 f4 hmk yS;generalize hYY:dQ R=YS at*;have ava:=ae hYY;have Bf:=ae vV;clear hYY vV;go_wp2
   go_loopw [74] (fun iv wr=>∃j:Nat,iv=.int .i64 j/\j<=M/\Hid (dM wr w.heap.size w7.heap.size tb fb R (zD (aZ R.length) YS j) i ⟨.slice ra i rc,.slice xa i xc,.slice na M nc,aD gh M M,fv⟩)/\Hid (Below w.heap.size w wr)) (fun iv _=>M-(intOf iv).toNat)
   case atStart=>exact⟨0,rfl,bC _,HL7,Cf⟩
   case round=>
    obtain⟨j,rfl,hj,vD,Nf⟩:=hrel;by_cases hjM:j<M
    .have aD1:(j:Int)<(M:Int):=by omega
     obtain⟨t,s,hat,het⟩:=vz (show j<(aZ R.length).length by rw[<-HMR.out];exact hjM);obtain⟨gn,ZJ,cn,env,M7⟩:=vD.out.nodes (by have:=dA R.length;rw[<-HMR.out]at this;omega);simp only at env;injection env with env ee2 ee3;clear ee2 ee3;obtain⟨gh2,Bg,rV,UN,Gt,hh3,-,V4,hcs,-⟩:=vD.out.holds (by have:=dA R.length;rw[<-HMR.out]at this;omega);simp only at rV;injection rV with rV ee2 ee3;injection rV with rV;injection rV with rV ee4 ee5;subst rV;clear ee2 ee3;obtain⟨-,n0,n1,n2,n3,n4,n5,n6⟩:=nW M7 hat.get;have hbr:=vD.out.blk;simp only at hbr;have c4:wr.cell? (ah tb 4)=some (aD gh M M):=by simp[World.cell?,hbr]
     obtain⟨y0,z0⟩:=hcs j (by rw[<-HMR.out];exact hjM);have aiB:=vD.out.KZ;rw[het]at n0 n1 n2 n3 n4 n5 n6;subst env;obtain⟨d,hd⟩:∃d,d=t.top s:=⟨_,rfl⟩;rw[<-hd]at n0 n1 n2 n3 n4 n6;obtain⟨w8,Zz⟩:∃w8,w8=wr.alloc (.cells #[.int .u8 d.kind,ag d.l,ag d.r,ag d.fr,ag d.Ri,ag 0,ag d.item] 163):=⟨_,rfl⟩;have JQ:Below wr.heap.size wr w8:=by rw[Zz];exact(aM _ _).alloc (aG _) _
     have hx8:w8.heap[wr.heap.size]? =some (.cells #[.int .u8 d.kind,ag d.l,ag d.r,ag d.fr,ag d.Ri,ag 0,ag d.item] 163 (0,0)):=by rw[Zz];exact dE wr _
     have MF:=ae JQ;have YA:=ae hx8;have EW:=ae Zz;have F6:=ae hat;have HET:=ae het;have HD:=ae hd;clear Zz JQ hx8 hbr hcs M7 hat het hd
     go_upto_region 19 with fail
     rw[<-EW.out];clear EW n0 n1 n2 n3 n4 n5 n6;have hx8:=YA.out;have JQ:=MF.out;have nbl:wr.heap.size<w8.heap.size:=(bn.1 hx8).1;have p0:w8.cell? (ah wr.heap.size 0)=some (.int .u8 d.kind):=by simp[World.cell?,hx8]
     have p1:w8.cell? (ah wr.heap.size 1)=some (ag d.l):=by simp[World.cell?,hx8]
     have p2:w8.cell? (ah wr.heap.size 2)=some (ag d.r):=by simp[World.cell?,hx8]
     have p3:w8.cell? (ah wr.heap.size 3)=some (ag d.fr):=by simp[World.cell?,hx8]
     have c4':=(JQ.cell (p:=(ah tb 4)) aiB).trans c4;have y8:=(JQ.cell (p:=(ah gh j)) V4).trans y0;have z8:w8.frozen? (ah gh j)=false:=by
      have h9:=z0;simp only[World.frozen?]at h9 |-;rw[JQ.block gh V4];exact h9
     have k3:=aj p3;have k4:=aj c4';clear hx8 JQ c4 y0 z0;have aiF:gh≠wr.heap.size:=by omega
     have ay2:gh<w8.heap.size:=by omega
     refine aF (fun W=>∃p:bg w8,W=p.W) [7,8] [(0,false),(1,false),(2,false),(3,true),(4,false),(5,false),(6,true)] (by kernel_rfl) (by kernel_rfl) (fun _ _ d _ _ h=>by cases d<;>exact h) ⟨⟨_,(aM _ _).drew⟩,rfl⟩ 2 rfl (by kernel_rfl) ?_;simp only[bG,bz,bA,bu,aS,aT,aU]
     repeat(refine aI (fun K hK=>?_);go_simp;first|(refine hK _ ?_;clear hK K)|(apply Exists.intro;refine⟨fun _=>?_,hK _ ?_⟩;rfl;clear hK K))
     refine aQ ?_;refine aK [7,8] _ _ _ (by kernel_rfl) ?_;simp only[pick,bz,bA,bu,aS,aT];have y8':w8.drew.cell? (ah gh j)=_:=y8;have z8':w8.drew.frozen? (ah gh j)=false:=z8;obtain⟨w9,Cw⟩:∃w9,w9=(w8.setCell (ah gh j) (.int .i64 d.fr)).drew:=⟨_,rfl⟩;have K9:aC (fun k=>k=gh) w8 w9:=by rw[Cw];exact((aC.refl (fun k=>k=gh) w8).set (a:=(ah gh j)) _ (.inl rfl)).drew
     obtain⟨hwt,hht⟩:=anZ F6.out;obtain⟨f0,TZ,Xo⟩:∃f0:Nat,d.fr=(f0:Int)/\f0=t.lo:=by rw[HD.out];cases t<;>exact⟨_,rfl,rfl⟩
     have HST:Hid (dM w9 w.heap.size w7.heap.size tb fb R (gN (zD (aZ R.length) YS j) j (some f0)) i ⟨.slice ra i rc,.slice xa i xc,.slice (some (ah gn ZJ)) M nc,aD gh M M,fv⟩):=by
      rw[Cw,TZ];exact((vD.out.below MF.out vD.out.fo.2.2.2.2).pF rfl (by rw[<-HMR.out];exact hjM) (some f0)).below (aM _ _).drew (by have:=vD.out.fo.2.2.2.2;have:=MF.out.size;simp;omega)
     have Gs:Hid (Below w.heap.size w w9):=(Nf.out.trans (MF.out.mono Nf.out.size)).trans (K9.toBelow (by have:=Nf.out.size;omega) (fun k h=>by omega));have q0:=((di K9 nbl (fun h=>aiF h.symm)).1 0).trans p0;have q1:=((di K9 nbl (fun h=>aiF h.symm)).1 1).trans p1;have q2:=((di K9 nbl (fun h=>aiF h.symm)).1 2).trans p2;have Zw:=K9.size;have EW9:=ae Cw;clear Cw k3 k4 K9 p0 p1 p2 p3 TZ
     go_upto_region 20 with fail
     rw[<-EW9.out];clear EW9 y8' z8' y8 z8 c4';cases t with
     |leaf a9=>
      have hk:(d.kind==(2:Int))=false:=by rw[HD.out];rfl
      have KO:Hid (dM w9 w.heap.size w7.heap.size tb fb R (zD (aZ R.length) YS (j+1)) i ⟨.slice ra i rc,.slice xa i xc,.slice (some (ah gn ZJ)) M nc,aD gh M M,fv⟩):=by
       refine HST.out.congr fun k hk=>?_;unfold zD;by_cases e:k=j
       .subst e;have h1:=FC N7.out F6.out;rw[aR (HYS.out a9 (by have:(FT.leaf a9).hi=a9+1:=rfl;omega))]at h1;have h2:s=k:=by have:=HET.out;unfold FT.root at this;simpa[FT.size]using this
        rw[gB,aR (by omega),<-h2,h1,Xo];rfl
       .rw[iM e];by_cases h9:k<j
        .rw[aR h9,aR (by omega)]
        .rw[aP h9,aP (by omega)]
      go_wp2;go_roundw
      case rel=>first|exact⟨j+1,by go_num,by omega,KO,Gs⟩|(refine⟨_,?_,rfl⟩;exact⟨j+1,by go_num,by omega,KO,Gs⟩)|(refine⟨_,_,?_,rfl,rfl⟩;exact⟨j+1,by go_num,by omega,KO,Gs⟩)|(refine⟨_,_,_,?_,rfl,rfl,rfl⟩;exact⟨j+1,by go_num,by omega,KO,Gs⟩)|(refine⟨_,_,_,_,?_,rfl,rfl,rfl,rfl⟩;exact⟨j+1,by go_num,by omega,KO,Gs⟩)|(refine⟨_,_,_,_,_,?_,rfl,rfl,rfl,rfl,rfl⟩;exact⟨j+1,by go_num,by omega,KO,Gs⟩)
      case measure=>simp[intOf];omega
     |node l9 r9=>
      have hk:(d.kind==(2:Int))=true:=by rw[HD.out];rfl
      have uy:=F6.out.left.lt;have ym:=F6.out.right.lt;have Mg:l9.root s<j/\r9.root (s+l9.size)<j:=by
       rw[<-HET.out];have:=l9.size_pos;have:=r9.size_pos;have hsz:(FT.node l9 r9).size=l9.size+r9.size+1:=rfl;unfold FT.root;omega
      have zM:d.l=((l9.root s:Nat):Int):=by rw[HD.out];show((s+l9.size:Nat):Int)-1=_;unfold FT.root;have:=l9.size_pos;omega
      have hdr:d.r=((r9.root (s+l9.size):Nat):Int):=by rw[HD.out];show((s+l9.size+r9.size:Nat):Int)-1=_;unfold FT.root;have:=r9.size_pos;omega
      rw[zM]at q1;rw[hdr]at q2;obtain⟨gh3,ch3,Nn,-,-,-,-,Pj,aed,-⟩:=HST.out.holds (by have:=dA R.length;rw[<-HMR.out]at this;omega);simp only at Nn;injection Nn with Nn ee2 ee3;injection Nn with Nn;injection Nn with Nn ee4 ee5;subst Nn;clear ee2 ee3;obtain⟨y1,-⟩:=aed _ uy;obtain⟨y2,-⟩:=aed _ ym;obtain⟨yj,zj⟩:=aed j (by rw[<-HMR.out];exact hjM);rw[show gN (zD (aZ R.length) YS j) j (some f0) (l9.root s)=lT (aZ R.length) YS (l9.root s) by rw[iM (by omega)];exact aR Mg.1]at y1;rw[show gN (zD (aZ R.length) YS j) j (some f0) (r9.root (s+l9.size))=lT (aZ R.length) YS (r9.root (s+l9.size)) by rw[iM (by omega)];exact aR Mg.2]at y2;rw[gB]at yj;have Mh:=HST.out.blk;simp only at Mh;have c4:w9.cell? (ah tb 4)=some (aD gh M M):=by simp[World.cell?,Mh]
      have CL:=ae (BF (HST.out.ad5.below (aM _ _).drew) hRn (lT (aZ R.length) YS (l9.root s)) (lT (aZ R.length) YS (r9.root (s+l9.size))) (fun i h=>Fz N7.out h) (fun i h=>Fz N7.out h));have Sc:Hid (lT (aZ R.length) YS j=lowO R (lT (aZ R.length) YS (l9.root s)) (lT (aZ R.length) YS (r9.root (s+l9.size)))):=by
       show _=_;rw[<-M5 N7.out F6.out hwt,HET.out]
      rw[<-HMR.out]at uy ym;have amM:=HST.out.KZ;clear Mh aed zM hdr;generalize lowO R (lT (aZ R.length) YS (l9.root s)) (lT (aZ R.length) YS (r9.root (s+l9.size)))=nx at*;generalize lT (aZ R.length) YS (l9.root s)=bl at*;generalize lT (aZ R.length) YS (r9.root (s+l9.size))=br at*;generalize l9.root s=kl at*;generalize r9.root (s+l9.size)=kr at*;have k1:=aj q1;have k2:=aj q2;have k3:=aj c4;have k4:=aj y1;have k5:=aj y2
      go_upto_region 21 with fail
      refine aF (fun W=>∃p:bg w9,W=p.W) [23,24] [(0,false),(1,false),(2,false),(3,true),(4,false),(5,false),(6,false),(7,false),(8,false),(9,true),(10,false),(11,true),(12,false),(13,true),(14,false),(15,false),(16,false),(17,true),(18,false),(19,true),(20,false),(21,true)] (by kernel_rfl) (by kernel_rfl) (fun _ _ d _ _ h=>by cases d<;>exact h) ⟨⟨_,(aM _ _).drew⟩,rfl⟩ 3 rfl (by kernel_rfl) ?_;simp only[bG,bz,bA,bu,aS,aT,aU]
      repeat(refine aI (fun K hK=>?_);go_simp;first|(refine hK _ ?_;clear hK K)|(apply Exists.intro;refine⟨fun _=>?_,hK _ ?_⟩;rfl;clear hK K))
      refine aQ ?_;refine az [22] (by kernel_rfl) (by simp) ?_;refine ak.cons rfl (fun K hK=>?_) ak.nil;refine bD FU rfl _ _ rfl (vals:=#[ay tb,ag (pV bl),ag (pV br)]) rfl CL.out ?_;rintro e sH ⟨rfl,Cn⟩;have FV:Below w9.heap.size w9 sH:=((aM w9.heap.size w9).drew).trans Cn;refine⟨_,rfl,hK _ _ (fun _ _=>⟨⟨_,FV⟩,rfl⟩) ?_⟩;clear hK K;refine aK [23,24] _ _ _ (by kernel_rfl) ?_;simp only[pick,bz,bA,bu,aS,aT];have y10:=(FV.cell (p:=(ah gh j)) Pj).trans yj;have z10:sH.frozen? (ah gh j)=false:=by
       have h9:=zj;simp only[World.frozen?]at h9 |-;rw[FV.block gh Pj];exact h9
      have eU:Hid (∀wz,wz=sH.setCell (ah gh j) (.int .i64 (pV nx))->Hid (dM wz w.heap.size w7.heap.size tb fb R (zD (aZ R.length) YS (j+1)) i ⟨.slice ra i rc,.slice xa i xc,.slice (some (ah gn ZJ)) M nc,aD gh M M,fv⟩)/\Hid (Below w.heap.size w wz)):=fun wz ez=>by
       subst ez;refine⟨((HST.out.below FV HST.out.fo.2.2.2.2).pF rfl (by rw[<-HMR.out];exact hjM) nx).congr fun k _=>?_,?_⟩
       .unfold zD;by_cases e:k=j
        .subst e;rw[gB,aR (by omega),Sc.out]
        .rw[iM e,iM e];by_cases h9:k<j
         .rw[aR h9,aR (by omega)]
         .rw[aP h9,aP (by omega)]
       .exact(Gs.out.trans (FV.mono Gs.out.size)).trans (((aC.refl (fun k=>k=gh) sH).set (a:=(ah gh j)) _ (.inl rfl)).toBelow (bO Gs.out.size FV.size) (fun k h=>by omega))
      clear FV Cn yj zj y1 y2 c4 q0 q1 q2 k1 k2 k3 k4 k5 CL;go_wp2;go_roundw
      case rel=>first|exact⟨j+1,by go_num,by omega,(eU.out _ rfl).1,(eU.out _ rfl).2⟩|(refine⟨_,?_,rfl⟩;exact⟨j+1,by go_num,by omega,(eU.out _ rfl).1,(eU.out _ rfl).2⟩)|(refine⟨_,_,?_,rfl,rfl⟩;exact⟨j+1,by go_num,by omega,(eU.out _ rfl).1,(eU.out _ rfl).2⟩)|(refine⟨_,_,_,?_,rfl,rfl,rfl⟩;exact⟨j+1,by go_num,by omega,(eU.out _ rfl).1,(eU.out _ rfl).2⟩)|(refine⟨_,_,_,_,?_,rfl,rfl,rfl,rfl⟩;exact⟨j+1,by go_num,by omega,(eU.out _ rfl).1,(eU.out _ rfl).2⟩)|(refine⟨_,_,_,_,_,?_,rfl,rfl,rfl,rfl,rfl⟩;exact⟨j+1,by go_num,by omega,(eU.out _ rfl).1,(eU.out _ rfl).2⟩)
      case measure=>simp[intOf];omega
    .obtain rfl:j=M:=by omega
     have zm:dM wr w.heap.size wr.heap.size tb fb R (lT (aZ R.length) YS) i ⟨.slice ra i rc,.slice xa i xc,.slice na j nc,aD gh j j,fv⟩:=
      (vD.out.congr fun k hk=>by unfold zD;rw[aR (by rw[HMR.out];exact hk)]).grow vD.out.fo.2.2.2.2 (aG _)
     have eU:Hid (Sw w R (.returned (.tuple #[ay tb,ag 0])) wr):=by
      refine⟨tb,fb,⟨.slice ra i rc,.slice xa i xc,.slice na j nc,aD gh j j,fv⟩,rfl,?_,Nf.out⟩;rw[ava.out,Bf.out];rw[Bf.out]at zm;exact zm
     clear zm;go_wp2;go_ret2;exact eU.out
end Go.Proofs.YtkjdbndekceffaaGreat
namespace Go.Proofs.YtkjdbndekceffaaGreat
open Go.RowKit Go.Sort Go.Shelf Go.Lib Go.Maps
def oH (w:World) (lo hi tb n0:Nat) (l:List Pt):Prop:=
 ∃fb R gone YS V,dM w lo hi tb fb R (lT (aZ R.length) YS) l.length V/\dm R gone YS/\uB R YS l/\R.length=n0/\n0<=20000
def wL (n:Nat):Nat:=6*Lib.bitLen n+1
theorem Vl {R:List Pt} (hR:R.length<=100000) (x1 x2:Int):(pW R x1 x2).2<=wL R.length:=by
 unfold pW wL;by_cases hc:R.length=0\/x2<x1
 .rw[aR hc];exact bC _
 .rw[aP hc];have h0:0<R.length:=by omega
  have nD:(bX R).length=R.length:=by simp[bX]
  have a1:=lN (bX R) x1 (by omega);have a2:=lQ (bX R) x2 (by omega);rw[nD]at a1 a2;by_cases h1:jP R x1<nk R x2
  .rw[aR h1];obtain⟨w1,w2,w3⟩:=bT 0 R.length h0;have hb:=(bS R.length (by omega) (by omega)).2.2;have hh:=xA 0 R.length (Lib.bitLen R.length) (by omega);have c1:=FT.Ed (dO 0 R.length) w1 0 (jP R x1) (nk R x2);simp only;omega
  .rw[aP h1];simp only;omega
section
variable {w w':World} {lo hi tb n0:Nat} {l:List Pt}
theorem oH.kept {S:Nat->Prop} (h:oH w lo hi tb n0 l) (K:aC S w w') (hS:∀k,lo<=k->k<hi->¬S k):oH w' lo hi tb n0 l:=by
 obtain⟨fb,R,gone,YS,V,h1,h2⟩:=h;exact⟨fb,R,gone,YS,V,h1.kept K hS,h2⟩
theorem oH.below {B:Nat} (h:oH w lo hi tb n0 l) (hb:Below B w w') (hB:hi<=B):oH w' lo hi tb n0 l:=by
 obtain⟨fb,R,gone,YS,V,h1,h2⟩:=h;exact⟨fb,R,gone,YS,V,h1.below hb hB,h2⟩
theorem oH.gZ (h:oH w lo hi tb n0 l):hi<=w.heap.size:=by
 obtain⟨fb,R,gone,YS,V,h1,h2⟩:=h;exact h1.fo.2.2.2.2
theorem oH.Qi (h:oH w lo hi tb n0 l):l.length<=n0/\n0<=20000:=by
 obtain⟨fb,R,gone,YS,V,h1,h2,h3,h4,h5⟩:=h;have:=h2.acS;have:=h3.len h2;omega
theorem Vm {R:List Pt} {gone:List Bool} {YS:List Nat} (hW:dm R gone YS) (hl:uB R YS l) (x1 x2:Int):(uN R (aZ R.length) YS (pW R x1 x2).1).map (bY R)=(UX l x1 x2).head?:=by
 have hnil:∀h:(UX l x1 x2)=[],(uN R (aZ R.length) YS []).map (bY R)=(UX l x1 x2).head?:=fun h=>by rw[h];rfl
 unfold pW;by_cases h0:R.length=0\/x2<x1
 .rw[aR h0];refine hnil ?_;rcases h0 with h0|h0
  .have h1:=hW.acS;have h2:=hl.len hW;have h3:=adL l x1 x2;exact jw (by omega)
  .exact Y9 l h0
 .rw[aP h0];have hr:=adM hW hl x1 x2;by_cases h1:jP R x1<nk R x2
  .rw[aR h1];simp only;rw[Qp hW (by omega),<-hr,List.head?_map]
  .rw[aP h1];refine hnil ?_;rw[<-hr];have:rng YS (jP R x1) (nk R x2)=[]:=zR.2 fun i _=>by simp;omega
   rw[this];rfl
theorem ZM (a:Option Addr) (c:Nat) (l:List Pt) (w:World) (hl:dU fH 3 w a l) (hn:l.length<=20000) (hw:Mm l) (hu:Eg l=true):
  aO 38 #[.slice a l.length c] w fun e w'=>∃tb,e=.returned (.tuple #[ay tb,ag 0])/\oH w' w.heap.size w'.heap.size tb l.length l/\Below w.heap.size w w':=
 (Vk a c l w hl hn hw hu).mono fun e w' ⟨tb,fb,V,he,h1,h2⟩=>by
  have hu':(ids l).Nodup:=by unfold Eg at hu;simpa using hu
  have hs:=jd hu';have hid:(ids (gM l)).Nodup:=((eZ l).map _).nodup_iff.2 hu';have yo:=pz hs hid;have hlen:(gM l).length=l.length:=(eZ l).length_eq;rw[show((gM l).length:Int)=(l.length:Int) by rw[hlen]]at h1;refine⟨tb,he,⟨fb,_,_,_,V,h1,yo,BV hu' _ (fun i=>?_),hlen,by omega⟩,h2⟩;rw[yo.live,sS];split<;>simp_all
theorem Sy (h:oH w lo hi tb n0 l) (x1 x2:Int):
  aO 42 #[ay tb,ag x1,ag x2] w fun e w'=>(∃p:Pt,p=(UX l x1 x2).head?.getD (0,0,0)/\∃c:Nat,e=.returned (.tuple #[ku p.1 p.2.1 p.2.2,.bool (UX l x1 x2).head?.isSome,ag c])/\c<=wL n0)/\Below w.heap.size w w':=by
 obtain⟨fb,R,gone,YS,V,h1,h2,h3,h4,h5⟩:=h;refine(QI h1 h2 (by omega) x1 x2).mono ?_;rintro e w' ⟨⟨p,hp,he⟩,hb⟩;have hw:=Vm h2 h3 x1 x2;refine⟨⟨p,by rw[hp,hw],(pW R x1 x2).2,?_,by rw[<-h4];exact Vl (by omega) x1 x2⟩,hb⟩;rw[<-hw,Option.isSome_map];exact he
end
end Go.Proofs.YtkjdbndekceffaaGreat
namespace Go.Proofs.YtkjdbndekceffaaGreat
open Go.RowKit Go.Maps
end Go.Proofs.YtkjdbndekceffaaGreat
namespace Go.Proofs.YtkjdbndekceffaaGreat
open Go.RowKit Go.Shelf
attribute [local go_sem] Oper.semAt_some
def bk (zs:List Pt) (k:Nat):List (Nat×Pt):=(List.range k).map fun j=>(zs.length-1-j,zs.getD (zs.length-1-j) (0,0,0))
end Go.Proofs.YtkjdbndekceffaaGreat
namespace Go.Proofs.YtkjdbndekceffaaGreat
end Go.Proofs.YtkjdbndekceffaaGreat
namespace Go.Proofs.YtkjdbndekceffaaGreat
open Go.RowKit Go.Shelf
attribute [local go_sem] Oper.semAt_some
end Go.Proofs.YtkjdbndekceffaaGreat
namespace Go.Proofs.YtkjdbndekceffaaGreat
open Go.RowKit Go.Maps
theorem kR {w:World} {base base':Nat} {e:TypeId} {size:Nat} {v:Value} {n:Nat} {xs:List Value} (h:w.ownsRow base e size v n xs) (hb:base'<=base):w.ownsRow base' e size v n xs:=by
 obtain⟨h1,h2⟩:=h;refine⟨h1,?_⟩;rcases h2 with h2|⟨g,cap,cur,hv,hg,r⟩
 .exact .inl h2
 .exact .inr ⟨g,cap,cur,hv,bO hb hg,r⟩
end Go.Proofs.YtkjdbndekceffaaGreat
namespace Go.Proofs.YtkjdbndekceffaaGreat
end Go.Proofs.YtkjdbndekceffaaGreat
namespace Go.Proofs.YtkjdbndekceffaaGreat
open Go.RowKit Go.Maps
end Go.Proofs.YtkjdbndekceffaaGreat
namespace Go.Proofs.YtkjdbndekceffaaGreat
open Go.RowKit Go.Sort Go.Shelf Go.Lib Go.Maps
structure an1 (w:World) (ob:Nat) (dn:Bool):Prop where
 c0:w.cell? (ah ob 0)=some (aJ (if dn then 1 else 0))
 c1:w.cell? (ah ob 1)=some (.int .i32 0)
 f0:w.frozen? (ah ob 0)=false
 f1:w.frozen? (ah ob 1)=false
structure uP (w:World) (F:Nat->Prop) (tb n0:Nat) (l:List Pt) (lo m0 m1 m2 m3 m4 hi bx cn hp lw ob:Nat) (tl sv:Value) (dn:Bool):Prop where
 blk:w.heap[tb]? =some (Obj.cells #[tl,ay bx,ay cn,ay hp,ay lw,ay ob,sv] 120 (0,0))
 row:w.ownsRow lo 29 3 tl l.length (l.flatMap fH)
 rlt:∀g,tl.ownBlock=some g->g<m0
 tin:m0<=tb/\tb<m1
 box:iB w m1 m2 bx n0 l
 cor:oC w m2 m3 cn n0 l
 hep:oG w m3 m4 hp n0 l
 low:oH w m4 hi lw n0 l
 ord:lo<=m0/\m1<=m2/\m2<=m3/\m3<=m4/\m4<=hi
 onc:an1 w ob dn
 oin:ob≠tb/\(m0<=ob/\ob<m1\/hi<=ob)
 sky:dn=true->∃a c,sv=.slice a (WG l).length c/\(WG l).length<=c/\dU fH 3 w a (WG l)/\∀x,a=some x->hi<=x.block/\x.block≠ob/\F x.block
 fin:(∀k,lo<=k->k<hi->F k)/\F ob/\∀k,F k->k<w.heap.size
 und:(ids l).Nodup/\Mm l
section
variable {w w':World} {F S:Nat->Prop} {tb n0:Nat} {l:List Pt} {lo m0 m1 m2 m3 m4 hi bx cn hp lw ob:Nat} {tl sv:Value} {dn:Bool}
theorem uP.tF (h:uP w F tb n0 l lo m0 m1 m2 m3 m4 hi bx cn hp lw ob tl sv dn):F tb:=h.fin.1 tb (by have:=h.ord;have:=h.tin;omega) (by have:=h.ord;have:=h.tin;omega)
theorem uP.kept (h:uP w F tb n0 l lo m0 m1 m2 m3 m4 hi bx cn hp lw ob tl sv dn) (K:aC S w w') (hS:∀k,F k->¬S k):uP w' F tb n0 l lo m0 m1 m2 m3 m4 hi bx cn hp lw ob tl sv dn:=by
 have ho:=h.ord;have ht:=h.tin;have hF:=h.fin;have kb:∀k,F k->w'.heap[k]? =w.heap[k]? :=fun k hk=>K.block k (hF.2.2 k hk) (hS k hk);refine⟨(kb tb h.tF).trans h.blk,aY h.row K fun gb e=>hS gb (hF.1 gb (h.row.lt gb e).1 (by have:=h.rlt gb e;omega)),h.rlt,ht,h.box.kept K fun k h1 h2=>hS k (hF.1 k (by omega) (by omega)),h.cor.kept K fun k h1 h2=>hS k (hF.1 k (by omega) (by omega)),h.hep.kept K fun k h1 h2=>hS k (hF.1 k (by omega) (by omega)),h.low.kept K fun k h1 h2=>hS k (hF.1 k (by omega) (by omega)),ho,?_,h.oin,?_,⟨hF.1,hF.2.1,fun k hk=>bJ (hF.2.2 k hk) K.size⟩,h.und⟩
 .have e:=kb ob hF.2.1;exact⟨(dX (a:=(ah ob 0)) e).trans h.onc.c0,(dX (a:=(ah ob 1)) e).trans h.onc.c1,(Dr (a:=(ah ob 0)) e).trans h.onc.f0,(Dr (a:=(ah ob 1)) e).trans h.onc.f1⟩
 .intro hd;obtain⟨a,c,e,hc,hr,hx⟩:=h.sky hd;refine⟨a,c,e,hc,?_,hx⟩;rcases hr with hr|⟨b,off,rfl,hb,hc⟩
  .exact .inl hr
  .have e2:=kb b (hx _ rfl).2.2;exact .inr ⟨b,off,rfl,bJ hb K.size,fun i hi j hj=>(dX e2).trans (hc i hi j hj)⟩
end
theorem ZN (a:Option Addr) (c:Nat) (l:List Pt) (w:World) (hl:dU fH 3 w a l) (hn:l.length<=20000) (hw:Mm l) (hu:Eg l=true):
  aO 52 #[.slice a l.length c] w fun e w'=>∃tb m0 m1 m2 m3 m4 bx cn hp lw ob tl,e=.returned (ay tb)/\
   uP w' (fun k=>w.heap.size<=k/\k<w'.heap.size) tb l.length l w.heap.size m0 m1 m2 m3 m4 w'.heap.size bx cn hp lw ob tl (aN) false/\Below w.heap.size w w':=by
 have HL:=ae hl;have HW:=ae hw;have HU:=ae hu;clear hl hw hu;go_enter Tryz.func52,Tryz.ntmps52
 go_wp2_with fail
 refine(uu a l l.length c w rfl HL.out (by omega)).mono ?_;rintro e w1 ⟨tl,rfl,hown,hb1⟩;obtain⟨ta,tc,rfl,-,-,-⟩:=dU.aL cZ (by decide) hown;have HO:=ae hown;have fK:=ae hb1;have Wm:=ae (HL.out.below hb1);clear hown hb1;have O2:Hid (((w1.alloc (.cells #[aJ 0,.int .i32 0,aJ 0] 199)).alloc (.cells #[.slice ta l.length tc,.pointer none,.pointer none,.pointer none,.pointer none,ay w1.heap.size,aN] 120)).heap[w1.heap.size]? =some (.cells #[aJ 0,.int .i32 0,aJ 0] 199 (0,0))):=(dB _ _ _ (by simp)).trans (wO _ _);have T2:Hid (((w1.alloc (.cells #[aJ 0,.int .i32 0,aJ 0] 199)).alloc (.cells #[.slice ta l.length tc,.pointer none,.pointer none,.pointer none,.pointer none,ay w1.heap.size,aN] 120)).heap[w1.heap.size+1]? =some (.cells #[.slice ta l.length tc,.pointer none,.pointer none,.pointer none,.pointer none,ay w1.heap.size,aN] 120 (0,0))):=by
  have h:=wO (w1.alloc (.cells #[aJ 0,.int .i32 0,aJ 0] 199)) (.cells #[.slice ta l.length tc,.pointer none,.pointer none,.pointer none,.pointer none,ay w1.heap.size,aN] 120);rw[show(w1.alloc (.cells #[aJ 0,.int .i32 0,aJ 0] 199)).heap.size=w1.heap.size+1 by simp]at h;exact h
 have B2:Hid (Below w1.heap.size w1 ((w1.alloc (.cells #[aJ 0,.int .i32 0,aJ 0] 199)).alloc (.cells #[.slice ta l.length tc,.pointer none,.pointer none,.pointer none,.pointer none,ay w1.heap.size,aN] 120))):=((aM _ _).alloc (aG _) _).alloc (by simp) _;have S2:((w1.alloc (.cells #[aJ 0,.int .i32 0,aJ 0] 199)).alloc (.cells #[.slice ta l.length tc,.pointer none,.pointer none,.pointer none,.pointer none,ay w1.heap.size,aN] 120)).heap.size=w1.heap.size+2:=by simp
 go_wp2_with fail
 generalize((w1.alloc (.cells #[aJ 0,.int .i32 0,aJ 0] 199)).alloc (.cells #[.slice ta l.length tc,.pointer none,.pointer none,.pointer none,.pointer none,ay w1.heap.size,aN] 120))=w2 at*;have hs1:=fK.out.size;have D2:Hid (Below w.heap.size w w2):=fK.out.trans (B2.out.mono hs1);have HL2:=ae (HL.out.below D2.out);refine(Qg a c l w2 HL2.out hn HW.out HU.out).mono ?_;rintro e w3 ⟨bx,rfl,hA,hb⟩;have A3:=ae hA;have B3:=ae hb;have hs3:=hb.size;have t3:w3.heap[w1.heap.size+1]? =some (Obj.cells #[.slice ta l.length tc,.pointer none,.pointer none,.pointer none,.pointer none,ay w1.heap.size,aN] 120 (0,0)):=(hb.block _ (by omega)).trans T2.out;have c3:w3.cell? (ah (w1.heap.size+1) 1)=some (.pointer none):=by simp[World.cell?,t3]
 have f3:w3.frozen? (ah (w1.heap.size+1) 1)=false:=by simp[World.frozen?,t3]
 have T3:Hid ((w3.setCell (ah (w1.heap.size+1) 1) (ay bx)).heap[w1.heap.size+1]? =some (Obj.cells #[.slice ta l.length tc,ay bx,.pointer none,.pointer none,.pointer none,ay w1.heap.size,aN] 120 (0,0))):=by
  show _=_;rw[dH w3 (w1.heap.size+1) 1 _ _ _ t3];rfl
 have K3:Hid (aC (fun k=>k=w1.heap.size+1) w2 (w3.setCell (ah (w1.heap.size+1) 1) (ay bx))):=((aC.refl _ _).below hb).set _ (.inl rfl);have E3:Hid (aC (fun k=>k=w1.heap.size+1) w3 (w3.setCell (ah (w1.heap.size+1) 1) (ay bx))):=(aC.refl _ _).set _ (.inl rfl);have z3:(w3.setCell (ah (w1.heap.size+1) 1) (ay bx)).heap.size=w3.heap.size:=by simp
 clear hA hb t3
 go_wp2_with fail
 generalize w3.setCell (ah (w1.heap.size+1) 1) (ay bx)=v3 at*;have D3:Hid (Below w.heap.size w v3):=D2.out.trans (K3.out.toBelow (by omega) (by rintro k rfl;omega));have HL3:=ae (HL.out.below D3.out);refine(RU a c l v3 HL3.out hn HW.out HU.out).mono ?_;rintro e w4 ⟨cn,rfl,hA,hb⟩;have A4:=ae hA;have B4:=ae hb;have Rt:=hb.size;have t4:w4.heap[w1.heap.size+1]? =some (Obj.cells #[.slice ta l.length tc,ay bx,.pointer none,.pointer none,.pointer none,ay w1.heap.size,aN] 120 (0,0)):=(hb.block _ (by omega)).trans T3.out;have c4:w4.cell? (ah (w1.heap.size+1) 2)=some (.pointer none):=by simp[World.cell?,t4]
 have f4:w4.frozen? (ah (w1.heap.size+1) 2)=false:=by simp[World.frozen?,t4]
 have T4:Hid ((w4.setCell (ah (w1.heap.size+1) 2) (ay cn)).heap[w1.heap.size+1]? =some (Obj.cells #[.slice ta l.length tc,ay bx,ay cn,.pointer none,.pointer none,ay w1.heap.size,aN] 120 (0,0))):=by
  show _=_;rw[dH w4 (w1.heap.size+1) 2 _ _ _ t4];rfl
 have K4:Hid (aC (fun k=>k=w1.heap.size+1) v3 (w4.setCell (ah (w1.heap.size+1) 2) (ay cn))):=((aC.refl _ _).below hb).set _ (.inl rfl);have E4:Hid (aC (fun k=>k=w1.heap.size+1) w4 (w4.setCell (ah (w1.heap.size+1) 2) (ay cn))):=(aC.refl _ _).set _ (.inl rfl);have z4:(w4.setCell (ah (w1.heap.size+1) 2) (ay cn)).heap.size=w4.heap.size:=by simp
 clear hA hb t4
 go_wp2_with fail
 generalize w4.setCell (ah (w1.heap.size+1) 2) (ay cn)=v4 at*;have D4:Hid (Below w.heap.size w v4):=D3.out.trans (K4.out.toBelow (by omega) (by rintro k rfl;omega));have HL4:=ae (HL.out.below D4.out);refine(ZA a c l v4 HL4.out hn HW.out HU.out).mono ?_;rintro e w5 ⟨hp,rfl,hA,hb⟩;have A5:=ae hA;have B5:=ae hb;have hs5:=hb.size;have t5:w5.heap[w1.heap.size+1]? =some (Obj.cells #[.slice ta l.length tc,ay bx,ay cn,.pointer none,.pointer none,ay w1.heap.size,aN] 120 (0,0)):=(hb.block _ (by omega)).trans T4.out;have c5:w5.cell? (ah (w1.heap.size+1) 3)=some (.pointer none):=by simp[World.cell?,t5]
 have f5:w5.frozen? (ah (w1.heap.size+1) 3)=false:=by simp[World.frozen?,t5]
 have T5:Hid ((w5.setCell (ah (w1.heap.size+1) 3) (ay hp)).heap[w1.heap.size+1]? =some (Obj.cells #[.slice ta l.length tc,ay bx,ay cn,ay hp,.pointer none,ay w1.heap.size,aN] 120 (0,0))):=by
  show _=_;rw[dH w5 (w1.heap.size+1) 3 _ _ _ t5];rfl
 have K5:Hid (aC (fun k=>k=w1.heap.size+1) v4 (w5.setCell (ah (w1.heap.size+1) 3) (ay hp))):=((aC.refl _ _).below hb).set _ (.inl rfl);have E5:Hid (aC (fun k=>k=w1.heap.size+1) w5 (w5.setCell (ah (w1.heap.size+1) 3) (ay hp))):=(aC.refl _ _).set _ (.inl rfl);have z5:(w5.setCell (ah (w1.heap.size+1) 3) (ay hp)).heap.size=w5.heap.size:=by simp
 clear hA hb t5
 go_wp2_with fail
 generalize w5.setCell (ah (w1.heap.size+1) 3) (ay hp)=v5 at*;have D5:Hid (Below w.heap.size w v5):=D4.out.trans (K5.out.toBelow (by omega) (by rintro k rfl;omega));have HL5:=ae (HL.out.below D5.out);refine(ZM a c l v5 HL5.out hn HW.out HU.out).mono ?_;rintro e w6 ⟨lw,rfl,hA,hb⟩;have A6:=ae hA;have B6:=ae hb;have Xh:=hb.size;have t6:w6.heap[w1.heap.size+1]? =some (Obj.cells #[.slice ta l.length tc,ay bx,ay cn,ay hp,.pointer none,ay w1.heap.size,aN] 120 (0,0)):=(hb.block _ (by omega)).trans T5.out;have c6:w6.cell? (ah (w1.heap.size+1) 4)=some (.pointer none):=by simp[World.cell?,t6]
 have f6:w6.frozen? (ah (w1.heap.size+1) 4)=false:=by simp[World.frozen?,t6]
 have T6:Hid ((w6.setCell (ah (w1.heap.size+1) 4) (ay lw)).heap[w1.heap.size+1]? =some (Obj.cells #[.slice ta l.length tc,ay bx,ay cn,ay hp,ay lw,ay w1.heap.size,aN] 120 (0,0))):=by
  show _=_;rw[dH w6 (w1.heap.size+1) 4 _ _ _ t6];rfl
 have K6:Hid (aC (fun k=>k=w1.heap.size+1) v5 (w6.setCell (ah (w1.heap.size+1) 4) (ay lw))):=((aC.refl _ _).below hb).set _ (.inl rfl);have E6:Hid (aC (fun k=>k=w1.heap.size+1) w6 (w6.setCell (ah (w1.heap.size+1) 4) (ay lw))):=(aC.refl _ _).set _ (.inl rfl);have z6:(w6.setCell (ah (w1.heap.size+1) 4) (ay lw)).heap.size=w6.heap.size:=by simp
 clear hA hb t6;go_wp2;generalize w6.setCell (ah (w1.heap.size+1) 4) (ay lw)=v6 at*;have D6:Hid (Below w.heap.size w v6):=D5.out.trans (K6.out.toBelow (by omega) (by rintro k rfl;omega));go_ret;have hu2:(ids l).Nodup:=by have:=HU.out;unfold Eg at this;simpa using this
 have k3:=((E3.out.trans K4.out).trans K5.out).trans K6.out;have k4:=(E4.out.trans K5.out).trans K6.out;have k5:=E5.out.trans K6.out;have k2:=K3.out.trans (K4.out.trans (K5.out.trans K6.out));have hne:∀lo hi,w1.heap.size+2<=lo->∀k,lo<=k->k<hi->¬k=w1.heap.size+1:=fun lo hi h k h1 _ h2=>by omega
 have a3:=A3.out.kept k3 (hne _ _ (by omega));have a4:=A4.out.kept k4 (hne _ _ (by omega));have a5:=A5.out.kept k5 (hne _ _ (by omega));have a6:=A6.out.kept E6.out (hne _ _ (by omega));rw[z3]at a4;rw[z4]at a5;rw[z5]at a6;have hlt:=fun g e=>(HO.out.lt g e).2;have o2:=bL k2 O2.out (by omega);refine⟨w1.heap.size+1,w1.heap.size,w2.heap.size,w3.heap.size,w4.heap.size,w5.heap.size,bx,cn,hp,lw,w1.heap.size,_,rfl,⟨T6.out,?_,hlt,?_,a3,a4,a5,?_,?_,?_,?_,(fun h=>by cases h),⟨fun k h1 h2=>⟨h1,h2⟩,?_,fun k h=>h.2⟩,hu2,HW.out⟩,D6.out⟩
 .exact aY (au HO.out B2.out) k2 fun gb e h=>by have:=hlt gb e;omega
 .omega
 .rw[z6];exact a6
 .omega
 .exact⟨by simp[World.cell?,o2],by simp[World.cell?,o2],by simp[World.frozen?,o2],by simp[World.frozen?,o2]⟩
 .omega
 .omega
end Go.Proofs.YtkjdbndekceffaaGreat
namespace Go.Proofs.YtkjdbndekceffaaGreat
open Go.RowKit Go.Maps
section
variable {w:World} {lo hi tb n0:Nat} {l:List Pt}
theorem ZO (h:iB w lo hi tb n0 l) (p:Pt) (hp:p∈l):
  aO 128 #[ay tb,ku p.1 p.2.1 p.2.2] w fun e w'=>e=.returned (.bool true)/\iB w' lo hi tb n0 (l.filter fun q=>decide (q≠p))/\aC (fun k=>lo<=k/\k<hi) w w':=by
 obtain⟨fb,R,gone,YS,V,h1,h2,h3,h4,h5⟩:=h;obtain⟨x,hx,e⟩:=(h3.mem p).1 hp;have hl:=h2.lt hx;rw[dI hl]at e;have hg:=(h2.live x).1 hx;refine(Gu h1 h2 (by omega) hl hg p e).mono ?_;rintro e' w' ⟨rfl,V',hc,hk⟩;have h9:=h3.drop h2 hl hx;rw[e]at h9;exact⟨rfl,⟨fb,R,_,_,V',hc,h2.drop hg,h9,h4,h5⟩,hk⟩
theorem aee {cb:Nat} (h:oC w lo hi cb n0 l) (p:Pt) (hp:p∈l):
  aO 125 #[ay cb,ku p.1 p.2.1 p.2.2] w fun e w'=>e=.returned (.bool true)/\oC w' lo hi cb n0 (l.filter fun q=>decide (q≠p))/\aC (fun k=>lo<=k/\k<hi) w w':=by
 obtain⟨tb,h2,hT,h3,h4,h5,h6⟩:=h;refine(adB (R:=fun W b w'=>b=true/\iB w' lo h2 tb n0 (l.filter fun q=>decide (q≠p))/\aC (fun k=>lo<=k/\k<h2) W w') (by omega) (Fs h6) p.1 p.2.1 p.2.2 ?_).mono ?_
 .intro W hb;refine(ZO (hT.below hb (by omega)) p hp).mono ?_;rintro e w' ⟨rfl,hT2,hk⟩;exact⟨_,rfl,rfl,hT2,hk⟩
 .rintro e w' ⟨b,rfl,W,hb,rfl,hT2,hk⟩;have K:aC (fun k=>lo<=k/\k<h2) w w':=((aC.refl _ w).below hb).trans hk;exact⟨rfl,⟨tb,h2,hT2,h3,h4,bO h5 K.size,(K.block cb (by omega) (by omega)).trans h6⟩,K.mono fun k hk=>by omega⟩
theorem aiG (h:oG w lo hi tb n0 l) (p:Pt) (hp:p∈l):
  aO 126 #[ay tb,ku p.1 p.2.1 p.2.2] w fun e w'=>e=.returned (.bool true)/\oG w' lo hi tb n0 (l.filter fun q=>decide (q≠p))/\aC (fun k=>lo<=k/\k<hi) w w':=by
 have hfw:=h.Qi;obtain⟨fb,R,h,V,h1,h2,h3,h4,h5⟩:=h;obtain⟨x,hy,e⟩:=(h3.mem p).1 hp;have hx:=h2.lt hy;rw[dI hx]at e;refine(J7 h1 h2 (by omega) (by omega) (by omega) hx p e).mono ?_;rintro e' w' (⟨hn,he,hb⟩|⟨-,he,hA,hk⟩)
 .exact absurd hy hn
 .have h9:=h3.drop h2 hy;rw[dI hx,e]at h9;obtain⟨Cm,hw2⟩:=h2.drop hy;have Mi:((l.filter fun q=>decide (q≠p)).length:Int)=l.length-1:=by
   have a1:=h3.len;have a2:=h9.len;have a3:=hw2.length_eq;simp only[fU]at a3;omega
  refine⟨he,⟨fb,R,_,V,?_,Cm,h9,h4,h5⟩,hk⟩;rw[Mi];exact hA
theorem aiH (h:oH w lo hi tb n0 l) (p:Pt) (hp:p∈l):
  aO 127 #[ay tb,ku p.1 p.2.1 p.2.2] w fun e w'=>e=.returned (.bool true)/\oH w' lo hi tb n0 (l.filter fun q=>decide (q≠p))/\aC (fun k=>lo<=k/\k<hi) w w':=by
 have hfw:=h.Qi;obtain⟨fb,R,gone,YS,V,h1,h2,h3,h4,h5⟩:=h;obtain⟨x,hy,e⟩:=(h3.mem p).1 hp;have hx:=h2.lt hy;rw[dI hx]at e;refine(Nl h1 h2 (by omega) (by omega) (by omega) hx p e).mono ?_;rintro e' w' (⟨hn,he,hb⟩|⟨-,he,hA,hk⟩)
 .exact absurd hy hn
 .have hg:=(h2.live x).1 hy;have ZF:=h2.drop hg;have h9:=h3.drop h2 hx hy;rw[e]at h9;have Mi:((l.filter fun q=>decide (q≠p)).length:Int)=l.length-1:=by
   have a1:=h3.len h2;have a2:=h9.len ZF;have a3:(dW YS x).length+1=YS.length:=by
    have:=(List.perm_cons_erase hy).length_eq;have e9:dW YS x=YS.erase x:=by unfold dW;rw[h2.nodup.erase_eq_filter];congr 1;funext i;by_cases h:i=x<;>simp[h]
    rw[e9];simpa using this.symm
   omega
  refine⟨he,⟨fb,R,_,_,V,?_,ZF,h9,h4,h5⟩,hk⟩;rw[Mi];exact hA
end
end Go.Proofs.YtkjdbndekceffaaGreat
